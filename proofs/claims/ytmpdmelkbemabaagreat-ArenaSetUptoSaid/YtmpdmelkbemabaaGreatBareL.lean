/- Lists of their own: size.bareList over a function that makes one thing of its own. -/
import Derived.Test.YtmpdmelkbemabaaGreatRows
import Derived.Test.YtmpdmelkbemabaaGreatRw
import Derived.Test.YtmpdmelkbemabaaGreatSet
import Derived.BigGuardPart
import Derived.OwnWalk
import Derived.DeepKeys
import Derived.Deep.DeepCutAuto
set_option linter.unusedSimpArgs false
set_option linter.unusedVariables false
namespace Go.Proofs.Grow
open Go.RowKit

/-- A relation that hangs on the blocks from lo on, below hi, alone. -/
def Local {α : Type} (R : α → α → Nat → Nat → World → Prop) : Prop := ∀ a a' lo hi X Y, R a a' lo hi X → X.heap.size ≤ Y.heap.size → (∀ k, lo ≤ k → k < hi → Y.heap[k]? = X.heap[k]?) → R a a' lo hi Y
/-- Lists whose elements stand in a relation one by one, each in blocks of its own. -/
inductive Chain {α : Type} (R : α → α → Nat → Nat → World → Prop) (X : World) : List α → List α → Nat → Nat → Prop
  | nil {lo : Nat} : Chain R X [] [] lo lo
  | snoc {l l' : List α} {a a' : α} {lo m m1 n : Nat} (h : Chain R X l l' lo m) (hm : m ≤ m1) (hn : m1 ≤ n) (hr : R a a' m1 n X) : Chain R X (l ++ [a]) (l' ++ [a']) lo n
theorem Chain.le {α : Type} {R : α → α → Nat → Nat → World → Prop} {X : World} {l l' : List α} {lo n : Nat} (h : Chain R X l l' lo n) : lo ≤ n := by
  induction h with
  | nil => exact Nat.le_refl _
  | snoc _ _ _ _ ih => omega
theorem Chain.len {α : Type} {R : α → α → Nat → Nat → World → Prop} {X : World} {l l' : List α} {lo n : Nat} (h : Chain R X l l' lo n) : l'.length = l.length := by
  induction h with
  | nil => rfl
  | snoc _ _ _ _ ih => simp [ih]
theorem Chain.blocks {α : Type} {R : α → α → Nat → Nat → World → Prop} (hR : Local R) {X Y : World} {l l' : List α} {lo n : Nat} (h : Chain R X l l' lo n) (hs : X.heap.size ≤ Y.heap.size) (he : ∀ k, lo ≤ k → k < n → Y.heap[k]? = X.heap[k]?) : Chain R Y l l' lo n := by
  induction h with
  | nil => exact .nil
  | snoc h hm hn hr ih => exact .snoc (ih fun k h1 h2 => he k h1 (by omega)) hm hn (hR _ _ _ _ _ _ hr hs fun k h1 h2 => he k (by have := h.le; omega) h2)

/-- The contract of a function that makes one thing of its own: 'encZ' is what comes back; what lies behind it is in new blocks. -/
def GivesOne {α : Type} (P : Program) (f : FuncId) (enc encZ : α → List Value) (R : α → α → Nat → Nat → World → Prop) (a : α) (w : World) : Prop :=
  Calls P f #[.agg (enc a).toArray] w fun e w' => ∃ (x : Ext w) (a' : α), e = .returned (.agg (encZ a').toArray) ∧ w' = x.val ∧ R a a' w.heap.size x.val.heap.size x.val
/-- What size.bareList makes of l in a world of size n0. -/
def BareIn {α : Type} (R : α → α → Nat → Nat → World → Prop) (T : TypeId) (encZ : α → List Value) (l : List α) (n0 : Nat) (X : World) : Prop :=
  ∃ (l' : List α) (n : Nat), l'.length = l.length ∧ n ≤ X.heap.size ∧ (∃ cs, X.heap[n0]? = some (.cells cs T (0, 0)) ∧ cs.toList = l'.flatMap encZ) ∧ Chain R X l l' (n0 + 1) n
/-- The contract of size.bareList. -/
def GivesBare {α : Type} (P : Program) (f : FuncId) (args : Array Value) (R : α → α → Nat → Nat → World → Prop) (T : TypeId) (encZ : α → List Value) (l : List α) (w : World) : Prop :=
  Calls P f args w fun e w' => e = .returned (.slice (some ⟨w.heap.size, 0, none⟩) l.length l.length) ∧ ∃ x : Ext w, w' = x.val ∧ BareIn R T encZ l w.heap.size x.val

def Va.cellsZ (v : Va) : List Value := ({ v with pos := 0 } : Va).cells
def Me.cellsZ (m : Me) : List Value := ({ m with pos := 0 } : Me).cells
def Cl.cellsZ (c : Cl) : List Value := ({ c with pos := 0 } : Cl).cells
def St.cellsZ (s : St) : List Value := (s.at 0).cells
def Ex.cellsZ (e : Ex) : List Value := e.cells
theorem Va.cells_len (v : Va) : v.cells.length = 13 := rfl
theorem Va.cellsZ_len (v : Va) : v.cellsZ.length = 13 := rfl
theorem Me.cellsZ_len (m : Me) : m.cellsZ.length = 17 := rfl
theorem Cl.cellsZ_len (c : Cl) : c.cellsZ.length = 7 := rfl
theorem St.cellsZ_len (s : St) : s.cellsZ.length = 23 := St.cells_len _
theorem Ex.cellsZ_len (e : Ex) : e.cellsZ.length = 4 := Ex.cells_len _
theorem bareVa_one (v : Va) : ∀ u ∈ v.cells, u.oneCell' = true := by
  intro u hu
  simp [Va.cells, Ty.cells] at hu
  rcases hu with rfl | rfl | rfl | rfl | rfl | rfl | rfl | rfl | rfl | rfl | rfl | rfl | rfl <;> rfl
theorem bareEx_one (e : Ex) : ∀ u ∈ e.cells, u.oneCell' = true := by
  intro u hu
  obtain ⟨k, n, name, A, c, kids⟩ := e
  simp [Ex.cells] at hu
  rcases hu with rfl | rfl | rfl | rfl <;> rfl
theorem bareSt_one (s : St) : ∀ u ∈ s.cells, u.oneCell' = true := by
  intro u hu
  obtain ⟨k, x, y, name, ty, e, aA, ac, args, bA, bc, body, eA, ec, els, pos⟩ := s
  obtain ⟨ek, en, ename, eA', ec', kids⟩ := e
  simp [St.cells, Ty.cells, Ex.cells] at hu
  rcases hu with rfl | rfl | rfl | rfl | rfl | rfl | rfl | rfl | rfl | rfl | rfl | rfl | rfl | rfl | rfl | rfl | rfl | rfl | rfl | rfl | rfl | rfl | rfl <;> rfl
theorem bareMe_one (m : Me) : ∀ u ∈ m.cells, u.oneCell' = true := m.cells_one
theorem bareCl_one (m : Cl) : ∀ u ∈ m.cells, u.oneCell' = true := m.cells_one
theorem bareVa_oneZ (v : Va) : ∀ u ∈ v.cellsZ, u.oneCell' = true := bareVa_one _
theorem bareEx_oneZ (v : Ex) : ∀ u ∈ v.cellsZ, u.oneCell' = true := bareEx_one _
theorem bareSt_oneZ (v : St) : ∀ u ∈ v.cellsZ, u.oneCell' = true := bareSt_one _
theorem bareMe_oneZ (v : Me) : ∀ u ∈ v.cellsZ, u.oneCell' = true := bareMe_one _
theorem bareCl_oneZ (v : Cl) : ∀ u ∈ v.cellsZ, u.oneCell' = true := bareCl_one _
def noTy : Ty := ⟨0, ⟨#[]⟩, 0, ⟨0, 0⟩, ⟨0, 0⟩, ⟨0, 0⟩, ⟨0, 0⟩⟩
def noVa : Va := ⟨⟨#[]⟩, noTy, 0⟩
def noEx : Ex := .mk 0 0 ⟨#[]⟩ none 0 []
def noSt : St := .mk 0 ⟨#[]⟩ ⟨#[]⟩ ⟨#[]⟩ noTy noEx none 0 [] none 0 [] none 0 [] 0
def noMe : Me := ⟨⟨#[]⟩, false, noTy, none, 0, [], none, 0, [], none, 0, [], 0⟩
def noCl : Cl := ⟨⟨#[]⟩, none, 0, [], ⟨#[]⟩, none, 0, [], none, 0, [], none, 0, [], 0⟩

/-- An element type's row of the program's table, with what a zero of it is. -/
theorem info_zero {P : Program} {e : TypeId} {size bytes : Nat} {zs : List Value} (h : (P.info? e).map (fun i => (i.zero.map (·.cells.toList), i.size, i.bytes)) = some (some zs, size, bytes)) :
    ∃ i z, P.info? e = some i ∧ i.zero = some z ∧ i.size = size ∧ i.bytes = bytes ∧ z.cells.toList = zs := by
  obtain ⟨i, hi, he⟩ := Option.map_eq_some_iff.1 h
  simp only [Prod.mk.injEq] at he
  obtain ⟨z, hz, hzs⟩ := Option.map_eq_some_iff.1 he.1
  exact ⟨i, z, hi, hz, he.2.1, he.2.2, hzs⟩
theorem made_list {α : Type} {enc : α → List Value} {zs : Array Value} {size : Nat} (a : α) (hz : zs.toList = enc a) (henc : ∀ a, (enc a).length = size) (hs : 0 < size) (n : Nat) : (madeCells zs (n * size)).toList = (List.replicate n a).flatMap enc := by
  have hzl : zs.size = size := by rw [← henc a, ← hz]; simp
  have hl1 : (madeCells zs (n * size)).toList.length = n * size := by rw [Array.length_toList, size_madeCells]
  have hl2 : ((List.replicate n a).flatMap enc).length = n * size := by rw [flat_len henc]; simp
  refine List.ext_getElem (by rw [hl1, hl2]) fun j h1 h2 => ?_
  have hj : j < n * size := by rw [← hl1]; exact h1
  have hjs : j / size < n := Nat.div_lt_of_lt_mul (by rw [Nat.mul_comm]; exact hj)
  have hm : j % size < size := Nat.mod_lt _ hs
  have he : j / size * size + j % size = j := by rw [Nat.mul_comm]; exact Nat.div_add_mod _ _
  have hf := flat_at henc (List.replicate n a) (j / size) (j % size) (by simpa using hjs) hm
  rw [he, List.getElem_replicate, ← hz, List.getElem?_eq_getElem h2] at hf
  have hlt : j % size < zs.toList.length := by rw [Array.length_toList, hzl]; exact hm
  rw [List.getElem?_eq_getElem hlt, Option.some.injEq] at hf
  rw [hf]
  simp only [madeCells, Array.getElem_toList, Array.getElem_map, Array.getElem_range, hzl]
  rw [getElem!_pos zs (j % size) (by rw [hzl]; exact hm)]
/-- One round of size.bareList. -/
theorem bare_round {α : Type} {R : α → α → Nat → Nat → World → Prop} (hRL : Local R) {encZ : α → List Value} {size N k n : Nat} (henc : ∀ a, (encZ a).length = size) {w : World} {x : Ext w} {l l' : List α} {e e' z0 : α} {T : TypeId} {ob : Obj} (hN : k < N)
    (hI : l'.length = k ∧ n ≤ x.val.heap.size ∧ Own x.val w.heap.size T size encZ (.slice (some ⟨w.heap.size, 0, none⟩) N N) (l' ++ List.replicate (N - k) z0) ∧ Chain R x.val (l.take k) l' (w.heap.size + 1) n)
    (HT : l.take (k + 1) = l.take k ++ [e]) (hsx : w.heap.size < x.val.heap.size) (y : Ext (x.val.alloc ob)) (hr : R e e' (x.val.alloc ob).heap.size y.val.heap.size y.val) :
    y.val.there w.heap.size (k * size) (encZ e').toArray.size ∧ ∃ z : Ext w, y.val.setCells w.heap.size (k * size) (encZ e').toArray.toList = z.val ∧ w.heap.size < z.val.heap.size ∧
      ((l' ++ [e']).length = k + 1 ∧ y.val.heap.size ≤ z.val.heap.size ∧ Own z.val w.heap.size T size encZ (.slice (some ⟨w.heap.size, 0, none⟩) N N) ((l' ++ [e']) ++ List.replicate (N - (k + 1)) z0) ∧ Chain R z.val (l.take (k + 1)) (l' ++ [e']) (w.heap.size + 1) y.val.heap.size) := by
  obtain ⟨h1, h2, h3, h4⟩ := hI
  have hxy : Below x.val.heap.size x.val y.val := ((Below.refl _ _).alloc (Nat.le_refl _) ob).trans (y.below.mono (by simp))
  have hown := h3.ext ⟨y.val, hxy⟩
  have hkl : k < (l' ++ List.replicate (N - k) z0).length := by simp; omega
  have hsz : (x.val.alloc ob).heap.size = x.val.heap.size + 1 := by simp
  have hys : x.val.heap.size + 1 ≤ y.val.heap.size := by rw [← hsz]; exact y.below.size
  have hset : (l' ++ List.replicate (N - k) z0).set k e' = (l' ++ [e']) ++ List.replicate (N - (k + 1)) z0 := by
    rw [List.set_append_right _ _ (by omega), h1, Nat.sub_self]
    obtain ⟨m, hm⟩ : ∃ m, N - k = m + 1 := ⟨N - k - 1, by omega⟩
    have hm2 : N - (k + 1) = m := by omega
    rw [hm, hm2, List.replicate_succ, List.set_cons_zero, List.append_assoc]
    rfl
  have hoth : ∀ j, j ≠ w.heap.size → (y.val.setCells w.heap.size (k * size) (encZ e')).heap[j]? = y.val.heap[j]? := fun j hj => setCells_other _ _ _ _ _ hj
  have hth : y.val.there w.heap.size (k * size) (encZ e').toArray.size := by
    have e1 : (encZ e').toArray.size = size := by rw [← henc e']; rfl
    rw [e1]; exact hown.there k hkl rfl
  refine ⟨hth, ⟨y.val.setCells w.heap.size (k * size) (encZ e').toArray.toList, (x.below.trans (hxy.mono (by omega))).trans (setCells_below (Nat.le_refl _) _ _ _)⟩, rfl, ?_, ?_, ?_, ?_, ?_⟩
  · show w.heap.size < (y.val.setCells _ _ _).heap.size
    rw [setCells_size]; omega
  · simp [h1]
  · show _ ≤ (y.val.setCells _ _ _).heap.size
    rw [setCells_size]; exact Nat.le_refl _
  · rw [← hset]
    exact hown.setCells henc k hkl e' rfl
  · rw [HT]
    refine .snoc (Chain.blocks hRL h4 ?_ ?_) (m1 := x.val.heap.size + 1) (by omega) hys ?_
    · show _ ≤ (y.val.setCells _ _ _).heap.size
      rw [setCells_size]; omega
    · intro j hj hj2
      have := h4.le
      exact (hoth j (by omega)).trans (hxy.block j (by omega))
    · rw [hsz] at hr
      refine hRL _ _ _ _ _ _ hr ?_ ?_
      · show _ ≤ (y.val.setCells _ _ _).heap.size
        rw [setCells_size]; exact Nat.le_refl _
      · intro j hj hj2
        exact hoth j (by omega)
/-- What is made in the end. -/
theorem bare_done {α : Type} {encZ : α → List Value} {size : Nat} (henc : ∀ a, (encZ a).length = size) {w : World} {x : Ext w} {N : Nat} {l' : List α} {z0 : α} {T : TypeId}
    (h : Own x.val w.heap.size T size encZ (.slice (some ⟨w.heap.size, 0, none⟩) N N) (l' ++ List.replicate (N - N) z0)) (hl : l'.length = N) : ∃ cs, x.val.heap[w.heap.size]? = some (.cells cs T (0, 0)) ∧ cs.toList = l'.flatMap encZ := by
  rw [Nat.sub_self, List.replicate_zero, List.append_nil] at h
  obtain ⟨h1, h2⟩ := h
  rcases h2 with ⟨he, _⟩ | ⟨g, cap, cur, hv, hb, hh, hnc, hcm, hcs, hcur⟩
  · cases he
  · simp only [Value.slice.injEq, Option.some.injEq, Addr.mk.injEq, and_true] at hv
    obtain ⟨rfl, h3, rfl⟩ := hv
    refine ⟨cur, hh, ?_⟩
    rw [← hcur, hl, List.take_of_length_le (by rw [Array.length_toList, hcs]; exact Nat.le_refl _)]
end Go.Proofs.Grow
namespace Go.Proofs.YtmpdmelkbemabaaGreat
open Go.RowKit Go.Proofs.Grow

theorem infoZVa : (Tryz.prog.info? 78).map (fun i => (i.zero.map (·.cells.toList), i.size, i.bytes)) = some (some noVa.cells, 13, 120) := by kernel_rfl

set_option maxHeartbeats 2000000 in
set_option maxRecDepth 100000 in
theorem bareLVa_any (R : Va → Va → Nat → Nat → World → Prop) (hR : Local R) (w : World) (A : Option Addr) (c : Nat) (l : List Va) (hl : Lies w 13 Va.cells A l) (hlen : l.length ≤ 1048576)
    (hf : ∀ a ∈ l, ∀ W, Below w.heap.size w W → GivesOne Tryz.prog 61 Va.cells Va.cellsZ R a W) :
    GivesBare Tryz.prog 60 #[.slice A l.length c, .func (.func 61) #[] #[]] R 78 Va.cellsZ l w := by
  obtain ⟨i0, z0, hi0, hz0, hz1, hz2, hzs⟩ := info_zero infoZVa
  have HL := hide hl
  have HF := hide hf
  have hRL := hide hR
  clear hl hf hR
  unfold GivesBare
  go_enter Tryz.func60, Tryz.ntmps60
  go_wp2_with (first | (at_make; refine wpList_make_full w rfl (.tmp 9) (.tmp 9) 32 rfl w.heap.size 78 i0 z0 13 Tryz.underlying32 hi0 hz0 hz1 .i64 .i64 (l.length : Int) (l.length : Int) l.length rfl rfl rfl rfl (by rw [hz2]; omega) (by unfold maxLen; omega) (Nat.le_refl _) ?_; intro W0 hown0 hgr0))
  have hb0 : Hid (Below w.heap.size w W0) := (Below.refl _ _).grown hgr0 (Nat.le_refl _) (fun g hg => by cases hg)
  have hown1 : Grow.Own W0 w.heap.size 78 13 Va.cellsZ (.slice (some ⟨w.heap.size, 0, none⟩) l.length l.length) (List.replicate l.length noVa) := by
    unfold Grow.Own
    rw [← made_list (enc := Va.cellsZ) noVa hzs Va.cellsZ_len (by decide), List.length_replicate]
    exact hown0
  have hsz0 : w.heap.size < W0.heap.size := (hown1.from_ _ rfl).2
  clear hown0 hgr0
  go_loopw [6, 7, 13] (fun s6 s7 s13 wr => ∃ (k : Nat) (l' : List Va) (n : Nat), s13 = .int .i64 k ∧ k ≤ l.length ∧ ∃ x : Ext w, wr = x.val ∧ w.heap.size < x.val.heap.size ∧ Hid (l'.length = k ∧ n ≤ x.val.heap.size ∧ Grow.Own x.val w.heap.size 78 13 Va.cellsZ (.slice (some ⟨w.heap.size, 0, none⟩) l.length l.length) (l' ++ List.replicate (l.length - k) noVa) ∧ Chain R x.val (l.take k) l' (w.heap.size + 1) n)) (fun _ _ s13 _ => l.length - (intOf s13).toNat)
  case atStart => exact ⟨0, [], w.heap.size + 1, rfl, Nat.zero_le _, ⟨W0, hb0.out⟩, rfl, hsz0, rfl, hsz0, hown1, .nil⟩
  case round =>
    obtain ⟨k, l', n, rfl, hk, x, rfl, hsx, hI⟩ := hrel
    clear hown1 hsz0
    by_cases hlt : k < l.length
    · obtain ⟨b, off, hA, hb, hcell⟩ := HL.out k hlt
      have hlt' : (k : Int) < (l.length : Int) := by omega
      have HT := hide (List.take_succ_eq_append_getElem hlt)
      have hF1 := HF.out _ (List.getElem_mem hlt)
      obtain ⟨e, he⟩ : ∃ e, e = l[k] := ⟨_, rfl⟩
      rw [← he] at hcell HT hF1
      have hrx : Hid (x.val.rangeAt b (off + k * 13) e.cells) := fun j u h => (x.cell hb).trans (hcell j u h)
      have HKW : Hid (wrap64 ((k : Int) + 1) = ((k + 1 : Nat) : Int)) := by
        show wrap64 _ = _
        unfold wrap64
        omega
      have H1 : Hid (GivesOne Tryz.prog 61 Va.cells Va.cellsZ R e (x.val.alloc (.cells e.cells.toArray 78))) := hF1 _ (x.below.alloc (by omega) _)
      have hlt9 := hide hlt
      subst hA
      clear hcell he hlt hF1
      go_upto_region 5 with (first | (refine wpList_load_mid rfl 78 (.tmp 16) rfl b (off + k * 13) rfl e.cells _ hrx.out Tryz.underlying78 rfl (by rw [Va.cells_len]; kernel_rfl) ?_) | (refine wpList_store_new rfl 78 (.tmp 7) (.tmp 17) rfl _ _ _ _ rfl rfl rfl (by rw [List.size_toArray, Va.cells_len]; kernel_rfl) (by simp [Va.cells_len]) (fun u hu => bareVa_one e u (by simpa using hu)) ?_))
      go_wp2_with (first | (refine wpList_load_new rfl 78 (.tmp 7) rfl e.cells.toArray 78 rfl Tryz.underlying78 rfl (by rw [List.size_toArray, Va.cells_len]; kernel_rfl) ?_) | (go_at_call 61; refine (H1.out).mono ?_; rintro _ _ ⟨y, e', rfl, rfl, hR⟩; obtain ⟨hth0, z, hz, hzs, hI2⟩ := bare_round hRL.out Va.cellsZ_len hlt9.out hI.out HT.out hsx y hR; have hth := hide hth0; have hz9 := hide hz; have hI9 := hide hI2; clear hth0 hz hI2 hR) | (refine wpList_store_mid rfl 78 (.tmp 23) (.tmp 22) rfl w.heap.size (k * 13) e'.cellsZ.toArray rfl rfl hth.out (by rw [List.size_toArray, Va.cellsZ_len]; kernel_rfl) (all_oneCell_toArray (bareVa_oneZ e')) ?_; rw [hz9.out]))
      go_roundw
      case rel => exact ⟨k + 1, l' ++ [e'], y.val.heap.size, by first | rfl | rw [HKW.out], hlt9.out, z, rfl, hzs, hI9⟩
      case measure =>
        first | rw [HKW.out, intOf_int, intOf_int, Int.toNat_natCast, Int.toNat_natCast] | rw [intOf_int, intOf_int]
        have := hlt9.out
        omega
    · obtain rfl : k = l.length := by omega
      have hlt' : ¬ (l.length : Int) < (l.length : Int) := by omega
      have HG : Hid (BareIn R 78 Va.cellsZ l w.heap.size x.val) := by
        obtain ⟨h1, h2, h3, h4⟩ := hI.out
        rw [List.take_length] at h4
        exact ⟨l', n, h1, h2, bare_done Va.cellsZ_len h3 h1, h4⟩
      clear hI
      go_wp2_with fail
      go_ret
      exact ⟨rfl, x, rfl, HG.out⟩
theorem infoZMe : (Tryz.prog.info? 43).map (fun i => (i.zero.map (·.cells.toList), i.size, i.bytes)) = some (some noMe.cells, 17, 200) := by kernel_rfl

set_option maxHeartbeats 2000000 in
set_option maxRecDepth 100000 in
theorem bareLMe_any (R : Me → Me → Nat → Nat → World → Prop) (hR : Local R) (w : World) (A : Option Addr) (c : Nat) (l : List Me) (hl : Lies w 17 Me.cells A l) (hlen : l.length ≤ 1048576)
    (hf : ∀ a ∈ l, ∀ W, Below w.heap.size w W → GivesOne Tryz.prog 63 Me.cells Me.cellsZ R a W) :
    GivesBare Tryz.prog 62 #[.slice A l.length c, .func (.func 63) #[] #[]] R 43 Me.cellsZ l w := by
  obtain ⟨i0, z0, hi0, hz0, hz1, hz2, hzs⟩ := info_zero infoZMe
  have HL := hide hl
  have HF := hide hf
  have hRL := hide hR
  clear hl hf hR
  unfold GivesBare
  go_enter Tryz.func62, Tryz.ntmps62
  go_wp2_with (first | (at_make; refine wpList_make_full w rfl (.tmp 9) (.tmp 9) 33 rfl w.heap.size 43 i0 z0 17 Tryz.underlying33 hi0 hz0 hz1 .i64 .i64 (l.length : Int) (l.length : Int) l.length rfl rfl rfl rfl (by rw [hz2]; omega) (by unfold maxLen; omega) (Nat.le_refl _) ?_; intro W0 hown0 hgr0))
  have hb0 : Hid (Below w.heap.size w W0) := (Below.refl _ _).grown hgr0 (Nat.le_refl _) (fun g hg => by cases hg)
  have hown1 : Grow.Own W0 w.heap.size 43 17 Me.cellsZ (.slice (some ⟨w.heap.size, 0, none⟩) l.length l.length) (List.replicate l.length noMe) := by
    unfold Grow.Own
    rw [← made_list (enc := Me.cellsZ) noMe hzs Me.cellsZ_len (by decide), List.length_replicate]
    exact hown0
  have hsz0 : w.heap.size < W0.heap.size := (hown1.from_ _ rfl).2
  clear hown0 hgr0
  go_loopw [6, 7, 13] (fun s6 s7 s13 wr => ∃ (k : Nat) (l' : List Me) (n : Nat), s13 = .int .i64 k ∧ k ≤ l.length ∧ ∃ x : Ext w, wr = x.val ∧ w.heap.size < x.val.heap.size ∧ Hid (l'.length = k ∧ n ≤ x.val.heap.size ∧ Grow.Own x.val w.heap.size 43 17 Me.cellsZ (.slice (some ⟨w.heap.size, 0, none⟩) l.length l.length) (l' ++ List.replicate (l.length - k) noMe) ∧ Chain R x.val (l.take k) l' (w.heap.size + 1) n)) (fun _ _ s13 _ => l.length - (intOf s13).toNat)
  case atStart => exact ⟨0, [], w.heap.size + 1, rfl, Nat.zero_le _, ⟨W0, hb0.out⟩, rfl, hsz0, rfl, hsz0, hown1, .nil⟩
  case round =>
    obtain ⟨k, l', n, rfl, hk, x, rfl, hsx, hI⟩ := hrel
    clear hown1 hsz0
    by_cases hlt : k < l.length
    · obtain ⟨b, off, hA, hb, hcell⟩ := HL.out k hlt
      have hlt' : (k : Int) < (l.length : Int) := by omega
      have HT := hide (List.take_succ_eq_append_getElem hlt)
      have hF1 := HF.out _ (List.getElem_mem hlt)
      obtain ⟨e, he⟩ : ∃ e, e = l[k] := ⟨_, rfl⟩
      rw [← he] at hcell HT hF1
      have hrx : Hid (x.val.rangeAt b (off + k * 17) e.cells) := fun j u h => (x.cell hb).trans (hcell j u h)
      have HKW : Hid (wrap64 ((k : Int) + 1) = ((k + 1 : Nat) : Int)) := by
        show wrap64 _ = _
        unfold wrap64
        omega
      have H1 : Hid (GivesOne Tryz.prog 63 Me.cells Me.cellsZ R e (x.val.alloc (.cells e.cells.toArray 43))) := hF1 _ (x.below.alloc (by omega) _)
      have hlt9 := hide hlt
      subst hA
      clear hcell he hlt hF1
      go_upto_region 5 with (first | (refine wpList_load_mid rfl 43 (.tmp 16) rfl b (off + k * 17) rfl e.cells _ hrx.out Tryz.underlying43 rfl (by rw [Me.cells_len]; kernel_rfl) ?_) | (refine wpList_store_new rfl 43 (.tmp 7) (.tmp 17) rfl _ _ _ _ rfl rfl rfl (by rw [List.size_toArray, Me.cells_len]; kernel_rfl) (by simp [Me.cells_len]) (fun u hu => bareMe_one e u (by simpa using hu)) ?_))
      go_wp2_with (first | (refine wpList_load_new rfl 43 (.tmp 7) rfl e.cells.toArray 43 rfl Tryz.underlying43 rfl (by rw [List.size_toArray, Me.cells_len]; kernel_rfl) ?_) | (go_at_call 63; refine (H1.out).mono ?_; rintro _ _ ⟨y, e', rfl, rfl, hR⟩; obtain ⟨hth0, z, hz, hzs, hI2⟩ := bare_round hRL.out Me.cellsZ_len hlt9.out hI.out HT.out hsx y hR; have hth := hide hth0; have hz9 := hide hz; have hI9 := hide hI2; clear hth0 hz hI2 hR) | (refine wpList_store_mid rfl 43 (.tmp 23) (.tmp 22) rfl w.heap.size (k * 17) e'.cellsZ.toArray rfl rfl hth.out (by rw [List.size_toArray, Me.cellsZ_len]; kernel_rfl) (all_oneCell_toArray (bareMe_oneZ e')) ?_; rw [hz9.out]))
      go_roundw
      case rel => exact ⟨k + 1, l' ++ [e'], y.val.heap.size, by first | rfl | rw [HKW.out], hlt9.out, z, rfl, hzs, hI9⟩
      case measure =>
        first | rw [HKW.out, intOf_int, intOf_int, Int.toNat_natCast, Int.toNat_natCast] | rw [intOf_int, intOf_int]
        have := hlt9.out
        omega
    · obtain rfl : k = l.length := by omega
      have hlt' : ¬ (l.length : Int) < (l.length : Int) := by omega
      have HG : Hid (BareIn R 43 Me.cellsZ l w.heap.size x.val) := by
        obtain ⟨h1, h2, h3, h4⟩ := hI.out
        rw [List.take_length] at h4
        exact ⟨l', n, h1, h2, bare_done Me.cellsZ_len h3 h1, h4⟩
      clear hI
      go_wp2_with fail
      go_ret
      exact ⟨rfl, x, rfl, HG.out⟩
theorem infoZSt : (Tryz.prog.info? 50).map (fun i => (i.zero.map (·.cells.toList), i.size, i.bytes)) = some (some noSt.cells, 23, 288) := by kernel_rfl

set_option maxHeartbeats 2000000 in
set_option maxRecDepth 100000 in
theorem bareLSt_any (R : St → St → Nat → Nat → World → Prop) (hR : Local R) (w : World) (A : Option Addr) (c : Nat) (l : List St) (hl : Lies w 23 St.cells A l) (hlen : l.length ≤ 1048576)
    (hf : ∀ a ∈ l, ∀ W, Below w.heap.size w W → GivesOne Tryz.prog 74 St.cells St.cellsZ R a W) :
    GivesBare Tryz.prog 73 #[.slice A l.length c, .func (.func 74) #[] #[]] R 50 St.cellsZ l w := by
  obtain ⟨i0, z0, hi0, hz0, hz1, hz2, hzs⟩ := info_zero infoZSt
  have HL := hide hl
  have HF := hide hf
  have hRL := hide hR
  clear hl hf hR
  unfold GivesBare
  go_enter Tryz.func73, Tryz.ntmps73
  go_wp2_with (first | (at_make; refine wpList_make_full w rfl (.tmp 9) (.tmp 9) 41 rfl w.heap.size 50 i0 z0 23 Tryz.underlying41 hi0 hz0 hz1 .i64 .i64 (l.length : Int) (l.length : Int) l.length rfl rfl rfl rfl (by rw [hz2]; omega) (by unfold maxLen; omega) (Nat.le_refl _) ?_; intro W0 hown0 hgr0))
  have hb0 : Hid (Below w.heap.size w W0) := (Below.refl _ _).grown hgr0 (Nat.le_refl _) (fun g hg => by cases hg)
  have hown1 : Grow.Own W0 w.heap.size 50 23 St.cellsZ (.slice (some ⟨w.heap.size, 0, none⟩) l.length l.length) (List.replicate l.length noSt) := by
    unfold Grow.Own
    rw [← made_list (enc := St.cellsZ) noSt hzs St.cellsZ_len (by decide), List.length_replicate]
    exact hown0
  have hsz0 : w.heap.size < W0.heap.size := (hown1.from_ _ rfl).2
  clear hown0 hgr0
  go_loopw [6, 7, 13] (fun s6 s7 s13 wr => ∃ (k : Nat) (l' : List St) (n : Nat), s13 = .int .i64 k ∧ k ≤ l.length ∧ ∃ x : Ext w, wr = x.val ∧ w.heap.size < x.val.heap.size ∧ Hid (l'.length = k ∧ n ≤ x.val.heap.size ∧ Grow.Own x.val w.heap.size 50 23 St.cellsZ (.slice (some ⟨w.heap.size, 0, none⟩) l.length l.length) (l' ++ List.replicate (l.length - k) noSt) ∧ Chain R x.val (l.take k) l' (w.heap.size + 1) n)) (fun _ _ s13 _ => l.length - (intOf s13).toNat)
  case atStart => exact ⟨0, [], w.heap.size + 1, rfl, Nat.zero_le _, ⟨W0, hb0.out⟩, rfl, hsz0, rfl, hsz0, hown1, .nil⟩
  case round =>
    obtain ⟨k, l', n, rfl, hk, x, rfl, hsx, hI⟩ := hrel
    clear hown1 hsz0
    by_cases hlt : k < l.length
    · obtain ⟨b, off, hA, hb, hcell⟩ := HL.out k hlt
      have hlt' : (k : Int) < (l.length : Int) := by omega
      have HT := hide (List.take_succ_eq_append_getElem hlt)
      have hF1 := HF.out _ (List.getElem_mem hlt)
      obtain ⟨e, he⟩ : ∃ e, e = l[k] := ⟨_, rfl⟩
      rw [← he] at hcell HT hF1
      have hrx : Hid (x.val.rangeAt b (off + k * 23) e.cells) := fun j u h => (x.cell hb).trans (hcell j u h)
      have HKW : Hid (wrap64 ((k : Int) + 1) = ((k + 1 : Nat) : Int)) := by
        show wrap64 _ = _
        unfold wrap64
        omega
      have H1 : Hid (GivesOne Tryz.prog 74 St.cells St.cellsZ R e (x.val.alloc (.cells e.cells.toArray 50))) := hF1 _ (x.below.alloc (by omega) _)
      have hlt9 := hide hlt
      subst hA
      clear hcell he hlt hF1
      go_upto_region 5 with (first | (refine wpList_load_mid rfl 50 (.tmp 16) rfl b (off + k * 23) rfl e.cells _ hrx.out Tryz.underlying50 rfl (by rw [St.cells_len]; kernel_rfl) ?_) | (refine wpList_store_new rfl 50 (.tmp 7) (.tmp 17) rfl _ _ _ _ rfl rfl rfl (by rw [List.size_toArray, St.cells_len]; kernel_rfl) (by simp [St.cells_len]) (fun u hu => bareSt_one e u (by simpa using hu)) ?_))
      go_wp2_with (first | (refine wpList_load_new rfl 50 (.tmp 7) rfl e.cells.toArray 50 rfl Tryz.underlying50 rfl (by rw [List.size_toArray, St.cells_len]; kernel_rfl) ?_) | (go_at_call 74; refine (H1.out).mono ?_; rintro _ _ ⟨y, e', rfl, rfl, hR⟩; obtain ⟨hth0, z, hz, hzs, hI2⟩ := bare_round hRL.out St.cellsZ_len hlt9.out hI.out HT.out hsx y hR; have hth := hide hth0; have hz9 := hide hz; have hI9 := hide hI2; clear hth0 hz hI2 hR) | (refine wpList_store_mid rfl 50 (.tmp 23) (.tmp 22) rfl w.heap.size (k * 23) e'.cellsZ.toArray rfl rfl hth.out (by rw [List.size_toArray, St.cellsZ_len]; kernel_rfl) (all_oneCell_toArray (bareSt_oneZ e')) ?_; rw [hz9.out]))
      go_roundw
      case rel => exact ⟨k + 1, l' ++ [e'], y.val.heap.size, by first | rfl | rw [HKW.out], hlt9.out, z, rfl, hzs, hI9⟩
      case measure =>
        first | rw [HKW.out, intOf_int, intOf_int, Int.toNat_natCast, Int.toNat_natCast] | rw [intOf_int, intOf_int]
        have := hlt9.out
        omega
    · obtain rfl : k = l.length := by omega
      have hlt' : ¬ (l.length : Int) < (l.length : Int) := by omega
      have HG : Hid (BareIn R 50 St.cellsZ l w.heap.size x.val) := by
        obtain ⟨h1, h2, h3, h4⟩ := hI.out
        rw [List.take_length] at h4
        exact ⟨l', n, h1, h2, bare_done St.cellsZ_len h3 h1, h4⟩
      clear hI
      go_wp2_with fail
      go_ret
      exact ⟨rfl, x, rfl, HG.out⟩
theorem infoZEx : (Tryz.prog.info? 48).map (fun i => (i.zero.map (·.cells.toList), i.size, i.bytes)) = some (some noEx.cells, 4, 56) := by kernel_rfl

set_option maxHeartbeats 2000000 in
set_option maxRecDepth 100000 in
theorem bareLEx_any (R : Ex → Ex → Nat → Nat → World → Prop) (hR : Local R) (w : World) (A : Option Addr) (c : Nat) (l : List Ex) (hl : Lies w 4 Ex.cells A l) (hlen : l.length ≤ 1048576)
    (hf : ∀ a ∈ l, ∀ W, Below w.heap.size w W → GivesOne Tryz.prog 89 Ex.cells Ex.cellsZ R a W) :
    GivesBare Tryz.prog 90 #[.slice A l.length c, .func (.func 89) #[] #[]] R 48 Ex.cellsZ l w := by
  obtain ⟨i0, z0, hi0, hz0, hz1, hz2, hzs⟩ := info_zero infoZEx
  have HL := hide hl
  have HF := hide hf
  have hRL := hide hR
  clear hl hf hR
  unfold GivesBare
  go_enter Tryz.func90, Tryz.ntmps90
  go_wp2_with (first | (at_make; refine wpList_make_full w rfl (.tmp 9) (.tmp 9) 46 rfl w.heap.size 48 i0 z0 4 Tryz.underlying46 hi0 hz0 hz1 .i64 .i64 (l.length : Int) (l.length : Int) l.length rfl rfl rfl rfl (by rw [hz2]; omega) (by unfold maxLen; omega) (Nat.le_refl _) ?_; intro W0 hown0 hgr0))
  have hb0 : Hid (Below w.heap.size w W0) := (Below.refl _ _).grown hgr0 (Nat.le_refl _) (fun g hg => by cases hg)
  have hown1 : Grow.Own W0 w.heap.size 48 4 Ex.cellsZ (.slice (some ⟨w.heap.size, 0, none⟩) l.length l.length) (List.replicate l.length noEx) := by
    unfold Grow.Own
    rw [← made_list (enc := Ex.cellsZ) noEx hzs Ex.cellsZ_len (by decide), List.length_replicate]
    exact hown0
  have hsz0 : w.heap.size < W0.heap.size := (hown1.from_ _ rfl).2
  clear hown0 hgr0
  go_loopw [6, 7, 13] (fun s6 s7 s13 wr => ∃ (k : Nat) (l' : List Ex) (n : Nat), s13 = .int .i64 k ∧ k ≤ l.length ∧ ∃ x : Ext w, wr = x.val ∧ w.heap.size < x.val.heap.size ∧ Hid (l'.length = k ∧ n ≤ x.val.heap.size ∧ Grow.Own x.val w.heap.size 48 4 Ex.cellsZ (.slice (some ⟨w.heap.size, 0, none⟩) l.length l.length) (l' ++ List.replicate (l.length - k) noEx) ∧ Chain R x.val (l.take k) l' (w.heap.size + 1) n)) (fun _ _ s13 _ => l.length - (intOf s13).toNat)
  case atStart => exact ⟨0, [], w.heap.size + 1, rfl, Nat.zero_le _, ⟨W0, hb0.out⟩, rfl, hsz0, rfl, hsz0, hown1, .nil⟩
  case round =>
    obtain ⟨k, l', n, rfl, hk, x, rfl, hsx, hI⟩ := hrel
    clear hown1 hsz0
    by_cases hlt : k < l.length
    · obtain ⟨b, off, hA, hb, hcell⟩ := HL.out k hlt
      have hlt' : (k : Int) < (l.length : Int) := by omega
      have HT := hide (List.take_succ_eq_append_getElem hlt)
      have hF1 := HF.out _ (List.getElem_mem hlt)
      obtain ⟨e, he⟩ : ∃ e, e = l[k] := ⟨_, rfl⟩
      rw [← he] at hcell HT hF1
      have hrx : Hid (x.val.rangeAt b (off + k * 4) e.cells) := fun j u h => (x.cell hb).trans (hcell j u h)
      have HKW : Hid (wrap64 ((k : Int) + 1) = ((k + 1 : Nat) : Int)) := by
        show wrap64 _ = _
        unfold wrap64
        omega
      have H1 : Hid (GivesOne Tryz.prog 89 Ex.cells Ex.cellsZ R e (x.val.alloc (.cells e.cells.toArray 48))) := hF1 _ (x.below.alloc (by omega) _)
      have hlt9 := hide hlt
      subst hA
      clear hcell he hlt hF1
      go_upto_region 5 with (first | (refine wpList_load_mid rfl 48 (.tmp 16) rfl b (off + k * 4) rfl e.cells _ hrx.out Tryz.underlying48 rfl (by rw [Ex.cells_len]; kernel_rfl) ?_) | (refine wpList_store_new rfl 48 (.tmp 7) (.tmp 17) rfl _ _ _ _ rfl rfl rfl (by rw [List.size_toArray, Ex.cells_len]; kernel_rfl) (by simp [Ex.cells_len]) (fun u hu => bareEx_one e u (by simpa using hu)) ?_))
      go_wp2_with (first | (refine wpList_load_new rfl 48 (.tmp 7) rfl e.cells.toArray 48 rfl Tryz.underlying48 rfl (by rw [List.size_toArray, Ex.cells_len]; kernel_rfl) ?_) | (go_at_call 89; refine (H1.out).mono ?_; rintro _ _ ⟨y, e', rfl, rfl, hR⟩; obtain ⟨hth0, z, hz, hzs, hI2⟩ := bare_round hRL.out Ex.cellsZ_len hlt9.out hI.out HT.out hsx y hR; have hth := hide hth0; have hz9 := hide hz; have hI9 := hide hI2; clear hth0 hz hI2 hR) | (refine wpList_store_mid rfl 48 (.tmp 23) (.tmp 22) rfl w.heap.size (k * 4) e'.cellsZ.toArray rfl rfl hth.out (by rw [List.size_toArray, Ex.cellsZ_len]; kernel_rfl) (all_oneCell_toArray (bareEx_oneZ e')) ?_; rw [hz9.out]))
      go_roundw
      case rel => exact ⟨k + 1, l' ++ [e'], y.val.heap.size, by first | rfl | rw [HKW.out], hlt9.out, z, rfl, hzs, hI9⟩
      case measure =>
        first | rw [HKW.out, intOf_int, intOf_int, Int.toNat_natCast, Int.toNat_natCast] | rw [intOf_int, intOf_int]
        have := hlt9.out
        omega
    · obtain rfl : k = l.length := by omega
      have hlt' : ¬ (l.length : Int) < (l.length : Int) := by omega
      have HG : Hid (BareIn R 48 Ex.cellsZ l w.heap.size x.val) := by
        obtain ⟨h1, h2, h3, h4⟩ := hI.out
        rw [List.take_length] at h4
        exact ⟨l', n, h1, h2, bare_done Ex.cellsZ_len h3 h1, h4⟩
      clear hI
      go_wp2_with fail
      go_ret
      exact ⟨rfl, x, rfl, HG.out⟩
theorem infoZCl : (Tryz.prog.info? 35).map (fun i => (i.zero.map (·.cells.toList), i.size, i.bytes)) = some (some noCl.cells, 7, 136) := by kernel_rfl

set_option maxHeartbeats 2000000 in
set_option maxRecDepth 100000 in
theorem bareLCl_any (R : Cl → Cl → Nat → Nat → World → Prop) (hR : Local R) (w : World) (A : Option Addr) (c : Nat) (l : List Cl) (hl : Lies w 7 Cl.cells A l) (hlen : l.length ≤ 1048576)
    (hf : ∀ a ∈ l, ∀ W, Below w.heap.size w W → GivesOne Tryz.prog 47 Cl.cells Cl.cellsZ R a W) :
    GivesBare Tryz.prog 46 #[.slice A l.length c, .func (.func 47) #[] #[]] R 35 Cl.cellsZ l w := by
  obtain ⟨i0, z0, hi0, hz0, hz1, hz2, hzs⟩ := info_zero infoZCl
  have HL := hide hl
  have HF := hide hf
  have hRL := hide hR
  clear hl hf hR
  unfold GivesBare
  go_enter Tryz.func46, Tryz.ntmps46
  go_wp2_with (first | (at_make; refine wpList_make_full w rfl (.tmp 9) (.tmp 9) 22 rfl w.heap.size 35 i0 z0 7 Tryz.underlying22 hi0 hz0 hz1 .i64 .i64 (l.length : Int) (l.length : Int) l.length rfl rfl rfl rfl (by rw [hz2]; omega) (by unfold maxLen; omega) (Nat.le_refl _) ?_; intro W0 hown0 hgr0))
  have hb0 : Hid (Below w.heap.size w W0) := (Below.refl _ _).grown hgr0 (Nat.le_refl _) (fun g hg => by cases hg)
  have hown1 : Grow.Own W0 w.heap.size 35 7 Cl.cellsZ (.slice (some ⟨w.heap.size, 0, none⟩) l.length l.length) (List.replicate l.length noCl) := by
    unfold Grow.Own
    rw [← made_list (enc := Cl.cellsZ) noCl hzs Cl.cellsZ_len (by decide), List.length_replicate]
    exact hown0
  have hsz0 : w.heap.size < W0.heap.size := (hown1.from_ _ rfl).2
  clear hown0 hgr0
  go_loopw [6, 7, 13] (fun s6 s7 s13 wr => ∃ (k : Nat) (l' : List Cl) (n : Nat), s13 = .int .i64 k ∧ k ≤ l.length ∧ ∃ x : Ext w, wr = x.val ∧ w.heap.size < x.val.heap.size ∧ Hid (l'.length = k ∧ n ≤ x.val.heap.size ∧ Grow.Own x.val w.heap.size 35 7 Cl.cellsZ (.slice (some ⟨w.heap.size, 0, none⟩) l.length l.length) (l' ++ List.replicate (l.length - k) noCl) ∧ Chain R x.val (l.take k) l' (w.heap.size + 1) n)) (fun _ _ s13 _ => l.length - (intOf s13).toNat)
  case atStart => exact ⟨0, [], w.heap.size + 1, rfl, Nat.zero_le _, ⟨W0, hb0.out⟩, rfl, hsz0, rfl, hsz0, hown1, .nil⟩
  case round =>
    obtain ⟨k, l', n, rfl, hk, x, rfl, hsx, hI⟩ := hrel
    clear hown1 hsz0
    by_cases hlt : k < l.length
    · obtain ⟨b, off, hA, hb, hcell⟩ := HL.out k hlt
      have hlt' : (k : Int) < (l.length : Int) := by omega
      have HT := hide (List.take_succ_eq_append_getElem hlt)
      have hF1 := HF.out _ (List.getElem_mem hlt)
      obtain ⟨e, he⟩ : ∃ e, e = l[k] := ⟨_, rfl⟩
      rw [← he] at hcell HT hF1
      have hrx : Hid (x.val.rangeAt b (off + k * 7) e.cells) := fun j u h => (x.cell hb).trans (hcell j u h)
      have HKW : Hid (wrap64 ((k : Int) + 1) = ((k + 1 : Nat) : Int)) := by
        show wrap64 _ = _
        unfold wrap64
        omega
      have H1 : Hid (GivesOne Tryz.prog 47 Cl.cells Cl.cellsZ R e (x.val.alloc (.cells e.cells.toArray 35))) := hF1 _ (x.below.alloc (by omega) _)
      have hlt9 := hide hlt
      subst hA
      clear hcell he hlt hF1
      go_upto_region 5 with (first | (refine wpList_load_mid rfl 35 (.tmp 16) rfl b (off + k * 7) rfl e.cells _ hrx.out Tryz.underlying35 rfl (by rw [Cl.cells_len]; kernel_rfl) ?_) | (refine wpList_store_new rfl 35 (.tmp 7) (.tmp 17) rfl _ _ _ _ rfl rfl rfl (by rw [List.size_toArray, Cl.cells_len]; kernel_rfl) (by simp [Cl.cells_len]) (fun u hu => bareCl_one e u (by simpa using hu)) ?_))
      go_wp2_with (first | (refine wpList_load_new rfl 35 (.tmp 7) rfl e.cells.toArray 35 rfl Tryz.underlying35 rfl (by rw [List.size_toArray, Cl.cells_len]; kernel_rfl) ?_) | (go_at_call 47; refine (H1.out).mono ?_; rintro _ _ ⟨y, e', rfl, rfl, hR⟩; obtain ⟨hth0, z, hz, hzs, hI2⟩ := bare_round hRL.out Cl.cellsZ_len hlt9.out hI.out HT.out hsx y hR; have hth := hide hth0; have hz9 := hide hz; have hI9 := hide hI2; clear hth0 hz hI2 hR) | (refine wpList_store_mid rfl 35 (.tmp 23) (.tmp 22) rfl w.heap.size (k * 7) e'.cellsZ.toArray rfl rfl hth.out (by rw [List.size_toArray, Cl.cellsZ_len]; kernel_rfl) (all_oneCell_toArray (bareCl_oneZ e')) ?_; rw [hz9.out]))
      go_roundw
      case rel => exact ⟨k + 1, l' ++ [e'], y.val.heap.size, by first | rfl | rw [HKW.out], hlt9.out, z, rfl, hzs, hI9⟩
      case measure =>
        first | rw [HKW.out, intOf_int, intOf_int, Int.toNat_natCast, Int.toNat_natCast] | rw [intOf_int, intOf_int]
        have := hlt9.out
        omega
    · obtain rfl : k = l.length := by omega
      have hlt' : ¬ (l.length : Int) < (l.length : Int) := by omega
      have HG : Hid (BareIn R 35 Cl.cellsZ l w.heap.size x.val) := by
        obtain ⟨h1, h2, h3, h4⟩ := hI.out
        rw [List.take_length] at h4
        exact ⟨l', n, h1, h2, bare_done Cl.cellsZ_len h3 h1, h4⟩
      clear hI
      go_wp2_with fail
      go_ret
      exact ⟨rfl, x, rfl, HG.out⟩
end Go.Proofs.YtmpdmelkbemabaaGreat
