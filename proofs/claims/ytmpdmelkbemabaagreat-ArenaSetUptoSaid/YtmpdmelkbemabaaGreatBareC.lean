/- Things of their own: size.bareMethod, bareClass, Bare. -/
import Derived.Test.YtmpdmelkbemabaaGreatStrip
import Derived.Test.YtmpdmelkbemabaaGreatTk13
import Derived.WalkSpells
set_option linter.unusedSimpArgs false
set_option linter.unusedVariables false
namespace Go.Proofs.Grow
open Go.RowKit
theorem two_rows {w X : World} {c1 c2 : Array Value} {T : TypeId} (h : X = (w.alloc (.cells c1 T)).alloc (.cells c2 T)) :
    X.heap[w.heap.size]? = some (.cells c1 T (0, 0)) ∧ X.heap[w.heap.size + 1]? = some (.cells c2 T (0, 0)) ∧ Below w.heap.size w X ∧ X.heap.size = w.heap.size + 2 := by
  subst h
  refine ⟨(Below.heap_alloc _ _ _ (by simp)).trans (heap_alloc_new w _), ?_, ((Below.refl _ _).alloc (Nat.le_refl _) _).alloc (by simp) _, by simp⟩
  have := heap_alloc_new (w.alloc (.cells c1 T)) (.cells c2 T)
  simpa using this
end Go.Proofs.Grow
namespace Go.Proofs.YtmpdmelkbemabaaGreat
open Go.RowKit Go.Proofs.Grow

/-- The result's box filled in the end. -/
theorem res_fill {W : World} {g : Nat} {T : TypeId} {old : Array Value} {cs : List Value} (h : W.heap[g]? = some (.cells old T (0, 0))) (hs : old.size = cs.length) :
    W.there g 0 cs.toArray.size ∧ (W.setCells g 0 cs.toArray.toList).heap[g]? = some (.cells cs.toArray T (0, 0)) ∧ (W.setCells g 0 cs.toArray.toList).heap.size = W.heap.size ∧ ∀ k, k ≠ g → (W.setCells g 0 cs.toArray.toList).heap[k]? = W.heap[k]? :=
  ⟨row_there h _ (by simp [hs]), row_fill h (by simp [hs]), setCells_size _ _ _ _, fun k hk => setCells_other _ _ _ _ _ hk⟩

set_option maxHeartbeats 2000000 in
set_option maxRecDepth 100000 in
theorem bareVar_any (v : Va) (w : World) : GivesOne Tryz.prog 61 Va.cells Va.cellsZ RVa v w := by
  unfold GivesOne
  go_enter Tryz.func61, Tryz.ntmps61
  go_upto_region 2 with fail
  obtain ⟨X1, hX1⟩ : ∃ X1, X1 = (w.alloc (.cells v.cellsZ.toArray 78)).alloc (.cells noVa.cells.toArray 78) := ⟨_, rfl⟩
  obtain ⟨h1, h2, h3, h4⟩ := two_rows hX1
  have hr1 := hide h1
  obtain ⟨f1, f2, f3, f4⟩ := res_fill (cs := v.cellsZ) h2 rfl
  have hth := hide f1
  have hrow := hide f2
  have HB : Hid (Below w.heap.size w X1) := h3
  change Code.wp _ _ _ _ ((w.alloc (.cells v.cellsZ.toArray 78)).alloc (.cells noVa.cells.toArray 78))
  rw [← hX1]
  clear hX1 h1 h2 f1 f2 h3
  go_wp2_with (first | (refine wpList_load_row rfl 78 (.tmp 1) rfl w.heap.size rfl 78 v.cellsZ.toArray (0, 0) _ hr1.out Tryz.underlying78 rfl (by rw [List.size_toArray, Va.cellsZ_len]; kernel_rfl) ?_) | (refine wpList_store_mid rfl 78 (.tmp 2) (.tmp 4) rfl (w.heap.size + 1) 0 v.cellsZ.toArray rfl rfl hth.out (by rw [List.size_toArray, Va.cellsZ_len]; kernel_rfl) (all_oneCell_toArray (bareVa_oneZ v)) ?_))
  refine bodyPost_ret (v := .agg v.cellsZ.toArray) (results_cell_row (p := 2) (ty := 78) Tryz.results61 _ _ (w.heap.size + 1) 78 _ (0, 0) _ rfl hrow.out Tryz.underlying78 rfl (by rw [List.size_toArray, Va.cellsZ_len]; kernel_rfl)) rfl ?_
  have hR : RVa v v w.heap.size (X1.setCells (w.heap.size + 1) 0 v.cellsZ).heap.size (X1.setCells (w.heap.size + 1) 0 v.cellsZ) := ⟨rfl, by rw [f3]; omega, Nat.le_refl _⟩
  exact ⟨⟨X1.setCells (w.heap.size + 1) 0 v.cellsZ, HB.out.trans (setCells_below (Nat.le_succ _) _ _ _)⟩, v, rfl, rfl, hR⟩

set_option maxHeartbeats 2000000 in
set_option maxRecDepth 100000 in
theorem bareExpr_step (k num : Int) (name : ByteArray) (A : Option Addr) (c : Nat) (kids : List Ex) (w : World) (hin : ExIn w (.mk k num name A c kids)) (hfw : (Ex.mk k num name A c kids).fw ≤ 1048576)
    (ih : ∀ e ∈ kids, ∀ W, ExIn W e → e.fw ≤ 1048576 → GivesOne Tryz.prog 89 Ex.cells Ex.cellsZ REx e W) : GivesOne Tryz.prog 89 Ex.cells Ex.cellsZ REx (.mk k num name A c kids) w := by
  unfold GivesOne
  have hc63 : kids.length ≤ c ∧ c ≤ maxLen ∧ name.size ≤ maxLen := by cases hin with | mk h hc hm hn hk => exact ⟨hc, hm, hn⟩
  have HC : Hid (∀ W, Below w.heap.size w W → GivesBare Tryz.prog 90 #[.slice A kids.length c, .func (.func 89) #[] #[]] REx 48 Ex.cellsZ kids W) := fun W hW => by
    obtain ⟨x, rfl⟩ := Ext.of hW
    rw [Ex.fw] at hfw
    have hl := exFw_len kids
    cases hin with
    | mk h hc hm hn hk =>
    exact bareLEx_any REx REx.local_ x.val A c kids (h.ext x) (by omega) fun e he W2 hW2 => by
      obtain ⟨y, rfl⟩ := Ext.of hW2
      exact ih e he _ (((hk e he).ext x).ext y) (by have := exFw_has he; omega)
  have HK := hide hc63
  clear hin hfw ih hc63
  go_enter Tryz.func89, Tryz.ntmps89
  go_upto_region 1 with fail
  obtain ⟨X1, hX1⟩ : ∃ X1, X1 = (w.alloc (.cells (Ex.mk k num name A c kids).cells.toArray 48)).alloc (.cells noEx.cells.toArray 48) := ⟨_, rfl⟩
  obtain ⟨h1, h2, h3, h4⟩ := two_rows hX1
  have hr1 := hide h1
  have hr2 := hide h2
  have HB : Hid (Below w.heap.size w X1) := h3
  change Code.wp _ _ _ _ ((w.alloc (.cells (Ex.mk k num name A c kids).cells.toArray 48)).alloc (.cells noEx.cells.toArray 48))
  rw [← hX1]
  have c3 : X1.cell? ⟨w.heap.size, 3, none⟩ = some (.slice A kids.length c) := (cell_of_row _ _ _ _ _ _ h1).trans rfl
  have HC1 := HC.out X1 h3
  unfold GivesBare at HC1
  have HC9 := hide HC1
  clear hX1 h1 h2 h3 HC HC1
  go_upto_region 2 with (first | (go_at_call 90; refine (HC9.out).mono ?_; rintro _ _ ⟨rfl, x, rfl, hbare⟩; have hb9 := hide hbare; clear hbare; have hrx := row_up x hr1.out; have hrx9 := hide hrx; obtain ⟨x3, g3⟩ := row_cell (cs := (Ex.mk k num name A c kids).cells) hrx (j := 3) rfl; clear hrx))
  obtain ⟨kids', n, q1, q2, q3, q4⟩ := hb9.out.exs
  rw [h4] at q4
  obtain ⟨e', he'⟩ : ∃ e', e' = Ex.mk k num name (some ⟨w.heap.size + 2, 0, none⟩) kids.length kids' := ⟨_, rfl⟩
  obtain ⟨Z, hZ⟩ : ∃ Z, Z = x.val.setCell ⟨w.heap.size, 3, none⟩ (.slice (some ⟨w.heap.size + 2, 0, none⟩) kids.length kids.length) := ⟨_, rfl⟩
  rw [← hZ]
  have hz1 : Z.heap[w.heap.size]? = some (.cells e'.cells.toArray 48 (0, 0)) := by
    rw [hZ, row_store hrx9.out 3, he']
    simp [Ex.cells, q1]
  have hz2 : Z.heap[w.heap.size + 1]? = some (.cells noEx.cells.toArray 48 (0, 0)) := by
    rw [hZ]
    exact (Below.heap_setCell _ _ _ _ (by show w.heap.size + 1 ≠ w.heap.size; omega)).trans (row_up x hr2.out)
  have hzs : Z.heap.size = x.val.heap.size := by rw [hZ]; simp [World.setCell]
  have hzo : ∀ j, w.heap.size + 2 ≤ j → Z.heap[j]? = x.val.heap[j]? := fun j hj => by rw [hZ]; exact Below.heap_setCell _ _ _ _ (by show j ≠ w.heap.size; omega)
  have HBZ : Hid (Below w.heap.size w Z) := by
    show Below _ _ _
    rw [hZ]
    exact Below.setCell (HB.out.trans (x.below.mono (by omega))) (Nat.le_refl _) _
  have hhz1 := hide hz1
  obtain ⟨f1, f2, f3, f4⟩ := res_fill (cs := e'.cellsZ) hz2 (by rw [Ex.cellsZ_len]; rfl)
  have hth := hide f1
  have hrow := hide f2
  have HR : Hid (REx (.mk k num name A c kids) e' w.heap.size (Z.setCells (w.heap.size + 1) 0 e'.cellsZ).heap.size (Z.setCells (w.heap.size + 1) 0 e'.cellsZ)) := by
    have hsz : (Z.setCells (w.heap.size + 1) 0 e'.cellsZ).heap.size = x.val.heap.size := f3.trans hzs
    refine ⟨?_, ?_, ?_⟩
    · rw [he', stEx, stEx, q2]
    · rw [he']
      exact .mk (fun _ => ⟨_, _, rfl⟩) (by omega) (Nat.le_trans HK.out.1 HK.out.2.1) HK.out.2.2 q3
    · have hq : Grow.RowsIn (subEx e') (w.heap.size + 2) n x.val := by rw [he', subEx]; exact q4
      refine (hq.blocks (by rw [hsz]; exact Nat.le_refl _) fun j hj1 hj2 => (f4 j (by omega)).trans (hzo j hj1)).wide (by omega) (by rw [hsz]; exact q4.top) (Nat.le_refl _)
  clear hZ hz1 hz2 hzs hzo q1 q2 q3 q4 f1 f2 f3 f4 c3 x3 g3 hrx9 hb9 HC9 he'
  go_wp2_with (first | (refine wpList_load_row rfl 48 (.tmp 1) rfl w.heap.size rfl 48 e'.cellsZ.toArray (0, 0) _ hhz1.out Tryz.underlying48 rfl (by rw [List.size_toArray, Ex.cellsZ_len]; kernel_rfl) ?_) | (refine wpList_store_mid rfl 48 (.tmp 2) (.tmp 7) rfl (w.heap.size + 1) 0 e'.cellsZ.toArray rfl rfl hth.out (by rw [List.size_toArray, Ex.cellsZ_len]; kernel_rfl) (all_oneCell_toArray (bareEx_oneZ e')) ?_))
  refine bodyPost_ret (v := .agg e'.cellsZ.toArray) (results_cell_row (p := 2) (ty := 48) Tryz.results89 _ _ (w.heap.size + 1) 48 _ (0, 0) _ rfl hrow.out Tryz.underlying48 rfl (by rw [List.size_toArray, Ex.cellsZ_len]; kernel_rfl)) rfl ?_
  exact ⟨⟨Z.setCells (w.heap.size + 1) 0 e'.cellsZ, HBZ.out.trans (setCells_below (Nat.le_succ _) _ _ _)⟩, e', rfl, rfl, HR.out⟩
theorem bareExpr_any : ∀ (e : Ex) (w : World), ExIn w e → e.fw ≤ 1048576 → GivesOne Tryz.prog 89 Ex.cells Ex.cellsZ REx e w
  | .mk k num name A c kids, w, h, hf => bareExpr_step k num name A c kids w h hf fun e he W h1 h2 =>
    have h3 := List.sizeOf_lt_of_mem he
    bareExpr_any e W h1 h2
termination_by e => SizeOf.sizeOf e
decreasing_by
  simp; omega
end Go.Proofs.YtmpdmelkbemabaaGreat
set_option linter.unusedSimpArgs false
set_option linter.unusedVariables false
namespace Go.Proofs.YtmpdmelkbemabaaGreat
open Go.RowKit Go.Proofs.Grow

theorem eqFun_any (A : Option Addr) (n c : Nat) (hn : n ≤ 1048576) (f : FuncId) (w : World) : Gives Tryz.prog 95 #[.slice A n c, .slice none 0 0, .func (.func f) #[] #[]] w (.bool (decide (n = 0))) := by
  refine Gives.mk ?_
  by_cases h : n = 0
  · subst h
    go_enter Tryz.func95, Tryz.ntmps95
    go_wp2_with fail
    go_loop [17] (fun s17 => s17 = .int .i64 0) (fun _ => 0)
    case atStart => rfl
    case round =>
      subst hrel
      go_wp2_with fail
      go_ret
      exact ⟨rfl, Below.refl _ _⟩
  · have hi : ¬ (n : Int) = 0 := by omega
    go_enter Tryz.func95, Tryz.ntmps95
    go_wp2_with fail
    go_ret
    exact ⟨by simp [h], Below.refl _ _⟩

set_option maxHeartbeats 2000000 in
set_option maxRecDepth 100000 in
/-- If an expression is the same as the empty one it has nothing in it. -/
theorem exBlank_any (e : Ex) (hk : e.fw ≤ 1048576) (w : World) : Calls Tryz.prog 88 #[.agg e.cells.toArray, .agg noEx.cells.toArray] w fun r w' => ∃ b : Bool, r = .returned (.bool b) ∧ (∃ x : Ext w, w' = x.val) ∧ (b = true → subEx e = []) := by
  obtain ⟨k, num, name, A, c, kids⟩ := e
  have HN : Hid (kids.length ≤ 1048576) := by
    rw [Ex.fw] at hk
    have := exFw_len kids
    show _ ≤ _
    omega
  have H0 : Hid (kids.length = 0 → subEx (.mk k num name A c kids) = []) := fun h => by
    obtain rfl := List.length_eq_zero_iff.1 h
    rfl
  have HQ : Hid (∀ W, Gives Tryz.prog 95 #[.slice A kids.length c, .slice none 0 0, .func (.func 88) #[] #[]] W (.bool (decide (kids.length = 0)))) := fun W => eqFun_any A kids.length c HN.out 88 W
  clear hk
  simp only [Ex.cells, noEx]
  go_enter Tryz.func88, Tryz.ntmps88
  go_wp2_with (go_at_call 95; refine (HQ.out _).mono ?_; rintro _ _ ⟨y, rfl, rfl⟩)
  all_goals go_ret
  all_goals first
    | exact ⟨false, rfl, ⟨⟨_, ((Below.refl _ _).alloc (Nat.le_refl _) _).alloc (by simp) _⟩, rfl⟩, fun h => by cases h⟩
    | exact ⟨_, rfl, ⟨⟨_, (((Below.refl _ _).alloc (Nat.le_refl _) _).alloc (by simp) _).trans (y.below.mono (by simp; omega))⟩, rfl⟩, fun h => H0.out (by simpa using h)⟩

/-- What slices.Clone made. -/
def Cloned {α : Type} (mk : α → Nd) (size : Nat) (l : List α) (n0 : Nat) (v : Value) (X : World) : Prop := ∃ A c, v = .slice A l.length c ∧ l.length ≤ c ∧ c ≤ maxLen ∧ AdrOk A l ∧ Grow.RowsIn (rowsAt (bkA A) (ofA A) size (l.map mk)) n0 X.heap.size X
theorem Cloned.of {α : Type} {mk : α → Nd} {enc : α → List Value} {size n0 : Nat} {e : TypeId} {l : List α} {v : Value} {X : World} (h : Grow.Own X n0 e size enc v l) (hmk : ∀ a, (mk a).cells = enc a) (hlen : ∀ a, (enc a).length = size) (hsz : 0 < size) (halt : ∀ a, altA (mk a) (enc a)) (hn : n0 ≤ X.heap.size) : Cloned mk size l n0 v X := by
  obtain ⟨A, c, rfl, h1, h2, h3⟩ := h.lies hlen
  have hf := h.from_
  obtain ⟨g1, g2⟩ := h
  refine ⟨A, c, rfl, h1, h2, fun hl => ?_, ?_⟩
  · obtain ⟨b, off, hA, _⟩ := h3 0 hl
    exact ⟨b, off, hA⟩
  · rcases g2 with ⟨e1, e2⟩ | ⟨g, cap, cur, hv, hb, hh, hnc, hcm, hcs, hcur⟩
    · obtain rfl := List.length_eq_zero_iff.1 e2
      exact .nil hn (Nat.le_refl _)
    · simp only [Value.slice.injEq] at hv
      obtain ⟨rfl, _, rfl⟩ := hv
      have hr := RowsIn.block (mk := mk) (enc := enc) (size := size) hh ⟨cur.toList.drop (l.length * size), by rw [← hcur]; exact List.take_append_drop _ _⟩ (fun a => by rw [hmk]; exact hlen a) hsz halt
      exact hr.wide hb (by have := hr.top; omega) (Nat.le_refl _)

theorem infoCStr : (Tryz.prog.info? 9).map (fun i => (i.zero.map (·.cells.size), i.size, i.bytes)) = some (some 1, 1, 16) := by kernel_rfl
set_option maxHeartbeats 1000000 in
set_option maxRecDepth 100000 in
theorem cloneStr_any (A : Option Addr) (c : Nat) (l : List ByteArray) (w : World) (hs : Lies w 1 encStr A l) (hl : l.length ≤ 1048576) :
    Calls Tryz.prog 58 #[.slice A l.length c] w fun e w' => ∃ v, e = .returned v ∧ ∃ x : Ext w, w' = x.val ∧ Cloned .str 1 l w.heap.size v x.val := by
  have Hs := hide hs
  obtain ⟨i0, z0, hi, hz0, hz1, hz2, hzs⟩ := info_row infoCStr
  have heq := fun (w : World) (a : Option Addr) (n c n' c' : Nat) => Lib.run_eql_slice_nil (P := Tryz.prog) w 30 9 a n c n' c' Tryz.underlying30
  have key : GivesOwn Tryz.prog 58 #[.slice A l.length c] w 9 1 encStr l := by
    unfold GivesOwn
    cases A with
    | none =>
      have hl0 : l = [] := by
        cases l with
        | nil => rfl
        | cons a l => obtain ⟨_, _, h, _⟩ := hs 0 (by simp); cases h
      subst hl0
      clear hs
      go_enter Tryz.func58, Tryz.ntmps58
      go_wp2_with fail
      go_ret
      exact ⟨Ext.here w, _, rfl, rfl, Own.nil⟩
    | some ad =>
      clear hs
      go_enter Tryz.func58, Tryz.ntmps58
      go_wp2_with (at_builtin; (refine wpList_append_list (w1 := w) _ rfl (.tmp 5) (.tmp 6) 30 rfl 9 i0 z0 1 16 Tryz.underlying30 hi hz0 hz1 hz2 hzs (by omega) (fun _ => rfl) (fun a u hu => by simp [encStr] at hu; subst hu; rfl) ((Below.refl _ _).alloc (Nat.le_refl _) _) (.slice (some ⟨w.heap.size, 0, none⟩) 0 0) [] rfl (Own.empty w) (some ad) l.length c l rfl rfl (Hs.out.alloc _) (by simp [maxLen]; omega) (by simp; omega) ?_); intro v' y hown hgr hat)
      go_ret
      exact ⟨y, _, rfl, rfl, by simpa using hown⟩
  exact key.mono fun e w' ⟨x, v, h1, h2, h3⟩ => ⟨v, h1, x, h2, Cloned.of h3 (fun _ => rfl) (fun _ => rfl) (by decide) (fun a => altA_self _) (by exact x.below.size)⟩
theorem infoCOw : (Tryz.prog.info? 37).map (fun i => (i.zero.map (·.cells.size), i.size, i.bytes)) = some (some 2, 2, 16) := by kernel_rfl
set_option maxHeartbeats 1000000 in
set_option maxRecDepth 100000 in
theorem cloneOw_any (A : Option Addr) (c : Nat) (l : List Ow) (w : World) (hs : Lies w 2 Ow.cells A l) (hl : l.length ≤ 1048576) :
    Calls Tryz.prog 59 #[.slice A l.length c] w fun e w' => ∃ v, e = .returned v ∧ ∃ x : Ext w, w' = x.val ∧ Cloned .ow 2 l w.heap.size v x.val := by
  have Hs := hide hs
  obtain ⟨i0, z0, hi, hz0, hz1, hz2, hzs⟩ := info_row infoCOw
  have heq := fun (w : World) (a : Option Addr) (n c n' c' : Nat) => Lib.run_eql_slice_nil (P := Tryz.prog) w 31 37 a n c n' c' Tryz.underlying31
  have key : GivesOwn Tryz.prog 59 #[.slice A l.length c] w 37 2 Ow.cells l := by
    unfold GivesOwn
    cases A with
    | none =>
      have hl0 : l = [] := by
        cases l with
        | nil => rfl
        | cons a l => obtain ⟨_, _, h, _⟩ := hs 0 (by simp); cases h
      subst hl0
      clear hs
      go_enter Tryz.func59, Tryz.ntmps59
      go_wp2_with fail
      go_ret
      exact ⟨Ext.here w, _, rfl, rfl, Own.nil⟩
    | some ad =>
      clear hs
      go_enter Tryz.func59, Tryz.ntmps59
      go_wp2_with (at_builtin; (refine wpList_append_list (w1 := w) _ rfl (.tmp 5) (.tmp 6) 31 rfl 37 i0 z0 2 16 Tryz.underlying31 hi hz0 hz1 hz2 hzs (by omega) Ow.cells_len Ow.cells_one ((Below.refl _ _).alloc (Nat.le_refl _) _) (.slice (some ⟨w.heap.size, 0, none⟩) 0 0) [] rfl (Own.empty w) (some ad) l.length c l rfl rfl (Hs.out.alloc _) (by simp [maxLen]; omega) (by simp; omega) ?_); intro v' y hown hgr hat)
      go_ret
      exact ⟨y, _, rfl, rfl, by simpa using hown⟩
  exact key.mono fun e w' ⟨x, v, h1, h2, h3⟩ => ⟨v, h1, x, h2, Cloned.of h3 (fun _ => rfl) Ow.cells_len (by decide) (fun a => altA_self _) (by exact x.below.size)⟩
end Go.Proofs.YtmpdmelkbemabaaGreat
set_option linter.unusedSimpArgs false
set_option linter.unusedVariables false
namespace Go.Proofs.YtmpdmelkbemabaaGreat
open Go.RowKit Go.Proofs.Grow

/-- A function's two boxes: the parameter's with cs, the result's with zs; rows of what was made so far. -/
structure Box (w : World) (T : TypeId) (cs zs : Array Value) (rs : List Rw) (X : World) : Prop where
  below : Below w.heap.size w X
  box : X.heap[w.heap.size]? = some (.cells cs T (0, 0))
  res : X.heap[w.heap.size + 1]? = some (.cells zs T (0, 0))
  size : w.heap.size + 2 ≤ X.heap.size
  rows : Grow.RowsIn rs (w.heap.size + 2) X.heap.size X
section
variable {w X : World} {T : TypeId} {cs zs : Array Value} {rs qs : List Rw}
theorem Box.start (w : World) (T : TypeId) (cs zs : Array Value) : Box w T cs zs [] ((w.alloc (.cells cs T)).alloc (.cells zs T)) := by
  obtain ⟨h1, h2, h3, h4⟩ := two_rows (c1 := cs) (c2 := zs) (T := T) (w := w) rfl
  exact ⟨h3, h1, h2, by rw [h4]; exact Nat.le_refl _, .nil (by rw [h4]; exact Nat.le_refl _) (Nat.le_refl _)⟩
theorem Box.cell (h : Box w T cs zs rs X) (x : Ext X) {j : Nat} {u : Value} (hj : cs[j]? = some u) : x.val.cell? ⟨w.heap.size, j, none⟩ = some u ∧ x.val.frozen? ⟨w.heap.size, j, none⟩ = false := by
  have hr := row_up x h.box
  exact ⟨(cell_of_row _ _ _ _ _ _ hr).trans hj, by simp [World.frozen?, hr]⟩
theorem Box.lay (h : Box w T cs zs rs X) (x : Ext X) {n : Nat} (hq : Grow.RowsIn qs X.heap.size n x.val) {Y : World} {cs' : Array Value} (hb : Y.heap[w.heap.size]? = some (.cells cs' T (0, 0))) (ho : ∀ k, k ≠ w.heap.size → Y.heap[k]? = x.val.heap[k]?) (hs : Y.heap.size = x.val.heap.size)
    (h1 : Y.os = x.val.os) (h2 : Y.tape = x.val.tape) (h3 : Y.output = x.val.output) : Box w T cs' zs (rs ++ qs) Y := by
  have hsz := h.size
  have hxs := x.below.size
  refine ⟨⟨h1.trans (x.below.os.trans h.below.os), h2.trans (x.below.tape.trans h.below.tape), h3.trans (x.below.output.trans h.below.output), by rw [hs]; exact Nat.le_trans h.below.size hxs, fun k hk => ?_⟩, hb, (ho _ (by omega)).trans (row_up x h.res), by rw [hs]; omega, ?_⟩
  · exact (ho k (by omega)).trans ((x.below.block k (by omega)).trans (h.below.block k hk))
  · have r1 : Grow.RowsIn rs (w.heap.size + 2) X.heap.size Y := h.rows.blocks (by rw [hs]; exact hxs) fun k k1 k2 => (ho k (by omega)).trans (x.below.block k k2)
    have r2 : Grow.RowsIn qs X.heap.size n Y := hq.blocks (by rw [hs]; exact Nat.le_refl _) fun k k1 k2 => ho k (by omega)
    exact (r1.append r2 (Nat.le_refl _)).wide (Nat.le_refl _) (by rw [hs]; exact hq.top) (Nat.le_refl _)
theorem Box.next (h : Box w T cs zs rs X) (x : Ext X) {n : Nat} (hq : Grow.RowsIn qs X.heap.size n x.val) (j : Nat) (v : Value) : Box w T (cs.setIfInBounds j v) zs (rs ++ qs) (x.val.setCell ⟨w.heap.size, j, none⟩ v) :=
  h.lay x hq (row_store (row_up x h.box) j v) (fun k hk => Below.heap_setCell _ _ _ _ hk) (by simp [World.setCell]) rfl rfl rfl
theorem Box.set (h : Box w T cs zs rs X) (j : Nat) (v : Value) : Box w T (cs.setIfInBounds j v) zs rs (X.setCell ⟨w.heap.size, j, none⟩ v) := by
  have := h.next (Ext.here X) (qs := []) (.nil (Nat.le_refl _) (Nat.le_refl _)) j v
  rwa [List.append_nil] at this
theorem Box.there (h : Box w T cs zs rs X) (x : Ext X) (o n : Nat) (hn : o + n ≤ cs.size) : x.val.there w.heap.size o n := there_of_row (row_up x h.box) o n hn
theorem Box.cells (h : Box w T cs zs rs X) (x : Ext X) {n : Nat} (hq : Grow.RowsIn qs X.heap.size n x.val) (o : Nat) (vs : List Value) (hl : o + vs.length ≤ cs.size) (cs' : Array Value) (he : cs.toList.take o ++ (vs ++ cs.toList.drop (o + vs.length)) = cs'.toList) : Box w T cs' zs (rs ++ qs) (x.val.setCells w.heap.size o vs) := by
  obtain ⟨cur, h1, h2⟩ := setCells_row w.heap.size T vs o x.val cs (row_up x h.box) hl
  obtain rfl : cur = cs' := by apply Array.toList_inj.1; rw [h2, he]
  obtain ⟨g1, g2, g3⟩ := setCells_rest w.heap.size vs o x.val
  exact h.lay x hq h1 (fun k hk => setCells_other _ _ _ _ _ hk) (setCells_size _ _ _ _) g1 g2 g3
/-- The end: the result's box filled. -/
theorem Box.fill (h : Box w T cs zs rs X) {vs : List Value} (hs : zs.size = vs.length) : X.there (w.heap.size + 1) 0 vs.toArray.size ∧ (X.setCells (w.heap.size + 1) 0 vs).heap[w.heap.size + 1]? = some (.cells vs.toArray T (0, 0)) ∧
    Below w.heap.size w (X.setCells (w.heap.size + 1) 0 vs) ∧ Grow.RowsIn rs w.heap.size (X.setCells (w.heap.size + 1) 0 vs).heap.size (X.setCells (w.heap.size + 1) 0 vs) := by
  obtain ⟨f1, f2, f3, f4⟩ := res_fill h.res hs
  have e : vs.toArray.toList = vs := rfl
  rw [e] at f2 f3 f4
  refine ⟨f1, f2, h.below.trans (setCells_below (Nat.le_succ _) _ _ _), ?_⟩
  have r1 : Grow.RowsIn rs (w.heap.size + 2) X.heap.size (X.setCells (w.heap.size + 1) 0 vs) := h.rows.blocks (by rw [f3]; exact Nat.le_refl _) fun k k1 k2 => f4 k (by omega)
  exact r1.wide (by omega) (by rw [f3]; exact Nat.le_refl _) (Nat.le_refl _)
end
section
variable {w X : World} {T t : TypeId} {zs : Array Value} {rs : List Rw} {kd : Int} {sx sy sname : ByteArray} {ty : Ty} {e : Ex} {aA : Option Addr} {ac : Nat} {args : List Ex} {bA : Option Addr} {bc : Nat} {body : List St} {lA : Option Addr} {lc : Nat} {els : List St} {pos : Int}
theorem step19 (h : Box w T (St.mk kd sx sy sname ty e aA ac args bA bc body lA lc els pos).cells.toArray zs rs X) (x : Ext X) (hb : BareIn REx t Ex.cellsZ args X.heap.size x.val) :
    ∃ args', args'.length = args.length ∧ stExs args' = stExs args ∧ (∀ a ∈ args', ExS a) ∧ Box w T (St.mk kd sx sy sname ty e (some ⟨X.heap.size, 0, none⟩) args'.length args' bA bc body lA lc els pos).cells.toArray zs (rs ++ rwExs (some ⟨X.heap.size, 0, none⟩) args') (x.val.setCell ⟨w.heap.size, 19, none⟩ (.slice (some ⟨X.heap.size, 0, none⟩) args.length args.length)) := by
  obtain ⟨l', n, q1, q2, q3, q4⟩ := hb.exs
  refine ⟨l', q1, q2, q3, ?_⟩
  have hn := h.next x q4 19 (.slice (some ⟨X.heap.size, 0, none⟩) l'.length l'.length)
  rw [St.set19, q1] at hn
  rw [q1]
  exact hn
theorem step20 (h : Box w T (St.mk kd sx sy sname ty e aA ac args bA bc body lA lc els pos).cells.toArray zs rs X) (x : Ext X) (hb : BareIn RSt t St.cellsZ body X.heap.size x.val) :
    ∃ body', body'.length = body.length ∧ stSts body' = stSts body ∧ (∀ a ∈ body', StS a) ∧ Box w T (St.mk kd sx sy sname ty e aA ac args (some ⟨X.heap.size, 0, none⟩) body'.length body' lA lc els pos).cells.toArray zs (rs ++ rwSts (some ⟨X.heap.size, 0, none⟩) body') (x.val.setCell ⟨w.heap.size, 20, none⟩ (.slice (some ⟨X.heap.size, 0, none⟩) body.length body.length)) := by
  obtain ⟨l', n, q1, q2, q3, q4⟩ := hb.sts
  refine ⟨l', q1, q2, q3, ?_⟩
  have hn := h.next x q4 20 (.slice (some ⟨X.heap.size, 0, none⟩) l'.length l'.length)
  rw [St.set20, q1] at hn
  rw [q1]
  exact hn
theorem step21 (h : Box w T (St.mk kd sx sy sname ty e aA ac args bA bc body lA lc els pos).cells.toArray zs rs X) (x : Ext X) (hb : BareIn RSt t St.cellsZ els X.heap.size x.val) :
    ∃ els', els'.length = els.length ∧ stSts els' = stSts els ∧ (∀ a ∈ els', StS a) ∧ Box w T (St.mk kd sx sy sname ty e aA ac args bA bc body (some ⟨X.heap.size, 0, none⟩) els'.length els' pos).cells.toArray zs (rs ++ rwSts (some ⟨X.heap.size, 0, none⟩) els') (x.val.setCell ⟨w.heap.size, 21, none⟩ (.slice (some ⟨X.heap.size, 0, none⟩) els.length els.length)) := by
  obtain ⟨l', n, q1, q2, q3, q4⟩ := hb.sts
  refine ⟨l', q1, q2, q3, ?_⟩
  have hn := h.next x q4 21 (.slice (some ⟨X.heap.size, 0, none⟩) l'.length l'.length)
  rw [St.set21, q1] at hn
  rw [q1]
  exact hn
end
theorem ExIn.s {w : World} {e : Ex} (h : ExIn w e) : ExS e := by
  induction h with
  | mk h hc hm hn _ ih => exact .mk (fun hl => by obtain ⟨b, off, hA, _⟩ := h 0 hl; exact ⟨b, off, hA⟩) hc hm hn ih
theorem St.at_e (s : St) (p : Int) : (s.at p).e = s.e := by cases s; rfl

set_option maxHeartbeats 4000000 in
set_option maxRecDepth 100000 in
theorem bareStmt_step (s : St) (w : World) (hin : StIn w s) (hfw : s.fw ≤ 1048576)
    (ih : ∀ t, t ∈ s.body ∨ t ∈ s.els → ∀ W, StIn W t → t.fw ≤ 1048576 → GivesOne Tryz.prog 74 St.cells St.cellsZ RSt t W) : GivesOne Tryz.prog 74 St.cells St.cellsZ RSt s w := by
  unfold GivesOne
  obtain ⟨kd, sx, sy, sname, ty, e, aA, ac, args, bA, bc, body, lA, lc, els, pos⟩ := s
  cases hin with
  | mk he ha hac ham hai hb hbc hbm hbi hl hlc hlm hli hst =>
  rw [St.fw] at hfw
  have n1 := exFw_len args
  have n2 := stFw_len body
  have n3 := stFw_len els
  have HES := hide (ExIn.s he)
  have HBL : Hid (∀ W, Below w.heap.size w W → Calls Tryz.prog 88 #[.agg e.cells.toArray, .agg noEx.cells.toArray] W fun r w' => ∃ b : Bool, r = .returned (.bool b) ∧ (∃ x : Ext W, w' = x.val) ∧ (b = true → subEx e = [])) := fun W _ => exBlank_any e (by omega) W
  have HEX : Hid (∀ W, Below w.heap.size w W → GivesOne Tryz.prog 89 Ex.cells Ex.cellsZ REx e W) := fun W hW => by
    obtain ⟨x, rfl⟩ := Ext.of hW
    exact bareExpr_any e _ (he.ext x) (by omega)
  have HA : Hid (∀ W, Below w.heap.size w W → GivesBare Tryz.prog 90 #[.slice aA args.length ac, .func (.func 89) #[] #[]] REx 48 Ex.cellsZ args W) := fun W hW => by
    obtain ⟨x, rfl⟩ := Ext.of hW
    exact bareLEx_any REx REx.local_ x.val aA ac args (ha.ext x) (by omega) fun t ht W2 hW2 => by
      obtain ⟨y, rfl⟩ := Ext.of hW2
      exact bareExpr_any t _ (((hai t ht).ext x).ext y) (by have := exFw_has ht; omega)
  have HBo : Hid (∀ W, Below w.heap.size w W → GivesBare Tryz.prog 73 #[.slice bA body.length bc, .func (.func 74) #[] #[]] RSt 50 St.cellsZ body W) := fun W hW => by
    obtain ⟨x, rfl⟩ := Ext.of hW
    exact bareLSt_any RSt RSt.local_ x.val bA bc body (hb.ext x) (by omega) fun t ht W2 hW2 => by
      obtain ⟨y, rfl⟩ := Ext.of hW2
      exact ih t (.inl ht) _ (((hbi t ht).ext x).ext y) (by have := stFw_has ht; omega)
  have HEl : Hid (∀ W, Below w.heap.size w W → GivesBare Tryz.prog 73 #[.slice lA els.length lc, .func (.func 74) #[] #[]] RSt 50 St.cellsZ els W) := fun W hW => by
    obtain ⟨x, rfl⟩ := Ext.of hW
    exact bareLSt_any RSt RSt.local_ x.val lA lc els (hl.ext x) (by omega) fun t ht W2 hW2 => by
      obtain ⟨y, rfl⟩ := Ext.of hW2
      exact ih t (.inr ht) _ (((hli t ht).ext x).ext y) (by have := stFw_has ht; omega)
  have HK := hide (And.intro (And.intro hac ham) (And.intro (And.intro hbc hbm) (And.intro (And.intro hlc hlm) hst)))
  clear he ha hac ham hai hb hbc hbm hbi hl hlc hlm hli hst hfw n1 n2 n3 ih
  obtain ⟨s0, hs0⟩ : ∃ s0, s0 = St.mk kd sx sy sname ty e aA ac args bA bc body lA lc els pos := ⟨_, rfl⟩
  have HS0 := hide hs0
  rw [← hs0]
  clear hs0
  go_enter Tryz.func74, Tryz.ntmps74
  go_upto_region 1 with fail
  have hbx0 := Box.start w 50 s0.cells.toArray noSt.cells.toArray
  obtain ⟨X0, hX0⟩ : ∃ X0, X0 = (w.alloc (.cells s0.cells.toArray 50)).alloc (.cells noSt.cells.toArray 50) := ⟨_, rfl⟩
  change Code.wp _ _ _ _ ((w.alloc (.cells s0.cells.toArray 50)).alloc (.cells noSt.cells.toArray 50))
  rw [← hX0] at hbx0 ⊢
  clear hX0
  have hB0 := hide hbx0
  obtain ⟨x22, g22⟩ := hbx0.cell (Ext.here X0) (j := 22) (u := .int .i64 pos) (by rw [HS0.out, List.getElem?_toArray]; exact St.at22 _)
  simp only [Ext.here] at x22 g22
  clear hbx0
  go_upto_region 2 with fail
  have hbx1 := hB0.out.set 22 (.int .i64 0)
  rw [St.set22] at hbx1
  obtain ⟨X1, hX1⟩ : ∃ X1, X1 = X0.setCell ⟨w.heap.size, 22, none⟩ (.int .i64 0) := ⟨_, rfl⟩
  rw [← hX1] at hbx1 ⊢
  clear hX1 x22 g22 hB0
  have hB1 := hide hbx1
  have hr1 : Hid (∀ y : Ext X1, y.val.rangeAt w.heap.size 15 e.cells) := fun y j v hv => (hB1.out.cell y (j := 15 + j) (by rw [List.getElem?_toArray]; exact St.get15 _ j v (by rw [St.at_e, HS0.out]; exact hv))).1
  have hbl := hide (HBL.out X1 hbx1.below)
  have hex : Hid (∀ z : Ext X1, GivesOne Tryz.prog 89 Ex.cells Ex.cellsZ REx e z.val) := fun z => HEX.out _ (hbx1.below.trans (z.below.mono hbx1.below.size))
  clear hbx1 HBL HEX
  go_upto_if 8 with (first | (refine wpList_load_mid rfl 48 (.tmp 4) rfl w.heap.size 15 rfl e.cells _ (hr1.out (Ext.here X1)) Tryz.underlying48 rfl (by rw [Ex.cells_len]; kernel_rfl) ?_) | (refine wpList_buildV rfl 48 [] rfl [] rfl _ (show Tryz.prog.built 48 [] = some noEx.cells.toArray by kernel_rfl) ?_) | (go_at_call 88; refine hbl.out.mono ?_; rintro _ _ ⟨b, rfl, ⟨z, rfl⟩, hbk⟩; have hbk9 := hide hbk; clear hbk))
  have hbz : Hid (Box w 50 (s0.at 0).cells.toArray noSt.cells.toArray [] z.val) := by
    have h := hB1.out.lay z (qs := []) (n := X1.heap.size) (.nil (Nat.le_refl _) z.below.size) (row_up z hB1.out.box) (fun _ _ => rfl) rfl rfl rfl rfl
    exact h
  have hez := hide (hex.out z)
  have hrz := hide (hr1.out z)
  clear hbl hex hr1
  go_cut [1] (fun u W => u = .pointer (some ⟨w.heap.size, 0, none⟩) ∧ ∃ e', Hid (Box w 50 ((s0.at 0).withE e').cells.toArray noSt.cells.toArray (subEx e') W ∧ stEx e' = stEx e ∧ ExS e'))
  case first =>
    cases b with
    | true =>
      have h0 : Hid (subEx e = []) := hbk9.out rfl
      clear hbk9
      go_wp2_with fail
      go_meet
      case rel =>
        refine ⟨rfl, e, ?_, rfl, HES.out⟩
        rw [h0.out, show (s0.at 0).withE e = s0.at 0 from by rw [HS0.out]; rfl]
        exact hbz.out
    | false =>
      clear hbk9
      go_wp2_with (first | (refine wpList_load_mid rfl 48 (.tmp 9) rfl w.heap.size 15 rfl e.cells _ hrz.out Tryz.underlying48 rfl (by rw [Ex.cells_len]; kernel_rfl) ?_) | (go_at_call 89; refine hez.out.mono ?_; rintro _ _ ⟨y, e', rfl, rfl, hre⟩; have hre9 := hide hre; clear hre; have hth : Hid (y.val.there w.heap.size 15 e'.cellsZ.toArray.size) := hbz.out.there y 15 _ (by rw [List.size_toArray, List.size_toArray, St.cells_len, Ex.cellsZ_len]; decide)) | (refine wpList_store_mid rfl 48 (.tmp 12) (.tmp 11) rfl w.heap.size 15 e'.cellsZ.toArray rfl rfl hth.out (by rw [List.size_toArray, Ex.cellsZ_len]; kernel_rfl) (all_oneCell_toArray (bareEx_oneZ e')) ?_))
      go_meet
      case rel =>
        obtain ⟨r1, r2, r3⟩ := hre9.out
        exact ⟨rfl, e', hbz.out.cells y r3 15 e'.cells (by rw [List.size_toArray, St.cells_len, Ex.cells_len]; decide) _ (by rw [Ex.cells_len]; exact St.lay15 _ _), r1, r2⟩
  case rest =>
    obtain ⟨rfl, e', hbx⟩ := hcut
    clear hbz hez hrz hbk9 hB1
    rw [show (s0.at 0).withE e' = St.mk kd sx sy sname ty e' aA ac args bA bc body lA lc els 0 from by rw [HS0.out]; rfl] at hbx
    obtain ⟨c19, f19⟩ := hbx.out.1.cell (Ext.here wc) (j := 19) (u := .slice aA args.length ac) (by rw [List.getElem?_toArray]; exact St.get19 _)
    simp only [Ext.here] at c19 f19
    have ha9 := HA.out wc hbx.out.1.below
    unfold GivesBare at ha9
    have HA9 := hide ha9
    clear ha9 HA
    go_upto_region 5 with (go_at_call 90; refine HA9.out.mono ?_; rintro _ _ ⟨rfl, x, rfl, hbare⟩; have hb9 := hide hbare; clear hbare; obtain ⟨x19, g19⟩ := hbx.out.1.cell x (j := 19) (u := .slice aA args.length ac) (by rw [List.getElem?_toArray]; exact St.get19 _))
    obtain ⟨args', a1, a2, a3, hbox⟩ := step19 hbx.out.1 x hb9.out
    obtain ⟨X4, hX4⟩ : ∃ X4, X4 = x.val.setCell ⟨w.heap.size, 19, none⟩ (.slice (some ⟨wc.heap.size, 0, none⟩) args.length args.length) := ⟨_, rfl⟩
    rw [← hX4] at hbox ⊢
    have hbx4 := hide hbox
    have HAR := hide (And.intro a1 (And.intro a2 (And.intro a3 hbx.out.2)))
    obtain ⟨gA, hgA⟩ : ∃ gA, gA = wc.heap.size := ⟨_, rfl⟩
    rw [← hgA] at hbx4
    clear hX4 hbox a1 a2 a3 c19 f19 x19 g19 HA9 hb9 hbx x hgA
    obtain ⟨c20, f20⟩ := hbx4.out.cell (Ext.here X4) (j := 20) (u := .slice bA body.length bc) (by rw [List.getElem?_toArray]; exact St.at20 _)
    simp only [Ext.here] at c20 f20
    have hb9 := HBo.out X4 hbx4.out.below
    unfold GivesBare at hb9
    have HB9 := hide hb9
    clear hb9 HBo
    go_upto_region 6 with (go_at_call 73; refine HB9.out.mono ?_; rintro _ _ ⟨rfl, x, rfl, hbare⟩; have hb9 := hide hbare; clear hbare; obtain ⟨x20, g20⟩ := hbx4.out.cell x (j := 20) (u := .slice bA body.length bc) (by rw [List.getElem?_toArray]; exact St.at20 _))
    obtain ⟨body', b1, b2, b3, hbox⟩ := step20 hbx4.out x hb9.out
    obtain ⟨X5, hX5⟩ : ∃ X5, X5 = x.val.setCell ⟨w.heap.size, 20, none⟩ (.slice (some ⟨X4.heap.size, 0, none⟩) body.length body.length) := ⟨_, rfl⟩
    rw [← hX5] at hbox ⊢
    have hbx5 := hide hbox
    have HBD := hide (And.intro b1 (And.intro b2 b3))
    obtain ⟨gB, hgB⟩ : ∃ gB, gB = X4.heap.size := ⟨_, rfl⟩
    rw [← hgB] at hbx5
    clear hX5 hbox b1 b2 b3 c20 f20 x20 g20 HB9 hb9 hbx4 x hgB
    obtain ⟨c21, f21⟩ := hbx5.out.cell (Ext.here X5) (j := 21) (u := .slice lA els.length lc) (by rw [List.getElem?_toArray]; exact St.at21 _)
    simp only [Ext.here] at c21 f21
    have hb9 := HEl.out X5 hbx5.out.below
    unfold GivesBare at hb9
    have HB9 := hide hb9
    clear hb9 HEl
    go_upto_region 7 with (go_at_call 73; refine HB9.out.mono ?_; rintro _ _ ⟨rfl, x, rfl, hbare⟩; have hb9 := hide hbare; clear hbare; obtain ⟨x21, g21⟩ := hbx5.out.cell x (j := 21) (u := .slice lA els.length lc) (by rw [List.getElem?_toArray]; exact St.at21 _))
    obtain ⟨els', e1, e2, e3, hbox⟩ := step21 hbx5.out x hb9.out
    obtain ⟨X6, hX6⟩ : ∃ X6, X6 = x.val.setCell ⟨w.heap.size, 21, none⟩ (.slice (some ⟨X5.heap.size, 0, none⟩) els.length els.length) := ⟨_, rfl⟩
    rw [← hX6] at hbox ⊢
    obtain ⟨gE, hgE⟩ : ∃ gE, gE = X5.heap.size := ⟨_, rfl⟩
    rw [← hgE] at hbox
    obtain ⟨s', hs'⟩ : ∃ s', s' = St.mk kd sx sy sname ty e' (some ⟨gA, 0, none⟩) args'.length args' (some ⟨gB, 0, none⟩) body'.length body' (some ⟨gE, 0, none⟩) els'.length els' pos := ⟨_, rfl⟩
    have hz : St.mk kd sx sy sname ty e' (some ⟨gA, 0, none⟩) args'.length args' (some ⟨gB, 0, none⟩) body'.length body' (some ⟨gE, 0, none⟩) els'.length els' 0 = s'.at 0 := by rw [hs']; rfl
    rw [hz] at hbox
    obtain ⟨f1, f2, f3, f4⟩ := hbox.fill (vs := s'.cellsZ) (by rw [St.cellsZ_len, List.size_toArray, St.cells_len])
    have hbb : X6.heap[w.heap.size]? = some (.cells s'.cellsZ.toArray 50 (0, 0)) := hbox.box
    have hb6 := hide hbb
    have hth := hide f1
    have hrow := hide f2
    have HR : Hid (RSt s0 s' w.heap.size (X6.setCells (w.heap.size + 1) 0 s'.cellsZ).heap.size (X6.setCells (w.heap.size + 1) 0 s'.cellsZ) ∧ Below w.heap.size w (X6.setCells (w.heap.size + 1) 0 s'.cellsZ)) := by
      obtain ⟨a1, a2, a3, q1, q2⟩ := HAR.out
      obtain ⟨b1, b2, b3⟩ := HBD.out
      obtain ⟨⟨k1, k2⟩, ⟨k3, k4⟩, ⟨k5, k6⟩, k7⟩ := HK.out
      refine ⟨⟨?_, ?_, ?_⟩, f3⟩
      · rw [HS0.out, stSt, ← q1, ← a2, ← b2, ← e2, hs', stSt]
      · have hS : StS (St.mk kd sx sy sname ty e' (some ⟨gA, 0, none⟩) args'.length args' (some ⟨gB, 0, none⟩) body'.length body' (some ⟨gE, 0, none⟩) els'.length els' pos) := .mk q2 (fun _ => ⟨_, _, rfl⟩) (Nat.le_refl _) (by omega) a3 (fun _ => ⟨_, _, rfl⟩) (Nat.le_refl _) (by omega) b3 (fun _ => ⟨_, _, rfl⟩) (Nat.le_refl _) (by omega) e3 k7
        rw [hs']; exact hS
      · have hsub : subSt s' = subEx e' ++ rwExs (some ⟨gA, 0, none⟩) args' ++ rwSts (some ⟨gB, 0, none⟩) body' ++ rwSts (some ⟨gE, 0, none⟩) els' := by
          rw [hs', subSt]
          simp only [rwExs, rwSts, List.append_assoc]
        rw [hsub]
        exact f4
    clear hX6 hbox e1 e2 e3 c21 f21 x21 g21 HB9 hb9 hbx5 x hgE hs' hz f1 f2 f3 f4 hbb HAR HBD
    go_wp2_with (first | (refine wpList_load_row rfl 50 (.tmp 1) rfl w.heap.size rfl 50 s'.cellsZ.toArray (0, 0) _ hb6.out Tryz.underlying50 rfl (by rw [List.size_toArray, St.cellsZ_len]; kernel_rfl) ?_) | (refine wpList_store_mid rfl 50 (.tmp 2) (.tmp 25) rfl (w.heap.size + 1) 0 s'.cellsZ.toArray rfl rfl hth.out (by rw [List.size_toArray, St.cellsZ_len]; kernel_rfl) (all_oneCell_toArray (bareSt_oneZ s')) ?_))
    refine bodyPost_ret (v := .agg s'.cellsZ.toArray) (results_cell_row (p := 2) (ty := 50) Tryz.results74 _ _ (w.heap.size + 1) 50 _ (0, 0) _ rfl hrow.out Tryz.underlying50 rfl (by rw [List.size_toArray, St.cellsZ_len]; kernel_rfl)) rfl ?_
    exact ⟨⟨X6.setCells (w.heap.size + 1) 0 s'.cellsZ, HR.out.2⟩, s', rfl, rfl, HR.out.1⟩

theorem bareStmt_any : ∀ (s : St) (w : World), StIn w s → s.fw ≤ 1048576 → GivesOne Tryz.prog 74 St.cells St.cellsZ RSt s w := fun s w h hf =>
  bareStmt_step s w h hf fun t ht W h1 h2 =>
    have h3 : SizeOf.sizeOf t < SizeOf.sizeOf s := by
      rcases ht with ht | ht
      · have h3 := List.sizeOf_lt_of_mem ht; have h4 := s.body_size; omega
      · have h3 := List.sizeOf_lt_of_mem ht; have h4 := s.els_size; omega
    bareStmt_any t W h1 h2
termination_by s => SizeOf.sizeOf s
end Go.Proofs.YtmpdmelkbemabaaGreat
set_option linter.unusedSimpArgs false
set_option linter.unusedVariables false
namespace Go.Proofs.YtmpdmelkbemabaaGreat
open Go.RowKit Go.Proofs.Grow

theorem Me.set16 (m : Me) (p : Int) : m.cells.toArray.setIfInBounds 16 (.int .i64 p) = ({ m with pos := p } : Me).cells.toArray := rfl
theorem Me.set13 (m : Me) (A : Option Addr) (c : Nat) (l : List Va) : m.cells.toArray.setIfInBounds 13 (.slice A l.length c) = ({ m with pA := A, pc := c, params := l } : Me).cells.toArray := rfl
theorem Me.set14 (m : Me) (A : Option Addr) (c : Nat) (l : List Va) : m.cells.toArray.setIfInBounds 14 (.slice A l.length c) = ({ m with lA := A, lc := c, locals := l } : Me).cells.toArray := rfl
theorem Me.set15 (m : Me) (A : Option Addr) (c : Nat) (l : List St) : m.cells.toArray.setIfInBounds 15 (.slice A l.length c) = ({ m with bA := A, bc := c, body := l } : Me).cells.toArray := rfl
theorem Cl.set6 (m : Cl) (p : Int) : m.cells.toArray.setIfInBounds 6 (.int .i64 p) = ({ m with pos := p } : Cl).cells.toArray := rfl
theorem Cl.set1 (m : Cl) (A : Option Addr) (c : Nat) (l : List ByteArray) : m.cells.toArray.setIfInBounds 1 (.slice A l.length c) = ({ m with pA := A, pc := c, params := l } : Cl).cells.toArray := rfl
theorem Cl.set3 (m : Cl) (A : Option Addr) (c : Nat) (l : List Ow) : m.cells.toArray.setIfInBounds 3 (.slice A l.length c) = ({ m with aA := A, ac := c, above := l } : Cl).cells.toArray := rfl
theorem Cl.set4 (m : Cl) (A : Option Addr) (c : Nat) (l : List Va) : m.cells.toArray.setIfInBounds 4 (.slice A l.length c) = ({ m with fA := A, fc := c, fields := l } : Cl).cells.toArray := rfl
theorem Cl.set5 (m : Cl) (A : Option Addr) (c : Nat) (l : List Me) : m.cells.toArray.setIfInBounds 5 (.slice A l.length c) = ({ m with mA := A, mc := c, methods := l } : Cl).cells.toArray := rfl

section
variable {w X : World} {T t : TypeId} {zs : Array Value} {rs : List Rw} {m : Me} {k : Cl}
theorem stepM13 (h : Box w T m.cells.toArray zs rs X) (x : Ext X) (hb : BareIn RVa t Va.cellsZ m.params X.heap.size x.val) :
    Box w T ({ m with pA := some ⟨X.heap.size, 0, none⟩, pc := m.params.length } : Me).cells.toArray zs (rs ++ rwVas (some ⟨X.heap.size, 0, none⟩) m.params) (x.val.setCell ⟨w.heap.size, 13, none⟩ (.slice (some ⟨X.heap.size, 0, none⟩) m.params.length m.params.length)) := by
  obtain ⟨n, q⟩ := hb.vas
  exact h.next x q 13 _
theorem stepM14 (h : Box w T m.cells.toArray zs rs X) (x : Ext X) (hb : BareIn RVa t Va.cellsZ m.locals X.heap.size x.val) :
    Box w T ({ m with lA := some ⟨X.heap.size, 0, none⟩, lc := m.locals.length } : Me).cells.toArray zs (rs ++ rwVas (some ⟨X.heap.size, 0, none⟩) m.locals) (x.val.setCell ⟨w.heap.size, 14, none⟩ (.slice (some ⟨X.heap.size, 0, none⟩) m.locals.length m.locals.length)) := by
  obtain ⟨n, q⟩ := hb.vas
  exact h.next x q 14 _
theorem stepM15 (h : Box w T m.cells.toArray zs rs X) (x : Ext X) (hb : BareIn RSt t St.cellsZ m.body X.heap.size x.val) :
    ∃ l', l'.length = m.body.length ∧ stSts l' = stSts m.body ∧ (∀ a ∈ l', StS a) ∧ Box w T ({ m with bA := some ⟨X.heap.size, 0, none⟩, bc := l'.length, body := l' } : Me).cells.toArray zs (rs ++ rwSts (some ⟨X.heap.size, 0, none⟩) l') (x.val.setCell ⟨w.heap.size, 15, none⟩ (.slice (some ⟨X.heap.size, 0, none⟩) m.body.length m.body.length)) := by
  obtain ⟨l', n, q1, q2, q3, q4⟩ := hb.sts
  refine ⟨l', q1, q2, q3, ?_⟩
  have hn := h.next x q4 15 (.slice (some ⟨X.heap.size, 0, none⟩) l'.length l'.length)
  rw [Me.set15, q1] at hn
  rw [q1]
  exact hn
theorem stepC1 (h : Box w T k.cells.toArray zs rs X) (x : Ext X) {A : Option Addr} {c : Nat} (hq : Grow.RowsIn (rowsAt (bkA A) (ofA A) 1 (k.params.map .str)) X.heap.size x.val.heap.size x.val) :
    Box w T ({ k with pA := A, pc := c } : Cl).cells.toArray zs (rs ++ rowsAt (bkA A) (ofA A) 1 (k.params.map .str)) (x.val.setCell ⟨w.heap.size, 1, none⟩ (.slice A k.params.length c)) := h.next x hq 1 _
theorem stepC3 (h : Box w T k.cells.toArray zs rs X) (x : Ext X) {A : Option Addr} {c : Nat} (hq : Grow.RowsIn (rowsAt (bkA A) (ofA A) 2 (k.above.map .ow)) X.heap.size x.val.heap.size x.val) :
    Box w T ({ k with aA := A, ac := c } : Cl).cells.toArray zs (rs ++ rowsAt (bkA A) (ofA A) 2 (k.above.map .ow)) (x.val.setCell ⟨w.heap.size, 3, none⟩ (.slice A k.above.length c)) := h.next x hq 3 _
theorem stepC4 (h : Box w T k.cells.toArray zs rs X) (x : Ext X) (hb : BareIn RVa t Va.cellsZ k.fields X.heap.size x.val) :
    Box w T ({ k with fA := some ⟨X.heap.size, 0, none⟩, fc := k.fields.length } : Cl).cells.toArray zs (rs ++ rwVas (some ⟨X.heap.size, 0, none⟩) k.fields) (x.val.setCell ⟨w.heap.size, 4, none⟩ (.slice (some ⟨X.heap.size, 0, none⟩) k.fields.length k.fields.length)) := by
  obtain ⟨n, q⟩ := hb.vas
  exact h.next x q 4 _
theorem stepC5 (h : Box w T k.cells.toArray zs rs X) (x : Ext X) (hb : BareIn RMe t Me.cellsZ k.methods X.heap.size x.val) :
    ∃ l', l'.length = k.methods.length ∧ l'.map stMe = k.methods.map stMe ∧ (∀ a ∈ l', MeS a) ∧ Box w T ({ k with mA := some ⟨X.heap.size, 0, none⟩, mc := l'.length, methods := l' } : Cl).cells.toArray zs (rs ++ rwMes (some ⟨X.heap.size, 0, none⟩) l') (x.val.setCell ⟨w.heap.size, 5, none⟩ (.slice (some ⟨X.heap.size, 0, none⟩) k.methods.length k.methods.length)) := by
  obtain ⟨l', n, q1, q2, q3, q4⟩ := hb.mes
  refine ⟨l', q1, q2, q3, ?_⟩
  have hn := h.next x q4 5 (.slice (some ⟨X.heap.size, 0, none⟩) l'.length l'.length)
  rw [Cl.set5, q1] at hn
  rw [q1]
  exact hn
end

set_option maxHeartbeats 4000000 in
set_option maxRecDepth 100000 in
theorem bareMethod_any (m : Me) (w : World) (hin : MeIn w m) (hfw : m.fw ≤ 1048576) : GivesOne Tryz.prog 63 Me.cells Me.cellsZ RMe m w := by
  unfold GivesOne
  unfold Me.fw at hfw
  have n3 := stFw_len m.body
  have HP : Hid (∀ W, Below w.heap.size w W → GivesBare Tryz.prog 60 #[.slice m.pA m.params.length m.pc, .func (.func 61) #[] #[]] RVa 78 Va.cellsZ m.params W) := fun W hW => by
    obtain ⟨x, rfl⟩ := Ext.of hW
    exact bareLVa_any RVa RVa.local_ x.val m.pA m.pc m.params (hin.params.ext x) (by omega) fun t ht W2 hW2 => bareVar_any t W2
  have HL : Hid (∀ W, Below w.heap.size w W → GivesBare Tryz.prog 60 #[.slice m.lA m.locals.length m.lc, .func (.func 61) #[] #[]] RVa 78 Va.cellsZ m.locals W) := fun W hW => by
    obtain ⟨x, rfl⟩ := Ext.of hW
    exact bareLVa_any RVa RVa.local_ x.val m.lA m.lc m.locals (hin.locals.ext x) (by omega) fun t ht W2 hW2 => bareVar_any t W2
  have HBo : Hid (∀ W, Below w.heap.size w W → GivesBare Tryz.prog 73 #[.slice m.bA m.body.length m.bc, .func (.func 74) #[] #[]] RSt 50 St.cellsZ m.body W) := fun W hW => by
    obtain ⟨x, rfl⟩ := Ext.of hW
    exact bareLSt_any RSt RSt.local_ x.val m.bA m.bc m.body (hin.body.ext x) (by omega) fun t ht W2 hW2 => by
      obtain ⟨y, rfl⟩ := Ext.of hW2
      exact bareStmt_any t _ (((hin.stmts t ht).ext x).ext y) (by have := stFw_has ht; omega)
  have HK : Hid (m.params.length ≤ maxLen ∧ m.locals.length ≤ maxLen ∧ m.body.length ≤ maxLen) := ⟨by unfold maxLen; omega, by unfold maxLen; omega, by unfold maxLen; omega⟩
  clear hin hfw n3
  go_enter Tryz.func63, Tryz.ntmps63
  go_upto_region 1 with fail
  have hbx0 := Box.start w 43 m.cells.toArray noMe.cells.toArray
  obtain ⟨X0, hX0⟩ : ∃ X0, X0 = (w.alloc (.cells m.cells.toArray 43)).alloc (.cells noMe.cells.toArray 43) := ⟨_, rfl⟩
  change Code.wp _ _ _ _ ((w.alloc (.cells m.cells.toArray 43)).alloc (.cells noMe.cells.toArray 43))
  rw [← hX0] at hbx0 ⊢
  clear hX0
  have hB0 := hide hbx0
  obtain ⟨x16, g16⟩ := hbx0.cell (Ext.here X0) (j := 16) (u := .int .i64 m.pos) rfl
  simp only [Ext.here] at x16 g16
  clear hbx0
  go_upto_region 2 with fail
  have hbx1 := hB0.out.set 16 (.int .i64 0)
  rw [Me.set16] at hbx1
  obtain ⟨X1, hX1⟩ : ∃ X1, X1 = X0.setCell ⟨w.heap.size, 16, none⟩ (.int .i64 0) := ⟨_, rfl⟩
  rw [← hX1] at hbx1 ⊢
  clear hX1 x16 g16 hB0
  have hB1 := hide hbx1
  obtain ⟨c13, f13⟩ := hbx1.cell (Ext.here X1) (j := 13) (u := .slice m.pA m.params.length m.pc) rfl
  simp only [Ext.here] at c13 f13
  have hp9 := HP.out X1 hbx1.below
  unfold GivesBare at hp9
  have HP9 := hide hp9
  clear hbx1 hp9 HP
  go_upto_region 3 with (go_at_call 60; refine HP9.out.mono ?_; rintro _ _ ⟨rfl, x, rfl, hbare⟩; have hb9 := hide hbare; clear hbare; obtain ⟨x13, g13⟩ := hB1.out.cell x (j := 13) (u := .slice m.pA m.params.length m.pc) rfl)
  have hbx2 := stepM13 hB1.out x hb9.out
  obtain ⟨X2, hX2⟩ : ∃ X2, X2 = x.val.setCell ⟨w.heap.size, 13, none⟩ (.slice (some ⟨X1.heap.size, 0, none⟩) m.params.length m.params.length) := ⟨_, rfl⟩
  rw [← hX2] at hbx2 ⊢
  obtain ⟨gP, hgP⟩ : ∃ gP, gP = X1.heap.size := ⟨_, rfl⟩
  rw [← hgP] at hbx2
  have hB2 := hide hbx2
  clear hX2 c13 f13 x13 g13 HP9 hb9 hB1 x hgP
  obtain ⟨c14, f14⟩ := hbx2.cell (Ext.here X2) (j := 14) (u := .slice m.lA m.locals.length m.lc) rfl
  simp only [Ext.here] at c14 f14
  have hp9 := HL.out X2 hbx2.below
  unfold GivesBare at hp9
  have HP9 := hide hp9
  clear hbx2 hp9 HL
  go_upto_region 4 with (go_at_call 60; refine HP9.out.mono ?_; rintro _ _ ⟨rfl, x, rfl, hbare⟩; have hb9 := hide hbare; clear hbare; obtain ⟨x14, g14⟩ := hB2.out.cell x (j := 14) (u := .slice m.lA m.locals.length m.lc) rfl)
  have hbx3 := stepM14 hB2.out x hb9.out
  obtain ⟨X3, hX3⟩ : ∃ X3, X3 = x.val.setCell ⟨w.heap.size, 14, none⟩ (.slice (some ⟨X2.heap.size, 0, none⟩) m.locals.length m.locals.length) := ⟨_, rfl⟩
  change Box _ _ _ _ _ (x.val.setCell ⟨w.heap.size, 14, none⟩ (.slice (some ⟨X2.heap.size, 0, none⟩) m.locals.length m.locals.length)) at hbx3
  rw [← hX3] at hbx3 ⊢
  obtain ⟨gL, hgL⟩ : ∃ gL, gL = X2.heap.size := ⟨_, rfl⟩
  rw [← hgL] at hbx3
  have hB3 := hide hbx3
  clear hX3 c14 f14 x14 g14 HP9 hb9 hB2 x hgL
  obtain ⟨c15, f15⟩ := hbx3.cell (Ext.here X3) (j := 15) (u := .slice m.bA m.body.length m.bc) rfl
  simp only [Ext.here] at c15 f15
  have hp9 := HBo.out X3 hbx3.below
  unfold GivesBare at hp9
  have HP9 := hide hp9
  clear hbx3 hp9 HBo
  go_upto_region 5 with (go_at_call 73; refine HP9.out.mono ?_; rintro _ _ ⟨rfl, x, rfl, hbare⟩; have hb9 := hide hbare; clear hbare; obtain ⟨x15, g15⟩ := hB3.out.cell x (j := 15) (u := .slice m.bA m.body.length m.bc) rfl)
  obtain ⟨body', b1, b2, b3, hbox⟩ := stepM15 hB3.out x hb9.out
  obtain ⟨X4, hX4⟩ : ∃ X4, X4 = x.val.setCell ⟨w.heap.size, 15, none⟩ (.slice (some ⟨X3.heap.size, 0, none⟩) m.body.length m.body.length) := ⟨_, rfl⟩
  change Box _ _ _ _ _ (x.val.setCell ⟨w.heap.size, 15, none⟩ (.slice (some ⟨X3.heap.size, 0, none⟩) m.body.length m.body.length)) at hbox
  rw [← hX4] at hbox ⊢
  obtain ⟨gB, hgB⟩ : ∃ gB, gB = X3.heap.size := ⟨_, rfl⟩
  rw [← hgB] at hbox
  obtain ⟨m', hm'⟩ : ∃ m', m' = ({ m with pA := some ⟨gP, 0, none⟩, pc := m.params.length, lA := some ⟨gL, 0, none⟩, lc := m.locals.length, bA := some ⟨gB, 0, none⟩, bc := body'.length, body := body' } : Me) := ⟨_, rfl⟩
  have hbox2 : Box w 43 m'.cellsZ.toArray noMe.cells.toArray (subMe m') X4 := by
    rw [hm']
    simp only [List.nil_append, List.append_assoc] at hbox
    exact hbox
  obtain ⟨f1, f2, f3, f4⟩ := hbox2.fill (vs := m'.cellsZ) rfl
  have hb6 := hide hbox2.box
  have hth := hide f1
  have hrow := hide f2
  have HR : Hid (RMe m m' w.heap.size (X4.setCells (w.heap.size + 1) 0 m'.cellsZ).heap.size (X4.setCells (w.heap.size + 1) 0 m'.cellsZ) ∧ Below w.heap.size w (X4.setCells (w.heap.size + 1) 0 m'.cellsZ)) := by
    obtain ⟨k1, k2, k3⟩ := HK.out
    refine ⟨⟨?_, ?_, f4⟩, f3⟩
    · rw [hm']; unfold stMe; rw [b2]
    · have hS : MeS ({ m with pA := some ⟨gP, 0, none⟩, pc := m.params.length, lA := some ⟨gL, 0, none⟩, lc := m.locals.length, bA := some ⟨gB, 0, none⟩, bc := body'.length, body := body' } : Me) :=
        ⟨fun _ => ⟨_, _, rfl⟩, Nat.le_refl _, k1, fun _ => ⟨_, _, rfl⟩, Nat.le_refl _, k2, fun _ => ⟨_, _, rfl⟩, Nat.le_refl _, by show body'.length ≤ _; rw [b1]; exact k3, b3⟩
      rw [hm']; exact hS
  clear hX4 hbox b1 b2 b3 c15 f15 x15 g15 HP9 hb9 hB3 x hgB hm' f1 f2 f3 f4 hbox2
  go_wp2_with (first | (refine wpList_load_row rfl 43 (.tmp 1) rfl w.heap.size rfl 43 m'.cellsZ.toArray (0, 0) _ hb6.out Tryz.underlying43 rfl (by rw [List.size_toArray, Me.cellsZ_len]; kernel_rfl) ?_) | (refine wpList_store_mid rfl 43 (.tmp 2) (.tmp 16) rfl (w.heap.size + 1) 0 m'.cellsZ.toArray rfl rfl hth.out (by rw [List.size_toArray, Me.cellsZ_len]; kernel_rfl) (all_oneCell_toArray (bareMe_oneZ m')) ?_))
  refine bodyPost_ret (v := .agg m'.cellsZ.toArray) (results_cell_row (p := 2) (ty := 43) Tryz.results63 _ _ (w.heap.size + 1) 43 _ (0, 0) _ rfl hrow.out Tryz.underlying43 rfl (by rw [List.size_toArray, Me.cellsZ_len]; kernel_rfl)) rfl ?_
  exact ⟨⟨X4.setCells (w.heap.size + 1) 0 m'.cellsZ, HR.out.2⟩, m', rfl, rfl, HR.out.1⟩
theorem Me.fw_pos (m : Me) : 0 < m.fw := by unfold Me.fw; omega

set_option maxHeartbeats 4000000 in
set_option maxRecDepth 100000 in
theorem bareClass_any (m : Cl) (w : World) (hin : ClIn w m) (hfw : m.fw ≤ 1048576) : GivesOne Tryz.prog 47 Cl.cells Cl.cellsZ RCl m w := by
  unfold GivesOne
  unfold Cl.fw at hfw
  have n3 := sum_len Me.fw Me.fw_pos m.methods
  have HS : Hid (∀ W, Below w.heap.size w W → Calls Tryz.prog 58 #[.slice m.pA m.params.length m.pc] W fun e w' => ∃ v, e = .returned v ∧ ∃ x : Ext W, w' = x.val ∧ Cloned .str 1 m.params W.heap.size v x.val) := fun W hW => by
    obtain ⟨x, rfl⟩ := Ext.of hW
    exact cloneStr_any m.pA m.pc m.params x.val (hin.params.ext x) (by omega)
  have HO : Hid (∀ W, Below w.heap.size w W → Calls Tryz.prog 59 #[.slice m.aA m.above.length m.ac] W fun e w' => ∃ v, e = .returned v ∧ ∃ x : Ext W, w' = x.val ∧ Cloned .ow 2 m.above W.heap.size v x.val) := fun W hW => by
    obtain ⟨x, rfl⟩ := Ext.of hW
    exact cloneOw_any m.aA m.ac m.above x.val (hin.above.ext x) (by omega)
  have HP : Hid (∀ W, Below w.heap.size w W → GivesBare Tryz.prog 60 #[.slice m.fA m.fields.length m.fc, .func (.func 61) #[] #[]] RVa 78 Va.cellsZ m.fields W) := fun W hW => by
    obtain ⟨x, rfl⟩ := Ext.of hW
    exact bareLVa_any RVa RVa.local_ x.val m.fA m.fc m.fields (hin.fields.ext x) (by omega) fun t ht W2 hW2 => bareVar_any t W2
  have HM : Hid (∀ W, Below w.heap.size w W → GivesBare Tryz.prog 62 #[.slice m.mA m.methods.length m.mc, .func (.func 63) #[] #[]] RMe 43 Me.cellsZ m.methods W) := fun W hW => by
    obtain ⟨x, rfl⟩ := Ext.of hW
    exact bareLMe_any RMe RMe.local_ x.val m.mA m.mc m.methods (hin.methods.ext x) (by omega) fun t ht W2 hW2 => by
      obtain ⟨y, rfl⟩ := Ext.of hW2
      exact bareMethod_any t _ (((hin.each t ht).ext x).ext y) (by have := sum_has Me.fw ht; omega)
  have HK : Hid (m.fields.length ≤ maxLen ∧ m.methods.length ≤ maxLen) := ⟨by unfold maxLen; omega, by unfold maxLen; omega⟩
  clear hin hfw n3
  go_enter Tryz.func47, Tryz.ntmps47
  go_upto_region 1 with fail
  have hbx0 := Box.start w 35 m.cells.toArray noCl.cells.toArray
  obtain ⟨X0, hX0⟩ : ∃ X0, X0 = (w.alloc (.cells m.cells.toArray 35)).alloc (.cells noCl.cells.toArray 35) := ⟨_, rfl⟩
  change Code.wp _ _ _ _ ((w.alloc (.cells m.cells.toArray 35)).alloc (.cells noCl.cells.toArray 35))
  rw [← hX0] at hbx0 ⊢
  clear hX0
  have hB0 := hide hbx0
  obtain ⟨x6, g6⟩ := hbx0.cell (Ext.here X0) (j := 6) (u := .int .i64 m.pos) rfl
  simp only [Ext.here] at x6 g6
  clear hbx0
  go_upto_region 2 with fail
  have hbx1 := hB0.out.set 6 (.int .i64 0)
  rw [Cl.set6] at hbx1
  obtain ⟨X1, hX1⟩ : ∃ X1, X1 = X0.setCell ⟨w.heap.size, 6, none⟩ (.int .i64 0) := ⟨_, rfl⟩
  rw [← hX1] at hbx1 ⊢
  clear hX1 x6 g6 hB0
  have hB1 := hide hbx1
  obtain ⟨c1, f1⟩ := hbx1.cell (Ext.here X1) (j := 1) (u := .slice m.pA m.params.length m.pc) rfl
  simp only [Ext.here] at c1 f1
  have HP9 := hide (HS.out X1 hbx1.below)
  clear hbx1 HS
  go_upto_region 3 with (go_at_call 58; refine HP9.out.mono ?_; rintro _ _ ⟨_, rfl, x, rfl, pA, pc, rfl, p1, p2, p3, p4⟩; have hb9 := hide (And.intro p1 (And.intro p2 (And.intro p3 p4))); clear p1 p2 p3 p4; obtain ⟨y1, g1⟩ := hB1.out.cell x (j := 1) (u := .slice m.pA m.params.length m.pc) rfl)
  have hbx2 := stepC1 hB1.out x (c := pc) hb9.out.2.2.2
  obtain ⟨X2, hX2⟩ : ∃ X2, X2 = x.val.setCell ⟨w.heap.size, 1, none⟩ (.slice pA m.params.length pc) := ⟨_, rfl⟩
  change Box _ _ _ _ _ (x.val.setCell ⟨w.heap.size, 1, none⟩ (.slice pA m.params.length pc)) at hbx2
  rw [← hX2] at hbx2 ⊢
  have HPA := hide (And.intro hb9.out.1 (And.intro hb9.out.2.1 hb9.out.2.2.1))
  have hB2 := hide hbx2
  clear hX2 c1 f1 y1 g1 HP9 hb9 hB1 x
  obtain ⟨c3, f3⟩ := hbx2.cell (Ext.here X2) (j := 3) (u := .slice m.aA m.above.length m.ac) rfl
  simp only [Ext.here] at c3 f3
  have HP9 := hide (HO.out X2 hbx2.below)
  clear hbx2 HO
  go_upto_region 4 with (go_at_call 59; refine HP9.out.mono ?_; rintro _ _ ⟨_, rfl, x, rfl, aA, ac, rfl, p1, p2, p3, p4⟩; have hb9 := hide (And.intro p1 (And.intro p2 (And.intro p3 p4))); clear p1 p2 p3 p4; obtain ⟨y3, g3⟩ := hB2.out.cell x (j := 3) (u := .slice m.aA m.above.length m.ac) rfl)
  have hbx3 := stepC3 hB2.out x (c := ac) hb9.out.2.2.2
  obtain ⟨X3, hX3⟩ : ∃ X3, X3 = x.val.setCell ⟨w.heap.size, 3, none⟩ (.slice aA m.above.length ac) := ⟨_, rfl⟩
  change Box _ _ _ _ _ (x.val.setCell ⟨w.heap.size, 3, none⟩ (.slice aA m.above.length ac)) at hbx3
  rw [← hX3] at hbx3 ⊢
  have HAA := hide (And.intro hb9.out.1 (And.intro hb9.out.2.1 hb9.out.2.2.1))
  have hB3 := hide hbx3
  clear hX3 c3 f3 y3 g3 HP9 hb9 hB2 x
  obtain ⟨c4, f4⟩ := hbx3.cell (Ext.here X3) (j := 4) (u := .slice m.fA m.fields.length m.fc) rfl
  simp only [Ext.here] at c4 f4
  have hp9 := HP.out X3 hbx3.below
  unfold GivesBare at hp9
  have HP9 := hide hp9
  clear hbx3 hp9 HP
  go_upto_region 5 with (go_at_call 60; refine HP9.out.mono ?_; rintro _ _ ⟨rfl, x, rfl, hbare⟩; have hb9 := hide hbare; clear hbare; obtain ⟨y4, g4⟩ := hB3.out.cell x (j := 4) (u := .slice m.fA m.fields.length m.fc) rfl)
  have hbx4 := stepC4 hB3.out x hb9.out
  obtain ⟨X4, hX4⟩ : ∃ X4, X4 = x.val.setCell ⟨w.heap.size, 4, none⟩ (.slice (some ⟨X3.heap.size, 0, none⟩) m.fields.length m.fields.length) := ⟨_, rfl⟩
  change Box _ _ _ _ _ (x.val.setCell ⟨w.heap.size, 4, none⟩ (.slice (some ⟨X3.heap.size, 0, none⟩) m.fields.length m.fields.length)) at hbx4
  rw [← hX4] at hbx4 ⊢
  obtain ⟨gF, hgF⟩ : ∃ gF, gF = X3.heap.size := ⟨_, rfl⟩
  rw [← hgF] at hbx4
  have hB4 := hide hbx4
  clear hX4 c4 f4 y4 g4 HP9 hb9 hB3 x hgF
  obtain ⟨c5, f5⟩ := hbx4.cell (Ext.here X4) (j := 5) (u := .slice m.mA m.methods.length m.mc) rfl
  simp only [Ext.here] at c5 f5
  have hp9 := HM.out X4 hbx4.below
  unfold GivesBare at hp9
  have HP9 := hide hp9
  clear hbx4 hp9 HM
  go_upto_region 6 with (go_at_call 62; refine HP9.out.mono ?_; rintro _ _ ⟨rfl, x, rfl, hbare⟩; have hb9 := hide hbare; clear hbare; obtain ⟨y5, g5⟩ := hB4.out.cell x (j := 5) (u := .slice m.mA m.methods.length m.mc) rfl)
  obtain ⟨ms', b1, b2, b3, hbox⟩ := stepC5 hB4.out x hb9.out
  obtain ⟨X5, hX5⟩ : ∃ X5, X5 = x.val.setCell ⟨w.heap.size, 5, none⟩ (.slice (some ⟨X4.heap.size, 0, none⟩) m.methods.length m.methods.length) := ⟨_, rfl⟩
  change Box _ _ _ _ _ (x.val.setCell ⟨w.heap.size, 5, none⟩ (.slice (some ⟨X4.heap.size, 0, none⟩) m.methods.length m.methods.length)) at hbox
  rw [← hX5] at hbox ⊢
  obtain ⟨gM, hgM⟩ : ∃ gM, gM = X4.heap.size := ⟨_, rfl⟩
  rw [← hgM] at hbox
  obtain ⟨m', hm'⟩ : ∃ m', m' = ({ m with pA := pA, pc := pc, aA := aA, ac := ac, fA := some ⟨gF, 0, none⟩, fc := m.fields.length, mA := some ⟨gM, 0, none⟩, mc := ms'.length, methods := ms' } : Cl) := ⟨_, rfl⟩
  have hbox2 : Box w 35 m'.cellsZ.toArray noCl.cells.toArray (subCl m') X5 := by
    rw [hm']
    simp only [List.nil_append, List.append_assoc] at hbox
    exact hbox
  obtain ⟨f1, f2, f3, f4⟩ := hbox2.fill (vs := m'.cellsZ) rfl
  have hb6 := hide hbox2.box
  have hth := hide f1
  have hrow := hide f2
  have HR : Hid (RCl m m' w.heap.size (X5.setCells (w.heap.size + 1) 0 m'.cellsZ).heap.size (X5.setCells (w.heap.size + 1) 0 m'.cellsZ) ∧ Below w.heap.size w (X5.setCells (w.heap.size + 1) 0 m'.cellsZ)) := by
    obtain ⟨k1, k2⟩ := HK.out
    refine ⟨⟨?_, ?_, f4⟩, f3⟩
    · rw [hm']; unfold stCl; rw [b2]
    · have hS : ClS ({ m with pA := pA, pc := pc, aA := aA, ac := ac, fA := some ⟨gF, 0, none⟩, fc := m.fields.length, mA := some ⟨gM, 0, none⟩, mc := ms'.length, methods := ms' } : Cl) :=
        ⟨HPA.out.2.2, HPA.out.1, HPA.out.2.1, HAA.out.2.2, HAA.out.1, HAA.out.2.1, fun _ => ⟨_, _, rfl⟩, Nat.le_refl _, k1, fun _ => ⟨_, _, rfl⟩, Nat.le_refl _, by show ms'.length ≤ _; rw [b1]; exact k2, b3⟩
      rw [hm']; exact hS
  clear hX5 hbox b1 b2 b3 c5 f5 y5 g5 HP9 hb9 hB4 x hgM hm' f1 f2 f3 f4 hbox2 HPA HAA
  go_wp2_with (first | (refine wpList_load_row rfl 35 (.tmp 1) rfl w.heap.size rfl 35 m'.cellsZ.toArray (0, 0) _ hb6.out Tryz.underlying35 rfl (by rw [List.size_toArray, Cl.cellsZ_len]; kernel_rfl) ?_) | (refine wpList_store_mid rfl 35 (.tmp 2) (.tmp 20) rfl (w.heap.size + 1) 0 m'.cellsZ.toArray rfl rfl hth.out (by rw [List.size_toArray, Cl.cellsZ_len]; kernel_rfl) (all_oneCell_toArray (bareCl_oneZ m')) ?_))
  refine bodyPost_ret (v := .agg m'.cellsZ.toArray) (results_cell_row (p := 2) (ty := 35) Tryz.results47 _ _ (w.heap.size + 1) 35 _ (0, 0) _ rfl hrow.out Tryz.underlying35 rfl (by rw [List.size_toArray, Cl.cellsZ_len]; kernel_rfl)) rfl ?_
  exact ⟨⟨X5.setCells (w.heap.size + 1) 0 m'.cellsZ, HR.out.2⟩, m', rfl, rfl, HR.out.1⟩

/-- size.Bare: a program of its own. -/
theorem bare_any (A : Option Addr) (c : Nat) (C : List Cl) (w : World) (hl : Lies w 7 Cl.cells A C) (hin : ∀ cl ∈ C, ClIn w cl) (hlen : C.length ≤ 1048576) (hfw : ∀ cl ∈ C, cl.fw ≤ 1048576) :
    GivesBare Tryz.prog 28 #[.slice A C.length c] RCl 35 Cl.cellsZ C w := by
  have h := bareLCl_any RCl RCl.local_ w A c C hl hlen fun t ht W2 hW2 => by
      obtain ⟨y, rfl⟩ := Ext.of hW2
      exact bareClass_any t _ ((hin t ht).ext y) (hfw t ht)
  unfold GivesBare at h ⊢
  have HH := hide h
  clear h hl hin hfw
  go_enter Tryz.func28, Tryz.ntmps28
  go_wp2_with (go_at_call 46; refine HH.out.mono ?_; rintro _ _ ⟨rfl, x, rfl, hb⟩; have hb9 := hide hb; clear hb)
  go_ret
  exact ⟨rfl, x, rfl, hb9.out⟩
end Go.Proofs.YtmpdmelkbemabaaGreat
