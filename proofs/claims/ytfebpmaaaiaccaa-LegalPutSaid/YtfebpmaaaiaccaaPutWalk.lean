/- The walk of LegalPut. -/
import Derived.Test.YtfebpmaaaiaccaaWith
import Derived.Test.YtfebpmaaaiaccaaHoles
import Derived.Test.YtfebpmaaaiaccaaLType
import Derived.Test.YtfebpmaaaiaccaaAwake25
import Derived.Test.YtfebpmaaaiaccaaTwoG
import Derived.BigQuiet
set_option linter.unusedSimpArgs false
set_option linter.unusedVariables false
namespace Go.Proofs.Grow
open Go.RowKit
theorem run_load_mid {P : Program} {W : World} {o : Oper} {a : Act} {x : Operand} {ty : TypeId} {b off : Nat} {cs : List Value} {d : TypeDesc} (ho : o.op = .load ty x) (hx : a.eval x = .pointer (some ⟨b, off, none⟩)) (hc : W.rangeAt b off cs)
    (hu : P.underlying ty = some d) (hd : d.isRow = true) (hi : (P.info? ty).map (·.size) = some cs.length) : (execOp a.eval o).run P W = .ok (.value (.agg cs.toArray)) W := by
  unfold execOp
  simp only [ho, hx, Instr.loadAt, Instr.sureAddr, Sem.run_bind, Sem.run_pure, Result.andThen_ok, run_loadVar_mid W b off ty cs d hc hu hd hi]
theorem setCells_mid {B g : Nat} (h : B ≤ g) {w W : World} (hW : Below B w W) (o : Nat) (vs : List Value) : Below B w (W.setCells g o vs) := hW.trans (setCells_below h vs o W)
end Go.Proofs.Grow
namespace Go.Proofs.Ytfebpmaaaiaccaa
open Go.RowKit Go.Proofs.Grow

/-- A type in a block of its own. -/
def TyAt (W : World) (b : Nat) (t : Ty) : Prop := W.heap[b]? = some (.cells t.cells.toArray 35 (0, 0))
theorem TyAt.ext {W : World} {b : Nat} {t : Ty} (h : TyAt W b t) (x : Ext W) : TyAt x.val b t := (x.below.block _ (row_lt h)).trans h
theorem TyAt.lt {W : World} {b : Nat} {t : Ty} (h : TyAt W b t) : b < W.heap.size := row_lt h
theorem TyAt.cell {W : World} {b : Nat} {t : Ty} (h : TyAt W b t) (j : Nat) (v : Value) (hv : t.cells[j]? = some v) : W.cell? ⟨b, j, none⟩ = some v := (row_cell h hv).1

/-- A zero type's row, filled. -/
theorem TyAt.fill {W : World} {g : Nat} (t : Ty) (h : W.heap[g]? = some (.cells #[.int .i64 0, .string ⟨#[]⟩, .int .i64 0, .int .i64 0, .int .i64 0, .int .i64 0, .int .i64 0, .int .i64 0, .int .i64 0, .int .i64 0, .int .i64 0] 35 (0, 0))) : TyAt (W.setCells g 0 t.cells) g t := by
  obtain ⟨cur', h1, h2⟩ := setCells_row g 35 t.cells 0 W _ h (by rw [Ty.cells_len]; decide)
  have e : cur' = t.cells.toArray := by
    apply Array.toList_inj.1
    rw [h2, Ty.cells_len]
    simp
  rw [e] at h1
  exact h1

def Good (C : List Cl) (t u : Ty) : Prop := typT C t 1 = 0 ∧ typT C u 1 = 0 ∧ t.k = 2 ∧ u.k = 2 ∧ uniqT t = false ∧ uniqT u = false ∧ t.n ≤ 3 ∧ u.n ≤ 3
def GoodIf (C : List Cl) (t u : Ty) (b : Bool) : Prop := b = false → Good C t u

def Ok25 (n : Int) (o : Ow) : Prop := o.k ≠ 1 ∧ (o.k = 3 → 1 ≤ o.n ∧ o.n ≤ n)
def OkTo (t : Ty) (n : Int) (k : Nat) : Prop := ∀ (i : Nat) (o : Ow), i < k → t.own[i]? = some o → Ok25 n o
theorem OkTo.zero {t : Ty} {n : Int} : OkTo t n 0 := fun i o h => absurd h (Nat.not_lt_zero _)
theorem OkTo.succ {t : Ty} {n : Int} {k : Nat} {o : Ow} (h : OkTo t n k) (ho : t.own[k]? = some o) (h2 : Ok25 n o) : OkTo t n (k + 1) := fun i p hi hp => by
  rcases Nat.lt_succ_iff_lt_or_eq.1 hi with h' | rfl
  · exact h i p h' hp
  · rw [ho] at hp; cases hp; exact h2

theorem ok_all {C : List Cl} {t u : Ty} {k : Nat} (hG : Good C t u) (h : OkTo t u.n k) (hk : t.n < k) : typT C (withT t u.owners) 1 = 0 ∧ 0 ≤ findC C t.cls := by
  obtain ⟨g1, g2, g3, g4, g5, g6, g7, g8⟩ := hG
  obtain ⟨a1, a2, _, _⟩ := legal_facts g1 g3 g5
  refine ⟨put_legal g1 g2 g3 g4 g5 g6 g8 fun o ho => ?_, find_of_arity a1⟩
  unfold Ty.owners at ho
  rw [if_pos g3] at ho
  obtain ⟨i, hi, rfl⟩ := List.getElem_of_mem ho
  have hi1 := hi
  rw [List.length_take] at hi1
  have hc : t.count ≤ t.n := by unfold Ty.count; omega
  have hc0 : 0 ≤ t.count := by unfold Ty.count; omega
  rw [List.getElem_take]
  exact h i _ (by omega) (List.getElem?_eq_getElem (by omega))

set_option maxHeartbeats 4000000 in
set_option maxRecDepth 100000 in
theorem put25_walk (w : World) (A : Option Addr) (c : Nat) (C : List Cl) (t u : Ty) (m : Int) (hl : C.length ≤ 9223372036854775807) (hs : Lies w 7 Cl.cells A C) :
    Gives Try.prog 7 #[.slice A C.length c, .agg (t.cells ++ u.cells).toArray, .int .i64 m] w (.bool true) := by
  refine Gives.mk ?_
  obtain ⟨w1, hw1⟩ : ∃ w1, w1 = w.alloc (.cells (t.cells ++ u.cells).toArray 48) := ⟨_, rfl⟩
  have hsz1 : w.heap.size < w1.heap.size := by rw [hw1]; simp
  have HB := hide (show Below w.heap.size w w1 by rw [hw1]; exact (Below.refl _ _).alloc (Nat.le_refl _) _)
  have HR : Hid (∀ y : Ext w1, y.val.rangeAt w.heap.size 0 t.cells) := fun y j v h => by
    rw [y.cell hsz1, hw1, World.cell?_alloc_at _ _ _ _ rfl]
    rw [List.getElem?_toArray, List.getElem?_append_left (by have := (List.getElem?_eq_some_iff.1 h).1; omega)]
    simpa using h
  have HR2 : Hid (∀ y : Ext w1, y.val.rangeAt w.heap.size 11 u.cells) := fun y j v h => by
    rw [y.cell hsz1, hw1, World.cell?_alloc_at _ _ _ _ rfl]
    rw [List.getElem?_toArray, List.getElem?_append_right (by rw [Ty.cells_len]; omega), Ty.cells_len]
    rw [← h]; congr 1; omega
  go_enter Try.func7, Try.ntmps7
  go_wp2_with fail
  rw [← hw1]
  clear hw1
  go_cut [7, 8] (fun s7 s8 W => ∃ (b1 b2 : Nat) (z : Ext w1), s7 = .pointer (some ⟨b1, 0, none⟩) ∧ s8 = .pointer (some ⟨b2, 0, none⟩) ∧ TyAt z.val b1 t ∧ TyAt z.val b2 u ∧ W = z.val)
  case first =>
    have hS : (fun W : World => ∃ y : Ext w1, W = y.val) w1.drew := ⟨Ext.drewOf w1, rfl⟩
    refine wp_region_till (fun W : World => ∃ y : Ext w1, W = y.val) 99 (by kernel_rfl) ?_
    simp only [List.size_toArray, List.length_cons, List.length_nil, Nat.reduceAdd]
    refine AnyTill.takeS (i := 0) (v := ?_) rfl (by kernel_rfl) (fun _ _ _ h => h) hS ?_ rfl ?_
    rotate_left
    · intro W hSW
      obtain ⟨y, rfl⟩ := hSW
      go_simp
      all_goals with_reducible rfl
    try simp only [Act.put, List.getElem_toArray, List.getElem_cons_succ, List.getElem_cons_zero, List.setIfInBounds_toArray, List.set_cons_zero, List.set_cons_succ]
    refine AnyTill.takeS (i := 1) (v := .agg t.cells.toArray) rfl (by kernel_rfl) (fun _ _ _ h => h) hS (fun W hSW => by
      obtain ⟨y, rfl⟩ := hSW
      exact run_load_mid (b := w.heap.size) (off := 0) rfl rfl (HR.out y) Try.underlying35 rfl (by rw [Ty.cells_len]; kernel_rfl)) rfl ?_
    try simp only [Act.put, List.getElem_toArray, List.getElem_cons_succ, List.getElem_cons_zero, List.setIfInBounds_toArray, List.set_cons_zero, List.set_cons_succ]
    refine AnyTill.takeS (i := 2) (v := ?_) rfl (by kernel_rfl) (fun _ _ _ h => h) hS ?_ rfl ?_
    rotate_left
    · intro W hSW
      obtain ⟨y, rfl⟩ := hSW
      go_simp
      all_goals with_reducible rfl
    try simp only [Act.put, List.getElem_toArray, List.getElem_cons_succ, List.getElem_cons_zero, List.setIfInBounds_toArray, List.set_cons_zero, List.set_cons_succ]
    refine AnyTill.takeS (i := 3) (v := .agg u.cells.toArray) rfl (by kernel_rfl) (fun _ _ _ h => h) hS (fun W hSW => by
      obtain ⟨y, rfl⟩ := hSW
      exact run_load_mid (b := w.heap.size) (off := 11) rfl rfl (HR2.out y) Try.underlying35 rfl (by rw [Ty.cells_len]; kernel_rfl)) rfl ?_
    try simp only [Act.put, List.getElem_toArray, List.getElem_cons_succ, List.getElem_cons_zero, List.setIfInBounds_toArray, List.set_cons_zero, List.set_cons_succ]
    have hb2 : Hid (Below w1.heap.size w1 ((w1.alloc (Obj.cells #[.int .i64 0, .string ⟨#[]⟩, .int .i64 0, .int .i64 0, .int .i64 0, .int .i64 0, .int .i64 0, .int .i64 0, .int .i64 0, .int .i64 0, .int .i64 0] 35 (0, 0))).alloc (Obj.cells #[.int .i64 0, .string ⟨#[]⟩, .int .i64 0, .int .i64 0, .int .i64 0, .int .i64 0, .int .i64 0, .int .i64 0, .int .i64 0, .int .i64 0, .int .i64 0] 35 (0, 0))).drew) := (((Below.refl _ _).alloc (Nat.le_refl _) _).alloc (by simp) _).drew
    have hz0 : Hid (((w1.alloc (Obj.cells #[.int .i64 0, .string ⟨#[]⟩, .int .i64 0, .int .i64 0, .int .i64 0, .int .i64 0, .int .i64 0, .int .i64 0, .int .i64 0, .int .i64 0, .int .i64 0] 35 (0, 0))).alloc (Obj.cells #[.int .i64 0, .string ⟨#[]⟩, .int .i64 0, .int .i64 0, .int .i64 0, .int .i64 0, .int .i64 0, .int .i64 0, .int .i64 0, .int .i64 0, .int .i64 0] 35 (0, 0))).drew.heap[w1.heap.size]? = some (Obj.cells #[.int .i64 0, .string ⟨#[]⟩, .int .i64 0, .int .i64 0, .int .i64 0, .int .i64 0, .int .i64 0, .int .i64 0, .int .i64 0, .int .i64 0, .int .i64 0] 35 (0, 0))) := (Below.heap_alloc _ _ _ (by simp)).trans (heap_alloc_new w1 _)
    have hz1 : Hid (((w1.alloc (Obj.cells #[.int .i64 0, .string ⟨#[]⟩, .int .i64 0, .int .i64 0, .int .i64 0, .int .i64 0, .int .i64 0, .int .i64 0, .int .i64 0, .int .i64 0, .int .i64 0] 35 (0, 0))).alloc (Obj.cells #[.int .i64 0, .string ⟨#[]⟩, .int .i64 0, .int .i64 0, .int .i64 0, .int .i64 0, .int .i64 0, .int .i64 0, .int .i64 0, .int .i64 0, .int .i64 0] 35 (0, 0))).drew.heap[w1.heap.size + 1]? = some (Obj.cells #[.int .i64 0, .string ⟨#[]⟩, .int .i64 0, .int .i64 0, .int .i64 0, .int .i64 0, .int .i64 0, .int .i64 0, .int .i64 0, .int .i64 0, .int .i64 0] 35 (0, 0))) := by
      have h := heap_alloc_new (w1.alloc (Obj.cells #[.int .i64 0, .string ⟨#[]⟩, .int .i64 0, .int .i64 0, .int .i64 0, .int .i64 0, .int .i64 0, .int .i64 0, .int .i64 0, .int .i64 0, .int .i64 0] 35 (0, 0))) (Obj.cells #[.int .i64 0, .string ⟨#[]⟩, .int .i64 0, .int .i64 0, .int .i64 0, .int .i64 0, .int .i64 0, .int .i64 0, .int .i64 0, .int .i64 0, .int .i64 0] 35 (0, 0))
      rw [World.size_alloc] at h
      exact h
    refine AnyTill.twoK (i := 4) (j := 5) rfl rfl (by kernel_rfl) rfl rfl ?_ ?_
    · intro K hK
      go_simp
      refine hK _ _ (fun _ => ⟨⟨_, (Below.refl _ _).drew.alloc (Nat.le_refl _) _⟩, rfl⟩) ?_
      clear hK K
      refine AnyTill.oneK (i := 5) rfl (by kernel_rfl) rfl ?_
      intro K hK
      go_simp
      refine hK _ _ (fun _ => ⟨⟨_, hb2.out⟩, rfl⟩) ?_
      clear hK K hS
      generalize ((w1.alloc (Obj.cells #[.int .i64 0, .string ⟨#[]⟩, .int .i64 0, .int .i64 0, .int .i64 0, .int .i64 0, .int .i64 0, .int .i64 0, .int .i64 0, .int .i64 0, .int .i64 0] 35 (0, 0))).alloc (Obj.cells #[.int .i64 0, .string ⟨#[]⟩, .int .i64 0, .int .i64 0, .int .i64 0, .int .i64 0, .int .i64 0, .int .i64 0, .int .i64 0, .int .i64 0, .int .i64 0] 35 (0, 0))).drew = W2 at *
      obtain ⟨W3, hW3⟩ : ∃ W3, W3 = W2.setCells (w1.heap.size) 0 t.cells.toArray.toList := ⟨_, rfl⟩
      obtain ⟨W4, hW4⟩ : ∃ W4, W4 = W3.setCells (w1.heap.size + 1) 0 u.cells.toArray.toList := ⟨_, rfl⟩
      have g1 : Hid (W2.there (w1.heap.size) 0 t.cells.length) := with_there2 hz0.out t
      have g3 : Hid (Below w1.heap.size w1 W3) := by rw [hW3]; exact setCells_mid (by omega) hb2.out 0 _
      have hzu : W3.heap[w1.heap.size + 1]? = some (Obj.cells #[.int .i64 0, .string ⟨#[]⟩, .int .i64 0, .int .i64 0, .int .i64 0, .int .i64 0, .int .i64 0, .int .i64 0, .int .i64 0, .int .i64 0, .int .i64 0] 35 (0, 0)) := by rw [hW3]; exact (setCells_other _ _ _ _ _ (by omega)).trans hz1.out
      have g2 : Hid (W3.there (w1.heap.size + 1) 0 u.cells.length) := with_there2 hzu u
      have g4 : Hid (Below w1.heap.size w1 W4) := by rw [hW4]; exact setCells_mid (by omega) g3.out 0 _
      have g5 : Hid (TyAt W4 (w1.heap.size) t) := by
        rw [hW4]; exact (setCells_other _ _ _ _ _ (by omega)).trans (by rw [hW3]; exact TyAt.fill t hz0.out)
      have g6 : Hid (TyAt W4 (w1.heap.size + 1) u) := by rw [hW4]; exact TyAt.fill u hzu
      clear hzu hz0 hz1 hb2
      refine AnyTill.oneK (i := 6) rfl (by kernel_rfl) rfl ?_
      intro K hK
      refine wp_store_mid 35 (.tmp 7) (.tmp 12) rfl (w1.heap.size) 0 t.cells.toArray rfl rfl g1.out (by rw [List.size_toArray, Ty.cells_len]; kernel_rfl) (ty_one t) ?_
      rw [← hW3]
      refine hK _ _ (fun _ => ⟨⟨_, g3.out⟩, rfl⟩) ?_
      clear hK K hW3
      refine AnyTill.oneK (i := 7) rfl (by kernel_rfl) rfl ?_
      intro K hK
      refine wp_store_mid 35 (.tmp 8) (.tmp 14) rfl (w1.heap.size + 1) 0 u.cells.toArray rfl rfl g2.out (by rw [List.size_toArray, Ty.cells_len]; kernel_rfl) (ty_one u) ?_
      rw [← hW4]
      refine hK _ _ (fun _ => ⟨⟨_, g4.out⟩, rfl⟩) ?_
      clear hK K hW4
      refine AnyTill.done (by kernel_rfl) ?_ _
      go_wp2_with fail
      go_meet
      case rel => exact ⟨w1.heap.size, w1.heap.size + 1, ⟨_, g4.out⟩, rfl, rfl, g5.out, g6.out, rfl⟩
    · intro K hK
      go_simp
      refine hK _ _ (fun _ => ⟨⟨_, (Below.refl _ _).drew.alloc (Nat.le_refl _) _⟩, rfl⟩) ?_
      clear hK K
      refine AnyTill.oneK (i := 4) rfl (by kernel_rfl) rfl ?_
      intro K hK
      go_simp
      refine hK _ _ (fun _ => ⟨⟨_, hb2.out⟩, rfl⟩) ?_
      clear hK K hS
      generalize ((w1.alloc (Obj.cells #[.int .i64 0, .string ⟨#[]⟩, .int .i64 0, .int .i64 0, .int .i64 0, .int .i64 0, .int .i64 0, .int .i64 0, .int .i64 0, .int .i64 0, .int .i64 0] 35 (0, 0))).alloc (Obj.cells #[.int .i64 0, .string ⟨#[]⟩, .int .i64 0, .int .i64 0, .int .i64 0, .int .i64 0, .int .i64 0, .int .i64 0, .int .i64 0, .int .i64 0, .int .i64 0] 35 (0, 0))).drew = W2 at *
      obtain ⟨W3, hW3⟩ : ∃ W3, W3 = W2.setCells (w1.heap.size + 1) 0 t.cells.toArray.toList := ⟨_, rfl⟩
      obtain ⟨W4, hW4⟩ : ∃ W4, W4 = W3.setCells (w1.heap.size) 0 u.cells.toArray.toList := ⟨_, rfl⟩
      have g1 : Hid (W2.there (w1.heap.size + 1) 0 t.cells.length) := with_there2 hz1.out t
      have g3 : Hid (Below w1.heap.size w1 W3) := by rw [hW3]; exact setCells_mid (by omega) hb2.out 0 _
      have hzu : W3.heap[w1.heap.size]? = some (Obj.cells #[.int .i64 0, .string ⟨#[]⟩, .int .i64 0, .int .i64 0, .int .i64 0, .int .i64 0, .int .i64 0, .int .i64 0, .int .i64 0, .int .i64 0, .int .i64 0] 35 (0, 0)) := by rw [hW3]; exact (setCells_other _ _ _ _ _ (by omega)).trans hz0.out
      have g2 : Hid (W3.there (w1.heap.size) 0 u.cells.length) := with_there2 hzu u
      have g4 : Hid (Below w1.heap.size w1 W4) := by rw [hW4]; exact setCells_mid (by omega) g3.out 0 _
      have g5 : Hid (TyAt W4 (w1.heap.size + 1) t) := by
        rw [hW4]; exact (setCells_other _ _ _ _ _ (by omega)).trans (by rw [hW3]; exact TyAt.fill t hz1.out)
      have g6 : Hid (TyAt W4 (w1.heap.size) u) := by rw [hW4]; exact TyAt.fill u hzu
      clear hzu hz0 hz1 hb2
      refine AnyTill.oneK (i := 6) rfl (by kernel_rfl) rfl ?_
      intro K hK
      refine wp_store_mid 35 (.tmp 7) (.tmp 12) rfl (w1.heap.size + 1) 0 t.cells.toArray rfl rfl g1.out (by rw [List.size_toArray, Ty.cells_len]; kernel_rfl) (ty_one t) ?_
      rw [← hW3]
      refine hK _ _ (fun _ => ⟨⟨_, g3.out⟩, rfl⟩) ?_
      clear hK K hW3
      refine AnyTill.oneK (i := 7) rfl (by kernel_rfl) rfl ?_
      intro K hK
      refine wp_store_mid 35 (.tmp 8) (.tmp 14) rfl (w1.heap.size) 0 u.cells.toArray rfl rfl g2.out (by rw [List.size_toArray, Ty.cells_len]; kernel_rfl) (ty_one u) ?_
      rw [← hW4]
      refine hK _ _ (fun _ => ⟨⟨_, g4.out⟩, rfl⟩) ?_
      clear hK K hW4
      refine AnyTill.done (by kernel_rfl) ?_ _
      go_wp2_with fail
      go_meet
      case rel => exact ⟨w1.heap.size + 1, w1.heap.size, ⟨_, g4.out⟩, rfl, rfl, g5.out, g6.out, rfl⟩
  case rest =>
    obtain ⟨b1, b2, z, rfl, rfl, ht1, hu1, rfl⟩ := hcut
    have HB1 : Hid (∀ y : Ext z.val, Below w.heap.size w y.val) := fun y => (HB.out.trans (z.below.mono (by omega))).trans (y.below.mono (Nat.le_trans (Nat.le_of_lt hsz1) z.below.size))
    have HT : Hid (∀ y : Ext z.val, TyAt y.val b1 t) := fun y => ht1.ext y
    have HU : Hid (∀ y : Ext z.val, TyAt y.val b2 u) := fun y => hu1.ext y
    have HL : Hid (∀ y : Ext z.val, Lies y.val 7 Cl.cells A C) := fun y => hs.below (HB1.out y)
    have Hl : Hid (∀ (y : Ext z.val) (v : Ty) (n : Int), Gives Try.prog 19 #[.slice A C.length c, .agg v.cells.toArray, .int .i64 n] y.val (.int .i64 (typT C v n))) := fun y v n => legType_any y.val A c C v n hl (HL.out y)
    have HcT : Hid (∀ (y : Ext z.val) j v, t.cells[j]? = some v → y.val.cell? ⟨b1, j, none⟩ = some v) := fun y j v h => (HT.out y).cell j v h
    have HcU : Hid (∀ (y : Ext z.val) j v, u.cells[j]? = some v → y.val.cell? ⟨b2, j, none⟩ = some v) := fun y j v h => (HU.out y).cell j v h
    have t0 : ∀ y : Ext z.val, y.val.cell? ⟨b1, 0, none⟩ = some (.int .i64 t.k) := fun y => HcT.out y 0 _ rfl
    have t1 : ∀ y : Ext z.val, y.val.cell? ⟨b1, 1, none⟩ = some (.string t.cls) := fun y => HcT.out y 1 _ rfl
    have t2 : ∀ y : Ext z.val, y.val.cell? ⟨b1, 2, none⟩ = some (.int .i64 t.n) := fun y => HcT.out y 2 _ rfl
    have u0 : ∀ y : Ext z.val, y.val.cell? ⟨b2, 0, none⟩ = some (.int .i64 u.k) := fun y => HcU.out y 0 _ rfl
    have u2 : ∀ y : Ext z.val, y.val.cell? ⟨b2, 2, none⟩ = some (.int .i64 u.n) := fun y => HcU.out y 2 _ rfl
    have hTo : Hid (∀ (y : Ext z.val) (k : Nat) (o : Ow), t.own[k]? = some o → y.val.cell? ⟨b1, 3 + k * 2, none⟩ = some (.int .i64 o.k) ∧ y.val.cell? ⟨b1, 3 + k * 2 + 1, none⟩ = some (.int .i64 o.n)) := fun y k o h => by
      have hk : k < 4 := by rw [← Ty.own_len t]; exact (List.getElem?_eq_some_iff.1 h).1
      rcases (show k = 0 ∨ k = 1 ∨ k = 2 ∨ k = 3 by omega) with rfl | rfl | rfl | rfl <;> (cases h; exact ⟨HcT.out y _ _ rfl, HcT.out y _ _ rfl⟩)
    have hUo : Hid (∀ (y : Ext z.val) (k : Nat) (o : Ow), u.own[k]? = some o → y.val.cell? ⟨b2, 3 + k * 2, none⟩ = some (.int .i64 o.k) ∧ y.val.cell? ⟨b2, 3 + k * 2 + 1, none⟩ = some (.int .i64 o.n)) := fun y k o h => by
      have hk : k < 4 := by rw [← Ty.own_len u]; exact (List.getElem?_eq_some_iff.1 h).1
      rcases (show k = 0 ∨ k = 1 ∨ k = 2 ∨ k = 3 by omega) with rfl | rfl | rfl | rfl <;> (cases h; exact ⟨HcU.out y _ _ rfl, HcU.out y _ _ rfl⟩)
    obtain ⟨hn, hhn⟩ : ∃ hn, holesT t = hn := ⟨_, rfl⟩
    have Hh : Hid (∀ y : Ext z.val, Gives Try.prog 22 #[.agg t.cells.toArray] y.val (.int .i64 hn)) := fun y => by rw [← hhn]; exact holes_any t y.val
    obtain ⟨em, hem⟩ : ∃ em, typT C t m = em := ⟨_, rfl⟩
    have Hm : Hid (∀ y : Ext z.val, Gives Try.prog 19 #[.slice A C.length c, .agg t.cells.toArray, .int .i64 m] y.val (.int .i64 em)) := fun y => by rw [← hem]; exact Hl.out y t m
    have hbad : 0 < hn → (em == 0) = false := fun h => by rw [← hem]; exact holes_bad C t m (by rw [hhn]; exact h)
    obtain ⟨y0, hy0⟩ : ∃ y : Ext z.val, z.val = y.val := ⟨Ext.here _, rfl⟩
    rw [hy0]
    clear hs ht1 hu1 hhn hem hy0 HR HR2 HcT HcU HB
    go_upto_region 2 with fail
    go_cut [24] (fun s24 W => s24 = .bool false ∧ ∃ y : Ext z.val, W = y.val)
    case first =>
      by_cases hp : 0 < hn
      · have hb := hbad hp
        clear hbad
        go_wp2_with (first | (refine wpList_load_row_g rfl 35 (.tmp 7) rfl b1 rfl 35 t.cells.toArray (0, 0) _ (HT.out _) Try.underlying35 rfl (by rw [List.size_toArray, Ty.cells_len]; kernel_rfl) ?_) | (go_at_call 22; refine ((Hh.out _).over _).mono ?_; rintro _ _ ⟨y, _, rfl, rfl⟩) | (go_at_call 19; refine ((Hm.out _).over _).mono ?_; rintro _ _ ⟨y, _, rfl, rfl⟩))
        go_meet
        case rel => exact ⟨rfl, _, rfl⟩
      · clear hbad
        go_wp2_with (first | (refine wpList_load_row_g rfl 35 (.tmp 7) rfl b1 rfl 35 t.cells.toArray (0, 0) _ (HT.out _) Try.underlying35 rfl (by rw [List.size_toArray, Ty.cells_len]; kernel_rfl) ?_) | (go_at_call 22; refine ((Hh.out _).over _).mono ?_; rintro _ _ ⟨y, _, rfl, rfl⟩) | (go_at_call 19; refine ((Hm.out _).over _).mono ?_; rintro _ _ ⟨y, _, rfl, rfl⟩))
        go_meet
        case rel => exact ⟨rfl, _, rfl⟩
    case rest =>
      obtain ⟨rfl, y1, rfl⟩ := hcut
      clear hbad Hh Hm y0 em hn
      go_upto_region 4 with fail
      obtain ⟨et, het⟩ : ∃ et, typT C t 1 = et := ⟨_, rfl⟩
      obtain ⟨eu, heu⟩ : ∃ eu, typT C u 1 = eu := ⟨_, rfl⟩
      obtain ⟨qt, hqt⟩ : ∃ qt, uniqT t = qt := ⟨_, rfl⟩
      obtain ⟨qu, hqu⟩ : ∃ qu, uniqT u = qu := ⟨_, rfl⟩
      have Ht : Hid (∀ y : Ext z.val, Gives Try.prog 19 #[.slice A C.length c, .agg t.cells.toArray, .int .i64 1] y.val (.int .i64 et)) := fun y => by rw [← het]; exact Hl.out y t 1
      have Hu : Hid (∀ y : Ext z.val, Gives Try.prog 19 #[.slice A C.length c, .agg u.cells.toArray, .int .i64 1] y.val (.int .i64 eu)) := fun y => by rw [← heu]; exact Hl.out y u 1
      have Hqt : Hid (∀ y : Ext z.val, Gives Try.prog 23 #[.agg t.cells.toArray] y.val (.bool qt)) := fun y => by rw [← hqt]; exact unique5_any t y.val
      have Hqu : Hid (∀ y : Ext z.val, Gives Try.prog 23 #[.agg u.cells.toArray] y.val (.bool qu)) := fun y => by rw [← hqu]; exact unique5_any u y.val
      have HG : Hid (et = 0 → eu = 0 → t.k = 2 → u.k = 2 → qt = false → qu = false → t.n ≤ 3 → u.n ≤ 3 → Good C t u) := fun h1 h2 h3 h4 h5 h6 h7 h8 => ⟨by rw [het, h1], by rw [heu, h2], h3, h4, by rw [hqt, h5], by rw [hqu, h6], h7, h8⟩
      clear het heu hqt hqu
      go_cut [62] (fun s62 W => ∃ b : Bool, s62 = .bool b ∧ GoodIf C t u b ∧ ∃ y : Ext z.val, W = y.val)
      case first =>
        rcases Bool.eq_false_or_eq_true (et != 0) with h1 | h1
        · go_wp2_with (first | (refine wpList_load_row_g rfl 35 (.tmp 7) rfl b1 rfl 35 t.cells.toArray (0, 0) _ (HT.out _) Try.underlying35 rfl (by rw [List.size_toArray, Ty.cells_len]; kernel_rfl) ?_) | (refine wpList_load_row_g rfl 35 (.tmp 8) rfl b2 rfl 35 u.cells.toArray (0, 0) _ (HU.out _) Try.underlying35 rfl (by rw [List.size_toArray, Ty.cells_len]; kernel_rfl) ?_) | (go_at_call 19; with_reducible refine ((Ht.out _).over _).mono ?_; rintro _ _ ⟨y, _, rfl, rfl⟩) | (go_at_call 19; with_reducible refine ((Hu.out _).over _).mono ?_; rintro _ _ ⟨y, _, rfl, rfl⟩) | (go_at_call 23; with_reducible refine ((Hqt.out _).over _).mono ?_; rintro _ _ ⟨y, _, rfl, rfl⟩) | (go_at_call 23; with_reducible refine ((Hqu.out _).over _).mono ?_; rintro _ _ ⟨y, _, rfl, rfl⟩))
          go_meet
          case rel => exact ⟨true, rfl, nofun, _, rfl⟩
        rcases Bool.eq_false_or_eq_true (eu != 0) with h2 | h2
        · go_wp2_with (first | (refine wpList_load_row_g rfl 35 (.tmp 7) rfl b1 rfl 35 t.cells.toArray (0, 0) _ (HT.out _) Try.underlying35 rfl (by rw [List.size_toArray, Ty.cells_len]; kernel_rfl) ?_) | (refine wpList_load_row_g rfl 35 (.tmp 8) rfl b2 rfl 35 u.cells.toArray (0, 0) _ (HU.out _) Try.underlying35 rfl (by rw [List.size_toArray, Ty.cells_len]; kernel_rfl) ?_) | (go_at_call 19; with_reducible refine ((Ht.out _).over _).mono ?_; rintro _ _ ⟨y, _, rfl, rfl⟩) | (go_at_call 19; with_reducible refine ((Hu.out _).over _).mono ?_; rintro _ _ ⟨y, _, rfl, rfl⟩) | (go_at_call 23; with_reducible refine ((Hqt.out _).over _).mono ?_; rintro _ _ ⟨y, _, rfl, rfl⟩) | (go_at_call 23; with_reducible refine ((Hqu.out _).over _).mono ?_; rintro _ _ ⟨y, _, rfl, rfl⟩))
          go_meet
          case rel => exact ⟨true, rfl, nofun, _, rfl⟩
        rcases Bool.eq_false_or_eq_true (t.k != 2) with h3 | h3
        · go_wp2_with (first | (refine wpList_load_row_g rfl 35 (.tmp 7) rfl b1 rfl 35 t.cells.toArray (0, 0) _ (HT.out _) Try.underlying35 rfl (by rw [List.size_toArray, Ty.cells_len]; kernel_rfl) ?_) | (refine wpList_load_row_g rfl 35 (.tmp 8) rfl b2 rfl 35 u.cells.toArray (0, 0) _ (HU.out _) Try.underlying35 rfl (by rw [List.size_toArray, Ty.cells_len]; kernel_rfl) ?_) | (go_at_call 19; with_reducible refine ((Ht.out _).over _).mono ?_; rintro _ _ ⟨y, _, rfl, rfl⟩) | (go_at_call 19; with_reducible refine ((Hu.out _).over _).mono ?_; rintro _ _ ⟨y, _, rfl, rfl⟩) | (go_at_call 23; with_reducible refine ((Hqt.out _).over _).mono ?_; rintro _ _ ⟨y, _, rfl, rfl⟩) | (go_at_call 23; with_reducible refine ((Hqu.out _).over _).mono ?_; rintro _ _ ⟨y, _, rfl, rfl⟩))
          go_meet
          case rel => exact ⟨true, rfl, nofun, _, rfl⟩
        rcases Bool.eq_false_or_eq_true (u.k != 2) with h4 | h4
        · go_wp2_with (first | (refine wpList_load_row_g rfl 35 (.tmp 7) rfl b1 rfl 35 t.cells.toArray (0, 0) _ (HT.out _) Try.underlying35 rfl (by rw [List.size_toArray, Ty.cells_len]; kernel_rfl) ?_) | (refine wpList_load_row_g rfl 35 (.tmp 8) rfl b2 rfl 35 u.cells.toArray (0, 0) _ (HU.out _) Try.underlying35 rfl (by rw [List.size_toArray, Ty.cells_len]; kernel_rfl) ?_) | (go_at_call 19; with_reducible refine ((Ht.out _).over _).mono ?_; rintro _ _ ⟨y, _, rfl, rfl⟩) | (go_at_call 19; with_reducible refine ((Hu.out _).over _).mono ?_; rintro _ _ ⟨y, _, rfl, rfl⟩) | (go_at_call 23; with_reducible refine ((Hqt.out _).over _).mono ?_; rintro _ _ ⟨y, _, rfl, rfl⟩) | (go_at_call 23; with_reducible refine ((Hqu.out _).over _).mono ?_; rintro _ _ ⟨y, _, rfl, rfl⟩))
          go_meet
          case rel => exact ⟨true, rfl, nofun, _, rfl⟩
        rcases Bool.eq_false_or_eq_true qt with h5 | h5
        · go_wp2_with (first | (refine wpList_load_row_g rfl 35 (.tmp 7) rfl b1 rfl 35 t.cells.toArray (0, 0) _ (HT.out _) Try.underlying35 rfl (by rw [List.size_toArray, Ty.cells_len]; kernel_rfl) ?_) | (refine wpList_load_row_g rfl 35 (.tmp 8) rfl b2 rfl 35 u.cells.toArray (0, 0) _ (HU.out _) Try.underlying35 rfl (by rw [List.size_toArray, Ty.cells_len]; kernel_rfl) ?_) | (go_at_call 19; with_reducible refine ((Ht.out _).over _).mono ?_; rintro _ _ ⟨y, _, rfl, rfl⟩) | (go_at_call 19; with_reducible refine ((Hu.out _).over _).mono ?_; rintro _ _ ⟨y, _, rfl, rfl⟩) | (go_at_call 23; with_reducible refine ((Hqt.out _).over _).mono ?_; rintro _ _ ⟨y, _, rfl, rfl⟩) | (go_at_call 23; with_reducible refine ((Hqu.out _).over _).mono ?_; rintro _ _ ⟨y, _, rfl, rfl⟩))
          go_meet
          case rel => exact ⟨true, rfl, nofun, _, rfl⟩
        rcases Bool.eq_false_or_eq_true qu with h6 | h6
        · go_wp2_with (first | (refine wpList_load_row_g rfl 35 (.tmp 7) rfl b1 rfl 35 t.cells.toArray (0, 0) _ (HT.out _) Try.underlying35 rfl (by rw [List.size_toArray, Ty.cells_len]; kernel_rfl) ?_) | (refine wpList_load_row_g rfl 35 (.tmp 8) rfl b2 rfl 35 u.cells.toArray (0, 0) _ (HU.out _) Try.underlying35 rfl (by rw [List.size_toArray, Ty.cells_len]; kernel_rfl) ?_) | (go_at_call 19; with_reducible refine ((Ht.out _).over _).mono ?_; rintro _ _ ⟨y, _, rfl, rfl⟩) | (go_at_call 19; with_reducible refine ((Hu.out _).over _).mono ?_; rintro _ _ ⟨y, _, rfl, rfl⟩) | (go_at_call 23; with_reducible refine ((Hqt.out _).over _).mono ?_; rintro _ _ ⟨y, _, rfl, rfl⟩) | (go_at_call 23; with_reducible refine ((Hqu.out _).over _).mono ?_; rintro _ _ ⟨y, _, rfl, rfl⟩))
          go_meet
          case rel => exact ⟨true, rfl, nofun, _, rfl⟩
        rcases Bool.eq_false_or_eq_true (decide (3 < t.n)) with h7 | h7
        · go_wp2_with (first | (refine wpList_load_row_g rfl 35 (.tmp 7) rfl b1 rfl 35 t.cells.toArray (0, 0) _ (HT.out _) Try.underlying35 rfl (by rw [List.size_toArray, Ty.cells_len]; kernel_rfl) ?_) | (refine wpList_load_row_g rfl 35 (.tmp 8) rfl b2 rfl 35 u.cells.toArray (0, 0) _ (HU.out _) Try.underlying35 rfl (by rw [List.size_toArray, Ty.cells_len]; kernel_rfl) ?_) | (go_at_call 19; with_reducible refine ((Ht.out _).over _).mono ?_; rintro _ _ ⟨y, _, rfl, rfl⟩) | (go_at_call 19; with_reducible refine ((Hu.out _).over _).mono ?_; rintro _ _ ⟨y, _, rfl, rfl⟩) | (go_at_call 23; with_reducible refine ((Hqt.out _).over _).mono ?_; rintro _ _ ⟨y, _, rfl, rfl⟩) | (go_at_call 23; with_reducible refine ((Hqu.out _).over _).mono ?_; rintro _ _ ⟨y, _, rfl, rfl⟩))
          go_meet
          case rel => exact ⟨true, rfl, nofun, _, rfl⟩
        rcases Bool.eq_false_or_eq_true (decide (3 < u.n)) with h8 | h8
        · go_wp2_with (first | (refine wpList_load_row_g rfl 35 (.tmp 7) rfl b1 rfl 35 t.cells.toArray (0, 0) _ (HT.out _) Try.underlying35 rfl (by rw [List.size_toArray, Ty.cells_len]; kernel_rfl) ?_) | (refine wpList_load_row_g rfl 35 (.tmp 8) rfl b2 rfl 35 u.cells.toArray (0, 0) _ (HU.out _) Try.underlying35 rfl (by rw [List.size_toArray, Ty.cells_len]; kernel_rfl) ?_) | (go_at_call 19; with_reducible refine ((Ht.out _).over _).mono ?_; rintro _ _ ⟨y, _, rfl, rfl⟩) | (go_at_call 19; with_reducible refine ((Hu.out _).over _).mono ?_; rintro _ _ ⟨y, _, rfl, rfl⟩) | (go_at_call 23; with_reducible refine ((Hqt.out _).over _).mono ?_; rintro _ _ ⟨y, _, rfl, rfl⟩) | (go_at_call 23; with_reducible refine ((Hqu.out _).over _).mono ?_; rintro _ _ ⟨y, _, rfl, rfl⟩))
          go_meet
          case rel => exact ⟨true, rfl, nofun, _, rfl⟩
        have hg := hide (HG.out (by simpa using h1) (by simpa using h2) (by simpa using h3) (by simpa using h4) h5 h6 (by simpa using h7) (by simpa using h8))
        go_wp2_with (first | (refine wpList_load_row_g rfl 35 (.tmp 7) rfl b1 rfl 35 t.cells.toArray (0, 0) _ (HT.out _) Try.underlying35 rfl (by rw [List.size_toArray, Ty.cells_len]; kernel_rfl) ?_) | (refine wpList_load_row_g rfl 35 (.tmp 8) rfl b2 rfl 35 u.cells.toArray (0, 0) _ (HU.out _) Try.underlying35 rfl (by rw [List.size_toArray, Ty.cells_len]; kernel_rfl) ?_) | (go_at_call 19; with_reducible refine ((Ht.out _).over _).mono ?_; rintro _ _ ⟨y, _, rfl, rfl⟩) | (go_at_call 19; with_reducible refine ((Hu.out _).over _).mono ?_; rintro _ _ ⟨y, _, rfl, rfl⟩) | (go_at_call 23; with_reducible refine ((Hqt.out _).over _).mono ?_; rintro _ _ ⟨y, _, rfl, rfl⟩) | (go_at_call 23; with_reducible refine ((Hqu.out _).over _).mono ?_; rintro _ _ ⟨y, _, rfl, rfl⟩))
        go_meet
        case rel => exact ⟨false, rfl, fun _ => hg.out, _, rfl⟩
      case rest =>
        obtain ⟨b, rfl, hgood, y2, rfl⟩ := hcut
        clear Ht Hu Hqt Hqu HG y1
        cases b with
        | true =>
          go_wp2_with (go_at_call 21; refine ((awake25_any _).over _).mono ?_; rintro _ _ ⟨y, _, rfl, rfl⟩)
          go_ret
          exact ⟨rfl, HB1.out _⟩
        | false =>
          have HG := hide (hgood rfl)
          have hn3 : t.n ≤ 3 := HG.out.2.2.2.2.2.2.1
          have hm3 : u.n ≤ 3 := HG.out.2.2.2.2.2.2.2
          clear hgood et eu qt qu
          go_wp2_with fail
          go_loopw [9] (fun s9 wr => ∃ k : Nat, ((k : Int) ≤ t.n + 1 ∨ k = 0) ∧ s9 = .int .i64 k ∧ (∃ y : Ext z.val, wr = y.val) ∧ OkTo t u.n k) (fun s9 _ => 5 - (intOf s9).toNat)
          case atStart => exact ⟨0, by omega, rfl, ⟨_, rfl⟩, OkTo.zero⟩
          case round =>
            obtain ⟨k, hk, rfl, ⟨y3, rfl⟩, hok⟩ := hrel
            by_cases hle : (k : Int) ≤ t.n
            · have hk4 : k < t.own.length := by rw [Ty.own_len]; omega
              have hk4' : (k : Int) < 4 := by omega
              have HK4 : Hid (k < 4) := by show k < 4; omega
              have HKn := hide hle
              have hd : decide ((k : Int) ≤ t.n) = true := by simp [hle]
              obtain ⟨o, ho⟩ : ∃ o, t.own[k]? = some o := ⟨_, List.getElem?_eq_getElem hk4⟩
              have c0 : ∀ y : Ext z.val, y.val.cell? ⟨b1, 3 + k * 2, none⟩ = some (.int .i64 o.k) := fun y => (hTo.out y k o ho).1
              have c1 : ∀ y : Ext z.val, y.val.cell? ⟨b1, 3 + k * 2 + 1, none⟩ = some (.int .i64 o.n) := fun y => (hTo.out y k o ho).2
              have HO := hide ho
              have hb1 : b1 < y3.val.heap.size := (HT.out y3).lt
              have hb2 : b2 < y3.val.heap.size := (HU.out y3).lt
              have hok9 := hide hok
              clear hk ho hle hk4 hok
              rcases Bool.eq_false_or_eq_true (o.k == 1) with e1 | e1
              · go_wp2_with fail
                refine wp_region_ext (by kernel_rfl) (by kernel_rfl) ?_
                repeat (go_big_quiet_step ((first | fail)))
                refine wpQuiet_nil ?_
                intro _ hw'
                obtain ⟨x, hw''⟩ := hw'
                subst hw''
                go_wp2_with (go_at_call 21; refine (awake25_any _).mono ?_; rintro _ _ ⟨y, rfl, rfl⟩)
                go_ret
                exact ⟨rfl, HB1.out ((y3.step x.below).step y.below)⟩
              rcases Bool.eq_false_or_eq_true (o.k == 3) with e3 | e3
              · have f3 : (o.k != 3) = false := by rw [bne, e3]; rfl
                rcases Bool.eq_false_or_eq_true (decide (o.n < 1)) with l1 | l1
                · go_wp2_with fail
                  refine wp_region_ext (by kernel_rfl) (by kernel_rfl) ?_
                  repeat (go_big_quiet_step ((first | fail)))
                  refine wpQuiet_nil ?_
                  intro _ hw'
                  obtain ⟨x, hw''⟩ := hw'
                  subst hw''
                  go_wp2_with (go_at_call 21; refine (awake25_any _).mono ?_; rintro _ _ ⟨y, rfl, rfl⟩)
                  go_ret
                  exact ⟨rfl, HB1.out ((y3.step x.below).step y.below)⟩
                rcases Bool.eq_false_or_eq_true (decide (u.n < o.n)) with l2 | l2
                · go_wp2_with fail
                  refine wp_region_ext (by kernel_rfl) (by kernel_rfl) ?_
                  repeat (go_big_quiet_step ((first | fail)))
                  refine wpQuiet_nil ?_
                  intro _ hw'
                  obtain ⟨x, hw''⟩ := hw'
                  subst hw''
                  go_wp2_with (go_at_call 21; refine (awake25_any _).mono ?_; rintro _ _ ⟨y, rfl, rfl⟩)
                  go_ret
                  exact ⟨rfl, HB1.out ((y3.step x.below).step y.below)⟩
                have hok' := hide (hok9.out.succ HO.out ⟨by simpa using e1, fun _ => ⟨by simpa using l1, by simpa using l2⟩⟩)
                go_wp2_with fail
                refine wp_region_ext (by kernel_rfl) (by kernel_rfl) ?_
                repeat (go_big_quiet_step ((first | fail)))
                refine wpQuiet_nil ?_
                intro _ hw'
                obtain ⟨x, hw''⟩ := hw'
                subst hw''
                go_wp2_with fail
                go_roundw
                case rel => exact ⟨k + 1, .inl (by have := HKn.out; omega), by go_num, ⟨y3.step x.below, rfl⟩, hok'.out⟩
                case measure => have := HK4.out; simp [intOf]; omega
              · have f3 : (o.k != 3) = true := by rw [bne, e3]; rfl
                rcases Bool.eq_false_or_eq_true (o.n != 0) with l1 | l1
                · go_wp2_with fail
                  refine wp_region_ext (by kernel_rfl) (by kernel_rfl) ?_
                  repeat (go_big_quiet_step ((first | fail)))
                  refine wpQuiet_nil ?_
                  intro _ hw'
                  obtain ⟨x, hw''⟩ := hw'
                  subst hw''
                  go_wp2_with (go_at_call 21; refine (awake25_any _).mono ?_; rintro _ _ ⟨y, rfl, rfl⟩)
                  go_ret
                  exact ⟨rfl, HB1.out ((y3.step x.below).step y.below)⟩
                have hok' := hide (hok9.out.succ HO.out ⟨by simpa using e1, fun h => absurd h (by simpa using e3)⟩)
                go_wp2_with fail
                refine wp_region_ext (by kernel_rfl) (by kernel_rfl) ?_
                repeat (go_big_quiet_step ((first | fail)))
                refine wpQuiet_nil ?_
                intro _ hw'
                obtain ⟨x, hw''⟩ := hw'
                subst hw''
                go_wp2_with fail
                go_roundw
                case rel => exact ⟨k + 1, .inl (by have := HKn.out; omega), by go_num, ⟨y3.step x.below, rfl⟩, hok'.out⟩
                case measure => have := HK4.out; simp [intOf]; omega
            · have hd : decide ((k : Int) ≤ t.n) = false := by simp; omega
              have hok9 : Hid (OkTo t u.n k ∧ ¬ (k : Int) ≤ t.n) := ⟨hok, hle⟩
              clear hok hk hle
              go_wp2_with fail
              have Hok := hide (ok_all HG.out hok9.out.1 hok9.out.2)
              clear hok9 hd
              go_loopw [10] (fun s10 wr => ∃ k2 : Nat, ((k2 : Int) ≤ u.n + 1 ∨ k2 = 0) ∧ s10 = .int .i64 k2 ∧ (∃ y : Ext z.val, wr = y.val)) (fun s10 _ => 5 - (intOf s10).toNat)
              case atStart => exact ⟨0, by omega, rfl, _, rfl⟩
              case round =>
                obtain ⟨k2, hk, rfl, y4, rfl⟩ := hrel
                by_cases hle : (k2 : Int) ≤ u.n
                · have hk4 : k2 < u.own.length := by rw [Ty.own_len]; omega
                  have hk4' : (k2 : Int) < 4 := by omega
                  have HK4 : Hid (k2 < 4) := by show k2 < 4; omega
                  have HKn := hide hle
                  have hd : decide ((k2 : Int) ≤ u.n) = true := by simp [hle]
                  obtain ⟨o, ho⟩ : ∃ o, u.own[k2]? = some o := ⟨_, List.getElem?_eq_getElem hk4⟩
                  have c0 : ∀ y : Ext z.val, y.val.cell? ⟨b2, 3 + k2 * 2, none⟩ = some (.int .i64 o.k) := fun y => (hUo.out y k2 o ho).1
                  have c1 : ∀ y : Ext z.val, y.val.cell? ⟨b2, 3 + k2 * 2 + 1, none⟩ = some (.int .i64 o.n) := fun y => (hUo.out y k2 o ho).2
                  clear hk ho hle hk4
                  rcases Bool.eq_false_or_eq_true (o.k != 3) with e3 | e3
                  · rcases Bool.eq_false_or_eq_true (o.n != 0) with e0 | e0
                    · go_wp2_with (go_at_call 21; refine (awake25_any _).mono ?_; rintro _ _ ⟨y, rfl, rfl⟩)
                      go_ret
                      exact ⟨rfl, HB1.out (y4.step y.below)⟩
                    · go_wp2_with fail
                      go_roundw
                      case rel => exact ⟨k2 + 1, .inl (by have := HKn.out; omega), by go_num, _, rfl⟩
                      case measure => have := HK4.out; simp [intOf]; omega
                  · go_wp2_with fail
                    go_roundw
                    case rel => exact ⟨k2 + 1, .inl (by have := HKn.out; omega), by go_num, _, rfl⟩
                    case measure => have := HK4.out; simp [intOf]; omega
                · have hd : decide ((k2 : Int) ≤ u.n) = false := by simp; omega
                  clear hk hle
                  go_wp2_with fail
                  have hf0 : 0 ≤ findC C t.cls := Hok.out.2
                  have hlt := hide Hok.out.1
                  have hRT : Hid (∀ y : Ext z.val, y.val.rangeAt b1 0 t.cells) := fun y j v h => by rw [Nat.zero_add]; exact (HT.out y).cell j v h
                  have hRU : Hid (∀ y : Ext z.val, y.val.rangeAt b2 0 u.cells) := fun y j v h => by rw [Nat.zero_add]; exact (HU.out y).cell j v h
                  have Hf : Hid (∀ y : Ext z.val, Calls Try.prog 24 #[.slice A C.length c, .string t.cls] y.val fun e w' => e = .returned (.int .i64 (findC C t.cls)) ∧ y.val = w') := fun y => refFind_any y.val A c C t.cls hl (HL.out y)
                  obtain ⟨nf, hnf⟩ : ∃ nf, nf = findC C t.cls := ⟨_, rfl⟩
                  rw [← hnf] at hf0 Hf
                  have hd0 : decide (0 ≤ nf) = true := by simp [hf0]
                  clear hnf hf0 hd Hok
                  have hS : (fun W : World => ∃ y : Ext z.val, W = y.val) y4.val.drew := ⟨⟨y4.val.drew, y4.below.drew⟩, rfl⟩
                  refine wp_region_till (fun W : World => ∃ y : Ext z.val, W = y.val) 99 (by kernel_rfl) ?_
                  simp only [List.size_toArray, List.length_cons, List.length_nil, Nat.reduceAdd]
                  refine AnyTill.takeG (i := 0) (v := ?_) rfl (by kernel_rfl) (fun _ _ _ h => h) hS ?_ rfl ?_
                  rotate_left
                  · intro W hSW
                    obtain ⟨y, rfl⟩ := hSW
                    go_simp
                    all_goals with_reducible rfl
                  try simp only [Act.put, List.getElem_toArray, List.getElem_cons_succ, List.getElem_cons_zero, List.setIfInBounds_toArray, List.set_cons_zero, List.set_cons_succ]
                  refine AnyTill.takeG (i := 1) (v := ?_) rfl (by kernel_rfl) (fun _ _ _ h => h) hS ?_ rfl ?_
                  rotate_left
                  · intro W hSW
                    obtain ⟨y, rfl⟩ := hSW
                    go_simp
                    all_goals with_reducible rfl
                  try simp only [Act.put, List.getElem_toArray, List.getElem_cons_succ, List.getElem_cons_zero, List.setIfInBounds_toArray, List.set_cons_zero, List.set_cons_succ]
                  refine AnyTill.takeG (i := 2) (v := ?_) rfl (by kernel_rfl) (fun _ _ _ h => h) hS ?_ rfl ?_
                  rotate_left
                  · intro W hSW
                    obtain ⟨y, rfl⟩ := hSW
                    go_simp
                    all_goals with_reducible rfl
                  try simp only [Act.put, List.getElem_toArray, List.getElem_cons_succ, List.getElem_cons_zero, List.setIfInBounds_toArray, List.set_cons_zero, List.set_cons_succ]
                  obtain ⟨x0, hx0⟩ := hS
                  rw [hx0]
                  clear hx0
                  refine AnyTill.oneG (i := 3) rfl (by kernel_rfl) rfl ?_
                  intro K hK
                  go_simp
                  refine (Hf.out x0).mono ?_
                  rintro _ _ ⟨rfl, rfl⟩
                  refine hK _ _ (fun _ => ⟨x0, rfl⟩) ?_
                  clear hK K
                  have hS : (fun W : World => ∃ y : Ext z.val, W = y.val) x0.val := ⟨x0, rfl⟩
                  refine AnyTill.takeG (i := 4) (v := ?_) rfl (by kernel_rfl) (fun _ _ _ h => h) hS ?_ rfl ?_
                  rotate_left
                  · intro W hSW
                    obtain ⟨y, rfl⟩ := hSW
                    go_simp
                    all_goals with_reducible rfl
                  try simp only [Act.put, List.getElem_toArray, List.getElem_cons_succ, List.getElem_cons_zero, List.setIfInBounds_toArray, List.set_cons_zero, List.set_cons_succ]
                  refine AnyTill.takeG (i := 5) (v := ?_) rfl (by kernel_rfl) (fun _ _ _ h => h) hS ?_ rfl ?_
                  rotate_left
                  · intro W hSW
                    obtain ⟨y, rfl⟩ := hSW
                    go_simp
                    all_goals with_reducible rfl
                  try simp only [Act.put, List.getElem_toArray, List.getElem_cons_succ, List.getElem_cons_zero, List.setIfInBounds_toArray, List.set_cons_zero, List.set_cons_succ]
                  refine AnyTill.takeG (i := 6) (v := ?_) rfl (by kernel_rfl) (fun _ _ _ h => h) hS ?_ rfl ?_
                  rotate_left
                  · intro W hSW
                    obtain ⟨y, rfl⟩ := hSW
                    go_simp
                    all_goals with_reducible rfl
                  try simp only [Act.put, List.getElem_toArray, List.getElem_cons_succ, List.getElem_cons_zero, List.setIfInBounds_toArray, List.set_cons_zero, List.set_cons_succ]
                  refine AnyTill.takeG (i := 7) (v := .agg (t.cells).toArray) rfl (by kernel_rfl) (fun _ _ _ h => h) hS (fun W hSW => by
                    obtain ⟨y, rfl⟩ := hSW
                    exact run_load_mid (b := b1) (off := 0) rfl rfl (hRT.out y) Try.underlying35 rfl (by rw [Ty.cells_len]; kernel_rfl)) rfl ?_
                  try simp only [Act.put, List.getElem_toArray, List.getElem_cons_succ, List.getElem_cons_zero, List.setIfInBounds_toArray, List.set_cons_zero, List.set_cons_succ]
                  refine AnyTill.takeG (i := 8) (v := .agg (u.cells).toArray) rfl (by kernel_rfl) (fun _ _ _ h => h) hS (fun W hSW => by
                    obtain ⟨y, rfl⟩ := hSW
                    exact run_load_mid (b := b2) (off := 0) rfl rfl (hRU.out y) Try.underlying35 rfl (by rw [Ty.cells_len]; kernel_rfl)) rfl ?_
                  try simp only [Act.put, List.getElem_toArray, List.getElem_cons_succ, List.getElem_cons_zero, List.setIfInBounds_toArray, List.set_cons_zero, List.set_cons_succ]
                  refine AnyTill.oneG (i := 9) rfl (by kernel_rfl) rfl ?_
                  intro K hK
                  go_simp
                  refine ((refOwners_any u x0.val).over x0).mono ?_
                  rintro _ _ ⟨x1, A1, c1', hy1, rfl, rfl, _, _, hL1⟩
                  refine hK _ _ (fun _ => ⟨x1, rfl⟩) ?_
                  clear hK K hS
                  have hlu : u.owners.length ≤ 9223372036854775807 := by have := owners_le u; omega
                  have HW := hide (with_any t x1.val A1 c1' u.owners hlu hL1)
                  have Hv : Hid (∀ y : Ext z.val, Gives Try.prog 19 #[.slice A C.length c, .agg (withT t u.owners).cells.toArray, .int .i64 1] y.val (.int .i64 0)) := fun y => by rw [← hlt.out]; exact Hl.out y _ 1
                  clear hL1 hlt
                  generalize withT t u.owners = T at HW Hv
                  refine AnyTill.oneG (i := 10) rfl (by kernel_rfl) rfl ?_
                  intro K hK
                  go_simp
                  refine (HW.out.over x1).mono ?_
                  rintro _ _ ⟨x2, _, rfl, rfl⟩
                  refine hK _ _ (fun _ => ⟨x2, rfl⟩) ?_
                  clear hK K HW
                  refine AnyTill.oneG (i := 11) rfl (by kernel_rfl) rfl ?_
                  intro K hK
                  go_simp
                  refine ((Hv.out x2).over x2).mono ?_
                  rintro _ _ ⟨x3, _, rfl, rfl⟩
                  refine hK _ _ (fun _ => ⟨x3, rfl⟩) ?_
                  clear hK K Hv
                  have hS : (fun W : World => ∃ y : Ext z.val, W = y.val) x3.val := ⟨x3, rfl⟩
                  refine AnyTill.takeG (i := 12) (v := ?_) rfl (by kernel_rfl) (fun _ _ _ h => h) hS ?_ rfl ?_
                  rotate_left
                  · intro W hSW
                    obtain ⟨y, rfl⟩ := hSW
                    go_simp
                    all_goals with_reducible rfl
                  try simp only [Act.put, List.getElem_toArray, List.getElem_cons_succ, List.getElem_cons_zero, List.setIfInBounds_toArray, List.set_cons_zero, List.set_cons_succ]
                  refine AnyTill.takeG (i := 13) (v := ?_) rfl (by kernel_rfl) (fun _ _ _ h => h) hS ?_ rfl ?_
                  rotate_left
                  · intro W hSW
                    obtain ⟨y, rfl⟩ := hSW
                    go_simp
                    all_goals with_reducible rfl
                  try simp only [Act.put, List.getElem_toArray, List.getElem_cons_succ, List.getElem_cons_zero, List.setIfInBounds_toArray, List.set_cons_zero, List.set_cons_succ]
                  refine AnyTill.takeG (i := 14) (v := ?_) rfl (by kernel_rfl) (fun _ _ _ h => h) hS ?_ rfl ?_
                  rotate_left
                  · intro W hSW
                    obtain ⟨y, rfl⟩ := hSW
                    go_simp
                    all_goals with_reducible rfl
                  try simp only [Act.put, List.getElem_toArray, List.getElem_cons_succ, List.getElem_cons_zero, List.setIfInBounds_toArray, List.set_cons_zero, List.set_cons_succ]
                  refine AnyTill.oneG (i := 15) rfl (by kernel_rfl) rfl ?_
                  intro K hK
                  go_simp
                  refine ((awake25_any _).over x3).mono ?_
                  rintro _ _ ⟨x4, _, rfl, rfl⟩
                  refine hK _ _ (fun _ => ⟨x4, rfl⟩) ?_
                  clear hK K hS
                  have hS : (fun W : World => ∃ y : Ext z.val, W = y.val) x4.val := ⟨x4, rfl⟩
                  refine AnyTill.takeG (i := 16) (v := ?_) rfl (by kernel_rfl) (fun _ _ _ h => h) hS ?_ rfl ?_
                  rotate_left
                  · intro W hSW
                    obtain ⟨y, rfl⟩ := hSW
                    go_simp
                    all_goals with_reducible rfl
                  try simp only [Act.put, List.getElem_toArray, List.getElem_cons_succ, List.getElem_cons_zero, List.setIfInBounds_toArray, List.set_cons_zero, List.set_cons_succ]
                  refine AnyTill.oneG (i := 17) rfl (by kernel_rfl) rfl ?_
                  intro K hK
                  go_simp
                  refine hK _ _ (fun _ => ⟨x4, rfl⟩) ?_
                  clear hK K
                  refine AnyTill.done (by kernel_rfl) ?_ _
                  go_wp2_with fail
                  go_ret
                  exact ⟨rfl, HB1.out x4⟩
end Go.Proofs.Ytfebpmaaaiaccaa
