/- The walk of demesneref34.Of. -/
import Derived.Test.YtlgnjbocdmbeiaaOne
set_option linter.unusedSimpArgs false
set_option linter.unusedVariables false
namespace Go.Proofs.Ytlgnjbocdmbeiaa
open Go.RowKit Go.Proofs.Grow

theorem lists_any (l : List St) : ListsOwn l := list_step l fun s hs =>
  have h := List.sizeOf_lt_of_mem hs
  have h1 : SizeOf.sizeOf s.body < SizeOf.sizeOf s := by cases s; simp [St.body]; omega
  have h2 : SizeOf.sizeOf s.els < SizeOf.sizeOf s := by cases s; simp [St.els]; omega
  one_step s (lists_any s.body).lists (lists_any s.els).lists
termination_by SizeOf.sizeOf l

set_option maxRecDepth 100000 in
set_option maxHeartbeats 1000000 in
theorem refOf_any (m : Me) (w : World) (hm : MeIn w m) (hN : (codeOf m.body).length < 400000000000) : GivesList Try.prog 9 #[.agg m.cells.toArray] w 25 Ins.cells (codeOf m.body) := by
  unfold GivesList
  obtain ⟨i0, z0, hi, hz0, hz1, hz2, hzs⟩ := info_row infoRefIns
  have HM := hide hm
  have hN' := hide hN
  clear hm hN
  have b15 : m.cells.toArray[15]? = some (.slice m.bA m.body.length m.bc) := rfl
  go_enter Try.func9, Try.ntmps9
  go_upto_region 1 with fail
  obtain ⟨w1, hw1⟩ : ∃ w1, w1 = w.alloc (.cells m.cells.toArray 30) := ⟨_, rfl⟩
  rw [← hw1]
  have hB1 : Hid (Below w.heap.size w w1) := by
    show Below _ _ _
    rw [hw1]
    exact (Below.refl _ _).alloc (Nat.le_refl _) _
  have hsz : w.heap.size < w1.heap.size := by rw [hw1]; simp
  have c15 : w1.cell? ⟨w.heap.size, 15, none⟩ = some (.slice m.bA m.body.length m.bc) := by rw [hw1, cell_of_row _ _ _ _ _ _ (heap_alloc_new w _)]; exact b15
  clear hw1 b15
  have HM1 := hide (HM.out.ext ⟨w1, hB1.out⟩)
  have hl := hN'.out
  simp only [codeOf, List.length_append, List.length_cons, List.length_nil] at hl
  have hl0 := hide hl
  clear hl
  go_wp2_with (first | (go_at_call 18; refine (lists_any m.body w1 m.bA m.bc 0 _ rfl HM1.out.stmts HM1.out.body HM1.out.bc HM1.out.bm (by have := hl0.out; omega)).mono ?_; rintro _ _ ⟨y1, v1, rfl, rfl, h1⟩; have HO1 := hide h1; clear h1) | (refine wpList_buildL rfl 44 _ rfl _ (built_end 4) ?_) | (refine wpList_lit_one rfl 35 44 (.tmp 6) rfl _ rfl i0 z0 25 Try.underlying35 hi hz0 hz1 (Ins.size _) (by omega) (by omega) ?_) | (at_builtin; refine wpList_append_list (w1 := w1) _ rfl (.tmp 5) (.tmp 7) 35 rfl 44 i0 z0 25 304 Try.underlying35 hi hz0 hz1 hz2 hzs (by omega) Ins.cells_len Ins.cells_one (y1.below.alloc (y1.le (Nat.le_refl _)) _) _ (codeList m.body 0) rfl (HO1.out.alloc _) _ 1 1 [Ins.mk 4 St.zero 0] rfl rfl (Lies.one y1.val (Ins.mk 4 St.zero 0) _ rfl) (by have := hl0.out; simp [maxLen]; omega) (by have := hl0.out; simp [maxLen]; omega) ?_; intro v8 z8 hown8 hgr8 hat8))
  go_ret
  obtain ⟨A, c, hv, h1, h2, h3⟩ := hown8.lies Ins.cells_len
  obtain ⟨u, hu⟩ := Ext.of (hB1.out.trans (z8.below.mono hB1.out.size))
  exact ⟨u, A, c, congrArg Ending.returned hv, hu, h1, h2, hu ▸ h3⟩
end Go.Proofs.Ytlgnjbocdmbeiaa
