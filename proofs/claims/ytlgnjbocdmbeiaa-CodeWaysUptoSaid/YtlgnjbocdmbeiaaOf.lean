/- The walk of code.Of. -/
import Derived.Test.YtlgnjbocdmbeiaaBodyAll
import Derived.Test.YtlgnjbocdmbeiaaCls
set_option linter.unusedSimpArgs false
set_option linter.unusedVariables false
namespace Go.Proofs.Ytlgnjbocdmbeiaa
open Go.RowKit Go.Proofs.Grow

set_option maxRecDepth 100000 in
set_option maxHeartbeats 1000000 in
theorem codeOf_any (m : Me) (w : World) (hm : MeIn w m) (hN : (codeOf m.body).length < 400000000000) : GivesList Try.prog 8 #[.agg m.cells.toArray] w 25 Ins.cells (codeOf m.body) := by
  unfold GivesList
  have HM := hide hm
  have hN' := hide hN
  clear hm hN
  simp only [Me.cells, Ty.cells, List.cons_append, List.nil_append]
  go_enter Try.func8, Try.ntmps8
  go_wp2_with fail
  refine (body_any m.body w _ (w.heap.size + 1) (.slice none 0 0) [] m.bA m.bc ⟨?_, Own.nil⟩ ?_ (Nat.le_succ _) HM.out.stmts HM.out.body HM.out.bc HM.out.bm ?_).mono ?_
  · have e := heap_alloc_new (w.alloc (.cells m.cells.toArray 30)) (.cells #[.slice none 0 0] 66)
    simpa [Me.cells, Ty.cells] using e
  · repeat (first | exact Below.refl _ _ | exact Nat.le_refl _ | assumption | refine below_ext ?_ ?_ _ | refine Below.alloc ?_ ?_ _ | refine Below.drew ?_ | refine Below.setCell ?_ ?_ _ | refine Ext.le _ ?_ | refine le_alloc ?_ | refine le_drew ?_ | refine le_setCell ?_)
    all_goals omega
  · have := hN'.out
    simp only [codeOf, List.length_append, List.length_cons, List.length_nil] at this
    simp only [List.length_append, List.length_nil]
    omega
  rintro _ w1 ⟨rfl, h1⟩
  have h1' := hide h1
  obtain ⟨x1, rfl⟩ : ∃ x : Ext w, w1 = x.val := by
    refine h1.ext0 (Nat.le_succ _) (by intro k e; cases e) ?_
    repeat (first | exact Below.refl _ _ | exact Nat.le_refl _ | assumption | refine below_ext ?_ ?_ _ | refine Below.alloc ?_ ?_ _ | refine Below.drew ?_ | refine Below.setCell ?_ ?_ _ | refine Ext.le _ ?_ | refine le_alloc ?_ | refine le_drew ?_ | refine le_setCell ?_)
    all_goals omega
  obtain ⟨v1, hwr1, _, _⟩ := h1
  simp only [List.nil_append, List.length_nil] at hwr1
  have HW1 := hide hwr1
  clear hwr1 h1'
  go_wp2_with fail
  have h2 := put_any x1.val w.heap.size (w.heap.size + 1) v1 _ 4 0 St.zero _ rfl HW1.out (x1.le (Nat.le_refl _)) (by
    have := hN'.out
    simp only [codeOf, List.length_append, List.length_cons, List.length_nil] at this
    omega)
  refine h2.mono ?_
  clear h2
  rintro _ w2 ⟨rfl, h2⟩
  obtain ⟨x2, rfl⟩ := h2.ext0 (w0 := w) (Nat.le_succ _) (fun k e => (HW1.out.own.from_ k e).1) x1.below
  obtain ⟨v2, hwr2, _, _⟩ := h2
  have hc : x2.val.cell? ⟨w.heap.size + 1, 0, none⟩ = some v2 := by simpa using cell_of_row x2.val _ 0 _ _ _ hwr2.blk
  have HW2 := hide hwr2
  clear hwr2
  go_wp2_with fail
  go_ret
  obtain ⟨A, c, hv, h1, h2, h3⟩ := HW2.out.own.lies Ins.cells_len
  have e : codeList m.body 0 ++ [⟨4, bare St.zero, 0⟩] = codeOf m.body := rfl
  rw [e] at hv h1 h3
  exact ⟨x2, A, c, congrArg Ending.returned hv, rfl, h1, h2, h3⟩
end Go.Proofs.Ytlgnjbocdmbeiaa
