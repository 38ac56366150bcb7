/- The walk of code.writer's method body, whatever the statements; of code.Of; of demesneref34.bare. -/
import Derived.Test.YtlgnjbocdmbeiaaBody
set_option linter.unusedSimpArgs false
set_option linter.unusedVariables false
namespace Go.Proofs.Ytlgnjbocdmbeiaa
open Go.RowKit Go.Proofs.Grow

theorem body_any (l : List St) : Bodies l := body_step l fun s hs =>
  have h := List.sizeOf_lt_of_mem hs
  have h1 : SizeOf.sizeOf s.body < SizeOf.sizeOf s := by cases s; simp [St.body]; omega
  have h2 : SizeOf.sizeOf s.els < SizeOf.sizeOf s := by cases s; simp [St.els]; omega
  ⟨body_any s.body, body_any s.els⟩
termination_by SizeOf.sizeOf l

def codeOf (l : List St) : List Ins := codeList l 0 ++ [⟨4, St.zero, 0⟩]

set_option maxRecDepth 100000 in
set_option maxHeartbeats 1000000 in
theorem bare_any (s : St) (w : World) : Gives Try.prog 27 #[.agg s.cells.toArray] w (.agg (bare s).cells.toArray) := by
  refine Gives.mk ?_
  obtain ⟨kd, x, y, name, ⟨tk, tc, tn, ⟨k0, n0⟩, ⟨k1, n1⟩, ⟨k2, n2⟩, ⟨k3, n3⟩⟩, ⟨ek, en, ename, eA, ec, kids⟩, aA, ac, args, bA, bc, body, lA, lc, els, pos⟩ := s
  simp only [bare, St.cells, Ty.cells, Ex.cells, List.cons_append, List.nil_append, List.length_nil]
  go_enter Try.func27, Try.ntmps27
  have hone : Hid (∀ u ∈ (#[.int .i64 kd, .string x, .string y, .string name, .int .i64 tk, .string tc, .int .i64 tn, .int .i64 k0, .int .i64 n0, .int .i64 k1, .int .i64 n1, .int .i64 k2, .int .i64 n2, .int .i64 k3, .int .i64 n3, .int .i64 ek, .int .i64 en, .string ename, .slice eA kids.length ec, .slice aA args.length ac, .slice none 0 0, .slice none 0 0, .int .i64 pos] : Array Value).toList, u.oneCell' = true) := fun u hu =>
    Ins.cells_one ⟨0, .mk kd x y name ⟨tk, tc, tn, ⟨k0, n0⟩, ⟨k1, n1⟩, ⟨k2, n2⟩, ⟨k3, n3⟩⟩ (.mk ek en ename eA ec kids) aA ac args none 0 [] none 0 [] pos, 0⟩ u (by simp only [Ins.cells, List.mem_cons, List.mem_append]; exact .inr (.inl hu))
  go_wp2_with (first | (refine wpList_load_under rfl 41 (.tmp 1) rfl _ _ _ rfl Try.underlying41 rfl (by kernel_rfl) ?_) | (refine wpList_store_new rfl 41 (.tmp 2) (.tmp 5) rfl _ _ _ (w.heap.size + 1) (by simp) rfl rfl (by kernel_rfl) rfl hone.out ?_))
  refine bodyPost_ret (v := .agg #[.int .i64 kd, .string x, .string y, .string name, .int .i64 tk, .string tc, .int .i64 tn, .int .i64 k0, .int .i64 n0, .int .i64 k1, .int .i64 n1, .int .i64 k2, .int .i64 n2, .int .i64 k3, .int .i64 n3, .int .i64 ek, .int .i64 en, .string ename, .slice eA kids.length ec, .slice aA args.length ac, .slice none 0 0, .slice none 0 0, .int .i64 pos]) (results_cell_row (p := 2) (ty := 41) Try.results27 _ _ (w.heap.size + 1) 41 _ (0, 0) _ rfl ?_ Try.underlying41 rfl (by kernel_rfl)) rfl ⟨rfl, ?_⟩
  · have e := heap_alloc_new (w.alloc (.cells #[.int .i64 kd, .string x, .string y, .string name, .int .i64 tk, .string tc, .int .i64 tn, .int .i64 k0, .int .i64 n0, .int .i64 k1, .int .i64 n1, .int .i64 k2, .int .i64 n2, .int .i64 k3, .int .i64 n3, .int .i64 ek, .int .i64 en, .string ename, .slice eA kids.length ec, .slice aA args.length ac, .slice none 0 0, .slice none 0 0, .int .i64 pos] 41)) (.cells #[.int .i64 kd, .string x, .string y, .string name, .int .i64 tk, .string tc, .int .i64 tn, .int .i64 k0, .int .i64 n0, .int .i64 k1, .int .i64 n1, .int .i64 k2, .int .i64 n2, .int .i64 k3, .int .i64 n3, .int .i64 ek, .int .i64 en, .string ename, .slice eA kids.length ec, .slice aA args.length ac, .slice none 0 0, .slice none 0 0, .int .i64 pos] 41)
    simpa using e
  repeat (first | exact Below.refl _ _ | exact Nat.le_refl _ | assumption | refine below_ext ?_ ?_ _ | refine Below.alloc ?_ ?_ _ | refine Below.drew ?_ | refine Below.setCell ?_ ?_ _ | refine Ext.le _ ?_ | refine le_alloc ?_ | refine le_drew ?_ | refine le_setCell ?_)
  all_goals omega
end Go.Proofs.Ytlgnjbocdmbeiaa
