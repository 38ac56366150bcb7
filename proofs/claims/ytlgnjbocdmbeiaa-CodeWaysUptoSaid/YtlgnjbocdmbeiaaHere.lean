/- The walk of code.writer's method here. -/
import Derived.Test.YtlgnjbocdmbeiaaCode
set_option linter.unusedSimpArgs false
set_option linter.unusedVariables false
namespace Go.Proofs.Ytlgnjbocdmbeiaa
open Go.RowKit Go.Proofs.Grow

theorem Ins.set24 (i : Ins) (n : Int) : (Ins.mk i.k i.s n).cells = i.cells.set 24 (.int .i64 n) := by
  unfold Ins.cells
  rw [List.set_cons_succ, List.set_append_right _ _ (by rw [St.cells_len]; omega), St.cells_len]; rfl

set_option maxHeartbeats 2000000 in
set_option maxRecDepth 100000 in
theorem here_core (w : World) (base g : Nat) (v : Value) (acc : List Ins) (k : Nat) (hk : k < acc.length) (hW : Wr base g w v acc) :
    Calls Try.prog 24 #[.pointer (some ⟨g, 0, none⟩), .int .i64 k] w fun e w' => e = .returned (.tuple #[]) ∧ Wrote base g w v (acc.set k ⟨acc[k].k, acc[k].s, acc.length⟩) w' := by
  have HW := hide hW
  obtain ⟨⟨h1, h2⟩⟩ := And.intro hW.own trivial
  rcases h2 with ⟨rfl, h2⟩ | ⟨g', cap, cur, rfl, hb, hh, hnc, hcm, hcs, hcur⟩
  · omega
  · have hki : (k : Int) < (acc.length : Int) := by omega
    have hk0 : ¬ ((k : Int) < 0) := by omega
    have hblk := hide hW.blk
    have hh' := hide hh
    have hnc' := hide (And.intro hnc (And.intro hcm hcs))
    clear hh hnc hcm hcs hcur h1 hW
    go_enter Try.func24, Try.ntmps24
    go_wp2_with fail
    have hS : (fun W : World => W.heap[g]? = some (.cells #[.slice (some ⟨g', 0, none⟩) acc.length cap] 66 (0, 0))) w.drew := hblk.out
    refine wp_region_till (fun W : World => W.heap[g]? = some (.cells #[.slice (some ⟨g', 0, none⟩) acc.length cap] 66 (0, 0))) 12 (by kernel_rfl) ?_
    simp only [List.size_toArray, List.length_cons, List.length_nil, Nat.reduceAdd]
    refine AnyTill.take (i := 0) (v := ?_) rfl (by kernel_rfl) (fun _ _ _ h => h) hS ?_ rfl ?_
    rotate_left
    · intro W hSW
      have hg0 : W.cell? ⟨g, 0, none⟩ = some (.slice (some ⟨g', 0, none⟩) acc.length cap) := by simpa using cell_of_row W g 0 _ _ _ hSW
      clear hSW
      go_simp
      all_goals with_reducible rfl
    try simp only [Act.put, List.setIfInBounds_toArray, List.set_cons_zero, List.set_cons_succ]
    refine AnyTill.take (i := 1) (v := ?_) rfl (by kernel_rfl) (fun _ _ _ h => h) hS ?_ rfl ?_
    rotate_left
    · intro W hSW
      have hg0 : W.cell? ⟨g, 0, none⟩ = some (.slice (some ⟨g', 0, none⟩) acc.length cap) := by simpa using cell_of_row W g 0 _ _ _ hSW
      clear hSW
      go_simp
      all_goals with_reducible rfl
    try simp only [Act.put, List.setIfInBounds_toArray, List.set_cons_zero, List.set_cons_succ]
    refine AnyTill.take (i := 2) (v := ?_) rfl (by kernel_rfl) (fun _ _ _ h => h) hS ?_ rfl ?_
    rotate_left
    · intro W hSW
      have hg0 : W.cell? ⟨g, 0, none⟩ = some (.slice (some ⟨g', 0, none⟩) acc.length cap) := by simpa using cell_of_row W g 0 _ _ _ hSW
      clear hSW
      go_simp
      all_goals with_reducible rfl
    try simp only [Act.put, List.setIfInBounds_toArray, List.set_cons_zero, List.set_cons_succ]
    refine AnyTill.take (i := 3) (v := ?_) rfl (by kernel_rfl) (fun _ _ _ h => h) hS ?_ rfl ?_
    rotate_left
    · intro W hSW
      have hg0 : W.cell? ⟨g, 0, none⟩ = some (.slice (some ⟨g', 0, none⟩) acc.length cap) := by simpa using cell_of_row W g 0 _ _ _ hSW
      clear hSW
      go_simp
      all_goals with_reducible rfl
    try simp only [Act.put, List.setIfInBounds_toArray, List.set_cons_zero, List.set_cons_succ]
    refine AnyTill.take (i := 4) (v := ?_) rfl (by kernel_rfl) (fun _ _ _ h => h) hS ?_ rfl ?_
    rotate_left
    · intro W hSW
      have hg0 : W.cell? ⟨g, 0, none⟩ = some (.slice (some ⟨g', 0, none⟩) acc.length cap) := by simpa using cell_of_row W g 0 _ _ _ hSW
      clear hSW
      go_simp
      all_goals with_reducible rfl
    try simp only [Act.put, List.setIfInBounds_toArray, List.set_cons_zero, List.set_cons_succ]
    refine AnyTill.take (i := 5) (v := ?_) rfl (by kernel_rfl) (fun _ _ _ h => h) hS ?_ rfl ?_
    rotate_left
    · intro W hSW
      have hg0 : W.cell? ⟨g, 0, none⟩ = some (.slice (some ⟨g', 0, none⟩) acc.length cap) := by simpa using cell_of_row W g 0 _ _ _ hSW
      clear hSW
      go_simp
      all_goals with_reducible rfl
    try simp only [Act.put, List.setIfInBounds_toArray, List.set_cons_zero, List.set_cons_succ]
    refine AnyTill.take (i := 6) (v := ?_) rfl (by kernel_rfl) (fun _ _ _ h => h) hS ?_ rfl ?_
    rotate_left
    · intro W hSW
      have hg0 : W.cell? ⟨g, 0, none⟩ = some (.slice (some ⟨g', 0, none⟩) acc.length cap) := by simpa using cell_of_row W g 0 _ _ _ hSW
      clear hSW
      go_simp
      all_goals with_reducible rfl
    try simp only [Act.put, List.setIfInBounds_toArray, List.set_cons_zero, List.set_cons_succ]
    refine AnyTill.take (i := 7) (v := ?_) rfl (by kernel_rfl) (fun _ _ _ h => h) hS ?_ rfl ?_
    rotate_left
    · intro W hSW
      have hg0 : W.cell? ⟨g, 0, none⟩ = some (.slice (some ⟨g', 0, none⟩) acc.length cap) := by simpa using cell_of_row W g 0 _ _ _ hSW
      clear hSW
      go_simp
      all_goals with_reducible rfl
    try simp only [Act.put, List.setIfInBounds_toArray, List.set_cons_zero, List.set_cons_succ]
    refine AnyTill.take (i := 8) (v := ?_) rfl (by kernel_rfl) (fun _ _ _ h => h) hS ?_ rfl ?_
    rotate_left
    · intro W hSW
      have hg0 : W.cell? ⟨g, 0, none⟩ = some (.slice (some ⟨g', 0, none⟩) acc.length cap) := by simpa using cell_of_row W g 0 _ _ _ hSW
      clear hSW
      go_simp
      all_goals with_reducible rfl
    try simp only [Act.put, List.setIfInBounds_toArray, List.set_cons_zero, List.set_cons_succ]
    refine AnyTill.take (i := 9) (v := ?_) rfl (by kernel_rfl) (fun _ _ _ h => h) hS ?_ rfl ?_
    rotate_left
    · intro W hSW
      have hg0 : W.cell? ⟨g, 0, none⟩ = some (.slice (some ⟨g', 0, none⟩) acc.length cap) := by simpa using cell_of_row W g 0 _ _ _ hSW
      clear hSW
      go_simp
      all_goals with_reducible rfl
    try simp only [Act.put, List.setIfInBounds_toArray, List.set_cons_zero, List.set_cons_succ]
    refine AnyTill.oneK (i := 10) rfl (by kernel_rfl) rfl ?_
    intro K hK
    go_simp
    refine hK _ _ (fun _ => hS) ?_
    clear hK K
    refine AnyTill.oneK (i := 11) rfl (by kernel_rfl) rfl ?_
    intro K hK
    go_simp
    refine hK _ _ (fun _ => hS) ?_
    clear hK K
    have hsz : k * 25 + 24 < cur.size := by have := hnc'.out.2.2; have := hnc'.out.1; omega
    have HS : Wrote base g w (.slice (some ⟨g', 0, none⟩) acc.length cap) (acc.set k ⟨acc[k].k, acc[k].s, acc.length⟩) (w.setCell ⟨g', k * 25 + 24, none⟩ (.int .i64 acc.length)) := by
      have hne : g ≠ g' := fun e => by
        have h1 := hblk.out
        rw [e, hh'.out] at h1
        have h2 := hnc'.out.2.2
        simp only [Option.some.injEq, Obj.cells.injEq] at h1
        rw [h1.1] at hsz
        simp at hsz
      refine ⟨_, ⟨(heap_setCell_other w ⟨g', k * 25 + 24, none⟩ g _ hne).trans hblk.out, ?_⟩, ⟨rfl, rfl, rfl, ?_, fun j _ _ hj => heap_setCell_other w _ j _ (fun e => hj (by simp [Value.ownBlock, e]))⟩, .inl rfl⟩
      · exact HW.out.own.setCell Ins.cells_len k 24 hk (by omega) _ _ (Ins.set24 _ _) rfl
      · simp [World.setCell]
    have hfz : w.frozen? ⟨g', k * 25 + 24, none⟩ = false := frozen_of_row w g' _ cur _ hh'.out
    obtain ⟨u, hct⟩ : ∃ u, w.cell? ⟨g', k * 25 + 24, none⟩ = some u := ⟨cur[k * 25 + 24], by
      have := cell_of_row w g' (k * 25 + 24) _ _ _ hh'.out
      simpa [hsz] using this⟩
    clear hsz
    refine AnyTill.oneK (i := 12) rfl (by kernel_rfl) rfl ?_
    intro K hK
    go_simp
    refine hK _ _ (fun h => absurd rfl h) ?_
    clear hK K
    refine AnyTill.done (by kernel_rfl) ?_ _
    go_wp2_with fail
    go_end0
    exact ⟨rfl, HS.drew⟩
end Go.Proofs.Ytlgnjbocdmbeiaa
