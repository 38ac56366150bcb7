/- The walk of demesneref12.Vars. -/
import Derived.Test.YtmpdmelkbemabaaRefLines
set_option linter.unusedSimpArgs false
set_option linter.unusedVariables false
namespace Go.Proofs.Grow
open Go.RowKit
theorem Va.cells_len (v : Va) : v.cells.length = 13 := rfl
theorem Va.cells_one (v : Va) : ∀ u ∈ v.cells, u.oneCell' = true := by
  intro u hu
  unfold Va.cells at hu
  rcases List.mem_cons.1 hu with rfl | hu
  · rfl
  rcases List.mem_append.1 hu with hu | hu
  · exact v.ty.cells_one u hu
  · rw [List.mem_singleton.1 hu]; rfl
end Go.Proofs.Grow
namespace Go.Proofs.Ytmpdmelkbemabaa
open Go.RowKit Go.Proofs.Grow

theorem infoVa : (Try.prog.info? 79).map (fun i => (i.zero.map (·.cells.size), i.size, i.bytes)) = some (some 13, 13, 120) := by kernel_rfl

set_option maxHeartbeats 4000000 in
set_option maxRecDepth 100000 in
theorem refVars_any (m : Me) (w : World) (hm : MeIn w m) (hn : m.params.length + m.locals.length ≤ 1000000000000) : GivesOwn Try.prog 19 #[.agg m.cells.toArray] w 79 13 Va.cells (m.params ++ m.locals) := by
  unfold GivesOwn
  obtain ⟨i0, z0, hi0, hz0, hz1, hz2, hzs⟩ := info_row infoVa
  have HM := hide hm
  have HN := hide hn
  clear hm hn
  go_enter Try.func19, Try.ntmps19
  go_wp2_with fail
  obtain ⟨w1, hw1⟩ : ∃ w1, w1 = w.alloc (.cells m.cells.toArray 63) := ⟨_, rfl⟩
  have hrow : Hid (w1.heap[w.heap.size]? = some (.cells m.cells.toArray 63 (0, 0))) := by rw [hw1]; exact heap_alloc_new w _
  have hB1 : Hid (Below w.heap.size w w1) := by show Below _ _ _; rw [hw1]; exact (Below.refl _ _).alloc (Nat.le_refl _) _
  have hsz1 : w1.heap.size = w.heap.size + 1 := by rw [hw1]; simp
  rw [← hw1]
  clear hw1
  let S : World → Prop := fun W => Below w1.heap.size w1 W
  have hSc : ∀ X, S X → X.cell? ⟨w.heap.size, 13, none⟩ = some (.slice m.pA m.params.length m.pc) ∧ X.cell? ⟨w.heap.size, 14, none⟩ = some (.slice m.lA m.locals.length m.lc) := fun X h => by
    have hr : X.heap[w.heap.size]? = some (.cells m.cells.toArray 63 (0, 0)) := (h.block _ (by omega)).trans hrow.out
    exact ⟨(row_cell hr (j := 13) rfl).1, (row_cell hr (j := 14) rfl).1⟩
  have hSw : Hid (∀ X, S X → Below w.heap.size w X) := fun X h => hB1.out.trans (h.mono (by omega))
  have hS : S w1.drew := (Below.refl _ _).drew
  refine wp_region_till S 99 (by kernel_rfl) ?_
  simp only [List.size_toArray, List.length_cons, List.length_nil, Nat.reduceAdd]
  refine AnyTill.takeG (i := 1) (v := ?_) rfl (by kernel_rfl) (fun _ _ _ h => h) hS ?_ rfl ?_
  rotate_left
  · intro X hSX
    skip
    go_simp
    all_goals with_reducible rfl
  try simp only [Act.put, List.getElem_toArray, List.getElem_cons_succ, List.getElem_cons_zero, List.setIfInBounds_toArray, List.set_cons_zero, List.set_cons_succ]
  refine AnyTill.takeG (i := 2) (v := ?_) rfl (by kernel_rfl) (fun _ _ _ h => h) hS ?_ rfl ?_
  rotate_left
  · intro X hSX
    obtain ⟨h13, h14⟩ := hSc X hSX
    go_simp
    all_goals with_reducible rfl
  try simp only [Act.put, List.getElem_toArray, List.getElem_cons_succ, List.getElem_cons_zero, List.setIfInBounds_toArray, List.set_cons_zero, List.set_cons_succ]
  refine AnyTill.takeG (i := 4) (v := ?_) rfl (by kernel_rfl) (fun _ _ _ h => h) hS ?_ rfl ?_
  rotate_left
  · intro X hSX
    skip
    go_simp
    all_goals with_reducible rfl
  try simp only [Act.put, List.getElem_toArray, List.getElem_cons_succ, List.getElem_cons_zero, List.setIfInBounds_toArray, List.set_cons_zero, List.set_cons_succ]
  refine AnyTill.takeG (i := 5) (v := ?_) rfl (by kernel_rfl) (fun _ _ _ h => h) hS ?_ rfl ?_
  rotate_left
  · intro X hSX
    obtain ⟨h13, h14⟩ := hSc X hSX
    go_simp
    all_goals with_reducible rfl
  try simp only [Act.put, List.getElem_toArray, List.getElem_cons_succ, List.getElem_cons_zero, List.setIfInBounds_toArray, List.set_cons_zero, List.set_cons_succ]
  refine AnyTill.oneG (i := 0) rfl (by kernel_rfl) rfl ?_
  intro K hK
  go_simp
  obtain ⟨W2, hW2⟩ : ∃ W, W = (w1.alloc (.cells #[] 79)).drew := ⟨_, rfl⟩
  have hS2 : S W2 := by show Below _ _ _; rw [hW2]; exact ((Below.refl _ _).alloc (Nat.le_refl _) _).drew
  have ho2 : Hid (Grow.Own W2 w1.heap.size 79 13 Va.cells (.slice (some ⟨w.heap.size + 1, 0, none⟩) 0 0) []) := by
    show Grow.Own _ _ _ _ _ _ _
    rw [hW2, ← hsz1]; exact (Own.empty w1).drew
  rw [← hW2]
  clear hW2 hS
  have hS := hS2
  clear hS2
  refine hK _ _ (fun _ => hS) ?_
  clear hK K
  refine AnyTill.oneG (i := 3) rfl (by kernel_rfl) rfl ?_
  intro K hK
  refine wp_append_list W2 (.tmp 3) (.tmp 5) 58 rfl w1.heap.size 79 i0 z0 13 120 Try.underlying58 hi0 hz0 hz1 hz2 hzs (by decide) Va.cells_len Va.cells_one _ [] rfl ho2.out m.pA m.params.length m.pc m.params rfl rfl (HM.out.params.below (hSw.out W2 hS)) ?_ ?_ hS.size ?_
  · have := HN.out; simp only [List.length_append, List.length_nil]; unfold maxLen; omega
  · have := HN.out; simp only [List.length_append, List.length_nil]; omega
  intro v3 W3 ho3 hgr hat
  have hS3 : S W3 := hS.grown hgr hS.size (fun j hj => (ho2.out.from_ j hj).1)
  have ho39 := hide ho3
  clear hgr hat ho3 ho2 hS
  refine hK _ _ (fun _ => hS3) ?_
  clear hK K
  have hS := hS3
  clear hS3
  try simp only [Act.put, List.getElem_toArray, List.getElem_cons_succ, List.getElem_cons_zero, List.setIfInBounds_toArray, List.set_cons_zero, List.set_cons_succ]
  refine AnyTill.oneG (i := 6) rfl (by kernel_rfl) rfl ?_
  intro K hK
  refine wp_append_list W3 (.tmp 6) (.tmp 8) 58 rfl w1.heap.size 79 i0 z0 13 120 Try.underlying58 hi0 hz0 hz1 hz2 hzs (by decide) Va.cells_len Va.cells_one _ ([] ++ m.params) rfl ho39.out m.lA m.locals.length m.lc m.locals rfl rfl (HM.out.locals.below (hSw.out W3 hS)) ?_ ?_ hS.size ?_
  · have := HN.out; simp only [List.length_append, List.length_nil]; unfold maxLen; omega
  · have := HN.out; simp only [List.length_append, List.length_nil]; omega
  intro v4 W4 ho4 hgr hat
  have hS4 : S W4 := hS.grown hgr hS.size (fun j hj => (ho39.out.from_ j hj).1)
  have ho49 := hide ho4
  clear hgr hat ho4 ho39 hS
  refine hK _ _ (fun _ => hS4) ?_
  clear hK K
  have hS := hS4
  clear hS4
  try simp only [Act.put, List.getElem_toArray, List.getElem_cons_succ, List.getElem_cons_zero, List.setIfInBounds_toArray, List.set_cons_zero, List.set_cons_succ]
  refine AnyTill.oneG (i := 7) rfl (by kernel_rfl) rfl ?_
  intro K hK
  go_simp
  refine hK _ _ (fun _ => hS) ?_
  clear hK K
  refine AnyTill.done (by kernel_rfl) ?_ _
  obtain ⟨z, hz⟩ := Ext.of (hSw.out W4 hS)
  have HZ := hide hz
  clear hS hSc hz
  go_wp2_with fail
  go_ret
  refine ⟨z, _, rfl, HZ.out, ?_⟩
  rw [← HZ.out]
  have := ho49.out
  rw [List.nil_append] at this
  exact this.weaken (by omega)
end Go.Proofs.Ytmpdmelkbemabaa
