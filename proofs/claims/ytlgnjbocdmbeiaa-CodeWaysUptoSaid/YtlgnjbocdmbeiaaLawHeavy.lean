/- The walk of demesnelaw34.heavy. -/
import Derived.Test.YtlgnjbocdmbeiaaHeavyAll
set_option linter.unusedSimpArgs false
set_option linter.unusedVariables false
namespace Go.Proofs.Ytlgnjbocdmbeiaa
open Go.RowKit Go.Proofs.Grow

theorem infoMe : (Try.prog.info? 30).map (fun i => (i.zero.map (·.cells.size), i.size, i.bytes)) = some (some 17, 17, 200) := by kernel_rfl
theorem infoCl : (Try.prog.info? 62).map (fun i => (i.zero.map (·.cells.size), i.size, i.bytes)) = some (some 7, 7, 136) := by kernel_rfl
theorem built_cl (g : Nat) : Try.prog.built 62 [(5, .slice (some ⟨g, 0, none⟩) 1 1)] = some #[.string ByteArray.empty, .slice none 0 0, .string ByteArray.empty, .slice none 0 0, .slice none 0 0, .slice (some ⟨g, 0, none⟩) 1 1, .int .i64 0] := by kernel_rfl

set_option maxRecDepth 100000 in
set_option maxHeartbeats 1000000 in
theorem lawHeavy_any (m : Me) (w : World) (hm : MeIn w m) : SomeBool Try.prog 6 #[.agg m.cells.toArray] w := by
  unfold SomeBool
  obtain ⟨i0, z0, hi, hz0, hz1, hz2, hzs⟩ := info_row infoMe
  obtain ⟨i1, z1, hi1, hz10, hz11, hz12, hz1s⟩ := info_row infoCl
  have HM := hide hm
  clear hm
  go_enter Try.func6, Try.ntmps6
  go_upto_region 1 with fail
  obtain ⟨w1, hw1⟩ : ∃ w1, w1 = w.alloc (.cells m.cells.toArray 30) := ⟨_, rfl⟩
  rw [← hw1]
  have hB1 : Hid (Below w.heap.size w w1) := by
    show Below _ _ _
    rw [hw1]
    exact (Below.refl _ _).alloc (Nat.le_refl _) _
  have hsz : w.heap.size < w1.heap.size := by rw [hw1]; simp
  have hblk : Hid (w1.heap[w.heap.size]? = some (.cells m.cells.toArray 30 (0, 0))) := by rw [hw1]; exact heap_alloc_new w _
  clear hw1
  go_wp2_with (first | (refine wpList_load_row rfl 30 (.tmp 1) rfl w.heap.size rfl 30 m.cells.toArray (0, 0) _ hblk.out Try.underlying30 rfl (by rw [List.size_toArray, Me.cells_len]; kernel_rfl) ?_) | (refine wpList_lit_one rfl 58 30 (.tmp 3) rfl _ rfl i0 z0 17 Try.underlying58 hi hz0 hz1 (by rw [List.size_toArray, Me.cells_len]) (by omega) (by omega) ?_) | (refine wpList_buildL rfl 62 _ rfl _ (built_cl _) ?_) | (refine wpList_lit_one rfl 63 62 (.tmp 5) rfl _ rfl i1 z1 7 Try.underlying63 hi1 hz10 hz11 rfl (by omega) (by omega) ?_))
  have hcl : (#[.string ByteArray.empty, .slice none 0 0, .string ByteArray.empty, .slice none 0 0, .slice none 0 0, .slice (some ⟨w1.heap.size, 0, none⟩) 1 1, .int .i64 0] : Array Value) = (Cl.mk ByteArray.empty none 0 [] ByteArray.empty none 0 [] none 0 [] (some ⟨w1.heap.size, 0, none⟩) 1 [m] 0).cells.toArray := rfl
  rw [hcl]
  obtain ⟨cl, hce⟩ : ∃ cl, Hid (cl = Cl.mk ByteArray.empty none 0 [] ByteArray.empty none 0 [] none 0 [] (some ⟨w1.heap.size, 0, none⟩) 1 [m] 0) := ⟨_, rfl⟩
  rw [← hce.out]
  clear hcl
  obtain ⟨x2, hx2⟩ : ∃ x : Ext w1, (w1.alloc (.cells m.cells.toArray 30)).alloc (.cells cl.cells.toArray 62) = x.val := Ext.of (((Below.refl _ _).alloc (Nat.le_refl _) _).alloc (by simp) _)
  have hL : Hid (Lies x2.val 7 Cl.cells (some ⟨w1.heap.size + 1, 0, none⟩) [cl]) := by
    have h := Lies.one (e := 62) (w1.alloc (.cells m.cells.toArray 30)) (size := 7) (enc := Cl.cells) cl cl.cells.toArray rfl
    rw [hx2] at h
    show Lies _ _ _ _ _
    simpa using h
  have hM2 : Hid (MeIn x2.val m) := (HM.out.ext ⟨w1, hB1.out⟩).ext x2
  have hM3 : Hid (Lies x2.val 17 Me.cells (some ⟨w1.heap.size, 0, none⟩) [m]) := by
    have h := (Lies.one (e := 30) w1 (size := 17) (enc := Me.cells) m m.cells.toArray rfl).alloc (.cells cl.cells.toArray 62)
    rw [hx2] at h
    exact h
  have hC : Hid (ClIn x2.val cl) := by
    show ClIn _ _
    rw [hce.out]
    exact ⟨Lies.nil, Nat.le_refl _, Nat.zero_le _, Lies.nil, Nat.le_refl _, Nat.zero_le _, Lies.nil, Nat.le_refl _, Nat.zero_le _, hM3.out, Nat.le_refl _, by simp [maxLen], by simpa using hM2.out⟩
  rw [hx2]
  have h9 := (heavy_any x2.val _ 1 [cl] hL.out (by simp) (by simp [maxLen]) (by simpa using hC.out)).over x2
  refine h9.mono ?_
  rintro _ _ ⟨y, u, hy, rfl, rfl⟩
  clear h9 hx2
  go_wp2_with fail
  go_ret
  obtain ⟨z, hz⟩ := below_two hB1.out y
  exact ⟨z, _, rfl, hz⟩
end Go.Proofs.Ytlgnjbocdmbeiaa
