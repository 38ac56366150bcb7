/- The walk of demesnelaw34.awake: it gives true. -/
import Derived.Test.YtlgnjbocdmbeiaaOf
import Derived.Test.YtlgnjbocdmbeiaaSet
set_option linter.unusedSimpArgs false
set_option linter.unusedVariables false
namespace Go.Proofs.Ytlgnjbocdmbeiaa
open Go.RowKit Go.Proofs.Grow

def exS : St := .mk 10 ByteArray.empty ByteArray.empty ByteArray.empty Ty.zero (.mk 1 1 ByteArray.empty none 0 []) none 0 [] none 0 [] none 0 [] 0
theorem codeOf_ex : codeOf [exS] = [⟨2, bare exS, 2⟩, ⟨3, St.zero, 0⟩, ⟨4, St.zero, 0⟩] := by
  simp [codeOf, codeList, codeOne, exS]
def exM (g : Nat) : Me := ⟨ByteArray.empty, false, Ty.zero, none, 0, [], none, 0, [], some ⟨g, 0, none⟩, 1, [exS], 0⟩
theorem built_exM (g : Nat) : Try.prog.built 30 [(5, .slice (some ⟨g, 0, none⟩) 1 1)] = some (exM g).cells.toArray := by kernel_rfl
theorem built_exE : Try.prog.built 39 [(0, .int .i64 1), (1, .int .i64 1)] = some (Ex.mk 1 1 ByteArray.empty none 0 []).cells.toArray := by kernel_rfl
theorem built_exS : Try.prog.built 41 [(0, .int .i64 10), (5, .agg (Ex.mk 1 1 ByteArray.empty none 0 []).cells.toArray)] = some exS.cells.toArray := by kernel_rfl
theorem infoSt : (Try.prog.info? 41).map (fun i => (i.zero.map (·.cells.size), i.size, i.bytes)) = some (some 23, 23, 288) := by kernel_rfl
theorem next_ex : next (codeOf [exS]) 1 = 0 := by
  rw [codeOf_ex]; rfl

set_option maxRecDepth 100000 in
set_option maxHeartbeats 1000000 in
theorem awake_any (w : World) : Gives Try.prog 7 #[] w (.bool true) := by
  refine Gives.mk ?_
  obtain ⟨i0, z0, hi, hz0, hz1, hz2, hzs⟩ := info_row infoSt
  go_enter Try.func7, Try.ntmps7
  go_upto_region 2 with (first | (refine wpList_buildL rfl 39 _ rfl _ built_exE ?_) | (refine wpList_buildL rfl 41 _ rfl _ built_exS ?_) | (refine wpList_lit_one rfl 28 41 (.tmp 3) rfl _ rfl i0 z0 23 Try.underlying28 hi hz0 hz1 (by rw [List.size_toArray, St.cells_len]) (by omega) (by omega) ?_) | (refine wpList_buildL rfl 30 _ rfl _ (built_exM _) ?_))
  obtain ⟨x1, hx1⟩ : ∃ x : Ext w, w.alloc (.cells exS.cells.toArray 41) = x.val := Ext.of ((Below.refl _ _).alloc (Nat.le_refl _) _)
  have hM : Hid (MeIn x1.val (exM w.heap.size)) := by
    have h := Lies.one (e := 41) w (size := 23) (enc := St.cells) exS exS.cells.toArray rfl
    rw [hx1] at h
    refine ⟨Lies.nil, Nat.le_refl _, Nat.zero_le _, Lies.nil, Nat.le_refl _, Nat.zero_le _, h, Nat.le_refl _, by simp [exM, maxLen], ?_⟩
    intro s hs
    obtain rfl : s = exS := by simpa [exM] using hs
    exact .mk (.mk Lies.nil (Nat.le_refl _) (Nat.zero_le _) (by simp [maxLen]) (fun _ h => by cases h)) Lies.nil (Nat.le_refl _) (Nat.zero_le _) (fun _ h => by cases h) Lies.nil (Nat.le_refl _) (Nat.zero_le _) (fun _ h => by cases h) Lies.nil (Nat.le_refl _) (Nat.zero_le _) (fun _ h => by cases h) (by simp [maxLen, Ty.zero])
  rw [hx1]
  refine (GivesList.over x1 (codeOf_any (exM w.heap.size) x1.val hM.out (by show (codeOf [exS]).length < _; rw [codeOf_ex]; simp))).mono ?_
  rintro _ _ ⟨y, A, c, hy, rfl, rfl, h1, h2, h3⟩
  have h3' : Lies y.val 25 Ins.cells A (codeOf [exS]) := h3
  have e3 : (codeOf (exM w.heap.size).body).length = 3 := by show (codeOf [exS]).length = 3; rw [codeOf_ex]; rfl
  rw [e3]
  have HN : Hid (Gives Try.prog 11 #[.slice A 3 c, .int .i64 1] y.val (.int .i64 0)) := by
    have h := codeNext_any y.val A c (codeOf [exS]) 1 (by rw [codeOf_ex]; simp) h3'
    rw [next_ex] at h
    rw [codeOf_ex] at h
    exact h
  rw [codeOf_ex] at h3'
  obtain ⟨b, off, rfl, hb, hc⟩ := h3' 0 (by simp)
  obtain ⟨b1, off1, hA1, _, hc1⟩ := h3' 1 (by simp)
  have hb1 : b1 = b ∧ off1 = off := by simp at hA1; exact ⟨hA1.1.symm, hA1.2.symm⟩
  rw [hb1.1, hb1.2] at hc1
  obtain ⟨b2, off2, hA2, _, hc2⟩ := h3' 2 (by simp)
  have hb2 : b2 = b ∧ off2 = off := by simp at hA2; exact ⟨hA2.1.symm, hA2.2.symm⟩
  rw [hb2.1, hb2.2] at hc2
  have f0 : y.val.cell? ⟨b, off, none⟩ = some (.int .i64 2) := hc 0 _ rfl
  have f24 : y.val.cell? ⟨b, off + 24, none⟩ = some (.int .i64 2) := hc 24 _ (Ins.at24 _)
  have f25 : y.val.cell? ⟨b, off + 25, none⟩ = some (.int .i64 3) := hc1 0 _ rfl
  have f49 : y.val.cell? ⟨b, off + 25 + 24, none⟩ = some (.int .i64 0) := hc1 24 _ (Ins.at24 _)
  have f49' : y.val.cell? ⟨b, off + 49, none⟩ = some (.int .i64 0) := f49
  have f50 : y.val.cell? ⟨b, off + 50, none⟩ = some (.int .i64 4) := hc2 0 _ rfl
  clear hc hc1 hc2 h3 h3' hA1 hA2 hb1 hb2 h1 h2 e3 hM hx1 hy
  go_wp2_with (go_at_call 11; refine (HN.out.over y).mono ?_; rintro _ _ ⟨y2, hy2, rfl, rfl⟩)
  go_ret
  exact ⟨rfl, y2.below⟩
end Go.Proofs.Ytlgnjbocdmbeiaa
