/- The walk of demesnelaw37.awake. -/
import Derived.Test.YtglgoegabihngaaAwake36
import Derived.Test.YtglgoegabihngaaDelete
import Derived.Test.YtglgoegabihngaaGive
import Derived.Test.YtglgoegabihngaaOutside
set_option linter.unusedSimpArgs false
set_option linter.unusedVariables false
namespace Go.Proofs.Ytglgoegabihngaa
open Go.RowKit Go.Proofs.Grow

def exM : List Ce := [exC 0, exC (-1)]
def exF (g : Nat) : List Fr := [⟨1, ByteArray.empty, ByteArray.empty, some ⟨g, 0, none⟩, 1, [⟨true, 2⟩], 0, 0⟩]
theorem exm1 (g : Nat) : cntOut exM (-1) (held exM (exF g)) = 1 := by
  have : held exM (exF g) = held exM (exF 0) := rfl
  rw [this]
  decide +kernel
theorem exm2 : delN exM (-1) = 1 := by decide +kernel
theorem exm3 : (dels exM (-1))[1]? = some (kill (exC (-1))) := by kernel_rfl
theorem exm4 : (give exM (-1) 1)[1]? = some (exC 1) := by kernel_rfl
theorem exm5 (g : Nat) : (held exM (exF g)).length ≤ 1000000000 := by
  have : held exM (exF g) = held exM (exF 0) := rfl
  rw [this]
  decide +kernel

set_option maxHeartbeats 2000000 in
set_option maxRecDepth 100000 in
theorem awake37_any (w : World) : Gives Try.prog 21 #[] w (.bool true) := by
  refine Gives.mk ?_
  go_enter Try.func21, Try.ntmps21
  go_upto_region 3 with fail
  obtain ⟨w3, hw3⟩ : ∃ w3, w3 = (((w.alloc (.cells #[.string { data := #[] }, .int .i64 0, .int .i64 0, .int .i64 0, .int .i64 0, .slice none 0 0, .bool false, .string { data := #[] }, .int .i64 (-1), .int .i64 0, .int .i64 0, .int .i64 0, .slice none 0 0, .bool false] 47)).alloc (.cells #[.bool true, .int .i64 2] 53)).alloc (.cells #[.int .i64 1, .string { data := #[] }, .string { data := #[] }, .slice (some ⟨w.heap.size + 1, 0, none⟩) 1 1, .int .i64 0, .int .i64 0] 42)) := ⟨_, rfl⟩
  rw [← hw3]
  have hL : Lies w3 7 Ce.cells (some ⟨w.heap.size, 0, none⟩) exM := by rw [hw3]; exact ((Lies.fresh w exM _ Ce.cells_len rfl).alloc _).alloc _
  have hV : Lies w3 2 Vl.cells (some ⟨w.heap.size + 1, 0, none⟩) [⟨true, 2⟩] := by
    rw [hw3]
    have := Lies.fresh (enc := Vl.cells) (size := 2) (e := 53) (w.alloc (.cells #[.string { data := #[] }, .int .i64 0, .int .i64 0, .int .i64 0, .int .i64 0, .slice none 0 0, .bool false, .string { data := #[] }, .int .i64 (-1), .int .i64 0, .int .i64 0, .int .i64 0, .slice none 0 0, .bool false] 47)) [⟨true, 2⟩] #[.bool true, .int .i64 2] Vl.cells_len rfl
    rw [World.size_alloc] at this
    exact this.alloc _
  have hF : Lies w3 6 Fr.cells (some ⟨w.heap.size + 1 + 1, 0, none⟩) (exF (w.heap.size + 1)) := by
    rw [hw3]
    have := Lies.fresh (enc := Fr.cells) (size := 6) (e := 42) ((w.alloc (.cells #[.string { data := #[] }, .int .i64 0, .int .i64 0, .int .i64 0, .int .i64 0, .slice none 0 0, .bool false, .string { data := #[] }, .int .i64 (-1), .int .i64 0, .int .i64 0, .int .i64 0, .slice none 0 0, .bool false] 47)).alloc (.cells #[.bool true, .int .i64 2] 53)) (exF (w.heap.size + 1)) #[.int .i64 1, .string { data := #[] }, .string { data := #[] }, .slice (some ⟨w.heap.size + 1, 0, none⟩) 1 1, .int .i64 0, .int .i64 0] Fr.cells_len rfl
    rw [World.size_alloc, World.size_alloc] at this
    exact this
  have hC : ∀ c ∈ exM, CeIn w3 c := by
    intro c hc
    simp [exM] at hc
    rcases hc with rfl | rfl <;> exact ⟨Lies.nil, Nat.le_refl _, Nat.zero_le _, Nat.zero_le _⟩
  have hR : ∀ x ∈ exF (w.heap.size + 1), FrIn w3 x := by
    intro c hc
    simp [exF] at hc
    subst hc
    exact ⟨hV, Nat.le_refl _, by simp [maxLen]⟩
  have HB : Hid (Below w.heap.size w w3) := by
    show Below _ _ _
    rw [hw3]
    repeat (first | exact Below.refl _ _ | exact Nat.le_refl _ | assumption | refine below_ext ?_ ?_ _ | refine Below.alloc ?_ ?_ _ | refine Below.drew ?_ | refine Below.setCell ?_ ?_ _ | refine Ext.le _ ?_ | refine le_alloc ?_ | refine le_drew ?_ | refine le_setCell ?_)
    all_goals omega
  have hz : w.heap.size < w3.heap.size := by rw [hw3]; simp; omega
  have c13 : w3.cell? ⟨w.heap.size, 13, none⟩ = some (.bool false) := by
    obtain ⟨b, off, h1, _, h2⟩ := hL 1 (by decide)
    obtain ⟨rfl, rfl⟩ : b = w.heap.size ∧ off = 0 := by simp at h1; exact ⟨h1.1.symm, h1.2.symm⟩
    exact h2 6 (.bool false) rfl
  have HD := hide (delete_any w3 _ 2 exM (-1) (by decide) hL)
  have HO : Hid (∀ y : Ext w3, Gives Try.prog 27 #[.slice (some ⟨w.heap.size, 0, none⟩) 2 2, .slice (some ⟨w.heap.size + 1 + 1, 0, none⟩) 1 1, .int .i64 (-1)] y.val (.int .i64 1)) := fun y => by
    have := outside_any y.val _ _ 2 1 exM (exF (w.heap.size + 1)) (-1) (by decide) (by show 1 ≤ 1000000000; decide) (by decide) (by intro x hx; simp [exF] at hx; subst hx; show 1 ≤ 1000000000; decide) (exm5 _) (hL.ext y) (hF.ext y) (fun c hc => (hC c hc).ext y) (fun c hc => (hR c hc).ext y)
    rw [exm1] at this
    exact this
  have HG := hide (fun y : Ext w3 => give_any y.val _ 2 exM (-1) 1 (by decide) (hL.ext y))
  clear hL hV hF hC hR hw3
  have hdl : (dels exM (-1)).length = 2 := by rw [dels_len]; rfl
  have hgl : (give exM (-1) 1).length = 2 := by rw [give_len]; rfl
  have HLN := hide (And.intro hdl hgl)
  clear hdl hgl
  go_upto_region 4 with (go_at_call 22; refine HD.out.mono ?_; rintro _ _ ⟨y1, v1, rfl, rfl, ho⟩; obtain ⟨g1, cap1, hv1, _⟩ := ho.some_pos (by rw [HLN.out.1]; decide); rw [HLN.out.1] at hv1; subst hv1; have d6 : y1.val.cell? ⟨g1, 13, none⟩ = some (.bool true) := (ho.cellAt Ce.cells_len exm3 (j := 6) rfl).1; have hg1 : g1 < y1.val.heap.size := World.block_lt_of_cell? _ _ d6; have hz1 := y1.lt hz; rw [exm2]; clear ho)
  go_wp2_with (first | (go_at_call 27; refine ((HO.out y1).over (Ext.here y1.val)).mono ?_; rintro _ _ ⟨y2, hy2, rfl, rfl⟩; have hz2 := y2.lt hz1; have hg2 := y2.lt hg1) | (go_at_call 25; refine (HG.out (y1.step y2.below)).mono ?_; rintro _ _ ⟨y3, v3, rfl, rfl, ho3⟩; obtain ⟨g3, cap3, hv3, _⟩ := ho3.some_pos (by rw [HLN.out.2]; decide); rw [HLN.out.2] at hv3; subst hv3; have e8 : y3.val.cell? ⟨g3, 8, none⟩ = some (.int .i64 1) := (ho3.cellAt Ce.cells_len exm4 (j := 1) rfl).1; clear ho3))
  go_ret
  exact ⟨rfl, HB.out.trans (((y1.step y2.below).step y3.below).below.mono HB.out.size)⟩
end Go.Proofs.Ytglgoegabihngaa
