/- The walk of demesnelaw36.awake. -/
import Derived.Test.YtglgoegabihngaaRight
import Derived.Test.YtglgoegabihngaaTwo
set_option linter.unusedSimpArgs false
set_option linter.unusedVariables false
namespace Go.Proofs.Ytglgoegabihngaa
open Go.RowKit Go.Proofs.Grow

def exC (k : Int) : Ce := ⟨ByteArray.empty, k, 0, 0, 0, none, 0, [], false⟩
def exL : List Ce := [exC (-1), exC 1]
theorem ex1 : region exL 2 = -1 := by decide +kernel
theorem ex2 : inB exL 2 1 = true := by decide +kernel
theorem ex3 : inB exL 1 2 = false := by decide +kernel
theorem ex4 : right exL 1 = true := by decide +kernel
theorem ex5 : right exL 0 = false := by decide +kernel

theorem built_exC (k : Int) : Try.prog.built 47 [(1, .agg #[.int .i64 k, .int .i64 0, .int .i64 0, .int .i64 0])] = some (exC k).cells.toArray := by kernel_rfl

set_option maxHeartbeats 2000000 in
set_option maxRecDepth 100000 in
theorem awake36_any (w : World) : Gives Try.prog 9 #[] w (.bool true) := by
  refine Gives.mk ?_
  go_enter Try.func9, Try.ntmps9
  go_upto_region 2 with fail
  obtain ⟨w1, hw1⟩ : ∃ w1, w1 = w.alloc (.cells #[.string { data := #[] }, .int .i64 (-1), .int .i64 0, .int .i64 0, .int .i64 0, .slice none 0 0, .bool false, .string { data := #[] }, .int .i64 1, .int .i64 0, .int .i64 0, .int .i64 0, .slice none 0 0, .bool false] 47) := ⟨_, rfl⟩
  rw [← hw1]
  have hL : Lies w1 7 Ce.cells (some ⟨w.heap.size, 0, none⟩) exL := by rw [hw1]; exact Lies.fresh w exL _ Ce.cells_len rfl
  have HB : Hid (Below w.heap.size w w1) := by rw [hw1]; exact (Below.refl _ _).alloc (Nat.le_refl _) _
  have h1 : Hid (∀ y : Ext w1, Gives Try.prog 14 #[.slice (some ⟨w.heap.size, 0, none⟩) 2 2, .int .i64 2] y.val (.int .i64 (-1))) := fun y => by
    have := region_any y.val (some ⟨w.heap.size, 0, none⟩) 2 exL 2 (by decide) (hL.ext y)
    rwa [ex1] at this
  have h2 : Hid (∀ y : Ext w1, Gives Try.prog 12 #[.slice (some ⟨w.heap.size, 0, none⟩) 2 2, .int .i64 2, .int .i64 1] y.val (.bool true)) := fun y => by
    have := inside_any y.val (some ⟨w.heap.size, 0, none⟩) 2 exL 2 1 (by decide) (hL.ext y)
    rwa [ex2] at this
  have h3 : Hid (∀ y : Ext w1, Gives Try.prog 12 #[.slice (some ⟨w.heap.size, 0, none⟩) 2 2, .int .i64 1, .int .i64 2] y.val (.bool false)) := fun y => by
    have := inside_any y.val (some ⟨w.heap.size, 0, none⟩) 2 exL 1 2 (by decide) (hL.ext y)
    rwa [ex3] at this
  have h4 : Hid (∀ y : Ext w1, Gives Try.prog 16 #[.slice (some ⟨w.heap.size, 0, none⟩) 2 2, .int .i64 1] y.val (.bool true)) := fun y => by
    have := right_any y.val (some ⟨w.heap.size, 0, none⟩) 2 exL 1 (by decide) (hL.ext y)
    rwa [ex4] at this
  have h5 : Hid (∀ y : Ext w1, Gives Try.prog 16 #[.slice (some ⟨w.heap.size, 0, none⟩) 2 2, .int .i64 0] y.val (.bool false)) := fun y => by
    have := right_any y.val (some ⟨w.heap.size, 0, none⟩) 2 exL 0 (by decide) (hL.ext y)
    rwa [ex5] at this
  clear hL hw1
  go_wp2_with (first | (go_at_call 14; refine ((h1.out (Ext.here w1)).over (Ext.here w1)).mono ?_; rintro _ _ ⟨y1, hy1, rfl, rfl⟩) | (go_at_call 12; (with_reducible refine ((h2.out y1).over y1).mono ?_); rintro _ _ ⟨y2, hy2, rfl, rfl⟩) | (go_at_call 12; (with_reducible refine ((h3.out y2).over y2).mono ?_); rintro _ _ ⟨y3, hy3, rfl, rfl⟩) | (go_at_call 16; (with_reducible refine ((h4.out y3).over y3).mono ?_); rintro _ _ ⟨y4, hy4, rfl, rfl⟩) | (go_at_call 16; (with_reducible refine ((h5.out y4).over y4).mono ?_); rintro _ _ ⟨y5, hy5, rfl, rfl⟩))
  go_ret
  exact ⟨rfl, ((Ext.mk w1 HB.out).step y5.below).below⟩
end Go.Proofs.Ytglgoegabihngaa
