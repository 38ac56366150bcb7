/- The walks of demesnelaw36.ForestUp, ForestOrder. -/
import Derived.Test.YtglgoegabihngaaAwake36
import Derived.Test.YtglgoegabihngaaRef36
set_option linter.unusedSimpArgs false
set_option linter.unusedVariables false
namespace Go.Proofs.Ytglgoegabihngaa
open Go.RowKit Go.Proofs.Grow

set_option maxHeartbeats 2000000 in
set_option maxRecDepth 100000 in
theorem lawUp_any (w : World) (A : Option Addr) (c : Nat) (l : List Ce) (a b : Int) (hl : Lies w 7 Ce.cells A l) : Gives Try.prog 3 #[.slice A l.length c, .int .i64 a, .int .i64 b] w (.bool true) := by
  refine Gives.mk ?_
  by_cases h200 : (200 : Int) < (l.length : Int)
  · clear hl
    go_enter Try.func3, Try.ntmps3
    go_wp2_with (go_at_call 9; refine (awake36_any w).mono ?_; rintro _ _ ⟨y2, rfl, rfl⟩)
    go_ret
    exact ⟨rfl, y2.below⟩
  have hs : l.length ≤ 200 := by omega
  have h1 := hide (up_any w A c l a (by omega) hl)
  have h2 := hide (refUp_any w A c l a (by omega) hl)
  have h3 := hide (fun y : Ext w => inside_any y.val A c l a b (by omega) (hl.ext y))
  have h4 := hide (fun y : Ext w => refInside_any y.val A c l a b (by omega) (hl.ext y))
  have h5 := hide (fun y : Ext w => region_any y.val A c l a (by omega) (hl.ext y))
  have h6 := hide (fun y : Ext w => refRegion_any y.val A c l a (by omega) (hl.ext y))
  clear hl hs
  go_enter Try.func3, Try.ntmps3
  go_wp2_with (first | (go_at_call 10; refine h1.out.mono ?_; rintro _ _ ⟨rfl, rfl⟩) | (go_at_call 11; refine h2.out.mono ?_; rintro _ _ ⟨rfl, rfl⟩) | (go_at_call 12; refine ((h3.out (Ext.here w)).over (Ext.here w)).mono ?_; rintro _ _ ⟨y1, hy1, rfl, rfl⟩) | (go_at_call 13; refine ((h4.out y1).over y1).mono ?_; rintro _ _ ⟨y2, hy2, rfl, rfl⟩) | (go_at_call 14; refine ((h5.out y2).over y2).mono ?_; rintro _ _ ⟨y3, hy3, rfl, rfl⟩) | (go_at_call 15; refine ((h6.out y3).over y3).mono ?_; rintro _ _ ⟨y4, hy4, rfl, rfl⟩) | (go_at_call 9; refine ((awake36_any y4.val).over y4).mono ?_; rintro _ _ ⟨y5, hy5, rfl, rfl⟩))
  go_ret
  exact ⟨rfl, y5.below⟩

end Go.Proofs.Ytglgoegabihngaa
