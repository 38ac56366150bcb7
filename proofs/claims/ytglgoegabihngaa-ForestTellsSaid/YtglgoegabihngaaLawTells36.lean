/- The walk of demesnelaw36.ForestTells. -/
import Derived.Test.YtglgoegabihngaaAwake36
import Derived.Test.YtglgoegabihngaaMem
import Derived.Test.YtglgoegabihngaaRefRight
set_option linter.unusedSimpArgs false
set_option linter.unusedVariables false
namespace Go.Proofs.Ytglgoegabihngaa
open Go.RowKit Go.Proofs.Grow

set_option maxHeartbeats 4000000 in
set_option maxRecDepth 100000 in
theorem lawTells_any (w : World) (A : Option Addr) (c : Nat) (l : List Ce) (o cl : Int) (hl : Lies w 7 Ce.cells A l) : Gives Try.prog 5 #[.slice A l.length c, .int .i64 o, .int .i64 cl] w (.bool true) := by
  refine Gives.mk ?_
  by_cases h200 : (100 : Int) < (l.length : Int)
  · clear hl
    go_enter Try.func5, Try.ntmps5
    go_wp2_with (go_at_call 9; refine (awake36_any _).mono ?_; rintro _ _ ⟨y2, rfl, rfl⟩)
    go_ret
    exact ⟨rfl, y2.below⟩
  have hs : l.length ≤ 100 := by omega
  have h1 := hide (fun y : Ext w => (mem_any y.val A c l o (by omega) (hl.ext y)).new encI_len)
  have h2 := hide (fun y : Ext w => (refMem_any y.val A c l o (by omega) (hl.ext y)).new encI_len)
  have h3 := hide (fun y : Ext w => right_any y.val A c l cl (by omega) (hl.ext y))
  have h4 := hide (fun y : Ext w => refRight_any y.val A c l cl (by omega) (hl.ext y))
  have hml : (members l o).length ≤ l.length := by rw [← memTo_all]; exact memTo_len l o _
  clear hl
  generalize members l o = ms at *
  generalize right l cl = r at *
  go_enter Try.func5, Try.ntmps5
  go_wp2_with (first | (go_at_call 17; refine ((h1.out (Ext.here w)).over (Ext.here w)).mono ?_; rintro _ _ ⟨y1, A1, c1, hy1, rfl, rfl, b1, b2, hL1, _⟩; have HL1 := hide hL1; clear hL1 b1) | (go_at_call 18; refine ((h2.out y1).over y1).mono ?_; rintro _ _ ⟨y2, A2, c2, hy2, rfl, rfl, b3, b4, hL2, _⟩; have HL2 := hide hL2; have HL3 := hide (HL1.out.into hy2); clear hL2 b3))
  go_loopw [9] (fun s9 wr => ∃ k : Nat, k ≤ ms.length ∧ s9 = .int .i64 k ∧ ∃ z : Ext y2.val, wr = z.val) (fun s9 _ => ms.length - (intOf s9).toNat)
  case atStart => exact ⟨0, Nat.zero_le _, rfl, Ext.here _, rfl⟩
  case round =>
    obtain ⟨k, hk, rfl, z, rfl⟩ := hrel
    by_cases hlt : k < ms.length
    · have hlt' : (k : Int) < (ms.length : Int) := by omega
      obtain ⟨bb, off, rfl, hbb, hcell⟩ := HL3.out k hlt
      obtain ⟨bb2, off2, rfl, hbb2, hcell2⟩ := HL2.out k hlt
      have e1 : y2.val.cell? ⟨bb, off + k, none⟩ = some (.int .i64 ms[k]) := by simpa using hcell 0 _ rfl
      have e2 : y2.val.cell? ⟨bb2, off2 + k, none⟩ = some (.int .i64 ms[k]) := by simpa using hcell2 0 _ rfl
      generalize ms[k] = e at e1 e2
      have HK := hide hlt
      clear hcell hcell2 hlt HL1 HL2 HL3
      go_wp2_with fail
      refine wp_region_ext (by kernel_rfl) (by kernel_rfl) ?_
      repeat (go_big_quiet_step ((first | fail)))
      refine wpQuiet_nil ?_
      intro _ hw'
      obtain ⟨v, hw''⟩ := hw'
      subst hw''
      go_wp2_with fail
      go_roundw
      case rel => exact ⟨k + 1, HK.out, by go_num, z.step v.below, rfl⟩
      case measure => have := HK.out; simp [intOf]; omega
    · have hlt' : ¬ (k : Int) < (ms.length : Int) := by omega
      clear HL1 HL2 HL3 hlt
      obtain ⟨y3, hy3⟩ : ∃ y3 : Ext w, z.val = y3.val := ⟨y2.step z.below, rfl⟩
      rw [hy3]
      cases r
      all_goals
        go_wp2_with (first | (go_at_call 16; refine ((h3.out y3).over y3).mono ?_; rintro _ _ ⟨y4, hy4, rfl, rfl⟩) | (go_at_call 19; refine ((h4.out y4).over y4).mono ?_; rintro _ _ ⟨y5, hy5, rfl, rfl⟩) | (go_at_call 9; refine ((awake36_any y5.val).over y5).mono ?_; rintro _ _ ⟨y6, hy6, rfl, rfl⟩))
        go_ret
        exact ⟨rfl, y6.below⟩
end Go.Proofs.Ytglgoegabihngaa
