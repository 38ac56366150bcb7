/- The walk of demesnelaw36.ForestOrder. -/
import Derived.Test.YtglgoegabihngaaAwake36
set_option linter.unusedSimpArgs false
set_option linter.unusedVariables false
namespace Go.Proofs.Ytglgoegabihngaa
open Go.RowKit Go.Proofs.Grow

set_option maxHeartbeats 4000000 in
set_option maxRecDepth 100000 in
theorem lawOrder_any (w : World) (A : Option Addr) (c : Nat) (l : List Ce) (cl k0 k1 k2 : Int) (hl : Lies w 7 Ce.cells A l) : Gives Try.prog 4 #[.slice A l.length c, .int .i64 cl, .agg #[.int .i64 k0, .int .i64 k1, .int .i64 k2]] w (.bool true) := by
  refine Gives.mk ?_
  by_cases h200 : (100 : Int) < (l.length : Int)
  · clear hl
    go_enter Try.func4, Try.ntmps4
    go_wp2_with (go_at_call 9; refine (awake36_any _).mono ?_; rintro _ _ ⟨y2, rfl, rfl⟩)
    go_ret
    refine ⟨rfl, ?_⟩
    repeat (first | exact Below.refl _ _ | exact Nat.le_refl _ | assumption | refine below_ext ?_ ?_ _ | refine Below.alloc ?_ ?_ _ | refine Below.drew ?_ | refine Below.setCell ?_ ?_ _ | refine Ext.le _ ?_ | refine le_alloc ?_ | refine le_drew ?_ | refine le_setCell ?_)
    all_goals omega
  have hs : l.length ≤ 100 := by omega
  have h1 := hide (right_any (w.alloc (.cells #[.int .i64 k0, .int .i64 k1, .int .i64 k2] 26)) A c l cl (by omega) (hl.alloc _))
  cases hr : right l cl
  · rw [hr] at h1
    clear hl hr
    go_enter Try.func4, Try.ntmps4
    go_wp2_with (first | (go_at_call 16; refine (h1.out.over (Ext.here _)).mono ?_; rintro _ _ ⟨y1, hy1, rfl, rfl⟩) | (go_at_call 9; refine ((awake36_any y1.val).over y1).mono ?_; rintro _ _ ⟨y2, hy2, rfl, rfl⟩))
    go_ret
    refine ⟨rfl, ?_⟩
    repeat (first | exact Below.refl _ _ | exact Nat.le_refl _ | assumption | refine below_ext ?_ ?_ _ | refine Below.alloc ?_ ?_ _ | refine Below.drew ?_ | refine Below.setCell ?_ ?_ _ | refine Ext.le _ ?_ | refine le_alloc ?_ | refine le_drew ?_ | refine le_setCell ?_)
    all_goals omega
  · rw [hr] at h1
    have hE := right_ended hr
    have HL := hide (hl.alloc (.cells #[.int .i64 k0, .int .i64 k1, .int .i64 k2] 26))
    have HT := hide (fun (h : inB l k0 k1 = true) (h' : inB l k1 k2 = true) => hE.trans h h')
    have HA := hide (fun (h : inB l k0 k1 = true) (h' : inB l k1 k0 = true) => hE.anti h h')
    have HR := hide (fun (h : k1 < 0) => region_iff (l := l) (a := k0) h)
    have HU := hide (hE.upIn k0)
    have HZ := hide (inB_world l k0)
    clear hl hr hE
    go_enter Try.func4, Try.ntmps4
    go_upto_region 3 with (go_at_call 16; refine (h1.out.over (Ext.here _)).mono ?_; rintro _ _ ⟨x, hx, rfl, rfl⟩)
    refine wp_region_ext (by kernel_rfl) (by kernel_rfl) ?_
    repeat (go_big_quiet_step ((first | fail)))
    refine wpQuiet_nil ?_
    intro _ hw'
    obtain ⟨x2, hw''⟩ := hw'
    subst hw''
    obtain ⟨y, hy⟩ : ∃ y : Ext (w.alloc (.cells #[.int .i64 k0, .int .i64 k1, .int .i64 k2] 26)), x2.val = y.val := ⟨x.step x2.below, rfl⟩
    rw [hy]
    have H1 := hide (fun (z : Ext (w.alloc (.cells #[.int .i64 k0, .int .i64 k1, .int .i64 k2] 26))) (a b : Int) => inside_any z.val A c l a b (by omega) (HL.out.ext z))
    have H2 := hide (fun (z : Ext (w.alloc (.cells #[.int .i64 k0, .int .i64 k1, .int .i64 k2] 26))) (a : Int) => region_any z.val A c l a (by omega) (HL.out.ext z))
    have H3 := hide (fun (z : Ext (w.alloc (.cells #[.int .i64 k0, .int .i64 k1, .int .i64 k2] 26))) (a : Int) => up_any z.val A c l a (by omega) (HL.out.ext z))
    have HB : Hid (Below w.heap.size w (w.alloc (.cells #[.int .i64 k0, .int .i64 k1, .int .i64 k2] 26))) := (Below.refl _ _).alloc (Nat.le_refl _) _
    clear hy x2 hx x h1 HL
    generalize w.alloc (.cells #[.int .i64 k0, .int .i64 k1, .int .i64 k2] 26) = w1 at *
    have e6 := HU.out
    have e7 := HZ.out
    clear HU HZ
    cases e1 : inB l k0 k1
    · clear HA HT
      by_cases e0 : k1 < 0
      · have e5 : (region l k0 == k1) = false := beq_eq_false_iff_ne.2 (fun h => by have := (HR.out e0).1 h; rw [e1] at this; cases this)
        as_aux_lemma =>
          go_wp2_with (first | (go_at_call 12; (with_reducible refine ((H1.out _ _ _).over _).mono ?_); rintro _ _ ⟨y1, hy1, rfl, rfl⟩) | (go_at_call 14; (with_reducible refine ((H2.out _ _).over _).mono ?_); rintro _ _ ⟨y1, hy1, rfl, rfl⟩) | (go_at_call 10; (with_reducible refine (H3.out _ _).mono ?_); rintro _ _ ⟨rfl, rfl⟩) | (go_at_call 9; (with_reducible refine (Gives.over _ (awake36_any _)).mono ?_); rintro _ _ ⟨y9, hy9, rfl, rfl⟩))
          go_ret
          exact ⟨rfl, ((Ext.mk w1 HB.out).step y9.below).below⟩
      · as_aux_lemma =>
          go_wp2_with (first | (go_at_call 12; (with_reducible refine ((H1.out _ _ _).over _).mono ?_); rintro _ _ ⟨y1, hy1, rfl, rfl⟩) | (go_at_call 14; (with_reducible refine ((H2.out _ _).over _).mono ?_); rintro _ _ ⟨y1, hy1, rfl, rfl⟩) | (go_at_call 10; (with_reducible refine (H3.out _ _).mono ?_); rintro _ _ ⟨rfl, rfl⟩) | (go_at_call 9; (with_reducible refine (Gives.over _ (awake36_any _)).mono ?_); rintro _ _ ⟨y9, hy9, rfl, rfl⟩))
          go_ret
          exact ⟨rfl, ((Ext.mk w1 HB.out).step y9.below).below⟩
    · have HA1 := hide (HA.out e1)
      have HT1 := hide (HT.out e1)
      have HR1 : Hid (k1 < 0 → (region l k0 == k1) = true) := fun h => beq_iff_eq.2 ((HR.out h).2 e1)
      clear HA HT HR
      cases e2 : inB l k1 k2
      all_goals
        first | have e3 := HT1.out e2 | skip
        cases e4 : inB l k1 k0
        all_goals
          first | have e8 : (k0 != k1) = false := bne_eq_false_iff_eq.2 (HA1.out e4) | skip
          by_cases e0 : k1 < 0
          · have e5 := HR1.out e0
            as_aux_lemma =>
              go_wp2_with (first | (go_at_call 12; (with_reducible refine ((H1.out _ _ _).over _).mono ?_); rintro _ _ ⟨y1, hy1, rfl, rfl⟩) | (go_at_call 14; (with_reducible refine ((H2.out _ _).over _).mono ?_); rintro _ _ ⟨y1, hy1, rfl, rfl⟩) | (go_at_call 10; (with_reducible refine (H3.out _ _).mono ?_); rintro _ _ ⟨rfl, rfl⟩) | (go_at_call 9; (with_reducible refine (Gives.over _ (awake36_any _)).mono ?_); rintro _ _ ⟨y9, hy9, rfl, rfl⟩))
              go_ret
              exact ⟨rfl, ((Ext.mk w1 HB.out).step y9.below).below⟩
          · as_aux_lemma =>
              go_wp2_with (first | (go_at_call 12; (with_reducible refine ((H1.out _ _ _).over _).mono ?_); rintro _ _ ⟨y1, hy1, rfl, rfl⟩) | (go_at_call 14; (with_reducible refine ((H2.out _ _).over _).mono ?_); rintro _ _ ⟨y1, hy1, rfl, rfl⟩) | (go_at_call 10; (with_reducible refine (H3.out _ _).mono ?_); rintro _ _ ⟨rfl, rfl⟩) | (go_at_call 9; (with_reducible refine (Gives.over _ (awake36_any _)).mono ?_); rintro _ _ ⟨y9, hy9, rfl, rfl⟩))
              go_ret
              exact ⟨rfl, ((Ext.mk w1 HB.out).step y9.below).below⟩
end Go.Proofs.Ytglgoegabihngaa
