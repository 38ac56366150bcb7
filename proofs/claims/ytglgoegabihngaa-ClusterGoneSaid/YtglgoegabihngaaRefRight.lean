/- The walk of demesneref36.Right. -/
import Derived.Test.YtglgoegabihngaaRef36
import Derived.Test.YtglgoegabihngaaRight
import Derived.Deep.CutBlock
set_option linter.unusedSimpArgs false
set_option linter.unusedVariables false
namespace Go.Proofs.Ytglgoegabihngaa
open Go.RowKit Go.Proofs.Grow

set_option maxHeartbeats 4000000 in
set_option maxRecDepth 100000 in
theorem refRight_any (w : World) (A : Option Addr) (c : Nat) (l : List Ce) (cl : Int) (hl : l.length ≤ 1000000000) (hs : Lies w 7 Ce.cells A l) :
    Gives Try.prog 19 #[.slice A l.length c, .int .i64 cl] w (.bool (right l cl)) := by
  refine Gives.mk ?_
  have HS := hide hs
  clear hs
  go_enter Try.func19, Try.ntmps19
  go_wp2_with fail
  go_loopw [5] (fun s5 wr => ∃ k : Nat, k ≤ l.length ∧ s5 = .int .i64 ((k : Int) + 1) ∧ ∃ x : Ext w, wr = x.val ∧ Hid (right l cl = rightFrom l cl k)) (fun s5 _ => l.length + 1 - (intOf s5).toNat)
  case atStart => exact ⟨0, Nat.zero_le _, rfl, Ext.here w, rfl, rfl⟩
  case round =>
    obtain ⟨k, hk, rfl, x, rfl, hR⟩ := hrel
    by_cases hlt : k < l.length
    · have hlt' : (k : Int) + 1 ≤ (l.length : Int) := by omega
      have HR := hide (hR.out.trans (rightFrom_step hlt))
      have HU := hide (fun o => refUp_any x.val A c l o (by omega) (HS.out.ext x))
      go_upto_block 2 with fail

      go_cut [6] (fun s6 wx => wx = x.val ∧ s6 = .int .i64 (endAt l l.length ((k : Int) + 1)))
      case first =>
        go_wp2_with fail
        go_loop [6, 7] (fun s6 s7 => ∃ (kk : Nat) (p' : Int), kk ≤ l.length ∧ s6 = .int .i64 p' ∧ s7 = .int .i64 kk ∧ Hid (endAt l l.length ((k : Int) + 1) = endAt l (l.length - kk) p')) (fun _ s7 => l.length - (intOf s7).toNat)
        case atStart => exact ⟨0, _, Nat.zero_le _, rfl, rfl, rfl⟩
        case round =>
          obtain ⟨kk, p', hkk, rfl, rfl, hE⟩ := hrel
          clear HR
          by_cases hlk : kk < l.length
          · have hlk' : (kk : Int) < (l.length : Int) := by omega
            by_cases hp : p' ≤ 0
            · have HE : Hid (endAt l l.length ((k : Int) + 1) = p') := hE.out.trans (endAt_done hp _)
              go_wp2_with fail
              go_meet
              exact ⟨rfl, by rw [HE.out]⟩
            · have HE : Hid (endAt l l.length ((k : Int) + 1) = endAt l (l.length - (kk + 1)) (up l p')) := hE.out.trans (by rw [show l.length - kk = (l.length - (kk + 1)) + 1 by omega]; exact endAt_step hp _)
              have HKK := hide hlk
              clear hlk
              go_wp2_with (go_at_call 11; refine (HU.out _).mono ?_; rintro _ _ ⟨rfl, rfl⟩)
              go_round
              case rel => exact ⟨kk + 1, up l p', HKK.out, rfl, by go_num, HE.out⟩
              case measure => have := HKK.out; simp [intOf]; omega
          · obtain rfl : kk = l.length := by omega
            have HE : Hid (endAt l l.length ((k : Int) + 1) = p') := by have := hE.out; rw [Nat.sub_self] at this; exact this
            go_wp2_with fail
            go_meet
            exact ⟨rfl, by rw [HE.out]⟩
      case rest =>
        obtain ⟨rfl, rfl⟩ := hcut
        by_cases hE : endAt l l.length ((k : Int) + 1) ≤ 0
        · have HR2 : Hid (right l cl = (okFrom l (wrap64 (-cl)) l[k] 0 && rightFrom l cl (k + 1))) := by rw [HR.out, okCell_eq, decide_eq_true hE, Bool.true_and]; exact rfl
          obtain ⟨b, off, rfl, hb, hcell⟩ := HS.out k hlt
          obtain ⟨e, he⟩ : ∃ e, e = l[k] := ⟨_, rfl⟩
          rw [← he] at hcell HR2
          have hrange : Hid (x.val.rangeAt b (off + k * 7 + 1) [.int .i64 e.o0, .int .i64 e.o1, .int .i64 e.o2, .int .i64 e.o3]) := fun j u h => by
            have hj : j < 4 := by have := (List.getElem?_eq_some_iff.1 h).1; simpa using this
            refine (x.cell hb).trans ?_
            rw [Nat.add_assoc (off + k * 7)]
            refine hcell (1 + j) u ?_
            rcases (show j = 0 ∨ j = 1 ∨ j = 2 ∨ j = 3 by omega) with rfl | rfl | rfl | rfl <;> exact h
          have HK := hide hlt
          clear hcell he hlt hR HR
          go_upto_region 12 with (first | (refine wpList_load_mid rfl 45 (.tmp 36) rfl b (off + k * 7 + 1) rfl [.int .i64 e.o0, .int .i64 e.o1, .int .i64 e.o2, .int .i64 e.o3] _ hrange.out Try.underlying45 rfl (by kernel_rfl) ?_) | (refine wpList_store_new rfl 45 (.tmp 8) (.tmp 37) rfl _ _ _ _ rfl rfl rfl (by kernel_rfl) rfl (by intro u hu; simp at hu; rcases hu with rfl | rfl | rfl | rfl <;> rfl) ?_))
          obtain ⟨w1, hw1⟩ : ∃ w1, w1 = x.val.alloc (.cells #[.int .i64 e.o0, .int .i64 e.o1, .int .i64 e.o2, .int .i64 e.o3] 45) := ⟨_, rfl⟩
          obtain ⟨g, hg⟩ : ∃ g, g = x.val.heap.size := ⟨_, rfl⟩
          have hb1 : Below w.heap.size w w1 := by rw [hw1]; exact x.below.alloc (x.le (Nat.le_refl _)) _
          have hc : ∀ j v, #[Value.int .i64 e.o0, .int .i64 e.o1, .int .i64 e.o2, .int .i64 e.o3][j]? = some v → w1.cell? ⟨g, j, none⟩ = some v := fun j v hv => by
            rw [hw1, hg, World.cell?_alloc_at _ _ _ _ rfl]; exact hv
          have hg1 : g < w1.heap.size := by rw [hw1, hg]; simp
          rw [← hw1, ← hg]
          have g0 : w1.cell? ⟨g, 0, none⟩ = some (.int .i64 e.o0) := hc 0 _ rfl
          have HC := hide hc
          have HL := hide (HS.out.below hb1)
          have HB := hide hb1
          have HN := hide (fun (y : Ext w1) (W : Ext y.val) (o : Int) => refInside_any W.val _ c l e.o0 o hl ((HL.out.ext y).ext W))
          clear hw1 hg hb1 hc hrange hE HU
          go_wp2_with fail
          go_loopw [9] (fun s9 wr => ∃ j : Nat, j ≤ 4 ∧ s9 = .int .i64 j ∧ ∃ y : Ext w1, wr = y.val ∧ Hid (right l cl = (okFrom l (wrap64 (-cl)) e j && rightFrom l cl (k + 1)))) (fun s9 _ => 4 - (intOf s9).toNat)
          case atStart => exact ⟨0, by omega, rfl, Ext.here w1, rfl, HR2⟩
          case round =>
            obtain ⟨j, hj, rfl, y, rfl, hR⟩ := hrel
            clear HR2
            by_cases hj4 : j = 4
            · subst hj4
              have HR3 : Hid (right l cl = rightFrom l cl (k + 1)) := hR.out
              clear hR
              go_wp2_with fail
              go_roundw
              case rel => exact ⟨k + 1, HK.out, by go_num, (Ext.mk w1 HB.out).step y.below, rfl, HR3.out⟩
              case measure => have := HK.out; simp [intOf]; omega
            · obtain ⟨o, hv, hR2⟩ : ∃ o, w1.cell? ⟨g, j, none⟩ = some (.int .i64 o) ∧ Hid (right l cl = ((okOwn l (wrap64 (-cl)) e.o0 o && okFrom l (wrap64 (-cl)) e (j + 1)) && rightFrom l cl (k + 1))) := by
                rcases (show j = 0 ∨ j = 1 ∨ j = 2 ∨ j = 3 by omega) with rfl | rfl | rfl | rfl
                · exact ⟨_, HC.out _ _ rfl, hR.out⟩
                · exact ⟨_, HC.out _ _ rfl, hR.out⟩
                · exact ⟨_, HC.out _ _ rfl, hR.out⟩
                · exact ⟨_, HC.out _ _ rfl, hR.out⟩
              have hj4' : (j : Int) < 4 := by omega
              have Hj : Hid (j < 4) := (by omega : j < 4)
              have bad : okOwn l (wrap64 (-cl)) e.o0 o = false → right l cl = false := fun h => by have := hR2.out; rw [h] at this; exact this
              have good : okOwn l (wrap64 (-cl)) e.o0 o = true → right l cl = (okFrom l (wrap64 (-cl)) e (j + 1) && rightFrom l cl (k + 1)) := fun h => by have := hR2.out; rw [h, Bool.true_and] at this; exact this
              have HBG := hide (And.intro bad good)
              clear hR hR2 bad good hj4
              by_cases h1 : (l.length : Int) < o
              · have HE := hide (HBG.out.1 (by simp [okOwn, h1]))
                have h1' : decide ((l.length : Int) < o) = true := decide_eq_true h1
                go_wp2_with fail
                refine wp_region_ext (by kernel_rfl) (by kernel_rfl) ?_
                repeat (go_big_quiet_step ((first | fail)))
                refine wpQuiet_nil ?_
                intro _ hw'
                obtain ⟨v, hw''⟩ := hw'
                subst hw''
                go_wp2_with fail
                go_ret
                exact ⟨ret_bool HE.out.symm, (((Ext.mk w1 HB.out).step y.below).step v.below).below⟩
              · have h1' : decide ((l.length : Int) < o) = false := decide_eq_false h1
                by_cases h2 : o < 0 ∧ o < wrap64 (-cl)
                · obtain ⟨h2, h3⟩ := h2
                  have HE := hide (HBG.out.1 (by simp [okOwn, h2, h3]))
                  have h2' : decide (o < 0) = true := decide_eq_true h2
                  have h3' : decide (o < wrap64 (-cl)) = true := decide_eq_true h3
                  go_wp2_with fail
                  refine wp_region_ext (by kernel_rfl) (by kernel_rfl) ?_
                  repeat (go_big_quiet_step ((first | fail)))
                  refine wpQuiet_nil ?_
                  intro _ hw'
                  obtain ⟨v, hw''⟩ := hw'
                  subst hw''
                  go_wp2_with fail
                  go_ret
                  exact ⟨ret_bool HE.out.symm, (((Ext.mk w1 HB.out).step y.below).step v.below).below⟩
                · have HQ : Hid (okOwn l (wrap64 (-cl)) e.o0 o = inB l e.o0 o) := by
                    show okOwn _ _ _ _ = _
                    unfold okOwn
                    have : (decide (o < 0) && decide (o < wrap64 (-cl))) = false := by
                      rw [Bool.and_eq_false_iff, decide_eq_false_iff_not, decide_eq_false_iff_not]
                      exact Decidable.not_and_iff_or_not.1 h2
                    rw [this, decide_eq_false h1]; simp
                  have HI := hide (fun W => HN.out y W o)
                  obtain ⟨q, hq⟩ : ∃ q, inB l e.o0 o = q := ⟨_, rfl⟩
                  rw [hq] at HI HQ
                  have h2' : o < 0 → ¬ o < wrap64 (-cl) := fun a b => h2 ⟨a, b⟩
                  have H2 := hide h2'
                  clear hq h2 h2'
                  by_cases h0 : o < 0
                  all_goals
                    first | (have h0' : decide (o < 0) = true := decide_eq_true h0; have h3' : decide (o < wrap64 (-cl)) = false := decide_eq_false (H2.out h0)) | (have h0' : decide (o < 0) = false := decide_eq_false h0)
                    cases q
                    · have HE := hide (HBG.out.1 HQ.out)
                      go_wp2_with fail
                      refine wp_region_ext (by kernel_rfl) (by kernel_rfl) ?_
                      repeat (go_big_quiet_step ((first | (go_at_call 13; with_reducible exact (HI.out _).ext))))
                      refine wpQuiet_nil ?_
                      intro _ hw'
                      obtain ⟨v, hw''⟩ := hw'
                      subst hw''
                      go_wp2_with fail
                      go_ret
                      exact ⟨ret_bool HE.out.symm, (((Ext.mk w1 HB.out).step y.below).step v.below).below⟩
                    · have HE := hide (HBG.out.2 HQ.out)
                      go_wp2_with fail
                      refine wp_region_ext (by kernel_rfl) (by kernel_rfl) ?_
                      repeat (go_big_quiet_step ((first | (go_at_call 13; with_reducible exact (HI.out _).ext))))
                      refine wpQuiet_nil ?_
                      intro _ hw'
                      obtain ⟨v, hw''⟩ := hw'
                      subst hw''
                      go_wp2_with fail
                      go_roundw
                      case rel => exact ⟨j + 1, Hj.out, by go_num, y.step v.below, rfl, HE.out⟩
                      case measure => have := Hj.out; simp [intOf]; omega
        · have HR2 : Hid (right l cl = false) := by rw [HR.out, okCell_eq, decide_eq_false hE]; rfl
          go_wp2_with fail
          go_ret
          exact ⟨ret_bool HR2.out.symm, x.below⟩
    · obtain rfl : k = l.length := by omega
      have HE : Hid (right l cl = true) := hR.out.trans rightFrom_end
      have hlt' : ¬ (l.length : Int) + 1 ≤ (l.length : Int) := by omega
      go_wp2_with fail
      go_ret
      exact ⟨ret_bool HE.out.symm, x.below⟩
end Go.Proofs.Ytglgoegabihngaa
