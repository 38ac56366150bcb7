/- The walks of forest.ends, forest.Right. -/
import Derived.Test.YtglgoegabihngaaUp
import Derived.Test.YtglgoegabihngaaSet
import Derived.Test.YtglgoegabihngaaIdx
import Derived.Deep.DeepCutAuto
set_option linter.unusedSimpArgs false
set_option linter.unusedVariables false
namespace Go.Proofs.Ytglgoegabihngaa
open Go.RowKit Go.Proofs.Grow

theorem endAt_done {l : List Ce} {p : Int} (h : p ≤ 0) (n : Nat) : endAt l n p = p := by
  cases n with
  | zero => rfl
  | succ n => rw [endAt, if_pos h]
theorem endAt_step {l : List Ce} {p : Int} (h : ¬ p ≤ 0) (n : Nat) : endAt l (n + 1) p = endAt l n (up l p) := by rw [endAt, if_neg h]

set_option maxHeartbeats 1000000 in
theorem ends_any (w : World) (A : Option Addr) (c : Nat) (l : List Ce) (p : Int) (hl : l.length ≤ 1000000000) (hs : Lies w 7 Ce.cells A l) :
    Calls Try.prog 31 #[.slice A l.length c, .int .i64 p] w fun e w' => e = .returned (.bool (decide (endAt l l.length p ≤ 0))) ∧ w = w' := by
  have HU := hide (fun o => up_any w A c l o (by omega) hs)
  clear hs
  go_enter Try.func31, Try.ntmps31
  go_wp2_with fail
  go_loop [1, 7] (fun s1 s7 => ∃ (k : Nat) (p' : Int), k ≤ l.length ∧ s1 = .int .i64 p' ∧ s7 = .int .i64 k ∧ Hid (endAt l l.length p = endAt l (l.length - k) p')) (fun _ s7 => l.length - (intOf s7).toNat)
  case atStart => exact ⟨0, p, Nat.zero_le _, rfl, rfl, rfl⟩
  case round =>
    obtain ⟨k, p', hk, rfl, rfl, hE⟩ := hrel
    by_cases hp : p' ≤ 0
    · have HE := hide (hE.out.trans (endAt_done hp _))
      have hp' : ¬ 0 < p' := by omega
      by_cases hlt : k < l.length
      · have hlt' : (k : Int) < (l.length : Int) := by omega
        go_wp2_with fail
        go_ret
        exact ⟨ret_bool (by rw [HE.out]; first | rfl | simp [hp] | omega), rfl⟩
      · have hlt' : ¬ (k : Int) < (l.length : Int) := by omega
        go_wp2_with fail
        go_ret
        exact ⟨ret_bool (by rw [HE.out]; first | rfl | simp [hp]), rfl⟩
    · by_cases hlt : k < l.length
      · have hlt' : (k : Int) < (l.length : Int) := by omega
        have HE : Hid (endAt l l.length p = endAt l (l.length - (k + 1)) (up l p')) := hE.out.trans (by rw [show l.length - k = (l.length - (k + 1)) + 1 by omega]; exact endAt_step hp _)
        have HK := hide hlt
        clear hlt
        go_wp2_with (go_at_call 10; refine (HU.out _).mono ?_; rintro _ _ ⟨rfl, rfl⟩)
        go_round
        case rel => exact ⟨k + 1, up l p', HK.out, rfl, by go_num, HE.out⟩
        case measure => have := HK.out; simp [intOf]; omega
      · obtain rfl : k = l.length := by omega
        have HE : Hid (endAt l l.length p = p') := by have := hE.out; rw [Nat.sub_self] at this; exact this
        go_wp2_with fail
        go_ret
        exact ⟨ret_bool (by rw [HE.out]; first | rfl | (symm; exact decide_eq_false (by omega))), rfl⟩

theorem infoI : (Try.prog.info? 3).map (fun i => (i.zero.map (·.cells.size), i.size, i.bytes)) = some (some 1, 1, 8) := by kernel_rfl
theorem Ce.size (c : Ce) : c.cells.toArray.size = 7 := rfl
/-- All that is asked of a cell's owners but the first k. -/
def okFrom (l : List Ce) (m : Int) (x : Ce) (k : Nat) : Bool := (x.own.drop k).all fun o => okOwn l m x.o0 o
/-- All that is asked of cells from number k on. -/
def rightFrom (l : List Ce) (cl : Int) (k : Nat) : Bool := (l.zipIdx.drop k).all fun p => okCell l (wrap64 (-cl)) p.2 p.1
theorem rightFrom_zero (l : List Ce) (cl : Int) : rightFrom l cl 0 = right l cl := rfl
theorem rightFrom_step {l : List Ce} {cl : Int} {k : Nat} (h : k < l.length) : rightFrom l cl k = (okCell l (wrap64 (-cl)) k l[k] && rightFrom l cl (k + 1)) := by
  unfold rightFrom
  rw [List.drop_eq_getElem_cons (by simpa using h), List.all_cons]
  simp
theorem rightFrom_end {l : List Ce} {cl : Int} : rightFrom l cl l.length = true := by
  unfold rightFrom
  rw [List.drop_of_length_le (by simp)]; rfl
theorem okFrom_step {l : List Ce} {m : Int} {x : Ce} {k : Nat} (h : k < x.own.length) : okFrom l m x k = (okOwn l m x.o0 x.own[k] && okFrom l m x (k + 1)) := by
  unfold okFrom
  rw [List.drop_eq_getElem_cons h, List.all_cons]
theorem okCell_eq (l : List Ce) (m : Int) (i : Nat) (x : Ce) : okCell l m i x = (decide (endAt l l.length (i + 1) ≤ 0) && okFrom l m x 0) := rfl

set_option maxHeartbeats 2000000 in
set_option maxRecDepth 100000 in
theorem right_any (w : World) (A : Option Addr) (c : Nat) (l : List Ce) (cl : Int) (hl : l.length ≤ 1000000000) (hs : Lies w 7 Ce.cells A l) :
    Gives Try.prog 16 #[.slice A l.length c, .int .i64 cl] w (.bool (right l cl)) := by
  refine Gives.mk ?_
  obtain ⟨i0, z0, hi, hz0, hz1, hz2, hzs⟩ := info_row infoI
  have HS := hide hs
  clear hs
  go_enter Try.func16, Try.ntmps16
  go_wp2_with fail
  go_loopw [11] (fun s11 wr => ∃ k : Nat, k ≤ l.length ∧ s11 = .int .i64 k ∧ ∃ x : Ext w, wr = x.val ∧ Hid (right l cl = rightFrom l cl k)) (fun s11 _ => l.length - (intOf s11).toNat)
  case atStart => exact ⟨0, Nat.zero_le _, rfl, Ext.here w, rfl, rfl⟩
  case round =>
    obtain ⟨k, hk, rfl, x, rfl, hR⟩ := hrel
    by_cases hlt : k < l.length
    · obtain ⟨b, off, rfl, hb, hcell⟩ := HS.out k hlt
      have hlt' : (k : Int) < (l.length : Int) := by omega
      have HR := hide (hR.out.trans (rightFrom_step hlt))
      obtain ⟨e, he⟩ : ∃ e, e = l[k] := ⟨_, rfl⟩
      rw [← he] at hcell HR
      have hrange : Hid (x.val.rangeAt b (off + k * 7) e.cells) := fun j u h => (x.cell hb).trans (hcell j u h)
      have hone := hide (Ce.cells_one e)
      have HK := hide hlt
      clear hcell he hlt hR
      go_upto_region 4 with (first | (refine wpList_load_mid rfl 47 (.tmp 14) rfl b (off + k * 7) rfl e.cells _ hrange.out Try.underlying47 rfl (by rw [Ce.cells_len]; kernel_rfl) ?_) | (refine wpList_store_new rfl 47 (.tmp 6) (.tmp 15) rfl _ _ _ _ rfl rfl rfl (by rw [List.size_toArray, Ce.cells_len]; kernel_rfl) rfl (fun u hu => hone.out u (by simpa using hu)) ?_))
      obtain ⟨w1, hw1⟩ : ∃ w1, w1 = x.val.alloc (.cells e.cells.toArray 47) := ⟨_, rfl⟩
      obtain ⟨g, hg⟩ : ∃ g, g = x.val.heap.size := ⟨_, rfl⟩
      have hb1 : Below w.heap.size w w1 := by rw [hw1]; exact x.below.alloc (x.le (Nat.le_refl _)) _
      have hc : ∀ j v, e.cells[j]? = some v → w1.cell? ⟨g, j, none⟩ = some v := fun j v hv => by
        rw [hw1, hg, World.cell?_alloc_at _ _ _ _ rfl]; simpa using hv
      have hg1 : g < w1.heap.size := by rw [hw1, hg]; simp
      rw [← hw1, ← hg]
      have g1 : w1.cell? ⟨g, 1, none⟩ = some (.int .i64 e.o0) := hc 1 _ rfl
      have g2 : w1.cell? ⟨g, 2, none⟩ = some (.int .i64 e.o1) := hc 2 _ rfl
      have g3 : w1.cell? ⟨g, 3, none⟩ = some (.int .i64 e.o2) := hc 3 _ rfl
      have g4 : w1.cell? ⟨g, 4, none⟩ = some (.int .i64 e.o3) := hc 4 _ rfl
      have HL := hide (HS.out.below hb1)
      have HB := hide hb1
      have hends := ends_any w1 _ c l ((k : Int) + 1) hl HL.out
      clear hw1 hg hb1 hc hrange hone
      by_cases hE : endAt l l.length ((k : Int) + 1) ≤ 0
      · rw [decide_eq_true hE] at hends
        have HR2 : Hid (right l cl = (okFrom l (wrap64 (-cl)) e 0 && rightFrom l cl (k + 1))) := by rw [HR.out, okCell_eq, decide_eq_true hE, Bool.true_and]; exact rfl
        have HEn := hide hends
        clear hends hE HR
        go_wp2_with (go_at_call 31; refine HEn.out.mono ?_; rintro _ _ ⟨rfl, rfl⟩)
        have HN := hide (fun (y : Ext w1) (o : Int) => inside_any y.val _ c l e.o0 o (by omega) (HL.out.ext y))
        go_loopw [23] (fun s23 wr => ∃ j : Nat, j ≤ 4 ∧ s23 = .int .i64 j ∧ ∃ y : Ext w1, wr = y.val ∧ Hid (right l cl = (okFrom l (wrap64 (-cl)) e j && rightFrom l cl (k + 1)))) (fun s23 _ => 4 - (intOf s23).toNat)
        case atStart => exact ⟨0, by omega, rfl, Ext.here w1, rfl, HR2⟩
        case round =>
          obtain ⟨j, hj, rfl, y, rfl, hR⟩ := hrel
          clear HR2 HEn
          by_cases hj4 : j = 4
          · subst hj4
            have HR3 : Hid (right l cl = rightFrom l cl (k + 1)) := hR.out
            clear hR
            go_wp2_with fail
            go_roundw
            case rel => exact ⟨k + 1, HK.out, by go_num, (Ext.mk w1 HB.out).step y.below, rfl, HR3.out⟩
            case measure => have := HK.out; simp [intOf]; omega
          · obtain ⟨o, hv, hR2⟩ : ∃ o, #[Value.int .i64 e.o0, .int .i64 e.o1, .int .i64 e.o2, .int .i64 e.o3][j]? = some (.int .i64 o) ∧ Hid (right l cl = ((okOwn l (wrap64 (-cl)) e.o0 o && okFrom l (wrap64 (-cl)) e (j + 1)) && rightFrom l cl (k + 1))) := by
              rcases (show j = 0 ∨ j = 1 ∨ j = 2 ∨ j = 3 by omega) with rfl | rfl | rfl | rfl
              · exact ⟨_, rfl, hR.out⟩
              · exact ⟨_, rfl, hR.out⟩
              · exact ⟨_, rfl, hR.out⟩
              · exact ⟨_, rfl, hR.out⟩
            have hj4' : (j : Int) < 4 := by omega
            have Hj : Hid (j < 4) := (by omega : j < 4)
            have HV := hide hv
            have bad : okOwn l (wrap64 (-cl)) e.o0 o = false → right l cl = false := fun h => by have := hR2.out; rw [h] at this; exact this
            have good : okOwn l (wrap64 (-cl)) e.o0 o = true → right l cl = (okFrom l (wrap64 (-cl)) e (j + 1) && rightFrom l cl (k + 1)) := fun h => by have := hR2.out; rw [h, Bool.true_and] at this; exact this
            have HBG := hide (And.intro bad good)
            clear hR hR2 bad good hv hj4
            by_cases h1 : (l.length : Int) < o
            · have HE := hide (HBG.out.1 (by simp [okOwn, h1]))
              go_wp2_with (refine wpList_index_arr rfl 45 3 4 (.tmp 22) (.tmp 23) rfl _ .i64 j rfl rfl i0 Try.underlying45 .i64 Try.underlying3 hi hz1 Hj.out _ HV.out ?_)
              go_ret
              exact ⟨ret_bool HE.out.symm, ((Ext.mk w1 HB.out).step y.below).below⟩
            · by_cases h2 : o < 0 ∧ o < wrap64 (-cl)
              · obtain ⟨h2, h3⟩ := h2
                have HE := hide (HBG.out.1 (by simp [okOwn, h2, h3]))
                go_wp2_with (refine wpList_index_arr rfl 45 3 4 (.tmp 22) (.tmp 23) rfl _ .i64 j rfl rfl i0 Try.underlying45 .i64 Try.underlying3 hi hz1 Hj.out _ HV.out ?_)
                go_ret
                exact ⟨ret_bool HE.out.symm, ((Ext.mk w1 HB.out).step y.below).below⟩
              · have HQ : Hid (okOwn l (wrap64 (-cl)) e.o0 o = inB l e.o0 o) := by
                  show okOwn _ _ _ _ = _
                  unfold okOwn
                  have : (decide (o < 0) && decide (o < wrap64 (-cl))) = false := by
                    rw [Bool.and_eq_false_iff, decide_eq_false_iff_not, decide_eq_false_iff_not]
                    exact Decidable.not_and_iff_or_not.1 h2
                  rw [this, decide_eq_false h1]; simp
                have HI := hide (HN.out y o)
                obtain ⟨q, hq⟩ : ∃ q, inB l e.o0 o = q := ⟨_, rfl⟩
                rw [hq] at HI HQ
                have h2' : o < 0 → ¬ o < wrap64 (-cl) := fun a b => h2 ⟨a, b⟩
                have H2 := hide h2'
                clear hq h2 h2'
                by_cases h0 : o < 0
                all_goals
                  first | (have h3 := H2.out h0) | skip
                  cases q
                  · have HE := hide (HBG.out.1 HQ.out)
                    go_wp2_with (first | (refine wpList_index_arr rfl 45 3 4 (.tmp 22) (.tmp 23) rfl _ .i64 j rfl rfl i0 Try.underlying45 .i64 Try.underlying3 hi hz1 Hj.out _ HV.out ?_) | (go_at_call 12; refine (HI.out.over y).mono ?_; rintro _ _ ⟨z, hz, rfl, rfl⟩))
                    go_ret
                    exact ⟨ret_bool HE.out.symm, ((Ext.mk w1 HB.out).step z.below).below⟩
                  · have HE := hide (HBG.out.2 HQ.out)
                    go_wp2_with (first | (refine wpList_index_arr rfl 45 3 4 (.tmp 22) (.tmp 23) rfl _ .i64 j rfl rfl i0 Try.underlying45 .i64 Try.underlying3 hi hz1 Hj.out _ HV.out ?_) | (go_at_call 12; refine (HI.out.over y).mono ?_; rintro _ _ ⟨z, hz, rfl, rfl⟩))
                    go_roundw
                    case rel => exact ⟨j + 1, Hj.out, by go_num, z, rfl, HE.out⟩
                    case measure => have := Hj.out; simp [intOf]; omega
      · rw [decide_eq_false hE] at hends
        have HR2 : Hid (right l cl = false) := by rw [HR.out, okCell_eq, decide_eq_false hE]; rfl
        have HEn := hide hends
        clear hends hE HR
        go_wp2_with (go_at_call 31; refine HEn.out.mono ?_; rintro _ _ ⟨rfl, rfl⟩)
        go_ret
        exact ⟨ret_bool HR2.out.symm, HB.out⟩
    · obtain rfl : k = l.length := by omega
      have HE : Hid (right l cl = true) := hR.out.trans rightFrom_end
      have hlt' : ¬ (l.length : Int) < (l.length : Int) := by omega
      go_wp2_with fail
      go_ret
      exact ⟨ret_bool HE.out.symm, x.below⟩
end Go.Proofs.Ytglgoegabihngaa
