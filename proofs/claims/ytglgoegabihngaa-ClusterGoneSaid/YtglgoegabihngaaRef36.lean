/- The walks of demesneref36.way, Inside, Region. -/
import Derived.Test.YtglgoegabihngaaUp
import Derived.Deep.DeepCutAuto
set_option linter.unusedSimpArgs false
set_option linter.unusedVariables false
namespace Go.Proofs.Ytglgoegabihngaa
open Go.RowKit Go.Proofs.Grow

def encI (k : Int) : List Value := [.int .i64 k]
theorem encI_len (k : Int) : (encI k).length = 1 := rfl
theorem encI_one (k : Int) : ∀ u ∈ encI k, u.oneCell' = true := by
  intro u hu; simp [encI] at hu; subst hu; rfl
theorem infoI : (Try.prog.info? 3).map (fun i => (i.zero.map (·.cells.size), i.size, i.bytes)) = some (some 1, 1, 8) := by kernel_rfl

set_option maxHeartbeats 1000000 in
set_option maxRecDepth 100000 in
theorem refWay_any (w : World) (A : Option Addr) (c : Nat) (l : List Ce) (o : Int) (hl : l.length ≤ 1000000000) (hs : Lies w 7 Ce.cells A l) :
    GivesList Try.prog 30 #[.slice A l.length c, .int .i64 o] w 1 encI (way l (l.length + 2) o) := by
  unfold GivesList
  obtain ⟨i0, z0, hi, hz0, hz1, hz2, hzs⟩ := info_row infoI
  have HS := hide hs
  clear hs
  go_enter Try.func30, Try.ntmps30
  go_wp2_with fail
  go_loopw [1, 5, 6] (fun s1 v s6 wr => ∃ (k : Nat) (o' : Int) (pre : List Int), k ≤ l.length + 2 ∧ s1 = .int .i64 o' ∧ s6 = .int .i64 k ∧ ∃ x : Ext w, wr = x.val ∧ Hid (pre.length = k) ∧ Hid (pre ++ way l (l.length + 2 - k) o' = way l (l.length + 2) o) ∧
    Hid (Grow.Own x.val w.heap.size 3 1 encI v pre)) (fun _ _ s6 _ => l.length + 2 - (intOf s6).toNat)
  case atStart => exact ⟨0, o, [], Nat.zero_le _, rfl, rfl, Ext.here w, rfl, rfl, rfl, Grow.Own.nil⟩
  case round =>
    obtain ⟨k, o', pre, hk, rfl, rfl, x, rfl, hp, hX, hown⟩ := hrel
    have hfin : pre = way l (l.length + 2) o → Hid (∃ A' c', Grow.Own x.val w.heap.size 3 1 encI (.slice A' (way l (l.length + 2) o).length c') (way l (l.length + 2) o) ∧ True) := fun e => by
      obtain ⟨A', c', hv, _⟩ := hown.out.lies encI_len
      rw [e] at hv
      have := hown.out
      rw [e, hv] at this
      exact ⟨A', c', this, trivial⟩
    obtain ⟨A', c', rfl, hc1, hc2, hlies⟩ := hown.out.lies encI_len
    have HC := hide (And.intro hc1 (And.intro hc2 hlies))
    clear hc1 hc2 hlies hfin
    by_cases hlt : k < l.length + 2
    · have hlt' : (k : Int) ≤ (l.length : Int) + 1 := by omega
      have e : l.length + 2 - k = (l.length + 2 - (k + 1)) + 1 := by omega
      by_cases ho : o' = 0
      · subst ho
        have HE : Hid (pre = way l (l.length + 2) o) := by have := hX.out; rw [way_zero, List.append_nil] at this; exact this
        clear e
        go_wp2_with fail
        go_ret
        exact ⟨x, A', c', by rw [HE.out]; rfl, rfl, by rw [← HE.out]; exact HC.out.1, HC.out.2.1, by rw [← HE.out]; exact HC.out.2.2⟩
      · have ho' : (o' != 0) = true := bne_iff_ne.2 ho
        have HE : Hid (pre ++ [o'] ++ way l (l.length + 2 - (k + 1)) (up l o') = way l (l.length + 2) o) := by
          have := hX.out
          rw [e, way, if_neg ho] at this
          exact (by simp : pre ++ [o'] ++ way l (l.length + 2 - (k + 1)) (up l o') = _).trans this
        have HU := hide (fun W : Ext w => refUp_any W.val A c l o' (by omega) (HS.out.ext W))
        have HK : Hid (k < l.length + 2) := hlt
        clear e ho hX hlt
        go_wp2_with (first | (at_builtin; refine wpList_append_list (w1 := w) _ rfl (.tmp 18) (.tmp 20) 29 rfl 3 i0 z0 1 8 Try.underlying29 hi hz0 hz1 hz2 hzs (by omega) encI_len encI_one (x.below.alloc (x.le (Nat.le_refl _)) _) _ pre rfl (hown.out.alloc _) _ _ _ [o'] rfl rfl (Lies.one _ o' _ rfl) (by have := hp.out; have := HK.out; simp [maxLen]; omega) (by have := hp.out; have := HK.out; simp; omega) ?_; intro v' z hown2 hgr hat; have HO2 := hide hown2; clear hown2 hgr hat) | (go_at_call 11; refine (HU.out z).mono ?_; rintro _ _ ⟨rfl, rfl⟩))
        go_roundw
        case rel => exact ⟨k + 1, up l o', pre ++ [o'], HK.out, rfl, by go_num, z, rfl, by show (pre ++ [o']).length = k + 1; rw [List.length_append, hp.out]; rfl, HE.out, HO2.out⟩
        case measure => have := HK.out; simp [intOf]; omega
    · obtain rfl : k = l.length + 2 := by omega
      have HE : Hid (pre = way l (l.length + 2) o) := by have := hX.out; rw [Nat.sub_self, way, List.append_nil] at this; exact this
      have hlt' : ¬ ((l.length + 2 : Nat) : Int) ≤ (l.length : Int) + 1 := by omega
      go_wp2_with fail
      go_ret
      exact ⟨x, A', c', by rw [HE.out]; rfl, rfl, by rw [← HE.out]; exact HC.out.1, HC.out.2.1, by rw [← HE.out]; exact HC.out.2.2⟩

theorem inB_same (l : List Ce) (a : Int) : inB l a a = true := by
  unfold inB
  by_cases h : a = 0
  · simp [h]
  · rw [way, if_neg h]; simp

set_option maxHeartbeats 1000000 in
set_option maxRecDepth 100000 in
theorem refInside_any (w : World) (A : Option Addr) (c : Nat) (l : List Ce) (a b : Int) (hl : l.length ≤ 1000000000) (hs : Lies w 7 Ce.cells A l) :
    Gives Try.prog 13 #[.slice A l.length c, .int .i64 a, .int .i64 b] w (.bool (inB l a b)) := by
  refine Gives.mk ?_
  have HW := hide (refWay_any w A c l a hl hs)
  clear hs
  by_cases hab : a = b
  · subst hab
    rw [inB_same]
    go_enter Try.func13, Try.ntmps13
    go_wp2_with fail
    go_ret
    exact ⟨rfl, Below.refl _ _⟩
  · have hab' : (a == b) = false := beq_eq_false_iff_ne.2 hab
    by_cases hb : b = 0
    · subst hb
      rw [inB_zero]
      clear hab
      go_enter Try.func13, Try.ntmps13
      go_wp2_with fail
      go_ret
      exact ⟨rfl, Below.refl _ _⟩
    · have hb' : (b == 0) = false := beq_eq_false_iff_ne.2 hb
      have HE := hide (inB_way (l := l) (a := a) hb)
      have hwl := way_len l (l.length + 2) a
      generalize way l (l.length + 2) a = xs at *
      clear hb hab
      go_enter Try.func13, Try.ntmps13
      go_wp2_with fail
      refine HW.out.mono ?_
      rintro _ _ ⟨x, A', c', rfl, rfl, h1, h2, h3⟩
      have HL := hide h3
      clear h3
      go_wp2_with fail
      go_loop [8] (fun s8 => ∃ k : Nat, k ≤ xs.length ∧ s8 = .int .i64 k ∧ Hid (b ∉ xs.take k)) (fun s8 => xs.length - (intOf s8).toNat)
      case atStart => exact ⟨0, Nat.zero_le _, rfl, by show b ∉ _; simp⟩
      case round =>
        obtain ⟨k, hk, rfl, hno⟩ := hrel
        by_cases hlt : k < xs.length
        · obtain ⟨bb, off, rfl, hbb, hcell⟩ := HL.out k hlt
          have hlt' : (k : Int) < (xs.length : Int) := by omega
          have h0 : x.val.cell? ⟨bb, off + k, none⟩ = some (.int .i64 xs[k]) := by simpa using hcell 0 _ rfl
          have HT := hide (List.take_succ_eq_append_getElem hlt)
          have HM := hide (List.getElem_mem hlt)
          obtain ⟨y, hy⟩ : ∃ y, y = xs[k] := ⟨_, rfl⟩
          rw [← hy] at h0 HT HM
          have HK := hide hlt
          clear hcell hy hlt
          by_cases hyb : y = b
          · subst hyb
            go_wp2_with fail
            go_ret
            exact ⟨ret_bool (by rw [HE.out, decide_eq_true HM.out]), x.below⟩
          · have hyb' : (y == b) = false := beq_eq_false_iff_ne.2 hyb
            have HY := hide hyb
            clear hyb
            go_wp2_with fail
            go_round
            case rel => exact ⟨k + 1, HK.out, by go_num, by show b ∉ _; rw [HT.out]; have := hno.out; have := HY.out; simp [*]; exact Ne.symm this⟩
            case measure => have := HK.out; simp [intOf]; omega
        · obtain rfl : k = xs.length := by omega
          have HE2 : Hid (inB l a b = false) := by
            have := hno.out
            rw [List.take_length] at this
            show inB l a b = false
            rw [HE.out, decide_eq_false this]
          go_wp2_with fail
          go_ret
          exact ⟨ret_bool (by rw [HE2.out]), x.below⟩

set_option maxHeartbeats 1000000 in
set_option maxRecDepth 100000 in
theorem refRegion_any (w : World) (A : Option Addr) (c : Nat) (l : List Ce) (a : Int) (hl : l.length ≤ 1000000000) (hs : Lies w 7 Ce.cells A l) :
    Gives Try.prog 15 #[.slice A l.length c, .int .i64 a] w (.int .i64 (region l a)) := by
  refine Gives.mk ?_
  have HW := hide (refWay_any w A c l a hl hs)
  have HN := hide (region_none (l := l) (o := a))
  have HS : Hid (∀ (x : Int) (p : List Int), (∀ y ∈ p, 0 ≤ y) → x < 0 → p ++ [x] <+: way l (l.length + 2) a → region l a = x) := fun x p => region_some
  clear hs
  have hwl := way_len l (l.length + 2) a
  generalize way l (l.length + 2) a = xs at *
  go_enter Try.func15, Try.ntmps15
  go_wp2_with fail
  refine HW.out.mono ?_
  rintro _ _ ⟨x, A', c', rfl, rfl, h1, h2, h3⟩
  have HL := hide h3
  clear h3
  go_wp2_with fail
  go_loop [6] (fun s6 => ∃ k : Nat, k ≤ xs.length ∧ s6 = .int .i64 k ∧ Hid (∀ y ∈ xs.take k, 0 ≤ y)) (fun s6 => xs.length - (intOf s6).toNat)
  case atStart => exact ⟨0, Nat.zero_le _, rfl, by show ∀ y ∈ _, _; simp⟩
  case round =>
    obtain ⟨k, hk, rfl, hno⟩ := hrel
    by_cases hlt : k < xs.length
    · obtain ⟨bb, off, rfl, hbb, hcell⟩ := HL.out k hlt
      have hlt' : (k : Int) < (xs.length : Int) := by omega
      have h0 : x.val.cell? ⟨bb, off + k, none⟩ = some (.int .i64 xs[k]) := by simpa using hcell 0 _ rfl
      have HT := hide (List.take_succ_eq_append_getElem hlt)
      obtain ⟨y, hy⟩ : ∃ y, y = xs[k] := ⟨_, rfl⟩
      rw [← hy] at h0 HT
      have HK := hide hlt
      clear hcell hy hlt
      by_cases hyb : y < 0
      · have HR := hide (HS.out _ _ hno.out hyb ⟨xs.drop (k + 1), by rw [← HT.out, List.take_append_drop]⟩)
        go_wp2_with fail
        go_ret
        exact ⟨ret_int HR.out.symm, x.below⟩
      · have HY := hide hyb
        go_wp2_with fail
        go_round
        case rel => exact ⟨k + 1, HK.out, by go_num, by
          show ∀ z ∈ _, _
          rw [HT.out]
          intro z hz
          rcases List.mem_append.1 hz with hz | hz
          · exact hno.out z hz
          · simp at hz; have := HY.out; omega⟩
        case measure => have := HK.out; simp [intOf]; omega
    · obtain rfl : k = xs.length := by omega
      have HR : Hid (region l a = 0) := by
        have := hno.out
        rw [List.take_length] at this
        exact HN.out this
      go_wp2_with fail
      go_ret
      exact ⟨ret_int HR.out.symm, x.below⟩
end Go.Proofs.Ytglgoegabihngaa
