/- The walks of forest.Members and demesneref36.Members. -/
import Derived.Test.YtglgoegabihngaaRef36
import Derived.Test.YtglgoegabihngaaSet
set_option linter.unusedSimpArgs false
set_option linter.unusedVariables false
namespace Go.Proofs.Ytglgoegabihngaa
open Go.RowKit Go.Proofs.Grow

/-- The first k cells' share of what is inside o. -/
def memTo (l : List Ce) (o : Int) (k : Nat) : List Int := ((List.range k).map fun (i : Nat) => ((i : Int) + 1)).filter fun i => i != o && inB l i o
theorem memTo_all (l : List Ce) (o : Int) : memTo l o l.length = members l o := rfl
theorem memTo_succ (l : List Ce) (o : Int) (k : Nat) : memTo l o (k + 1) = memTo l o k ++ (if ((k : Int) + 1 != o && inB l ((k : Int) + 1) o) = true then [(k : Int) + 1] else []) := by
  unfold memTo
  rw [List.range_succ, List.map_append, List.filter_append]
  congr 1
  rw [List.map_cons, List.map_nil, List.filter_cons]; rfl
theorem memTo_len (l : List Ce) (o : Int) (k : Nat) : (memTo l o k).length ≤ k := by
  unfold memTo
  refine Nat.le_trans (List.length_filter_le _ _) (by simp)

set_option maxHeartbeats 1000000 in
set_option maxRecDepth 100000 in
theorem mem_any (w : World) (A : Option Addr) (c : Nat) (l : List Ce) (o : Int) (hl : l.length ≤ 1000000000) (hs : Lies w 7 Ce.cells A l) :
    GivesOwn Try.prog 17 #[.slice A l.length c, .int .i64 o] w 3 1 encI (members l o) := by
  unfold GivesOwn
  obtain ⟨i0, z0, hi, hz0, hz1, hz2, hzs⟩ := info_row infoI
  have HN := hide (fun (y : Ext w) (k : Int) => inside_any y.val _ c l k o (by omega) (hs.ext y))
  clear hs
  go_enter Try.func17, Try.ntmps17
  go_wp2_with fail
  go_loopw [5, 10] (fun v s6 wr => ∃ k : Nat, k ≤ l.length ∧ s6 = .int .i64 ↑k ∧ ∃ x : Ext w, wr = x.val ∧ Hid (Grow.Own x.val w.heap.size 3 1 encI v (memTo l o k))) (fun _ s6 _ => l.length + 1 - (intOf s6).toNat)
  case atStart => exact ⟨0, Nat.zero_le _, rfl, Ext.here w, rfl, Grow.Own.nil⟩
  case round =>
    obtain ⟨k, hk, rfl, x, rfl, hown⟩ := hrel
    obtain ⟨A', c', rfl, _, _, _⟩ := hown.out.lies encI_len
    have hml := memTo_len l o k
    obtain ⟨n, hn⟩ : ∃ n, (memTo l o k).length = n := ⟨_, rfl⟩
    rw [hn] at hml hown ⊢
    have Hn := hide hn
    clear hn
    by_cases hlt : k < l.length
    · have hlt' : (k : Int) < (l.length : Int) := by omega
      have hlt2 : (k : Int) + 1 ≤ (l.length : Int) := by omega
      have HK := hide hlt
      have HM := hide (memTo_succ l o k)
      clear hlt
      by_cases ho : (k : Int) + 1 = o
      · have HM2 : Hid (memTo l o (k + 1) = memTo l o k) := by
          show _ = _
          rw [HM.out, if_neg (by rw [ho]; simp), List.append_nil]
        have ho' : ((k : Int) + 1 != o) = false := by simp [ho]
        clear ho
        go_wp2_with fail
        go_roundw
        case rel => exact ⟨k + 1, HK.out, by go_num, x, rfl, by show Grow.Own _ _ _ _ _ _ _; rw [HM2.out]; exact hown.out⟩
        case measure => have := HK.out; simp [intOf]; omega
      · have ho' : ((k : Int) + 1 != o) = true := bne_iff_ne.2 ho
        have HI := hide (HN.out x ((k : Int) + 1))
        obtain ⟨q, hq⟩ : ∃ q, inB l ((k : Int) + 1) o = q := ⟨_, rfl⟩
        rw [hq] at HI
        have Hq := hide hq
        clear ho hq
        cases q
        · have HM2 : Hid (memTo l o (k + 1) = memTo l o k) := by
            show _ = _
            rw [HM.out, if_neg (by rw [Hq.out]; simp), List.append_nil]
          go_wp2_with (go_at_call 12; refine (HI.out.over x).mono ?_; rintro _ _ ⟨y, hy, rfl, rfl⟩)
          go_roundw
          case rel => exact ⟨k + 1, HK.out, by go_num, y, rfl, by show Grow.Own _ _ _ _ _ _ _; rw [HM2.out]; exact hown.out.into hy⟩
          case measure => have := HK.out; simp [intOf]; omega
        · have HM2 : Hid (memTo l o (k + 1) = memTo l o k ++ [(k : Int) + 1]) := by
            show _ = _
            rw [HM.out, if_pos (by rw [Hq.out, ho']; rfl)]
          go_wp2_with (first | (at_builtin; refine wpList_append_list (w1 := w) _ rfl (.tmp 24) (.tmp 26) 29 rfl 3 i0 z0 1 8 Try.underlying29 hi hz0 hz1 hz2 hzs (by omega) encI_len encI_one (y.below.alloc (y.le (Nat.le_refl _)) _) _ (memTo l o k) rfl ((hown.out.into hy).alloc _) _ _ _ [(k : Int) + 1] rfl rfl (Lies.one _ ((k : Int) + 1) _ rfl) (by have := Hn.out; simp [maxLen]; omega) (by have := Hn.out; simp; omega) ?_; intro v' z hown2 hgr hat; have HO2 := hide hown2; clear hown2 hgr hat) | (go_at_call 12; refine (HI.out.over x).mono ?_; rintro _ _ ⟨y, hy, rfl, rfl⟩))
          go_roundw
          case rel => exact ⟨k + 1, HK.out, by go_num, z, rfl, by show Grow.Own _ _ _ _ _ _ _; rw [HM2.out]; exact HO2.out⟩
          case measure => have := HK.out; simp [intOf]; omega
    · obtain rfl : k = l.length := by omega
      have hlt' : ¬ (l.length : Int) < (l.length : Int) := by omega
      have hlt2 : ¬ (l.length : Int) + 1 ≤ (l.length : Int) := by omega
      go_wp2_with fail
      go_ret
      exact ⟨x, _, rfl, rfl, by rw [← memTo_all]; exact hown.out⟩
set_option maxHeartbeats 1000000 in
set_option maxRecDepth 100000 in
theorem refMem_any (w : World) (A : Option Addr) (c : Nat) (l : List Ce) (o : Int) (hl : l.length ≤ 1000000000) (hs : Lies w 7 Ce.cells A l) :
    GivesOwn Try.prog 18 #[.slice A l.length c, .int .i64 o] w 3 1 encI (members l o) := by
  unfold GivesOwn
  obtain ⟨i0, z0, hi, hz0, hz1, hz2, hzs⟩ := info_row infoI
  have HN := hide (fun (y : Ext w) (k : Int) => refInside_any y.val _ c l k o (by omega) (hs.ext y))
  clear hs
  go_enter Try.func18, Try.ntmps18
  go_wp2_with fail
  go_loopw [5, 6] (fun v s6 wr => ∃ k : Nat, k ≤ l.length ∧ s6 = .int .i64 (↑k + 1) ∧ ∃ x : Ext w, wr = x.val ∧ Hid (Grow.Own x.val w.heap.size 3 1 encI v (memTo l o k))) (fun _ s6 _ => l.length + 1 - (intOf s6).toNat)
  case atStart => exact ⟨0, Nat.zero_le _, rfl, Ext.here w, rfl, Grow.Own.nil⟩
  case round =>
    obtain ⟨k, hk, rfl, x, rfl, hown⟩ := hrel
    obtain ⟨A', c', rfl, _, _, _⟩ := hown.out.lies encI_len
    have hml := memTo_len l o k
    obtain ⟨n, hn⟩ : ∃ n, (memTo l o k).length = n := ⟨_, rfl⟩
    rw [hn] at hml hown ⊢
    have Hn := hide hn
    clear hn
    by_cases hlt : k < l.length
    · have hlt' : (k : Int) < (l.length : Int) := by omega
      have hlt2 : (k : Int) + 1 ≤ (l.length : Int) := by omega
      have HK := hide hlt
      have HM := hide (memTo_succ l o k)
      clear hlt
      by_cases ho : (k : Int) + 1 = o
      · have HM2 : Hid (memTo l o (k + 1) = memTo l o k) := by
          show _ = _
          rw [HM.out, if_neg (by rw [ho]; simp), List.append_nil]
        have ho' : ((k : Int) + 1 != o) = false := by simp [ho]
        clear ho
        go_wp2_with fail
        go_roundw
        case rel => exact ⟨k + 1, HK.out, by go_num, x, rfl, by show Grow.Own _ _ _ _ _ _ _; rw [HM2.out]; exact hown.out⟩
        case measure => have := HK.out; simp [intOf]; omega
      · have ho' : ((k : Int) + 1 != o) = true := bne_iff_ne.2 ho
        have HI := hide (HN.out x ((k : Int) + 1))
        obtain ⟨q, hq⟩ : ∃ q, inB l ((k : Int) + 1) o = q := ⟨_, rfl⟩
        rw [hq] at HI
        have Hq := hide hq
        clear ho hq
        cases q
        · have HM2 : Hid (memTo l o (k + 1) = memTo l o k) := by
            show _ = _
            rw [HM.out, if_neg (by rw [Hq.out]; simp), List.append_nil]
          go_wp2_with (go_at_call 13; refine (HI.out.over x).mono ?_; rintro _ _ ⟨y, hy, rfl, rfl⟩)
          go_roundw
          case rel => exact ⟨k + 1, HK.out, by go_num, y, rfl, by show Grow.Own _ _ _ _ _ _ _; rw [HM2.out]; exact hown.out.into hy⟩
          case measure => have := HK.out; simp [intOf]; omega
        · have HM2 : Hid (memTo l o (k + 1) = memTo l o k ++ [(k : Int) + 1]) := by
            show _ = _
            rw [HM.out, if_pos (by rw [Hq.out, ho']; rfl)]
          go_wp2_with (first | (at_builtin; refine wpList_append_list (w1 := w) _ rfl (.tmp 22) (.tmp 24) 29 rfl 3 i0 z0 1 8 Try.underlying29 hi hz0 hz1 hz2 hzs (by omega) encI_len encI_one (y.below.alloc (y.le (Nat.le_refl _)) _) _ (memTo l o k) rfl ((hown.out.into hy).alloc _) _ _ _ [(k : Int) + 1] rfl rfl (Lies.one _ ((k : Int) + 1) _ rfl) (by have := Hn.out; simp [maxLen]; omega) (by have := Hn.out; simp; omega) ?_; intro v' z hown2 hgr hat; have HO2 := hide hown2; clear hown2 hgr hat) | (go_at_call 13; refine (HI.out.over x).mono ?_; rintro _ _ ⟨y, hy, rfl, rfl⟩))
          go_roundw
          case rel => exact ⟨k + 1, HK.out, by go_num, z, rfl, by show Grow.Own _ _ _ _ _ _ _; rw [HM2.out]; exact HO2.out⟩
          case measure => have := HK.out; simp [intOf]; omega
    · obtain rfl : k = l.length := by omega
      have hlt' : ¬ (l.length : Int) < (l.length : Int) := by omega
      have hlt2 : ¬ (l.length : Int) + 1 ≤ (l.length : Int) := by omega
      go_wp2_with fail
      go_ret
      exact ⟨x, _, rfl, rfl, by rw [← memTo_all]; exact hown.out⟩
end Go.Proofs.Ytglgoegabihngaa
