/- The walk of InsidePut. -/
import Derived.Test.YtfebpmaaaiaccaaPut
set_option linter.unusedSimpArgs false
set_option linter.unusedVariables false
namespace Go.Proofs.Ytfebpmaaaiaccaa
open Go.RowKit Go.Proofs.Grow

def okL (o : Ow) : Bool := decide (1 ≤ o.k) && decide (o.k ≤ 4) && (o.k == 3 || o.n == 0)
def okK (n : Nat) (o : Ow) : Bool := o.k == 2 || o.k == 4 || (o.k == 3 && decide (1 ≤ o.n) && decide (o.n < n))

set_option maxRecDepth 100000 in
set_option maxHeartbeats 4000000 in
theorem put_walk (a b : Ow) (w : World) (A : Option Addr) (c : Nat) (l : List Ow) (hl : l.length ≤ 9223372036854775807) (hc : l.length ≤ c) (hs : Lies w 2 Ow.cells A l) :
    Gives Try.prog 4 #[.agg #[.int .i64 a.k, .int .i64 a.n, .int .i64 b.k, .int .i64 b.n], .slice A l.length c] w (.bool true) := by
  refine Gives.mk ?_
  have Hs := hide hs
  have Ha := hide (fun (W : World) (h : Lies W 2 Ow.cells A l) => all_any W A c l hl hc h)
  clear hs
  go_enter Try.func4, Try.ntmps4
  go_wp2_with (first | (go_at_call 10; refine (Ha.out _ (Hs.out.alloc _)).mono ?_; rintro _ _ ⟨y, rfl, rfl⟩) | (go_at_call 11; refine (awake24_any _).mono ?_; rintro _ _ ⟨z, rfl, rfl⟩))
  · go_ret
    refine ⟨rfl, ?_⟩
    repeat (first | exact Below.refl _ _ | exact Nat.le_refl _ | assumption | refine below_ext ?_ ?_ _ | refine Below.alloc ?_ ?_ _ | refine Below.drew ?_ | refine Below.setCell ?_ ?_ _ | refine Ext.le _ ?_ | refine le_alloc ?_ | refine le_drew ?_ | refine le_setCell ?_)
    all_goals omega
  · go_ret
    refine ⟨rfl, ?_⟩
    repeat (first | exact Below.refl _ _ | exact Nat.le_refl _ | assumption | refine below_ext ?_ ?_ _ | refine Below.alloc ?_ ?_ _ | refine Below.drew ?_ | refine Below.setCell ?_ ?_ _ | refine Ext.le _ ?_ | refine le_alloc ?_ | refine le_drew ?_ | refine le_setCell ?_)
    all_goals omega
  · have hne : l ≠ [] := by rintro rfl; simp at *
    have hall : allIn l = true := by assumption
    have HL := hide (And.intro hne hall)
    clear hne
    go_loop [5] (fun i => ∃ k : Nat, k ≤ l.length ∧ i = .int .i64 k ∧ Hid (∀ j (h : j < l.length), j < k → okL l[j] = true)) (fun i => l.length - (intOf i).toNat)
    case atStart => exact ⟨0, Nat.zero_le _, rfl, fun j _ h => absurd h (Nat.not_lt_zero _)⟩
    case round =>
      obtain ⟨k, hk, rfl, hok⟩ := hrel
      by_cases hlt : k < l.length
      · obtain ⟨g, off, rfl, hb, hcell⟩ := Hs.out k hlt
        have h0 : w.cell? ⟨g, off + k * 2, none⟩ = _ := hcell 0 _ rfl
        have h1 : w.cell? ⟨g, off + k * 2 + 1, none⟩ = _ := hcell 1 _ rfl
        clear hcell
        go_wp2_with (go_at_call 11; refine (awake24_any _).mono ?_; rintro _ _ ⟨z, rfl, rfl⟩)
        · go_ret
          refine ⟨rfl, ?_⟩
          repeat (first | exact Below.refl _ _ | exact Nat.le_refl _ | assumption | refine below_ext ?_ ?_ _ | refine Below.alloc ?_ ?_ _ | refine Below.drew ?_ | refine Below.setCell ?_ ?_ _ | refine Ext.le _ ?_ | refine le_alloc ?_ | refine le_drew ?_ | refine le_setCell ?_)
          all_goals omega
        · go_ret
          refine ⟨rfl, ?_⟩
          repeat (first | exact Below.refl _ _ | exact Nat.le_refl _ | assumption | refine below_ext ?_ ?_ _ | refine Below.alloc ?_ ?_ _ | refine Below.drew ?_ | refine Below.setCell ?_ ?_ _ | refine Ext.le _ ?_ | refine le_alloc ?_ | refine le_drew ?_ | refine le_setCell ?_)
          all_goals omega
        · go_ret
          refine ⟨rfl, ?_⟩
          repeat (first | exact Below.refl _ _ | exact Nat.le_refl _ | assumption | refine below_ext ?_ ?_ _ | refine Below.alloc ?_ ?_ _ | refine Below.drew ?_ | refine Below.setCell ?_ ?_ _ | refine Ext.le _ ?_ | refine le_alloc ?_ | refine le_drew ?_ | refine le_setCell ?_)
          all_goals omega
        all_goals
          have hokk : okL l[k] = true := by
            have h1 : ¬ l[k].k < 1 := by assumption
            have h2 : ¬ 4 < l[k].k := by assumption
            first | (have h3 : l[k].k = 3 := by assumption
                     simp [okL, h3]) | (have h3 : (l[k].n != 0) = false := by assumption
                                        simp at h3; simp [okL, h3]; omega)
          go_round
          case rel => exact ⟨k + 1, hlt, by go_num, fun j hj hjk => by rcases Nat.lt_succ_iff_lt_or_eq.1 hjk with h | h; exact hok.out j hj h; subst h; exact hokk⟩
          case measure => simp [intOf]; omega
      · have hokl : ∀ o ∈ l, okL o = true := fun o ho => by
          obtain ⟨j, hj, rfl⟩ := List.getElem_of_mem ho
          exact hok.out j hj (by omega)
        have HO := hide hokl
        clear hokl hok
        go_wp2_with fail
        go_loopw [6, 7] (fun i o wr => ∃ k : Nat, k ≤ 2 ∧ i = .int .i64 k ∧ (∃ z : Ext y.val, wr = z.val) ∧ Hid (0 < k → okK l.length a = true) ∧ Hid (1 < k → okK l.length b = true)) (fun i _ _ => 2 - (intOf i).toNat)
        case atStart => exact ⟨0, by omega, rfl, ⟨Ext.here _, rfl⟩, fun h => absurd h (by omega), fun h => absurd h (by omega)⟩
        case round =>
          obtain ⟨m, hm, rfl, ⟨z, rfl⟩, hoa, hob⟩ := hrel
          rcases (show m = 0 ∨ m = 1 ∨ m = 2 by omega) with rfl | rfl | rfl
          · go_wp2_with (go_at_call 11; refine (awake24_any _).mono ?_; rintro _ _ ⟨v, rfl, rfl⟩)
            · go_ret
              refine ⟨rfl, ?_⟩
              repeat (first | exact Below.refl _ _ | exact Nat.le_refl _ | assumption | refine below_ext ?_ ?_ _ | refine Below.alloc ?_ ?_ _ | refine Below.drew ?_ | refine Below.setCell ?_ ?_ _ | refine Ext.le _ ?_ | refine le_alloc ?_ | refine le_drew ?_ | refine le_setCell ?_)
              all_goals omega
            · go_ret
              refine ⟨rfl, ?_⟩
              repeat (first | exact Below.refl _ _ | exact Nat.le_refl _ | assumption | refine below_ext ?_ ?_ _ | refine Below.alloc ?_ ?_ _ | refine Below.drew ?_ | refine Below.setCell ?_ ?_ _ | refine Ext.le _ ?_ | refine le_alloc ?_ | refine le_drew ?_ | refine le_setCell ?_)
              all_goals omega
            · go_ret
              refine ⟨rfl, ?_⟩
              repeat (first | exact Below.refl _ _ | exact Nat.le_refl _ | assumption | refine below_ext ?_ ?_ _ | refine Below.alloc ?_ ?_ _ | refine Below.drew ?_ | refine Below.setCell ?_ ?_ _ | refine Ext.le _ ?_ | refine le_alloc ?_ | refine le_drew ?_ | refine le_setCell ?_)
              all_goals omega
            all_goals
              have hokk : okK l.length a = true := by
                first | (have h : a.k = 2 := by assumption
                         simp [okK, h]; done) | (have h : a.k = 4 := by assumption
                                                 simp [okK, h]; done) | (have h : a.k = 3 := by assumption
                                                                         have h1 : ¬ a.n < 1 := by assumption
                                                                         have h2 : a.n < (l.length : Int) := by assumption
                                                                         simp [okK, h]; omega)
              go_roundw
              case rel => exact ⟨1, by omega, by go_num, Ext.of (Below.alloc (below_ext (Below.refl _ _) (Nat.le_refl _) z) (Ext.le z (Nat.le_refl _)) _), fun _ => hokk, fun h => absurd h (by omega)⟩
              case measure => simp [intOf]
          · go_wp2_with (go_at_call 11; refine (awake24_any _).mono ?_; rintro _ _ ⟨v, rfl, rfl⟩)
            · go_ret
              refine ⟨rfl, ?_⟩
              repeat (first | exact Below.refl _ _ | exact Nat.le_refl _ | assumption | refine below_ext ?_ ?_ _ | refine Below.alloc ?_ ?_ _ | refine Below.drew ?_ | refine Below.setCell ?_ ?_ _ | refine Ext.le _ ?_ | refine le_alloc ?_ | refine le_drew ?_ | refine le_setCell ?_)
              all_goals omega
            · go_ret
              refine ⟨rfl, ?_⟩
              repeat (first | exact Below.refl _ _ | exact Nat.le_refl _ | assumption | refine below_ext ?_ ?_ _ | refine Below.alloc ?_ ?_ _ | refine Below.drew ?_ | refine Below.setCell ?_ ?_ _ | refine Ext.le _ ?_ | refine le_alloc ?_ | refine le_drew ?_ | refine le_setCell ?_)
              all_goals omega
            · go_ret
              refine ⟨rfl, ?_⟩
              repeat (first | exact Below.refl _ _ | exact Nat.le_refl _ | assumption | refine below_ext ?_ ?_ _ | refine Below.alloc ?_ ?_ _ | refine Below.drew ?_ | refine Below.setCell ?_ ?_ _ | refine Ext.le _ ?_ | refine le_alloc ?_ | refine le_drew ?_ | refine le_setCell ?_)
              all_goals omega
            all_goals
              have hokk : okK l.length b = true := by
                first | (have h : b.k = 2 := by assumption
                         simp [okK, h]; done) | (have h : b.k = 4 := by assumption
                                                 simp [okK, h]; done) | (have h : b.k = 3 := by assumption
                                                                         have h1 : ¬ b.n < 1 := by assumption
                                                                         have h2 : b.n < (l.length : Int) := by assumption
                                                                         simp [okK, h]; omega)
              go_roundw
              case rel => exact ⟨2, by omega, by go_num, Ext.of (Below.alloc (below_ext (Below.refl _ _) (Nat.le_refl _) z) (Ext.le z (Nat.le_refl _)) _), fun _ => hoa.out (by omega), fun _ => hokk⟩
              case measure => simp [intOf]
          · have hpa := hoa.out (by omega)
            have hpb := hob.out (by omega)
            have hlaw : isIn a.k a.n b.k b.n = true → isIn (put a l).k (put a l).n (put b l).k (put b l).n = true := fun h =>
              put_law HL.out.1 HL.out.2 (fun o ho => by have := HO.out o ho; simp [okL] at this; omega) (by simp [okK] at hpa; omega) (by simp [okK] at hpb; omega) h
            have hL : ∀ W : Ext z.val, Lies W.val 2 Ow.cells A l := fun W => (((Hs.out.alloc _).ext y).ext z).ext W
            obtain ⟨b01, e01⟩ : ∃ b01, isIn a.k a.n b.k b.n = b01 := ⟨_, rfl⟩
            have c1 : ∀ W : Ext z.val, Gives Try.prog 9 #[.agg #[.int .i64 a.k, .int .i64 a.n], .agg #[.int .i64 b.k, .int .i64 b.n]] W.val (.bool b01) := fun W => by rw [← e01]; exact is_any _ _ _ _ _
            have c2 : ∀ W : Ext z.val, Gives Try.prog 12 #[.agg #[.int .i64 a.k, .int .i64 a.n], .slice A l.length c] W.val (.agg #[.int .i64 (put a l).k, .int .i64 (put a l).n]) := fun W => put_any a _ _ _ _ hl (hL W)
            have c3 : ∀ W : Ext z.val, Gives Try.prog 12 #[.agg #[.int .i64 b.k, .int .i64 b.n], .slice A l.length c] W.val (.agg #[.int .i64 (put b l).k, .int .i64 (put b l).n]) := fun W => put_any b _ _ _ _ hl (hL W)
            have c4 : b01 = true → ∀ W : Ext z.val, Gives Try.prog 9 #[.agg #[.int .i64 (put a l).k, .int .i64 (put a l).n], .agg #[.int .i64 (put b l).k, .int .i64 (put b l).n]] W.val (.bool true) := fun h W => by
              rw [← hlaw (e01.trans h)]; exact is_any _ _ _ _ _
            have Hc := hide (And.intro c1 (And.intro c2 (And.intro c3 c4)))
            clear c1 c2 c3 c4 hpa hpb hoa hob hlaw e01 HL HO Ha
            have hsz : w.heap.size < z.val.heap.size := z.lt (y.lt (by simp))
            cases b01
            · go_wp2_with fail
              refine wp_region_ext (by kernel_rfl) (by kernel_rfl) ?_
              repeat (go_big_quiet_step ((first | (go_at_call 9; with_reducible exact (Hc.out.1 _).ext) | (go_at_call 11; exact (awake24_any _).ext))))
              refine wpQuiet_nil ?_
              intro _ hw'
              obtain ⟨v, hw''⟩ := hw'
              subst hw''
              go_wp2
              go_ret
              refine ⟨rfl, ?_⟩
              repeat (first | exact Below.refl _ _ | exact Nat.le_refl _ | assumption | refine below_ext ?_ ?_ _ | refine Below.alloc ?_ ?_ _ | refine Below.drew ?_ | refine Below.setCell ?_ ?_ _ | refine Ext.le _ ?_ | refine le_alloc ?_ | refine le_drew ?_ | refine le_setCell ?_)
              all_goals omega
            · have Hd := hide (Hc.out.2.2.2 rfl)
              go_wp2_with fail
              refine wp_region_ext (by kernel_rfl) (by kernel_rfl) ?_
              repeat (go_big_quiet_step ((first | (go_at_call 9; with_reducible exact (Hc.out.1 _).ext) | (go_at_call 12; with_reducible exact (Hc.out.2.1 _).ext) | (go_at_call 12; with_reducible exact (Hc.out.2.2.1 _).ext) | (go_at_call 9; exact (Hd.out _).ext) | (go_at_call 11; exact (awake24_any _).ext))))
              refine wpQuiet_nil ?_
              intro _ hw'
              obtain ⟨v, hw''⟩ := hw'
              subst hw''
              go_wp2
              go_ret
              refine ⟨rfl, ?_⟩
              repeat (first | exact Below.refl _ _ | exact Nat.le_refl _ | assumption | refine below_ext ?_ ?_ _ | refine Below.alloc ?_ ?_ _ | refine Below.drew ?_ | refine Below.setCell ?_ ?_ _ | refine Ext.le _ ?_ | refine le_alloc ?_ | refine le_drew ?_ | refine le_setCell ?_)
              all_goals omega
end Go.Proofs.Ytfebpmaaaiaccaa
