/- The walks of demesneref24.same, Is, All. -/
import Derived.Test.YtfebpmaaaiaccaaOrder
set_option linter.unusedSimpArgs false
set_option linter.unusedVariables false
namespace Go.Proofs.Ytfebpmaaaiaccaa
open Go.RowKit Go.Proofs.Grow

def same (k n l m : Int) : Bool := if k = 3 ∧ l = 3 then n == m else k == l && (k == 1 || k == 2 || k == 4)
def refIs (k n l m : Int) : Bool :=
  if same k n l m then true else if l = 4 then k == 1 || k == 2 || k == 3 || k == 5 || k == 6
  else if k = 1 then l == 2 || l == 3 else k == 2 && l == 3

theorem same_any (k n l m : Int) (w : World) : Gives Try.prog 33 #[.agg #[.int .i64 k, .int .i64 n], .agg #[.int .i64 l, .int .i64 m]] w (.bool (same k n l m)) := by
  refine Gives.mk ?_
  go_enter Try.func33, Try.ntmps33
  go_wp2
  all_goals
    go_ret
    refine ⟨ret_bool ?_, ?_⟩
    · simp_all [same]
    · repeat (first | exact Below.refl _ _ | exact Nat.le_refl _ | assumption | refine below_ext ?_ ?_ _ | refine Below.alloc ?_ ?_ _ | refine Below.drew ?_ | refine Below.setCell ?_ ?_ _ | refine Ext.le _ ?_ | refine le_alloc ?_ | refine le_drew ?_ | refine le_setCell ?_)
      all_goals omega

theorem refIs_any (k n l m : Int) (w : World) : Gives Try.prog 13 #[.agg #[.int .i64 k, .int .i64 n], .agg #[.int .i64 l, .int .i64 m]] w (.bool (refIs k n l m)) := by
  refine Gives.mk ?_
  go_enter Try.func13, Try.ntmps13
  go_wp2_with (go_at_call 33; refine (same_any _ _ _ _ _).mono ?_; rintro _ _ ⟨y, rfl, rfl⟩)
  all_goals
    go_ret
    refine ⟨ret_bool ?_, ?_⟩
    · simp_all [refIs]; done
    · repeat (first | exact Below.refl _ _ | exact Nat.le_refl _ | assumption | refine below_ext ?_ ?_ _ | refine Below.alloc ?_ ?_ _ | refine Below.drew ?_ | refine Below.setCell ?_ ?_ _ | refine Ext.le _ ?_ | refine le_alloc ?_ | refine le_drew ?_ | refine le_setCell ?_)
      all_goals omega

theorem refIs_eq (k n l m : Int) : refIs k n l m = isIn k n l m := by
  rw [Bool.eq_iff_iff, isIn_true]
  have := far_kind k; have := far_kind l
  unfold refIs same
  by_cases hn : n = m
  all_goals
    simp only [hn]
    repeat' split
    all_goals (simp_all; try omega)

theorem allIn_iff (l : List Ow) (h0 : 0 < l.length) : allIn l = true ↔ ∀ k (h : k < l.length), 1 ≤ k → isIn l[0].k l[0].n l[k].k l[k].n = true := by
  cases l with
  | nil => simp at h0
  | cons q t =>
    simp only [allIn, Bool.not_eq_true', List.any_eq_false]
    constructor
    · intro h k hk h1
      obtain ⟨j, rfl⟩ : ∃ j, k = j + 1 := ⟨k - 1, by omega⟩
      have hj : j < t.length := by simpa using hk
      simpa using h _ (List.getElem_mem hj)
    · intro h o ho
      obtain ⟨j, hj, rfl⟩ := List.getElem_of_mem ho
      have h2 : isIn q.k q.n t[j].k t[j].n = true := h (j + 1) (Nat.succ_lt_succ hj) (by omega)
      simp [h2]

set_option maxHeartbeats 1000000 in
theorem refAll_any (w : World) (A : Option Addr) (c : Nat) (l : List Ow) (hl : l.length ≤ 9223372036854775807) (hs : Lies w 2 Ow.cells A l) :
    Gives Try.prog 14 #[.slice A l.length c] w (.bool (allIn l)) := by
  refine Gives.mk ?_
  have Hs := hide hs
  clear hs
  go_enter Try.func14, Try.ntmps14
  go_wp2_with fail
  go_loopw [3] (fun i wr => ∃ k : Nat, 1 ≤ k ∧ (k ≤ l.length ∨ k = 1) ∧ i = .int .i64 k ∧ (∃ x : Ext w, wr = x.val) ∧ Hid (∀ h0 : 0 < l.length, ∀ j (h : j < l.length), 1 ≤ j → j < k → isIn l[0].k l[0].n l[j].k l[j].n = true)) (fun i _ => l.length - (intOf i).toNat)
  case atStart => exact ⟨1, Nat.le_refl _, .inr rfl, rfl, ⟨Ext.here w, rfl⟩, fun _ j _ h1 h => absurd h (by omega)⟩
  case round =>
    obtain ⟨k, hk1, hk, rfl, ⟨x, rfl⟩, hok⟩ := hrel
    by_cases hlt : k < l.length
    · have h0 : 0 < l.length := by omega
      obtain ⟨b, off, rfl, hb, hc0⟩ := Hs.out 0 h0
      have g0 : w.cell? ⟨b, off, none⟩ = some (.int .i64 l[0].k) := by simpa using hc0 0 _ rfl
      have g1 : w.cell? ⟨b, off + 1, none⟩ = some (.int .i64 l[0].n) := by simpa using hc0 1 _ rfl
      obtain ⟨b', off', hA, hb', hc1⟩ := Hs.out k hlt
      obtain ⟨rfl, rfl⟩ : b = b' ∧ off = off' := by simpa using hA
      have g2 : w.cell? ⟨b, off + k * 2, none⟩ = some (.int .i64 l[k].k) := hc1 0 _ rfl
      have g3 : w.cell? ⟨b, off + k * 2 + 1, none⟩ = some (.int .i64 l[k].n) := hc1 1 _ rfl
      clear hc0 hc1 hA
      have hlen : (0 : Int) < (l.length : Int) := by omega
      have hlt' : (k : Int) < (l.length : Int) := by omega
      obtain ⟨r, hr⟩ : ∃ r, isIn l[0].k l[0].n l[k].k l[k].n = r := ⟨_, rfl⟩
      have hc : ∀ W : Ext x.val, Gives Try.prog 13 #[.agg #[.int .i64 l[0].k, .int .i64 l[0].n], .agg #[.int .i64 l[k].k, .int .i64 l[k].n]] W.val (.bool r) := fun W => by
        rw [← hr, ← refIs_eq]; exact refIs_any _ _ _ _ _
      have Hr := hide hr
      have Hc := hide hc
      clear hr hc
      cases r
      · have hal : allIn l = false := by
          have h := Hr.out
          cases ha : allIn l
          · rfl
          · rw [(allIn_iff l h0).1 ha k hlt hk1] at h; cases h
        have E := hide hal
        clear hal
        go_wp2_with fail
        refine wp_region_ext (by kernel_rfl) (by kernel_rfl) ?_
        repeat (go_big_quiet_step ((first | (go_at_call 13; with_reducible exact (Hc.out _).ext))))
        refine wpQuiet_nil ?_
        intro _ hw'
        obtain ⟨v, hw''⟩ := hw'
        subst hw''
        go_wp2
        go_ret
        refine ⟨ret_bool E.out.symm, ?_⟩
        repeat (first | exact Below.refl _ _ | exact Nat.le_refl _ | assumption | refine below_ext ?_ ?_ _ | refine Below.alloc ?_ ?_ _ | refine Below.drew ?_ | refine Below.setCell ?_ ?_ _ | refine Ext.le _ ?_ | refine le_alloc ?_ | refine le_drew ?_ | refine le_setCell ?_)
        all_goals omega
      · go_wp2_with fail
        refine wp_region_ext (by kernel_rfl) (by kernel_rfl) ?_
        repeat (go_big_quiet_step ((first | (go_at_call 13; with_reducible exact (Hc.out _).ext))))
        refine wpQuiet_nil ?_
        intro _ hw'
        obtain ⟨v, hw''⟩ := hw'
        subst hw''
        go_wp2
        go_roundw
        case rel => exact ⟨k + 1, by omega, .inl hlt, by go_num, x.over v, fun h0 j hj h1 hjk => by rcases Nat.lt_succ_iff_lt_or_eq.1 hjk with h | h; exact hok.out h0 j hj h1 h; subst h; exact Hr.out⟩
        case measure => simp [intOf]; omega
    · have hal : allIn l = true := by
        by_cases h0 : 0 < l.length
        · exact (allIn_iff l h0).2 fun j hj h1 => hok.out h0 j hj h1 (by omega)
        · cases l with
          | nil => rfl
          | cons => simp at h0
      have E := hide hal
      clear hal
      go_wp2
      go_ret
      exact ⟨ret_bool E.out.symm, x.below⟩
end Go.Proofs.Ytfebpmaaaiaccaa
