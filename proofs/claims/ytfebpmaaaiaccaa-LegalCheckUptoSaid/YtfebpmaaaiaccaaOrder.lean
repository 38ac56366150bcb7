import Derived.Test.YtfebpmaaaiaccaaIn
import Derived.Deep.DeepCutAuto
import Derived.BigGuardPart
set_option linter.unusedSimpArgs false
set_option linter.unusedVariables false
namespace Go.Proofs.Ytfebpmaaaiaccaa
open Go.RowKit Go.Proofs.Grow

theorem awake24_any (w : World) : Gives Try.prog 11 #[] w (.bool true) := by
  refine Gives.mk ?_
  have e1 : isIn 1 0 2 0 = true := by decide
  have e2 : isIn 2 0 3 1 = true := by decide
  have e3 : isIn 3 1 2 0 = false := by decide
  go_enter Try.func11, Try.ntmps11
  go_wp2_with (go_at_call 9; refine (is_any _ _ _ _ _).mono ?_; rintro _ _ ⟨y, rfl, rfl⟩)
  go_ret
  refine ⟨rfl, ?_⟩
  repeat (first | exact Below.refl _ _ | exact Nat.le_refl _ | assumption | refine below_ext ?_ ?_ _ | refine Below.alloc ?_ ?_ _ | refine Below.drew ?_ | refine Below.setCell ?_ ?_ _ | refine Ext.le _ ?_ | refine le_alloc ?_ | refine le_drew ?_ | refine le_setCell ?_)
  all_goals omega

theorem far_le (k : Int) : 0 ≤ far k ∧ far k ≤ 5 := by
  unfold far; repeat' split
  all_goals omega

theorem isIn_true (a b c d : Int) : isIn a b c d = true ↔ far a ≠ 0 ∧ far c ≠ 0 ∧ ((far a = 1 ∧ far c = 5) ∨ (far a ≠ 1 ∧ far a = far c ∧ (far a = 4 → b = d)) ∨ (far a ≠ 1 ∧ far a < far c)) := by
  have := far_le a; have := far_le c
  unfold isIn
  split
  · simp; omega
  · split
    · simp; omega
    · split
      · by_cases h4 : far a = 4
        · simp [h4] at *; omega
        · simp [h4] at *; omega
      · simp; omega

theorem isIn_trans {a b c d e f : Int} (h : isIn a b c d = true) (h' : isIn c d e f = true) : isIn a b e f = true := by
  rw [isIn_true] at *
  have := far_le a; have := far_le c; have := far_le e
  omega

theorem far_kind (a : Int) : (far a = 0 ∧ ¬ (1 ≤ a ∧ a ≤ 6)) ∨ (far a = 1 ∧ (a = 5 ∨ a = 6)) ∨ (far a = 2 ∧ a = 1) ∨ (far a = 3 ∧ a = 2) ∨ (far a = 4 ∧ a = 3) ∨ (far a = 5 ∧ a = 4) := by
  unfold far; repeat' split
  all_goals omega

theorem isIn_anti {a b c d : Int} (h : isIn a b c d = true) (h' : isIn c d a b = true) : a = c ∧ (a = 3 → b = d) := by
  rw [isIn_true] at *
  have := far_kind a; have := far_kind c
  omega

theorem order_lies {W : World} {g : Nat} {k0 n0 k1 n1 k2 n2 : Int} {l : List Ow} (hl : l = [⟨k0, n0⟩, ⟨k1, n1⟩, ⟨k2, n2⟩] ∨ l = [⟨k0, n0⟩]) (hg : g < W.heap.size)
    (h : ∀ j v, #[Value.int .i64 k0, .int .i64 n0, .int .i64 k1, .int .i64 n1, .int .i64 k2, .int .i64 n2][j]? = some v → W.cell? ⟨g, j, none⟩ = some v) : Lies W 2 Ow.cells (some ⟨g, 0, none⟩) l := by
  intro i hi
  refine ⟨g, 0, rfl, hg, fun j v hv => h _ _ ?_⟩
  have hj : j < 2 := by
    have := (List.getElem?_eq_some_iff.1 hv).1
    simpa [Ow.cells] using this
  rcases hl with rfl | rfl
  · have : i = 0 ∨ i = 1 ∨ i = 2 := by simp at hi; omega
    have : j = 0 ∨ j = 1 := by omega
    rcases this with rfl | rfl <;> rcases ‹i = 0 ∨ i = 1 ∨ i = 2› with rfl | rfl | rfl <;> simpa [Ow.cells] using hv
  · have : i = 0 := by simpa using hi
    subst this
    have : j = 0 ∨ j = 1 := by omega
    rcases this with rfl | rfl <;> simpa [Ow.cells] using hv

set_option maxHeartbeats 8000000 in
theorem order_any (k0 n0 k1 n1 k2 n2 : Int) (w : World) : Gives Try.prog 3 #[.agg #[.int .i64 k0, .int .i64 n0, .int .i64 k1, .int .i64 n1, .int .i64 k2, .int .i64 n2]] w (.bool true) := by
  refine Gives.mk ?_
  go_enter Try.func3, Try.ntmps3
  go_wp2_with fail
  go_cut [3, 4, 5] (fun s3 s4 s5 wx => ∃ p q r : Nat, s3 = .pointer (some ⟨p, 0, none⟩) ∧ s4 = .pointer (some ⟨q, 0, none⟩) ∧ s5 = .pointer (some ⟨r, 0, none⟩) ∧
    (∃ x : Ext (w.alloc (.cells #[.int .i64 k0, .int .i64 n0, .int .i64 k1, .int .i64 n1, .int .i64 k2, .int .i64 n2] 24)), wx = x.val) ∧
    p < wx.heap.size ∧ q < wx.heap.size ∧ r < wx.heap.size ∧
    wx.cell? ⟨p, 0, none⟩ = some (.int .i64 k0) ∧ wx.cell? ⟨p, 1, none⟩ = some (.int .i64 n0) ∧
    wx.cell? ⟨q, 0, none⟩ = some (.int .i64 k1) ∧ wx.cell? ⟨q, 1, none⟩ = some (.int .i64 n1) ∧
    wx.cell? ⟨r, 0, none⟩ = some (.int .i64 k2) ∧ wx.cell? ⟨r, 1, none⟩ = some (.int .i64 n2))
  case first =>
    go_region
    all_goals
      go_wp2_with fail
      go_meet
      refine ⟨_, _, _, rfl, rfl, rfl, Ext.of ?_, ?_, ?_, ?_, ?_, ?_, ?_, ?_, ?_, ?_⟩
      · repeat (first | exact Below.refl _ _ | exact Nat.le_refl _ | assumption | refine below_ext ?_ ?_ _ | refine Below.alloc ?_ ?_ _ | refine Below.drew ?_ | refine Below.setCell ?_ ?_ _ | refine Ext.le _ ?_ | refine le_alloc ?_ | refine le_drew ?_ | refine le_setCell ?_)
        all_goals omega
      all_goals (simp [go_sem]; try omega)
  case rest =>
    obtain ⟨p, q, r, rfl, rfl, rfl, ⟨x, rfl⟩, hp, hq, hr, hp0, hp1, hq0, hq1, hr0, hr1⟩ := hcut
    have Htr := hide (@isIn_trans k0 n0 k1 n1 k2 n2)
    have Han := hide (@isIn_anti k0 n0 k1 n1)
    go_upto_region 2 with fail
    go_cut [25] (fun s25 wx => s25 = .bool false ∧ ∃ y : Ext x.val, wx = y.val)
    case first =>
      go_wp2_with (go_at_call 9; refine (is_any _ _ _ _ _).mono ?_; rintro _ _ ⟨y, rfl, rfl⟩; have hp : p < y.val.heap.size := y.lt (by first | assumption | (simp; omega)); have hq : q < y.val.heap.size := y.lt (by first | assumption | (simp; omega)); have hr : r < y.val.heap.size := y.lt (by first | assumption | (simp; omega)))
      all_goals
        go_meet
        refine ⟨?_, Ext.of ?_⟩
        · first | rfl | (rw [Htr.out (by assumption) (by assumption)]; rfl)
        · repeat (first | exact Below.refl _ _ | exact Nat.le_refl _ | assumption | refine below_ext ?_ ?_ _ | refine Below.alloc ?_ ?_ _ | refine Below.drew ?_ | refine Below.setCell ?_ ?_ _ | refine Ext.le _ ?_ | refine le_alloc ?_ | refine le_drew ?_ | refine le_setCell ?_)
          all_goals omega
    case rest =>
      obtain ⟨rfl, y, rfl⟩ := hcut
      have hp := y.lt hp
      have hq := y.lt hq
      have hr := y.lt hr
      clear Htr
      go_upto_region 4 with fail
      go_cut [52] (fun s52 wx => s52 = .bool false ∧ ∃ z : Ext y.val, wx = z.val)
      case first =>
        go_wp2_with (go_at_call 9; refine (is_any _ _ _ _ _).mono ?_; rintro _ _ ⟨y, rfl, rfl⟩; have hp : p < y.val.heap.size := y.lt (by first | assumption | (simp; omega)); have hq : q < y.val.heap.size := y.lt (by first | assumption | (simp; omega)); have hr : r < y.val.heap.size := y.lt (by first | assumption | (simp; omega)))
        all_goals
          go_meet
          refine ⟨?_, Ext.of ?_⟩
          · first | rfl | (have := Han.out (by assumption) (by assumption); simp_all; done)
          · repeat (first | exact Below.refl _ _ | exact Nat.le_refl _ | assumption | refine below_ext ?_ ?_ _ | refine Below.alloc ?_ ?_ _ | refine Below.drew ?_ | refine Below.setCell ?_ ?_ _ | refine Ext.le _ ?_ | refine le_alloc ?_ | refine le_drew ?_ | refine le_setCell ?_)
            all_goals omega
      case rest =>
        obtain ⟨rfl, z, rfl⟩ := hcut
        have hp := z.lt hp
        have hq := z.lt hq
        have hr := z.lt hr
        clear Han
        obtain ⟨b01, e01⟩ : ∃ b, isIn k0 n0 k1 n1 = b := ⟨_, rfl⟩
        obtain ⟨b02, e02⟩ : ∃ b, isIn k0 n0 k2 n2 = b := ⟨_, rfl⟩
        have c01 : ∀ W : Ext z.val, Gives Try.prog 9 #[.agg #[.int .i64 k0, .int .i64 n0], .agg #[.int .i64 k1, .int .i64 n1]] W.val (.bool b01) := fun W => by rw [← e01]; exact is_any _ _ _ _ _
        have c02 : ∀ W : Ext z.val, Gives Try.prog 9 #[.agg #[.int .i64 k0, .int .i64 n0], .agg #[.int .i64 k2, .int .i64 n2]] W.val (.bool b02) := fun W => by rw [← e02]; exact is_any _ _ _ _ _
        have hL : ∀ (W : Ext z.val) (l : List Ow), (l = [⟨k0, n0⟩, ⟨k1, n1⟩, ⟨k2, n2⟩] ∨ l = [⟨k0, n0⟩]) → Lies W.val 2 Ow.cells (some ⟨w.heap.size, 0, none⟩) l := fun W l hl => order_lies hl (by have h1 := x.lt (n := w.heap.size) (by simp); exact W.lt (z.lt (y.lt h1))) fun j v hv => by
          have h1 := x.lt (n := w.heap.size) (by simp)
          have h2 := y.lt h1
          rw [W.cell (z.lt h2), z.cell h2, y.cell h1, x.cell (by simp), World.cell?_alloc_at _ _ _ _ rfl]
          exact hv
        have ha : ∀ W : Ext z.val, Gives Try.prog 10 #[.slice (some ⟨w.heap.size, 0, none⟩) 3 3] W.val (.bool (b01 && b02)) := fun W => by
          have h := all_any W.val _ 3 _ (by simp) (by simp) (hL W _ (.inl rfl))
          have e : allIn [⟨k0, n0⟩, ⟨k1, n1⟩, ⟨k2, n2⟩] = (b01 && b02) := by simp [allIn, e01, e02]
          rw [e] at h
          exact h
        have h1 : ∀ W : Ext z.val, Gives Try.prog 10 #[.slice (some ⟨w.heap.size, 0, none⟩) 1 3] W.val (.bool true) := fun W =>
          all_any W.val _ 3 _ (by simp) (by simp) (hL W _ (.inr rfl))
        have h0 : ∀ W : Ext z.val, Gives Try.prog 10 #[.slice none 0 0] W.val (.bool true) := fun W =>
          all_any W.val none 0 [] (by simp) (by simp) Lies.nil
        have Hc := hide (And.intro c01 (And.intro c02 (And.intro ha (And.intro h1 h0))))
        clear ha h1 h0 c01 c02 e01 e02
        cases b01
        all_goals cases b02
        all_goals
          go_wp2_with fail
          refine wp_region_ext (by kernel_rfl) (by kernel_rfl) ?_
          repeat (go_big_quiet_step ((first | (go_at_call 9; with_reducible exact (Hc.out.1 _).ext) | (go_at_call 9; with_reducible exact (Hc.out.2.1 _).ext) | (go_at_call 10; with_reducible exact (Hc.out.2.2.1 _).ext) | (go_at_call 10; with_reducible exact (Hc.out.2.2.2.1 _).ext) | (go_at_call 10; with_reducible exact (Hc.out.2.2.2.2 _).ext) | (go_at_call 11; exact (awake24_any _).ext))))
          refine wpQuiet_nil ?_
          intro _ hw'
          obtain ⟨v, hw''⟩ := hw'
          subst hw''
          go_wp2
          go_ret
          refine ⟨rfl, ?_⟩
          repeat (first | exact Below.refl _ _ | exact Nat.le_refl _ | assumption | refine below_ext ?_ ?_ _ | refine Below.alloc ?_ ?_ _ | refine Below.drew ?_ | refine Below.setCell ?_ ?_ _ | refine Ext.le _ ?_ | refine le_alloc ?_ | refine le_drew ?_ | refine le_setCell ?_)
          all_goals omega
end Go.Proofs.Ytfebpmaaaiaccaa
