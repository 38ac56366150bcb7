/- The walks of kind.Unique, demesneref05.Unique, demesneref25.may, demesneref25.Class. -/
import Derived.Test.YtfebpmaaaiaccaaLegal
set_option linter.unusedSimpArgs false
set_option linter.unusedVariables false
namespace Go.Proofs.Ytfebpmaaaiaccaa
open Go.RowKit Go.Proofs.Grow

def uniqT (t : Ty) : Bool := t.k == 2 && t.o0.k == 6
theorem kunique_any (t : Ty) (w : World) : Gives Try.prog 37 #[.agg t.cells.toArray] w (.bool (uniqT t)) := by
  refine Gives.mk ?_
  unfold uniqT Ty.cells
  go_enter Try.func37, Try.ntmps37
  rcases Bool.eq_false_or_eq_true (t.k == 2) with h1 | h1
  all_goals
    go_wp2_with fail
    go_ret
    refine ⟨by simp [h1], ?_⟩
    repeat (first | exact Below.refl _ _ | exact Nat.le_refl _ | assumption | refine below_ext ?_ ?_ _ | refine Below.alloc ?_ ?_ _ | refine Below.drew ?_ | refine Below.setCell ?_ ?_ _ | refine Ext.le _ ?_ | refine le_alloc ?_ | refine le_drew ?_ | refine le_setCell ?_)
    all_goals omega
theorem unique5_any (t : Ty) (w : World) : Gives Try.prog 23 #[.agg t.cells.toArray] w (.bool (uniqT t)) := by
  refine Gives.mk ?_
  unfold uniqT Ty.cells
  go_enter Try.func23, Try.ntmps23
  rcases Bool.eq_false_or_eq_true (t.k == 2) with h1 | h1
  all_goals
    go_wp2_with fail
    go_ret
    refine ⟨by simp [h1], ?_⟩
    repeat (first | exact Below.refl _ _ | exact Nat.le_refl _ | assumption | refine below_ext ?_ ?_ _ | refine Below.alloc ?_ ?_ _ | refine Below.drew ?_ | refine Below.setCell ?_ ?_ _ | refine Ext.le _ ?_ | refine le_alloc ?_ | refine le_drew ?_ | refine le_setCell ?_)
    all_goals omega

/-- demesneref25.may -/
def mayT (k m : Int) (f : Bool) : Bool := if k = 6 then f && (m == 1 || m == 2) else if m = 1 then (k == 1 || k == 2 || k == 3 || k == 4) else m == 2 && (k == 1 || k == 2 || k == 5)

theorem may_any (k m : Int) (f : Bool) (w : World) : Gives Try.prog 39 #[.int .i64 k, .int .i64 m, .bool f] w (.bool (mayT k m f)) := by
  refine Gives.mk ?_
  obtain ⟨r, hr⟩ : ∃ r, r = mayT k m f := ⟨_, rfl⟩
  rw [← hr]
  have HR := hide hr
  clear hr
  by_cases h6 : k = 6
  · subst h6
    rcases Bool.eq_false_or_eq_true f with rfl | rfl
    · rcases Bool.eq_false_or_eq_true (m == 1) with h1 | h1
      all_goals
        go_enter Try.func39, Try.ntmps39
        go_wp2_with fail
        go_ret
        refine ⟨ret_bool (by rw [HR.out]; unfold mayT; simp [h1]), ?_⟩
        repeat (first | exact Below.refl _ _ | exact Nat.le_refl _ | assumption | refine below_ext ?_ ?_ _ | refine Below.alloc ?_ ?_ _ | refine Below.drew ?_ | refine Below.setCell ?_ ?_ _ | refine Ext.le _ ?_ | refine le_alloc ?_ | refine le_drew ?_ | refine le_setCell ?_)
        all_goals omega
    · go_enter Try.func39, Try.ntmps39
      go_wp2_with fail
      go_ret
      refine ⟨ret_bool (by rw [HR.out]; unfold mayT; simp), ?_⟩
      repeat (first | exact Below.refl _ _ | exact Nat.le_refl _ | assumption | refine below_ext ?_ ?_ _ | refine Below.alloc ?_ ?_ _ | refine Below.drew ?_ | refine Below.setCell ?_ ?_ _ | refine Ext.le _ ?_ | refine le_alloc ?_ | refine le_drew ?_ | refine le_setCell ?_)
      all_goals omega
  · have h6' : (k == 6) = false := beq_eq_false_iff_ne.2 h6
    have HE := hide h6
    clear h6
    by_cases hm : m = 1
    · subst hm
      rcases Bool.eq_false_or_eq_true (k == 1) with h1 | h1 <;> rcases Bool.eq_false_or_eq_true (k == 2) with h2 | h2 <;> rcases Bool.eq_false_or_eq_true (k == 3) with h3 | h3
      all_goals
        go_enter Try.func39, Try.ntmps39
        go_wp2_with fail
        go_ret
        refine ⟨ret_bool (by rw [HR.out]; unfold mayT; have := HE.out; simp [this, h1, h2, h3]), ?_⟩
        repeat (first | exact Below.refl _ _ | exact Nat.le_refl _ | assumption | refine below_ext ?_ ?_ _ | refine Below.alloc ?_ ?_ _ | refine Below.drew ?_ | refine Below.setCell ?_ ?_ _ | refine Ext.le _ ?_ | refine le_alloc ?_ | refine le_drew ?_ | refine le_setCell ?_)
        all_goals omega
    · have hm' : (m == 1) = false := beq_eq_false_iff_ne.2 hm
      have HF := hide hm
      clear hm
      rcases Bool.eq_false_or_eq_true (m == 2) with h0 | h0 <;> rcases Bool.eq_false_or_eq_true (k == 1) with h1 | h1 <;> rcases Bool.eq_false_or_eq_true (k == 2) with h2 | h2
      all_goals
        go_enter Try.func39, Try.ntmps39
        go_wp2_with fail
        go_ret
        refine ⟨ret_bool (by rw [HR.out]; unfold mayT; have := HE.out; have := HF.out; simp [*]), ?_⟩
        repeat (first | exact Below.refl _ _ | exact Nat.le_refl _ | assumption | refine below_ext ?_ ?_ _ | refine Below.alloc ?_ ?_ _ | refine Below.drew ?_ | refine Below.setCell ?_ ?_ _ | refine Ext.le _ ?_ | refine le_alloc ?_ | refine le_drew ?_ | refine le_setCell ?_)
        all_goals omega

/-- Class -/
def clsT (c : Cl) (m : Int) : Int := if m = 1 then 0 else if m = 2 ∧ c.params.length = 0 then 0 else 19

theorem refClass_any (c : Cl) (m : Int) (w : World) : Gives Try.prog 18 #[.agg c.cells.toArray, .int .i64 m] w (.int .i64 (clsT c m)) := by
  refine Gives.mk ?_
  obtain ⟨r, hr⟩ : ∃ r, r = clsT c m := ⟨_, rfl⟩
  rw [← hr]
  unfold clsT at hr
  unfold Cl.cells
  obtain ⟨n, hn⟩ : ∃ n, c.params.length = n := ⟨_, rfl⟩
  rw [hn] at hr ⊢
  clear hn
  have HR := hide hr
  clear hr
  by_cases h1 : m = 1
  · subst h1
    go_enter Try.func18, Try.ntmps18
    go_wp2_with fail
    go_ret
    refine ⟨ret_int (by rw [HR.out]; simp), ?_⟩
    repeat (first | exact Below.refl _ _ | exact Nat.le_refl _ | assumption | refine below_ext ?_ ?_ _ | refine Below.alloc ?_ ?_ _ | refine Below.drew ?_ | refine Below.setCell ?_ ?_ _ | refine Ext.le _ ?_ | refine le_alloc ?_ | refine le_drew ?_ | refine le_setCell ?_)
    all_goals omega
  · have h1' : (m == 1) = false := beq_eq_false_iff_ne.2 h1
    have HE := hide h1
    clear h1
    by_cases h2 : m = 2
    · subst h2
      rcases n with _ | n
      · go_enter Try.func18, Try.ntmps18
        go_wp2_with fail
        go_ret
        refine ⟨ret_int (by rw [HR.out]; simp), ?_⟩
        repeat (first | exact Below.refl _ _ | exact Nat.le_refl _ | assumption | refine below_ext ?_ ?_ _ | refine Below.alloc ?_ ?_ _ | refine Below.drew ?_ | refine Below.setCell ?_ ?_ _ | refine Ext.le _ ?_ | refine le_alloc ?_ | refine le_drew ?_ | refine le_setCell ?_)
        all_goals omega
      · have h0 : (((n + 1 : Nat) : Int) == 0) = false := beq_eq_false_iff_ne.2 (by omega)
        go_enter Try.func18, Try.ntmps18
        go_wp2_with fail
        go_ret
        refine ⟨ret_int (by rw [HR.out]; simp), ?_⟩
        repeat (first | exact Below.refl _ _ | exact Nat.le_refl _ | assumption | refine below_ext ?_ ?_ _ | refine Below.alloc ?_ ?_ _ | refine Below.drew ?_ | refine Below.setCell ?_ ?_ _ | refine Ext.le _ ?_ | refine le_alloc ?_ | refine le_drew ?_ | refine le_setCell ?_)
        all_goals omega
    · have h2' : (m == 2) = false := beq_eq_false_iff_ne.2 h2
      have HF := hide h2
      clear h2
      go_enter Try.func18, Try.ntmps18
      go_wp2_with fail
      go_ret
      refine ⟨ret_int (by rw [HR.out, if_neg HE.out, if_neg (fun h => HF.out h.1)]), ?_⟩
      repeat (first | exact Below.refl _ _ | exact Nat.le_refl _ | assumption | refine below_ext ?_ ?_ _ | refine Below.alloc ?_ ?_ _ | refine Below.drew ?_ | refine Below.setCell ?_ ?_ _ | refine Ext.le _ ?_ | refine le_alloc ?_ | refine le_drew ?_ | refine le_setCell ?_)
      all_goals omega

/-- What legal.of answers, as far as it is looked at. -/
def OfEx (m : Int) (w : World) (e : Ending) (w' : World) : Prop := ∃ (x : Ext w) (b1 b2 : Nat) (g : FuncId), e = .returned (.agg #[.func (.func 56) #[] #[.pointer (some ⟨b1, 0, none⟩)], .func (.func 56) #[] #[.pointer (some ⟨b2, 0, none⟩)], .bool (m == 1), .func (.func g) #[] #[]]) ∧ (m = 1 ∧ g = 15 ∨ m ≠ 1 ∧ g = 49) ∧ w' = x.val ∧
  Within w.heap.size x.val (.func (.func 56) #[] #[.pointer (some ⟨b1, 0, none⟩)]) (firsts m) ∧ Within w.heap.size x.val (.func (.func 56) #[] #[.pointer (some ⟨b2, 0, none⟩)]) (behinds m)
theorem of_ex (m : Int) (w : World) : Calls Try.prog 35 #[.int .i64 m] w (OfEx m w) := by
  refine (of_any m w).mono ?_
  rintro _ _ ⟨x, v1, v2, rfl, rfl, h1, h2⟩
  have k1 := h1
  have k2 := h2
  obtain ⟨b1, A1, c1, rfl, _⟩ := h1
  obtain ⟨b2, A2, c2, rfl, _⟩ := h2
  by_cases hm : m = 1
  · exact ⟨x, b1, b2, 15, by simp [moreOf, hm], .inl ⟨hm, rfl⟩, rfl, k1, k2⟩
  · exact ⟨x, b1, b2, 49, by simp [moreOf, hm], .inr ⟨hm, rfl⟩, rfl, k1, k2⟩

theorem within_call {n : Nat} {w : World} {b : Nat} {ks : List Int} (h : Within n w (.func (.func 56) #[] #[.pointer (some ⟨b, 0, none⟩)]) ks) (x : Int) :
    Calls Try.prog 56 #[.int .i64 x, .pointer (some ⟨b, 0, none⟩)] w fun e w' => e = .returned (.bool (decide (x ∈ ks))) ∧ w = w' := by
  obtain ⟨b1, A1, c1, he, h1, h2, h3, h4, _⟩ := h
  cases he
  exact within1_any w x b A1 c1 ks h1 h2 h3 h4

theorem field64 (w : World) (b1 b2 : Nat) (g : FuncId) (B : Bool) : (Instr.field 64 (.agg #[.func (.func 56) #[] #[.pointer (some ⟨b1, 0, none⟩)], .func (.func 56) #[] #[.pointer (some ⟨b2, 0, none⟩)], .bool B, .func (.func g) #[] #[]]) 2).run Try.prog w = .ok (.bool B) w := by kernel_rfl

set_option maxRecDepth 100000 in
theorem class_any (c : Cl) (m : Int) (w : World) : Gives Try.prog 17 #[.agg c.cells.toArray, .int .i64 m] w (.int .i64 (clsT c m)) := by
  refine Gives.mk ?_
  obtain ⟨r, hr⟩ : ∃ r, r = clsT c m := ⟨_, rfl⟩
  rw [← hr]
  unfold clsT at hr
  unfold Cl.cells
  obtain ⟨n, hn⟩ : ∃ n, c.params.length = n := ⟨_, rfl⟩
  rw [hn] at hr ⊢
  clear hn
  have HR := hide hr
  clear hr
  have HO := hide (fun W => of_ex m W)
  have hfd := fun (w : World) (b1 b2 : Nat) (g : FuncId) (B : Bool) => field64 w b1 b2 g B
  by_cases h1 : m = 1
  · subst h1
    go_enter Try.func17, Try.ntmps17
    go_wp2_with fail
    refine (HO.out _).mono ?_
    rintro _ _ ⟨x, b1, b2, g, rfl, -, rfl, -, -⟩
    go_wp2_with fail
    go_ret
    refine ⟨ret_int (by rw [HR.out]; simp), ?_⟩
    repeat (first | exact Below.refl _ _ | exact Nat.le_refl _ | assumption | refine below_ext ?_ ?_ _ | refine Below.alloc ?_ ?_ _ | refine Below.drew ?_ | refine Below.setCell ?_ ?_ _ | refine Ext.le _ ?_ | refine le_alloc ?_ | refine le_drew ?_ | refine le_setCell ?_)
    all_goals omega
  · have h1' : (m == 1) = false := beq_eq_false_iff_ne.2 h1
    have HE := hide h1
    clear h1
    by_cases h2 : m = 2
    · subst h2
      rcases n with _ | n
      · go_enter Try.func17, Try.ntmps17
        go_wp2_with fail
        refine (HO.out _).mono ?_
        rintro _ _ ⟨x, b1, b2, g, rfl, -, rfl, -, -⟩
        go_wp2_with fail
        go_ret
        refine ⟨ret_int (by rw [HR.out]; simp), ?_⟩
        repeat (first | exact Below.refl _ _ | exact Nat.le_refl _ | assumption | refine below_ext ?_ ?_ _ | refine Below.alloc ?_ ?_ _ | refine Below.drew ?_ | refine Below.setCell ?_ ?_ _ | refine Ext.le _ ?_ | refine le_alloc ?_ | refine le_drew ?_ | refine le_setCell ?_)
        all_goals omega
      · have h0 : decide ((0 : Int) < ((n + 1 : Nat) : Int)) = true := decide_eq_true (by omega)
        go_enter Try.func17, Try.ntmps17
        go_wp2_with fail
        refine (HO.out _).mono ?_
        rintro _ _ ⟨x, b1, b2, g, rfl, -, rfl, -, -⟩
        go_wp2_with fail
        go_ret
        refine ⟨ret_int (by rw [HR.out]; simp), ?_⟩
        repeat (first | exact Below.refl _ _ | exact Nat.le_refl _ | assumption | refine below_ext ?_ ?_ _ | refine Below.alloc ?_ ?_ _ | refine Below.drew ?_ | refine Below.setCell ?_ ?_ _ | refine Ext.le _ ?_ | refine le_alloc ?_ | refine le_drew ?_ | refine le_setCell ?_)
        all_goals omega
    · have h2' : (m == 2) = false := beq_eq_false_iff_ne.2 h2
      have HF := hide h2
      clear h2
      go_enter Try.func17, Try.ntmps17
      go_wp2_with fail
      go_ret
      refine ⟨ret_int (by rw [HR.out, if_neg HE.out, if_neg (fun h => HF.out h.1)]), ?_⟩
      repeat (first | exact Below.refl _ _ | exact Nat.le_refl _ | assumption | refine below_ext ?_ ?_ _ | refine Below.alloc ?_ ?_ _ | refine Below.drew ?_ | refine Below.setCell ?_ ?_ _ | refine Ext.le _ ?_ | refine le_alloc ?_ | refine le_drew ?_ | refine le_setCell ?_)
      all_goals omega
end Go.Proofs.Ytfebpmaaaiaccaa
