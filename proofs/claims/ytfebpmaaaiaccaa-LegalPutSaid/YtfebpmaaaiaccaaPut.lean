/- The walk of demesneref04.Put, and the plain law of InsidePut. -/
import Derived.Test.YtfebpmaaaiaccaaOrder
set_option linter.unusedSimpArgs false
set_option linter.unusedVariables false
namespace Go.Proofs.Ytfebpmaaaiaccaa
open Go.RowKit Go.Proofs.Grow

/-- demesneref04.Put -/
def putAt (l : List Ow) (i : Int) : Ow := if 0 ≤ i then (l[i.toNat]?).getD ⟨8, 0⟩ else ⟨8, 0⟩
def put (o : Ow) (l : List Ow) : Ow := if o.k = 2 then putAt l 0 else if o.k = 3 then putAt l o.n else o

theorem putAt_in {l : List Ow} {a : Int} (k : Nat) (h : k < l.length) (e : (k : Int) = a) : putAt l a = l[k] := by
  subst e; simp [putAt, h]
theorem putAt_out {l : List Ow} {a : Int} (h : ∀ j : Nat, j < l.length → (j : Int) ≠ a) : putAt l a = ⟨8, 0⟩ := by
  unfold putAt
  split
  · have := h a.toNat
    rw [List.getElem?_eq_none]
    · rfl
    · omega
  · rfl

set_option maxHeartbeats 1000000 in
theorem put2_any (w : World) (n : Int) (A : Option Addr) (c : Nat) (l : List Ow) (hl : l.length ≤ 9223372036854775807) (hs : Lies w 2 Ow.cells A l) :
    Gives Try.prog 12 #[.agg #[.int .i64 2, .int .i64 n], .slice A l.length c] w (.agg #[.int .i64 (putAt l (0:Int)).k, .int .i64 (putAt l (0:Int)).n]) := by
  refine Gives.mk ?_
  have Hs := hide hs
  clear hs
  go_enter Try.func12, Try.ntmps12
  go_wp2_with fail
  go_loop [6] (fun i => ∃ k : Nat, k ≤ l.length ∧ i = .int .i64 k ∧ Hid (∀ j : Nat, j < k → (j : Int) ≠ (0:Int))) (fun i => l.length - (intOf i).toNat)
  case atStart => exact ⟨0, Nat.zero_le _, rfl, fun j h => absurd h (Nat.not_lt_zero _)⟩
  case round =>
    obtain ⟨k, hk, rfl, hne⟩ := hrel
    by_cases hlt : k < l.length
    · obtain ⟨b, off, rfl, hb, hcell⟩ := Hs.out k hlt
      have h0 : w.cell? ⟨b, off + k * 2, none⟩ = _ := hcell 0 _ rfl
      have h1 : w.cell? ⟨b, off + k * 2 + 1, none⟩ = _ := hcell 1 _ rfl
      clear hcell
      by_cases hka : (k : Int) = (0:Int)
      · have hkb : ((k : Int) == (0:Int)) = true := beq_iff_eq.2 hka
        have E := hide (putAt_in k hlt hka)
        clear hka
        go_wp2
        refine bodyPost_ret (v := .agg #[.int .i64 l[k].k, .int .i64 l[k].n]) (by simp [results, Try.results12, go_sem]) rfl ⟨by rw [E.out], ?_⟩
        repeat (first | exact Below.refl _ _ | exact Nat.le_refl _ | assumption | refine below_ext ?_ ?_ _ | refine Below.alloc ?_ ?_ _ | refine Below.drew ?_ | refine Below.setCell ?_ ?_ _ | refine Ext.le _ ?_ | refine le_alloc ?_ | refine le_drew ?_ | refine le_setCell ?_)
        all_goals omega
      · have hkb : ((k : Int) == (0:Int)) = false := beq_eq_false_iff_ne.2 hka
        have Hka := hide hka
        clear hka
        go_wp2
        go_round
        case rel => exact ⟨k + 1, hlt, by go_num, fun j hj => by rcases Nat.lt_succ_iff_lt_or_eq.1 hj with h | h; exact hne.out j h; subst h; exact Hka.out⟩
        case measure => simp [intOf]; omega
    · have E := hide (putAt_out (l := l) (a := (0:Int)) (fun j hj => hne.out j (by omega)))
      go_wp2
      refine bodyPost_ret (v := .agg #[.int .i64 8, .int .i64 0]) (by simp [results, Try.results12, go_sem]) rfl ⟨by rw [E.out], ?_⟩
      repeat (first | exact Below.refl _ _ | exact Nat.le_refl _ | assumption | refine below_ext ?_ ?_ _ | refine Below.alloc ?_ ?_ _ | refine Below.drew ?_ | refine Below.setCell ?_ ?_ _ | refine Ext.le _ ?_ | refine le_alloc ?_ | refine le_drew ?_ | refine le_setCell ?_)
      all_goals omega

set_option maxHeartbeats 1000000 in
theorem put3_any (w : World) (n : Int) (A : Option Addr) (c : Nat) (l : List Ow) (hl : l.length ≤ 9223372036854775807) (hs : Lies w 2 Ow.cells A l) :
    Gives Try.prog 12 #[.agg #[.int .i64 3, .int .i64 n], .slice A l.length c] w (.agg #[.int .i64 (putAt l n).k, .int .i64 (putAt l n).n]) := by
  refine Gives.mk ?_
  have Hs := hide hs
  clear hs
  go_enter Try.func12, Try.ntmps12
  go_wp2_with fail
  go_loop [6] (fun i => ∃ k : Nat, k ≤ l.length ∧ i = .int .i64 k ∧ Hid (∀ j : Nat, j < k → (j : Int) ≠ n)) (fun i => l.length - (intOf i).toNat)
  case atStart => exact ⟨0, Nat.zero_le _, rfl, fun j h => absurd h (Nat.not_lt_zero _)⟩
  case round =>
    obtain ⟨k, hk, rfl, hne⟩ := hrel
    by_cases hlt : k < l.length
    · obtain ⟨b, off, rfl, hb, hcell⟩ := Hs.out k hlt
      have h0 : w.cell? ⟨b, off + k * 2, none⟩ = _ := hcell 0 _ rfl
      have h1 : w.cell? ⟨b, off + k * 2 + 1, none⟩ = _ := hcell 1 _ rfl
      clear hcell
      by_cases hka : (k : Int) = n
      · have hkb : ((k : Int) == n) = true := beq_iff_eq.2 hka
        have E := hide (putAt_in k hlt hka)
        clear hka
        go_wp2
        refine bodyPost_ret (v := .agg #[.int .i64 l[k].k, .int .i64 l[k].n]) (by simp [results, Try.results12, go_sem]) rfl ⟨by rw [E.out], ?_⟩
        repeat (first | exact Below.refl _ _ | exact Nat.le_refl _ | assumption | refine below_ext ?_ ?_ _ | refine Below.alloc ?_ ?_ _ | refine Below.drew ?_ | refine Below.setCell ?_ ?_ _ | refine Ext.le _ ?_ | refine le_alloc ?_ | refine le_drew ?_ | refine le_setCell ?_)
        all_goals omega
      · have hkb : ((k : Int) == n) = false := beq_eq_false_iff_ne.2 hka
        have Hka := hide hka
        clear hka
        go_wp2
        go_round
        case rel => exact ⟨k + 1, hlt, by go_num, fun j hj => by rcases Nat.lt_succ_iff_lt_or_eq.1 hj with h | h; exact hne.out j h; subst h; exact Hka.out⟩
        case measure => simp [intOf]; omega
    · have E := hide (putAt_out (l := l) (a := n) (fun j hj => hne.out j (by omega)))
      go_wp2
      refine bodyPost_ret (v := .agg #[.int .i64 8, .int .i64 0]) (by simp [results, Try.results12, go_sem]) rfl ⟨by rw [E.out], ?_⟩
      repeat (first | exact Below.refl _ _ | exact Nat.le_refl _ | assumption | refine below_ext ?_ ?_ _ | refine Below.alloc ?_ ?_ _ | refine Below.drew ?_ | refine Below.setCell ?_ ?_ _ | refine Ext.le _ ?_ | refine le_alloc ?_ | refine le_drew ?_ | refine le_setCell ?_)
      all_goals omega

set_option maxHeartbeats 1000000 in
theorem put_any (o : Ow) (w : World) (A : Option Addr) (c : Nat) (l : List Ow) (hl : l.length ≤ 9223372036854775807) (hs : Lies w 2 Ow.cells A l) :
    Gives Try.prog 12 #[.agg #[.int .i64 o.k, .int .i64 o.n], .slice A l.length c] w (.agg #[.int .i64 (put o l).k, .int .i64 (put o l).n]) := by
  obtain ⟨k, n⟩ := o
  by_cases h2 : k = 2
  · subst h2; exact put2_any w n A c l hl hs
  · by_cases h3 : k = 3
    · subst h3; exact put3_any w n A c l hl hs
    · have e : put ⟨k, n⟩ l = ⟨k, n⟩ := by simp [put, h2, h3]
      rw [e]
      refine Gives.mk ?_
      have e2 : (k == 2) = false := by simp [h2]
      have e3 : (k == 3) = false := by simp [h3]
      have f2 : (k != 2) = true := by simp [h2]
      have f3 : (k != 3) = true := by simp [h3]
      clear hs e h2 h3
      go_enter Try.func12, Try.ntmps12
      go_wp2
      refine bodyPost_ret (v := .agg #[.int .i64 k, .int .i64 n]) (by simp [results, Try.results12, go_sem]) rfl ⟨rfl, ?_⟩
      repeat (first | exact Below.refl _ _ | exact Nat.le_refl _ | assumption | refine below_ext ?_ ?_ _ | refine Below.alloc ?_ ?_ _ | refine Below.drew ?_ | refine Below.setCell ?_ ?_ _ | refine Ext.le _ ?_ | refine le_alloc ?_ | refine le_drew ?_ | refine le_setCell ?_)
      all_goals omega

/-! ### the plain law -/
theorem isIn_refl (o : Ow) (h : 1 ≤ o.k ∧ o.k ≤ 4) : isIn o.k o.n o.k o.n = true := by
  rw [isIn_true]; have := far_kind o.k; omega

theorem allIn_get {q : Ow} {l : List Ow} (h : allIn (q :: l) = true) (i : Nat) (hi : i < l.length) : isIn q.k q.n l[i].k l[i].n = true := by
  simp [allIn] at h
  exact h _ (List.getElem_mem hi)

/-- Owners of which one is inside another one stay so, put for others of which the first one is inside all. -/
theorem put_law {l : List Ow} {a b : Ow} (hl : l ≠ []) (hall : allIn l = true) (hk : ∀ o ∈ l, 1 ≤ o.k ∧ o.k ≤ 4) (ha : a.k = 2 ∨ a.k = 4 ∨ a.k = 3 ∧ 1 ≤ a.n ∧ a.n < l.length) (hb : b.k = 2 ∨ b.k = 4 ∨ b.k = 3 ∧ 1 ≤ b.n ∧ b.n < l.length)
    (h : isIn a.k a.n b.k b.n = true) : isIn (put a l).k (put a l).n (put b l).k (put b l).n = true := by
  cases l with
  | nil => exact absurd rfl hl
  | cons q l =>
    have hq := hk q (by simp)
    have p2 : ∀ o : Ow, o.k = 2 → put o (q :: l) = q := fun o ho => by simp [put, ho, putAt]
    have p3 : ∀ o : Ow, o.k = 3 → 1 ≤ o.n → o.n < (q :: l).length → ∃ i, ∃ hi : i < l.length, o.n = (i : Int) + 1 ∧ put o (q :: l) = l[i] := fun o ho h1 hlt => by
      have hlt' : o.n < l.length + 1 := by simpa using hlt
      refine ⟨o.n.toNat - 1, by omega, by omega, ?_⟩
      have e := putAt_in (l := q :: l) (a := o.n) o.n.toNat (by simp; omega) (by omega)
      simp [put, ho, e]
      rw [List.getElem_cons]
      simp [show o.n.toNat ≠ 0 by omega]
    have p4 : ∀ o : Ow, o.k = 4 → put o (q :: l) = o := fun o ho => by simp [put, ho]
    have world : ∀ o : Ow, 1 ≤ o.k ∧ o.k ≤ 4 → ∀ n, isIn o.k o.n 4 n = true := fun o ho n => by
      rw [isIn_true]; have := far_kind o.k; have := far_kind 4; omega
    rcases ha with ha | ha | ⟨ha, ha1, ha2⟩ <;> rcases hb with hb | hb | ⟨hb, hb1, hb2⟩
    · rw [p2 a ha, p2 b hb]; exact isIn_refl q hq
    · rw [p2 a ha, p4 b hb, hb]; exact world q hq _
    · obtain ⟨i, hi, _, e⟩ := p3 b hb hb1 hb2
      rw [p2 a ha, e]; exact allIn_get hall i hi
    · rw [isIn_true] at h; have := far_kind a.k; have := far_kind b.k; omega
    · rw [p4 a ha, p4 b hb, ha, hb]; exact world ⟨4, a.n⟩ (by simp) _
    · rw [isIn_true] at h; have := far_kind a.k; have := far_kind b.k; omega
    · rw [isIn_true] at h; have := far_kind a.k; have := far_kind b.k; omega
    · obtain ⟨i, hi, _, e⟩ := p3 a ha ha1 ha2
      rw [e, p4 b hb, hb]; exact world _ (hk _ (List.mem_cons_of_mem _ (List.getElem_mem hi))) _
    · obtain ⟨i, hi, ei, e⟩ := p3 a ha ha1 ha2
      obtain ⟨j, hj, ej, e'⟩ := p3 b hb hb1 hb2
      have : a.n = b.n := by
        rw [isIn_true] at h; have := far_kind a.k; have := far_kind b.k; omega
      obtain rfl : i = j := by omega
      rw [e, e']; exact isIn_refl _ (hk _ (List.mem_cons_of_mem _ (List.getElem_mem hi)))
end Go.Proofs.Ytfebpmaaaiaccaa
