/- The walk of demesneref10.uniques: that it gives an answer. -/
import Derived.Test.YtmpdmelkbemabaaMuch
set_option linter.unusedSimpArgs false
set_option linter.unusedVariables false
namespace Go.Proofs.Ytmpdmelkbemabaa
open Go.RowKit Go.Proofs.Grow

set_option maxHeartbeats 1000000 in
set_option maxRecDepth 100000 in
theorem uniques_any (m : Me) (w : World) (hm : MeIn w m) : SomeInt Try.prog 14 #[.agg m.cells.toArray] w := by
  unfold SomeInt
  have HM := hide hm
  clear hm
  have hb13 : m.cells.toArray[13]? = some (.slice m.pA m.params.length m.pc) := rfl
  have hb14 : m.cells.toArray[14]? = some (.slice m.lA m.locals.length m.lc) := rfl
  go_enter Try.func14, Try.ntmps14
  go_upto_region 1 with fail
  obtain ⟨w1, hw1⟩ : ∃ w1, w1 = w.alloc (.cells m.cells.toArray 63) := ⟨_, rfl⟩
  rw [← hw1]
  have hB1 : Hid (Below w.heap.size w w1) := by
    show Below _ _ _
    rw [hw1]
    exact (Below.refl _ _).alloc (Nat.le_refl _) _
  have hsz : w.heap.size < w1.heap.size := by rw [hw1]; simp
  have a13 : w1.cell? ⟨w.heap.size, 13, none⟩ = some (.slice m.pA m.params.length m.pc) := by rw [hw1, cell_of_row _ _ _ _ _ _ (heap_alloc_new w _)]; exact hb13
  have a14 : w1.cell? ⟨w.heap.size, 14, none⟩ = some (.slice m.lA m.locals.length m.lc) := by rw [hw1, cell_of_row _ _ _ _ _ _ (heap_alloc_new w _)]; exact hb14
  clear hw1 hb13 hb14
  obtain ⟨P, hP⟩ : ∃ P, P = m.params := ⟨_, rfl⟩
  obtain ⟨L, hL⟩ : ∃ L, L = m.locals := ⟨_, rfl⟩
  have HP : Hid (Lies w 13 Va.cells m.pA P ∧ P.length ≤ m.pc ∧ m.pc ≤ maxLen) := by rw [hP]; exact ⟨HM.out.params, HM.out.pc, HM.out.pm⟩
  have HL : Hid (Lies w 13 Va.cells m.lA L ∧ L.length ≤ m.lc ∧ m.lc ≤ maxLen) := by rw [hL]; exact ⟨HM.out.locals, HM.out.lc, HM.out.lm⟩
  rw [← hP] at a13
  rw [← hL] at a14
  obtain ⟨pA, hpA⟩ : ∃ pA, m.pA = pA := ⟨_, rfl⟩
  obtain ⟨lA, hlA⟩ : ∃ lA, m.lA = lA := ⟨_, rfl⟩
  rw [hpA] at a13 HP
  rw [hlA] at a14 HL
  clear hP hL hpA hlA
  go_wp2_with fail
  go_loopw [3, 4] (fun v i wr => ∃ n : Nat, i = .int .i64 n ∧ n ≤ P.length ∧ ∃ q : Int, v = .int .i64 q ∧ wr = w1) (fun v i _ => P.length - (intOf i).toNat)
  case atStart => exact ⟨0, rfl, Nat.zero_le _, 0, rfl, rfl⟩
  case round =>
    obtain ⟨n, rfl, hn2, q, rfl, rfl⟩ := hrel
    by_cases hlt : n < P.length
    · obtain ⟨b, off, rfl, hb, hcell⟩ := HP.out.1 n hlt
      obtain ⟨e, he⟩ : ∃ e, e = P[n] := ⟨_, rfl⟩
      rw [← he] at hcell
      have hlt' : (n : Int) < (P.length : Int) := by omega
      have hc : wr.cell? ⟨b, off + n * 13 + 1 + 3, none⟩ = some (.int .i64 (e.ty.o0.k)) := (Ext.cell ⟨wr, hB1.out⟩ hb).trans (hcell 4 _ rfl)
      have hc' : wr.cell? ⟨b, off + n * 13 + 4, none⟩ = some (.int .i64 (e.ty.o0.k)) := hc
      have HKW := hide (wrap_next (Nat.lt_of_lt_of_le hlt HP.out.2.1) HP.out.2.2)
      have hlt9 := hide hlt
      obtain ⟨u, hu⟩ : ∃ u, e.ty.o0.k = u := ⟨_, rfl⟩
      rw [hu] at hc hc'
      clear hcell hlt hu he
      go_wp2_with fail
      all_goals
        go_roundw
        case rel => exact ⟨n + 1, (by first | rw [HKW.out] | simp), Nat.succ_le_of_lt hlt9.out, _, rfl, (by first | exact trivial | rfl)⟩
        case measure =>
          first
            | (rw [HKW.out, intOf_int, intOf_int, Int.toNat_natCast, Int.toNat_natCast]; exact step_lt hlt9.out)
            | (rw [intOf_int, intOf_int]; have := hlt9.out; omega)
    have hlt' : ¬ (n : Int) < (P.length : Int) := by omega
    clear hlt
    go_wp2_with fail
    go_loopw [3, 5] (fun v i w9 => ∃ n : Nat, i = .int .i64 n ∧ n ≤ L.length ∧ ∃ q : Int, v = .int .i64 q ∧ w9 = wr) (fun v i _ => L.length - (intOf i).toNat)
    case atStart => exact ⟨0, rfl, Nat.zero_le _, _, rfl, rfl⟩
    case round =>
      obtain ⟨n, rfl, hn2, q, rfl, rfl⟩ := hrel
      by_cases hlt : n < L.length
      · obtain ⟨b, off, rfl, hb, hcell⟩ := HL.out.1 n hlt
        obtain ⟨e, he⟩ : ∃ e, e = L[n] := ⟨_, rfl⟩
        rw [← he] at hcell
        have hlt' : (n : Int) < (L.length : Int) := by omega
        have hc : wr.cell? ⟨b, off + n * 13 + 1 + 3, none⟩ = some (.int .i64 (e.ty.o0.k)) := (Ext.cell ⟨wr, hB1.out⟩ hb).trans (hcell 4 _ rfl)
        have hc' : wr.cell? ⟨b, off + n * 13 + 4, none⟩ = some (.int .i64 (e.ty.o0.k)) := hc
        have HKW := hide (wrap_next (Nat.lt_of_lt_of_le hlt HL.out.2.1) HL.out.2.2)
        have hlt9 := hide hlt
        obtain ⟨u, hu⟩ : ∃ u, e.ty.o0.k = u := ⟨_, rfl⟩
        rw [hu] at hc hc'
        clear hcell hlt hu he
        go_wp2_with fail
        all_goals
          go_roundw
          case rel => exact ⟨n + 1, (by first | rw [HKW.out] | simp), Nat.succ_le_of_lt hlt9.out, _, rfl, (by first | exact trivial | rfl)⟩
          case measure =>
            first
              | (rw [HKW.out, intOf_int, intOf_int, Int.toNat_natCast, Int.toNat_natCast]; exact step_lt hlt9.out)
              | (rw [intOf_int, intOf_int]; have := hlt9.out; omega)
      have hlt' : ¬ (n : Int) < (L.length : Int) := by omega
      clear hlt
      go_wp2_with fail
      go_ret
      exact ⟨⟨wr, hB1.out⟩, _, rfl, rfl⟩
end Go.Proofs.Ytmpdmelkbemabaa
