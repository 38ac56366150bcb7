/- The walk of demesneref05.Holes. -/
import Derived.Test.YtfebpmaaaiaccaaPutTyp
import Derived.Test.YtfebpmaaaiaccaaOwners
set_option linter.unusedSimpArgs false
set_option linter.unusedVariables false
namespace Go.Proofs.Ytfebpmaaaiaccaa
open Go.RowKit Go.Proofs.Grow

def CntTo (L : List Ow) (k n : Nat) : Prop := ((L.take k).filter (fun o => o.k == 7)).length = n
def At7 (L : List Ow) (k : Nat) (b : Bool) : Prop := ∃ h : k < L.length, (L[k].k == 7) = b
theorem cnt_yes {L : List Ow} {k n : Nat} (h : CntTo L k n) (h7 : At7 L k true) : CntTo L (k + 1) (n + 1) := by
  obtain ⟨hk, e⟩ := h7
  unfold CntTo at *
  rw [List.take_succ_eq_append_getElem hk, List.filter_append, List.length_append, h, List.filter_cons, if_pos e]
  rfl
theorem cnt_no {L : List Ow} {k n : Nat} (h : CntTo L k n) (h7 : At7 L k false) : CntTo L (k + 1) n := by
  obtain ⟨hk, e⟩ := h7
  unfold CntTo at *
  rw [List.take_succ_eq_append_getElem hk, List.filter_append, List.length_append, h, List.filter_cons, if_neg (by rw [e]; decide)]
  rfl

set_option maxRecDepth 100000 in
theorem holes_any (t : Ty) (w : World) : Gives Try.prog 22 #[.agg t.cells.toArray] w (.int .i64 (holesT t)) := by
  refine Gives.mk ?_
  obtain ⟨r, hr⟩ : ∃ r, r = holesT t := ⟨_, rfl⟩
  rw [← hr]
  have Ho := hide (fun W => refOwners_any t W)
  obtain ⟨L, hL⟩ : ∃ L, L = t.owners := ⟨_, rfl⟩
  have hLl : L.length ≤ 4 := by rw [hL]; exact owners_le t
  rw [← hL] at Ho
  have HR : Hid (r = ((L.filter (fun o => o.k == 7)).length : Int)) := by rw [hL]; exact hr
  clear hr hL
  unfold Ty.cells at Ho ⊢
  go_enter Try.func22, Try.ntmps22
  go_wp2_with fail
  refine (Ho.out _).mono ?_
  rintro _ _ ⟨z, A', c', rfl, rfl, h1, h2, h3⟩
  have hz : w.heap.size < z.val.heap.size := z.lt (by simp)
  have HS := hide h3
  clear h1 h2 h3 Ho
  go_wp2_with fail
  go_loop [3, 5] (fun s3 s5 => ∃ k n : Nat, k ≤ L.length ∧ n ≤ k ∧ s5 = .int .i64 k ∧ s3 = .int .i64 n ∧ CntTo L k n) (fun _ s5 => L.length - (intOf s5).toNat)
  case atStart => exact ⟨0, 0, Nat.zero_le _, Nat.le_refl _, rfl, rfl, rfl⟩
  case round =>
    obtain ⟨k, n, hk, hn, rfl, rfl, hc⟩ := hrel
    by_cases hlt : k < L.length
    · obtain ⟨bb, off, rfl, hbb, hcell⟩ := HS.out k hlt
      have hlt' : (k : Int) < (L.length : Int) := by omega
      have c0 : z.val.cell? ⟨bb, off + k * 2, none⟩ = some (.int .i64 L[k].k) := by simpa using hcell 0 _ rfl
      obtain ⟨q, hq⟩ : ∃ q, (L[k].k == 7) = q := ⟨_, rfl⟩
      have H7 : At7 L k q := ⟨hlt, hq⟩
      obtain ⟨o, ho⟩ : ∃ o, o = L[k] := ⟨_, rfl⟩
      rw [← ho] at c0 hq
      have HK := hide hlt
      have HN := hide hn
      clear hcell ho hlt
      cases q
      · go_wp2_with fail
        go_round
        case rel => exact ⟨k + 1, n, HK.out, by have := HN.out; omega, by go_num, rfl, cnt_no hc H7⟩
        case measure => have := HK.out; simp [intOf]; omega
      · go_wp2_with fail
        go_round
        case rel => exact ⟨k + 1, n + 1, HK.out, by have := HN.out; omega, by go_num, by go_num, cnt_yes hc H7⟩
        case measure => have := HK.out; simp [intOf]; omega
    · obtain rfl : k = L.length := by omega
      have hlt' : ¬ (L.length : Int) < (L.length : Int) := by omega
      have HE : Hid (r = (n : Int)) := by
        have e := HR.out
        have e2 : ((L.take L.length).filter (fun o => o.k == 7)).length = n := hc
        rw [List.take_length] at e2
        rw [e2] at e
        exact e
      go_wp2_with fail
      go_ret
      refine ⟨ret_int HE.out.symm, ?_⟩
      repeat (first | exact Below.refl _ _ | exact Nat.le_refl _ | assumption | refine below_ext ?_ ?_ _ | refine Below.alloc ?_ ?_ _ | refine Below.drew ?_ | refine Below.setCell ?_ ?_ _ | refine Ext.le _ ?_ | refine le_alloc ?_ | refine le_drew ?_ | refine le_setCell ?_)
      all_goals omega
end Go.Proofs.Ytfebpmaaaiaccaa
