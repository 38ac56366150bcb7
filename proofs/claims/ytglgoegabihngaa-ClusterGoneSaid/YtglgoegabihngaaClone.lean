/- The walks of slices.Clone, demesneref35.Great. -/
import Derived.Test.YtglgoegabihngaaRows
import Derived.Test.YtglgoegabihngaaWay
import Derived.Test.YtglgoegabihngaaSet
import Derived.Test.YtglgoegabihngaaIdx
import Derived.WalkSpells
import Derived.BigGuardPart
import Derived.Deep.DeepCutAuto
set_option linter.unusedSimpArgs false
set_option linter.unusedVariables false
namespace Go.Proofs.Ytglgoegabihngaa
open Go.RowKit Go.Proofs.Grow

theorem infoCe : (Try.prog.info? 47).map (fun i => (i.zero.map (·.cells.size), i.size, i.bytes)) = some (some 7, 7, 80) := by kernel_rfl

set_option maxHeartbeats 1000000 in
set_option maxRecDepth 100000 in
theorem clone_any (w : World) (A : Option Addr) (c : Nat) (l : List Ce) (hl : l.length ≤ 1000000000) (hs : Lies w 7 Ce.cells A l) : GivesOwn Try.prog 32 #[.slice A l.length c] w 47 7 Ce.cells l := by
  unfold GivesOwn
  have Hs := hide hs
  obtain ⟨i0, z0, hi, hz0, hz1, hz2, hzs⟩ := info_row infoCe
  have heq := fun (w : World) (a : Option Addr) (n c n' c' : Nat) => Lib.run_eql_slice_nil (P := Try.prog) w 22 47 a n c n' c' Try.underlying22
  cases A with
  | none =>
    have hl0 : l = [] := by
      cases l with
      | nil => rfl
      | cons a l => obtain ⟨_, _, h, _⟩ := hs 0 (by simp); cases h
    subst hl0
    clear hs
    go_enter Try.func32, Try.ntmps32
    go_wp2_with fail
    go_ret
    exact ⟨Ext.here w, _, rfl, rfl, Own.nil⟩
  | some ad =>
    clear hs
    go_enter Try.func32, Try.ntmps32
    go_wp2_with (at_builtin; (refine wpList_append_list (w1 := w) _ rfl (.tmp 5) (.tmp 6) 22 rfl 47 i0 z0 7 80 Try.underlying22 hi hz0 hz1 hz2 hzs (by omega) Ce.cells_len Ce.cells_one ((Below.refl _ _).alloc (Nat.le_refl _) _) (.slice (some ⟨w.heap.size, 0, none⟩) 0 0) [] rfl (Own.empty w) (some ad) l.length c l rfl rfl (Hs.out.alloc _) (by simp [maxLen]; omega) (by simp; omega) ?_); intro v' y hown hgr hat)
    go_ret
    exact ⟨y, _, rfl, rfl, by simpa using hown⟩

theorem Ce.at5 (c : Ce) : c.cells[5]? = some (.slice c.fA c.fields.length c.fc) := rfl
/-- Is a heap too great? -/
def great (l : List Ce) : Bool := l.any fun c => decide (200 < l.length) || decide (60 < c.fields.length)
theorem great_false {l : List Ce} (h : great l = false) : l.length ≤ 200 ∧ ∀ c ∈ l, c.fields.length ≤ 60 := by
  unfold great at h
  rw [List.any_eq_false] at h
  have key : ∀ c ∈ l, l.length ≤ 200 ∧ c.fields.length ≤ 60 := fun c hc => by
    have := h c hc
    simp at this
    omega
  refine ⟨?_, fun c hc => (key c hc).2⟩
  cases l with
  | nil => simp
  | cons a l => exact (key a (by simp)).1

set_option maxHeartbeats 1000000 in
set_option maxRecDepth 100000 in
theorem great_any (w : World) (A : Option Addr) (c : Nat) (l : List Ce) (hlc : l.length ≤ c) (hcm : c ≤ maxLen) (hs : Lies w 7 Ce.cells A l) :
    Calls Try.prog 20 #[.slice A l.length c] w fun e w' => e = .returned (.bool (great l)) ∧ w = w' := by
  have HS := hide hs
  have HC := hide (And.intro hlc hcm)
  have HG : Hid (great l = l.any fun c => decide (200 < l.length) || decide (60 < c.fields.length)) := rfl
  generalize great l = G at *
  have HLen : Hid (l.length ≤ 9223372036854775807) := by have := hcm; unfold maxLen at this; exact (by omega : l.length ≤ 9223372036854775807)
  clear hs hlc hcm
  go_enter Try.func20, Try.ntmps20
  go_wp2_with fail
  go_loop [3] (fun s3 => ∃ k : Nat, k ≤ l.length ∧ s3 = .int .i64 k ∧ Hid (∀ e ∈ l.take k, l.length ≤ 200 ∧ e.fields.length ≤ 60)) (fun s3 => l.length - (intOf s3).toNat)
  case atStart => exact ⟨0, Nat.zero_le _, rfl, by show ∀ e ∈ _, _; simp⟩
  case round =>
    obtain ⟨k, hk, rfl, hno⟩ := hrel
    have hl9 := HLen.out
    by_cases hlt : k < l.length
    · have hlt' : (k : Int) < (l.length : Int) := by omega
      obtain ⟨b, off, rfl, hb, hcell⟩ := HS.out k hlt
      have HT := hide (List.take_succ_eq_append_getElem hlt)
      have HM := hide (List.getElem_mem hlt)
      obtain ⟨e, he⟩ : ∃ e, e = l[k] := ⟨_, rfl⟩
      rw [← he] at hcell HT HM
      have a5 : w.cell? ⟨b, off + k * 7 + 5, none⟩ = some (.slice e.fA e.fields.length e.fc) := hcell 5 _ (Ce.at5 _)
      have HK := hide hlt
      clear hcell he hlt
      by_cases h1 : (200 : Int) < (l.length : Int)
      · have HE : Hid (G = true) := by
          show G = true
          rw [HG.out, List.any_eq_true]
          exact ⟨e, HM.out, by simp; omega⟩
        go_wp2_with fail
        go_ret
        exact ⟨ret_bool HE.out.symm, rfl⟩
      · by_cases h2 : (60 : Int) < (e.fields.length : Int)
        · have HE : Hid (G = true) := by
            show G = true
            rw [HG.out, List.any_eq_true]
            exact ⟨e, HM.out, by simp; omega⟩
          go_wp2_with fail
          go_ret
          exact ⟨ret_bool HE.out.symm, rfl⟩
        · have HY : Hid (l.length ≤ 200 ∧ e.fields.length ≤ 60) := ⟨by omega, by omega⟩
          go_wp2_with fail
          go_round
          case rel => exact ⟨k + 1, HK.out, by go_num, by
            show ∀ z ∈ _, _
            rw [HT.out]
            intro z hz
            rcases List.mem_append.1 hz with hz | hz
            · exact hno.out z hz
            · simp at hz; subst hz; exact HY.out⟩
          case measure => have := HK.out; simp [intOf]; omega
    · obtain rfl : k = l.length := by omega
      have HE : Hid (G = false) := by
        show G = false
        have := hno.out
        rw [List.take_length] at this
        rw [HG.out, List.any_eq_false]
        intro z hz
        have := this z hz
        simp; omega
      have hlt' : ¬ (l.length : Int) < (l.length : Int) := by omega
      go_wp2_with fail
      go_ret
      exact ⟨ret_bool HE.out.symm, rfl⟩
end Go.Proofs.Ytglgoegabihngaa
