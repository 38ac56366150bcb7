/- The walk of demesnelaw37.ClusterOutside. -/
import Derived.Test.YtglgoegabihngaaAwake37
import Derived.Test.YtglgoegabihngaaRefOutside
set_option linter.unusedSimpArgs false
set_option linter.unusedVariables false
namespace Go.Proofs.Ytglgoegabihngaa
open Go.RowKit Go.Proofs.Grow

set_option maxHeartbeats 4000000 in
set_option maxRecDepth 100000 in
theorem lawOut_any (w : World) (A B : Option Addr) (c d : Nat) (l : List Ce) (f : List Fr) (k : Int) (hlc : l.length ≤ c) (hcm : c ≤ maxLen) (hfd : f.length ≤ d) (hdm : d ≤ maxLen) (hl : Lies w 7 Ce.cells A l) (hf : Lies w 6 Fr.cells B f) (hin : ∀ c ∈ l, CeIn w c) (hinf : ∀ x ∈ f, FrIn w x) :
    Gives Try.prog 7 #[.slice A l.length c, .slice B f.length d, .int .i64 k] w (.bool true) := by
  refine Gives.mk ?_
  have hg := great_any w A c l hlc hcm hl
  have hfm : f.length ≤ 9223372036854775807 := by unfold maxLen at hdm; omega
  cases hgr : great l
  · rw [hgr] at hg
    have HG := hide hg
    obtain ⟨hn1, hn2⟩ := great_false hgr
    have HN2 := hide hn2
    have HL := hide hl
    have HF := hide hf
    have HI := hide (And.intro hin hinf)
    clear hg hgr hl hf hin hinf hn2 hlc hcm hdm
    by_cases h50 : (50 : Int) < (f.length : Int)
    · go_enter Try.func7, Try.ntmps7
      go_wp2_with (first | (go_at_call 20; refine HG.out.mono ?_; rintro _ _ ⟨rfl, rfl⟩) | (go_at_call 21; refine (awake37_any _).mono ?_; rintro _ _ ⟨y2, rfl, rfl⟩))
      go_ret
      exact ⟨rfl, y2.below⟩
    · go_enter Try.func7, Try.ntmps7
      go_wp2_with (go_at_call 20; refine HG.out.mono ?_; rintro _ _ ⟨rfl, rfl⟩)
      go_loop [7] (fun s7 => ∃ i : Nat, i ≤ f.length ∧ s7 = .int .i64 i ∧ Hid (∀ x ∈ f.take i, x.vars.length ≤ 50)) (fun s7 => f.length - (intOf s7).toNat)
      case atStart => exact ⟨0, Nat.zero_le _, rfl, by show ∀ x ∈ _, _; simp⟩
      case round =>
        obtain ⟨i, hi, rfl, hno⟩ := hrel
        by_cases hlt : i < f.length
        · have hlt' : (i : Int) < (f.length : Int) := by omega
          obtain ⟨b, off, rfl, hb, hcell⟩ := HF.out i hlt
          have HT := hide (List.take_succ_eq_append_getElem hlt)
          obtain ⟨e, he⟩ : ∃ e, e = f[i] := ⟨_, rfl⟩
          rw [← he] at hcell HT
          have a3 : w.cell? ⟨b, off + i * 6 + 3, none⟩ = some (.slice e.vA e.vars.length e.vc) := hcell 3 _ rfl
          have HI2 := hide hlt
          clear hcell he hlt HL
          by_cases h51 : (50 : Int) < (e.vars.length : Int)
          · go_wp2_with (go_at_call 21; refine (awake37_any _).mono ?_; rintro _ _ ⟨y2, rfl, rfl⟩)
            go_ret
            exact ⟨rfl, y2.below⟩
          · have HV : Hid (e.vars.length ≤ 50) := (by omega : e.vars.length ≤ 50)
            go_wp2_with fail
            go_round
            case rel => exact ⟨i + 1, HI2.out, by go_num, by
              show ∀ z ∈ _, _
              rw [HT.out]
              intro z hz
              rcases List.mem_append.1 hz with hz | hz
              · exact hno.out z hz
              · simp at hz; subst hz; exact HV.out⟩
            case measure => have := HI2.out; simp [intOf]; omega
        · obtain rfl : i = f.length := by omega
          have hff : ∀ x ∈ f, x.vars.length ≤ 50 := by have := hno.out; rwa [List.take_length] at this
          have hN := held_len hn1 HN2.out (by omega) hff
          have HO1 := hide (outside_any w A B c d l f k (by omega) (by omega) (fun c hc => Nat.le_trans (HN2.out c hc) (by omega)) (fun x hx => Nat.le_trans (hff x hx) (by omega)) (by omega) HL.out HF.out HI.out.1 HI.out.2)
          have HO2 := hide (fun y : Ext w => refOutside_any y.val A B c d l f k (by omega) (by omega) (fun c hc => Nat.le_trans (HN2.out c hc) (by omega)) (fun x hx => Nat.le_trans (hff x hx) (by omega)) (by omega) (HL.out.ext y) (HF.out.ext y) (fun c hc => (HI.out.1 c hc).ext y) (fun x hx => (HI.out.2 x hx).ext y))
          have hlt' : ¬ (f.length : Int) < (f.length : Int) := by omega
          clear hff hN hno hlt HN2 HL HF HI
          generalize cntOut l k (held l f) = n at *
          go_wp2_with (first | (go_at_call 27; refine HO1.out.mono ?_; rintro _ _ ⟨y1, rfl, rfl⟩) | (go_at_call 28; refine ((HO2.out y1).over y1).mono ?_; rintro _ _ ⟨y2, hy2, rfl, rfl⟩) | (go_at_call 21; refine ((awake37_any y2.val).over y2).mono ?_; rintro _ _ ⟨y3, hy3, rfl, rfl⟩))
          go_ret
          exact ⟨rfl, y3.below⟩
  · rw [hgr] at hg
    have HG := hide hg
    clear hg hgr hl hf hin hinf
    go_enter Try.func7, Try.ntmps7
    go_wp2_with (first | (go_at_call 20; refine HG.out.mono ?_; rintro _ _ ⟨rfl, rfl⟩) | (go_at_call 21; refine (awake37_any _).mono ?_; rintro _ _ ⟨y2, rfl, rfl⟩))
    go_ret
    exact ⟨rfl, y2.below⟩
end Go.Proofs.Ytglgoegabihngaa
