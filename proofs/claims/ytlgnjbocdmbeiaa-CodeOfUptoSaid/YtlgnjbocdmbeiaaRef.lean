/- The walks of demesneref34.list, demesneref34.one, demesneref34.Of. -/
import Derived.Test.YtlgnjbocdmbeiaaOf
import Derived.Test.YtlgnjbocdmbeiaaSet
set_option linter.unusedSimpArgs false
set_option linter.unusedVariables false
namespace Go.Proofs.Ytlgnjbocdmbeiaa
open Go.RowKit Go.Proofs.Grow

theorem infoRefIns : (Try.prog.info? 44).map (fun i => (i.zero.map (·.cells.size), i.size, i.bytes)) = some (some 25, 25, 304) := by kernel_rfl

def Ones (s : St) : Prop := ∀ (w : World) (p : Nat) (q : Int), q = (p : Int) → StIn w s → p + (codeOne s p).length < 400000000000 → GivesList Try.prog 25 #[.agg s.cells.toArray, .int .i64 q] w 25 Ins.cells (codeOne s p)
def Lists (l : List St) : Prop := ∀ (w : World) (A : Option Addr) (c p : Nat) (q : Int), q = (p : Int) → (∀ s ∈ l, StIn w s) → Lies w 23 St.cells A l → l.length ≤ c → c ≤ maxLen → p + (codeList l p).length < 400000000000 →
  GivesNew Try.prog 18 #[.slice A l.length c, .int .i64 q] w 25 Ins.cells (codeList l p)

theorem codeList_take {l : List St} {k : Nat} (h : k < l.length) (p : Nat) : codeList (l.take (k + 1)) p = codeList (l.take k) p ++ codeOne l[k] (p + (codeList (l.take k) p).length) := by
  induction l generalizing k p with
  | nil => simp at h
  | cons s l ih =>
    cases k with
    | zero => simp [codeList]
    | succ k =>
      have hk : k < l.length := by simpa using h
      simp only [List.take_succ_cons, codeList, List.getElem_cons_succ]
      rw [ih hk]
      simp [List.append_assoc, Nat.add_assoc]
theorem codeList_take_le (l : List St) (k p : Nat) : (codeList (l.take k) p).length ≤ (codeList l p).length := by
  induction l generalizing k p with
  | nil => simp
  | cons s l ih =>
    cases k with
    | zero => simp [codeList]
    | succ k =>
      simp only [List.take_succ_cons, codeList, List.length_append]
      have := ih k (p + (codeOne s p).length)
      omega

def ListsOwn (l : List St) : Prop := ∀ (w : World) (A : Option Addr) (c p : Nat) (q : Int), q = (p : Int) → (∀ s ∈ l, StIn w s) → Lies w 23 St.cells A l → l.length ≤ c → c ≤ maxLen → p + (codeList l p).length < 400000000000 →
  GivesOwn Try.prog 18 #[.slice A l.length c, .int .i64 q] w 44 25 Ins.cells (codeList l p)
theorem ListsOwn.lists {l : List St} (h : ListsOwn l) : Lists l := fun w A c p q h1 h2 h3 h4 h5 h6 => (h w A c p q h1 h2 h3 h4 h5 h6).new Ins.cells_len

set_option maxHeartbeats 2000000 in
set_option maxRecDepth 100000 in
theorem list_step (l : List St) (ih : ∀ s ∈ l, Ones s) : ListsOwn l := by
  intro w A c p q hq hin hl hlc hcm hN
  unfold GivesOwn
  obtain ⟨i0, z0, hi, hz0, hz1, hz2, hzs⟩ := info_row infoRefIns
  have HI := hide hin
  have HL := hide hl
  have HN := hide hN
  have IH := hide ih
  have HQ := hide hq
  clear hin hl hN ih hq
  go_enter Try.func18, Try.ntmps18
  go_wp2_with fail
  go_loopw [5, 6] (fun v i wr => ∃ k : Nat, i = .int .i64 k ∧ k ≤ l.length ∧ ∃ x : Ext w, wr = x.val ∧ Own x.val w.heap.size 44 25 Ins.cells v (codeList (l.take k) p)) (fun _ i _ => l.length - (intOf i).toNat)
  case atStart => exact ⟨0, rfl, Nat.zero_le _, Ext.here w, rfl, by simpa [codeList] using Own.nil⟩
  case round =>
    obtain ⟨k, rfl, hk, x, rfl, hown⟩ := hrel
    obtain ⟨A', c', rfl, hc1, hc2, hlies⟩ := hown.lies Ins.cells_len
    have hsz := hide hlies
    clear hlies
    by_cases hlt : k < l.length
    · obtain ⟨b, off, rfl, hb, hcell⟩ := HL.out k hlt
      have hlt' : (k : Int) < (l.length : Int) := by omega
      have hs := hide ((HI.out _ (List.getElem_mem hlt)).ext x)
      have IHs := hide (IH.out _ (List.getElem_mem hlt))
      have HT := hide (codeList_take hlt p)
      have hT1 := codeList_take_le l (k + 1) p
      rw [HT.out, List.length_append] at hT1
      have HM := hide (⟨hT1, HN.out⟩ : _ ∧ _)
      clear hT1
      obtain ⟨s, hse⟩ : ∃ s, s = l[k] := ⟨_, rfl⟩
      rw [← hse] at hs IHs HT hcell HM
      have hrange : Hid (x.val.rangeAt b (off + k * 23) s.cells) := fun j u h => (x.cell hb).trans (hcell j u h)
      have hlt9 := hide hlt
      have HKW : Hid (wrap64 ((k : Int) + 1) = ((k + 1 : Nat) : Int)) := by
        have := hcm
        unfold maxLen at this
        show wrap64 _ = _
        unfold wrap64
        omega
      obtain ⟨m, hm⟩ : ∃ m, (codeList (l.take k) p).length = m := ⟨_, rfl⟩
      rw [hm] at HM HT hc1 hown ⊢
      have Hm := hide hm
      have hown' := hide hown
      clear hcell hse hlt hm hown
      go_wp2_with (first | (refine wpList_load_mid rfl 41 (.tmp 16) rfl b (off + k * 23) rfl s.cells _ hrange.out Try.underlying41 rfl (by rw [St.cells_len]; kernel_rfl) ?_) | (go_at_call 25; refine (IHs.out x.val (p + m) _ (by have := HM.out; have := HQ.out; unfold wrap64; omega) hs.out (by have := HM.out; omega)).mono ?_; rintro _ _ ⟨y, A2, c2, rfl, rfl, h1, h2, h3⟩; have HL2 := hide h3; clear h3) | (at_builtin; refine wpList_append_list (w1 := w) _ rfl (.tmp 13) (.tmp 22) 35 rfl 44 i0 z0 25 304 Try.underlying35 hi hz0 hz1 hz2 hzs (by omega) Ins.cells_len Ins.cells_one (below_ext x.below (x.le (Nat.le_refl _)) y) _ (codeList (l.take k) p) rfl (hown'.out.ext y) A2 _ c2 (codeOne s (p + m)) rfl rfl HL2.out (by have := HM.out; have := Hm.out; unfold maxLen; omega) (by have := HM.out; have := Hm.out; omega) ?_; intro v' z hown2 hgr hat))
      go_roundw
      case rel => exact ⟨k + 1, by rw [HKW.out], Nat.succ_le_of_lt hlt9.out, z, rfl, by rw [HT.out]; exact hown2⟩
      case measure =>
        rw [HKW.out, intOf_int, intOf_int, Int.toNat_natCast, Int.toNat_natCast]
        exact Nat.sub_lt_sub_left hlt9.out (Nat.lt_succ_self k)
    · have e := hide (Nat.le_antisymm hk (Nat.le_of_not_lt hlt))
      have hlt' : ¬ (k : Int) < (l.length : Int) := by omega
      have hc1' := hide hc1
      have hfr := hide hown
      clear hc1 hown
      go_wp2_with fail
      go_ret
      have h3 := hfr.out
      rw [e.out, List.take_length] at h3
      refine ⟨x, _, rfl, rfl, ?_⟩
      rw [e.out, List.take_length]
      exact h3

end Go.Proofs.Ytlgnjbocdmbeiaa
