/- A whole struct loaded inside a quiet region; the statements in a method's code. -/
import Derived.Test.YtlgnjbocdmbeiaaBody
import Derived.BigQuiet
import Derived.Test.YtlgnjbocdmbeiaaSet
set_option linter.unusedSimpArgs false
set_option linter.unusedVariables false
namespace Go.Proofs.Grow
open Go.RowKit
theorem wpQuiet_load_mid {P : Program} {ops : Array Oper} {C : World → Prop} {Q : Act → Prop} {a : Act} {o : Oper} {rest : List Oper} (hw : Region.wanted o (yielded ops a.tmps) = true) (ty : TypeId) (x : Operand) (ho : o.op = .load ty x)
    (b off : Nat) (hx : a.eval x = .pointer (some ⟨b, off, none⟩)) (cs : List Value) (d : TypeDesc) (hc : ∀ w, C w → w.rangeAt b off cs)
    (hu : P.underlying ty = some d) (hd : d.isRow = true) (hi : (P.info? ty).map (·.size) = some cs.length)
    (h : wpQuiet P ops C Q rest (a.put o.dst (.agg cs.toArray))) : wpQuiet P ops C Q (o :: rest) a :=
  BigFrame.wpQuiet_want hw fun K hK => ⟨.agg cs.toArray, fun w hCw => by
    have e : (execOp a.eval o).run P w = .ok (.value (.agg cs.toArray)) w := by
      unfold execOp
      simp only [ho, hx, Instr.loadAt, Instr.sureAddr, Sem.run_bind, Sem.run_pure, Result.andThen_ok, run_loadVar_mid w b off ty cs d (hc w hCw) hu hd hi]
    unfold Oper.quietAt
    rw [e]
    exact ⟨rfl, rfl⟩, hK _ h⟩
end Go.Proofs.Grow
namespace Go.Proofs.Ytlgnjbocdmbeiaa
open Go.RowKit Go.Proofs.Grow

theorem _root_.Go.Proofs.Grow.StIn.zero (w : World) : StIn w St.zero :=
  .mk (.mk Lies.nil (Nat.le_refl _) (Nat.zero_le _) (by simp [maxLen]) (fun _ h => by cases h)) Lies.nil (Nat.le_refl _) (Nat.zero_le _) (fun _ h => by cases h) Lies.nil (Nat.le_refl _) (Nat.zero_le _) (fun _ h => by cases h) Lies.nil (Nat.le_refl _) (Nat.zero_le _) (fun _ h => by cases h) (by simp [maxLen, Ty.zero])

theorem _root_.Go.Proofs.Grow.StIn.body {w : World} {s : St} (h : StIn w s) : ∀ t ∈ s.body, StIn w t := by
  cases h with
  | mk he ha hac ham hai hb hbc hbm hbi hl hlc hlm hli hs => exact hbi
theorem _root_.Go.Proofs.Grow.StIn.els {w : World} {s : St} (h : StIn w s) : ∀ t ∈ s.els, StIn w t := by
  cases h with
  | mk he ha hac ham hai hb hbc hbm hbi hl hlc hlm hli hs => exact hli

theorem code_in (w : World) (l : List St) (p : Nat) (hin : ∀ s ∈ l, StIn w s) : ∀ i ∈ codeList l p, ∃ t, i.s = bare t ∧ StIn w t := by
  match l with
  | [] => intro i hi; simp [codeList] at hi
  | s :: l =>
    intro i hi
    have hs := hin s (by simp)
    have hsz : SizeOf.sizeOf s.body < SizeOf.sizeOf s := by cases s; simp [St.body]; omega
    have hsz2 : SizeOf.sizeOf s.els < SizeOf.sizeOf s := by cases s; simp [St.els]; omega
    rw [codeList, List.mem_append] at hi
    rcases hi with hi | hi
    · by_cases h9 : s.k = 9
      · by_cases he : s.els.length = 0
        · rw [codeOne_if h9 he, List.mem_cons] at hi
          rcases hi with rfl | hi
          · exact ⟨s, rfl, hs⟩
          · exact code_in w s.body _ hs.body i hi
        · rw [codeOne_else h9 he, List.mem_cons, List.mem_append, List.mem_cons] at hi
          rcases hi with rfl | hi | rfl | hi
          · exact ⟨s, rfl, hs⟩
          · exact code_in w s.body _ hs.body i hi
          · exact ⟨St.zero, rfl, StIn.zero w⟩
          · exact code_in w s.els _ hs.els i hi
      · by_cases h10 : s.k = 10
        · rw [codeOne_while h10, List.mem_cons, List.mem_append, List.mem_singleton] at hi
          rcases hi with rfl | hi | rfl
          · exact ⟨s, rfl, hs⟩
          · exact code_in w s.body _ hs.body i hi
          · exact ⟨St.zero, rfl, StIn.zero w⟩
        · rw [codeOne_do h9 h10, List.mem_singleton] at hi
          subst hi
          exact ⟨s, rfl, hs⟩
    · exact code_in w l _ (fun t ht => hin t (by simp [ht])) i hi
termination_by SizeOf.sizeOf l
decreasing_by all_goals simp_wf; omega
end Go.Proofs.Ytlgnjbocdmbeiaa
