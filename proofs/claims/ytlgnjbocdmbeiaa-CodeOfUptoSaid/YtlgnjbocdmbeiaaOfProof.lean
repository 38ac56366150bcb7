/- CodeOf: which code any method has: for every method that reads of bulk at most 1048576 the law returns true. Condition: that bound (the second form), since the code is made anew. -/
import Derived.Test.YtlgnjbocdmbeiaaLawOf
import Derived.Test.YtlgnjbocdmbeiaaMeArgs
import Derived.JoinedCond
set_option linter.unusedSimpArgs false
set_option linter.unusedVariables false
namespace Go.Proofs.Ytlgnjbocdmbeiaa
open Go.RowKit Go.Proofs.Grow Go.ChangeShapes Go.WideShapes Go.ChangeAt

theorem code_len (l : List St) (p : Nat) : (codeList l p).length ≤ 2 * wtAll l := by
  match l with
  | [] => simp [codeList]
  | s :: l =>
    have hsz : SizeOf.sizeOf s.body < SizeOf.sizeOf s := by cases s; simp [St.body]; omega
    have hsz2 : SizeOf.sizeOf s.els < SizeOf.sizeOf s := by cases s; simp [St.els]; omega
    have hw : s.wt = 1 + wtAll s.body + wtAll s.els := by cases s; simp [St.wt, St.body, St.els]
    have h1 : (codeOne s p).length ≤ 2 * s.wt := by
      by_cases h9 : s.k = 9
      · by_cases he : s.els.length = 0
        · rw [codeOne_if h9 he, List.length_cons]
          have := code_len s.body (p + 1)
          omega
        · rw [codeOne_else h9 he, List.length_cons, List.length_append, List.length_cons]
          have := code_len s.body (p + 1)
          have := code_len s.els (p + 1 + (codeList s.body (p + 1)).length + 1)
          omega
      · by_cases h10 : s.k = 10
        · rw [codeOne_while h10, List.length_cons, List.length_append, List.length_singleton]
          have := code_len s.body (p + 1)
          omega
        · rw [codeOne_do h9 h10, List.length_singleton]
          omega
    have h2 := code_len l (p + (codeOne s p).length)
    rw [codeList, List.length_append, wtAll]
    omega
termination_by SizeOf.sizeOf l
decreasing_by all_goals simp_wf; omega

theorem of_contract (H : Type) (enc : TypeId × Value → H) (W : World) (base : Nat) (args : Array Value) (ds gs : List (DataW H)) (before : List MemPlace)
    (hval0 : ∀ (j : Nat) t v, Try.f3.params[j]? = some t → args[j]? = some v → Value.okWide Try.prog W .any base t v)
    (hW : DataW.Whole enc Try.prog Try.f3.params.toList Rows.codeOfSpec.vars false W args.toList ds gs before) (hk : Rows.uptoSmall H (ds ++ gs) = true) :
    Calls Try.prog 3 args W fun e W' => ∃ v, e = .returned v ∧ Rows.codeOfSpec.post enc Try.prog Try.f3 false true false false W args v W' := by
  have hval : ∀ (j : Nat) t v, Try.f3.params[j]? = some t → args[j]? = some v → Value.okWide Try.prog W .any base t v := hval0
  have hW' := hW
  obtain ⟨p, q, hA0, hV, rfl, hfz, hnd⟩ := hW
  have hA : DataW.TrodAll enc Try.prog W 0 (fun _ => true) true Try.f3.params.toList args.toList ds p := hA0
  rw [Try.params3] at hA hval
  obtain ⟨v0, vs0, d0, ds0, p0, q0, hargs, rfl, rfl, h0, r0⟩ := trodAll_cons hA
  obtain ⟨rfl, rfl, rfl⟩ := trodAll_nil r0
  obtain rfl : args = #[v0] := by cases args; simp_all
  obtain ⟨cs, rfl, hcs⟩ := okWide_struct Try.underlying30 (hval 0 30 v0 rfl rfl)
  obtain ⟨fuel, hf⟩ := h0
  obtain ⟨m, hm, hin, hwt⟩ := open_me _ _ _ hf
  obtain rfl : cs = m.cells.toArray := by
    obtain ⟨cs⟩ := cs
    simpa [Value.cells] using hm
  have hbulk : wtAll m.body ≤ 1048576 := by
    have h : Rows.uptoBulkAll ([d0] ++ gs) ≤ 1048576 := of_decide_eq_true hk
    simp only [List.cons_append, List.nil_append, Rows.uptoBulkAll] at h
    have : wtAll m.body ≤ Rows.uptoBulk d0 := hwt
    omega
  have hlen : (codeOf m.body).length < 400000000000 := by
    have := code_len m.body 0
    simp only [codeOf, List.length_append, List.length_singleton]
    omega
  refine (lawOf_any m W hin hlen).mono fun e W' ⟨x, he, hw⟩ => ?_
  subst he
  subst hw
  exact post_true laidOut (by kernel_rfl) (tb := 4) rfl Try.underlying4 rfl rfl hW' x.below

set_option maxRecDepth 100000 in
theorem of_lifted (os : Os) (started : os.Started) (H : Type) (enc : TypeId × Value → H) (F : Stop.Interp) :
    ReturnsInHanded {} Try.checked os 3 .any ((Rows.OpenSpec.upto Rows.codeOfSpec).pre6 enc Try.prog Try.f3 Rows.codeOfUptoRow.domain false) (((Rows.OpenSpec.upto Rows.codeOfSpec).at F).post enc Try.prog Try.f3 false true false false) := by
  refine returnsInHanded_of_cond (C := Try.checked) (s := Rows.OpenSpec.upto Rows.codeOfSpec) (k := Rows.uptoSmall) rfl own started (by kernel_rfl) Try.func3
    (OpenSpec.witness (enc := enc) (C := Try.checked) (s := Rows.OpenSpec.upto Rows.codeOfSpec) (k := Rows.uptoSmall) rfl false ⟨#[], #[.agg #[.string ByteArray.empty, .bool false, .int .i64 0, .string ByteArray.empty, .int .i64 0, .int .i64 0, .int .i64 0, .int .i64 0, .int .i64 0, .int .i64 0, .int .i64 0, .int .i64 0, .int .i64 0, .slice none 0 0, .slice none 0 0, .slice none 0 0, .int .i64 0]], []⟩ 8 (by kernel_rfl) (by kernel_rfl) (by kernel_rfl)
      (x := ([.agg [.lit (.string []), .lit (.bool false), .agg [.lit (.int .i64 0), .lit (.string []), .lit (.int .i64 0), .agg [.agg [.lit (.int .i64 0), .lit (.int .i64 0)], .agg [.lit (.int .i64 0), .lit (.int .i64 0)], .agg [.lit (.int .i64 0), .lit (.int .i64 0)], .agg [.lit (.int .i64 0), .lit (.int .i64 0)]]], .nil, .nil, .nil, .lit (.int .i64 0)]], [], [])) (by kernel_rfl) rfl (by kernel_rfl)) ?_
  intro W base args ds gs before hval hW _ hk _
  exact of_contract H enc W base args ds gs before hval hW hk

theorem of_over : Rows.codeOfUptoRow.holds Try.pinned (Rows.OpenSpec.upto Rows.codeOfSpec) :=
  OpenClaim.holds_of_cond 3 Try.f3 rfl rfl rfl rfl rfl rfl rfl ⟨rfl, rfl, rfl, rfl, rfl⟩ rfl rfl rfl rfl rfl (by kernel_rfl) Try.func3 (by kernel_rfl)
    (of_decide_eq_true (by kernel_rfl)) (by unfold Func.isWrapper; first | (rw [if_pos (by decide +kernel)]; kernel_rfl) | (rw [if_neg (by decide +kernel)]; exact ⟨rfl, rfl⟩))
    (fun os started H enc _ F => of_lifted os started H enc F)

theorem codeOfUpto_holds : Rows.CodeOfUptoSaid := of_over
#print axioms codeOfUpto_holds
end Go.Proofs.Ytlgnjbocdmbeiaa
