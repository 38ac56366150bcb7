/- CodeWays: whichever way tests go the code comes to the same statements as the method does, one behind the other, and ends: for every method and turns that read of bulk at most 1048576 the law returns true. Condition: that bound (the second form), since the code and the list of what was met are made anew. -/
import Derived.Test.YtlgnjbocdmbeiaaLawWays
import Derived.Test.YtlgnjbocdmbeiaaMeArgs
import Derived.JoinedCond
set_option linter.unusedSimpArgs false
set_option linter.unusedVariables false
namespace Go.Proofs.Ytlgnjbocdmbeiaa
open Go.RowKit Go.Proofs.Grow Go.ChangeShapes Go.WideShapes Go.ChangeAt

theorem code_len (l : List St) (p : Nat) : (codeList l p).length ≤ 2 * wtAll l := by
  match l with
  | [] => simp [codeList]
  | s :: l =>
    have hsz : SizeOf.sizeOf s.body < SizeOf.sizeOf s := s.bs
    have hsz2 : SizeOf.sizeOf s.els < SizeOf.sizeOf s := s.es
    have hw : s.wt = 1 + wtAll s.body + wtAll s.els := s.wt_eq
    have h1 : (codeOne s p).length ≤ 2 * s.wt := by
      by_cases h9 : s.k = 9
      · by_cases he : s.els.length = 0
        · rw [codeOne_if h9 he, List.length_cons]
          have := code_len s.body (p + 1)
          omega
        · rw [codeOne_else h9 he, List.length_cons, List.length_append, List.length_cons]
          have := code_len s.body (p + 1)
          have := code_len s.els (p + 1 + (codeList s.body (p + 1)).length + 1)
          omega
      · by_cases h10 : s.k = 10
        · rw [codeOne_while h10, List.length_cons, List.length_append, List.length_singleton]
          have := code_len s.body (p + 1)
          omega
        · rw [codeOne_do h9 h10, List.length_singleton]
          omega
    have h2 := code_len l (p + (codeOne s p).length)
    rw [codeList, List.length_append, wtAll]
    omega
termination_by SizeOf.sizeOf l
decreasing_by all_goals simp_wf; omega

theorem ways_contract (H : Type) (enc : TypeId × Value → H) (W : World) (base : Nat) (args : Array Value) (ds gs : List (DataW H)) (before : List MemPlace)
    (hval0 : ∀ (j : Nat) t v, Try.f5.params[j]? = some t → args[j]? = some v → Value.okWide Try.prog W .any base t v)
    (hW : DataW.Whole enc Try.prog Try.f5.params.toList Rows.codeWaysSpec.vars false W args.toList ds gs before) (hk : Rows.uptoSmall H (ds ++ gs) = true) :
    Calls Try.prog 5 args W fun e W' => ∃ v, e = .returned v ∧ Rows.codeWaysSpec.post enc Try.prog Try.f5 false true false false W args v W' := by
  have hval : ∀ (j : Nat) t v, Try.f5.params[j]? = some t → args[j]? = some v → Value.okWide Try.prog W .any base t v := hval0
  have hW' := hW
  obtain ⟨p, q, hA0, hV, rfl, hfz, hnd⟩ := hW
  have hA : DataW.TrodAll enc Try.prog W 0 (fun _ => true) true Try.f5.params.toList args.toList ds p := hA0
  rw [Try.params5] at hA hval
  obtain ⟨v0, vs0, d0, ds0, p0, q0, hargs, rfl, rfl, h0, r0⟩ := trodAll_cons hA
  obtain ⟨v1, vs1, d1, ds1, p1, q1, rfl, rfl, rfl, h1, r1⟩ := trodAll_cons r0
  obtain ⟨rfl, rfl, rfl⟩ := trodAll_nil r1
  obtain rfl : args = #[v0, v1] := by cases args; simp_all
  obtain ⟨cs, rfl, hcs⟩ := okWide_struct Try.underlying30 (hval 0 30 v0 rfl rfl)
  obtain ⟨A0, len0, cap0, rfl⟩ := okWide_slice Try.underlying49 (hval 1 49 v1 rfl rfl)
  obtain ⟨fuel, hf⟩ := h0
  obtain ⟨fuel1, hf1⟩ := h1
  obtain ⟨m, hm, hin, hwt⟩ := open_me _ _ _ hf
  obtain ⟨A, ts, cap, hcs1, hmc, hcm, hL, hQ⟩ := open_list (enc' := encB) (Q := fun _ => True) Try.underlying49 cellsBool (by omega) (fun n cs x _ h => by obtain ⟨b, e, _⟩ := DataW.trod_bool Try.underlying4 h; exact ⟨b, e, trivial⟩) hf1
  obtain ⟨rfl, rfl, rfl⟩ : A0 = A ∧ len0 = ts.length ∧ cap0 = cap := by simpa [Value.cells] using hcs1
  obtain rfl : cs = m.cells.toArray := by
    obtain ⟨cs⟩ := cs
    simpa [Value.cells] using hm
  have hbulk : wtAll m.body ≤ 1048576 := by
    have h : Rows.uptoBulkAll ([d0, d1] ++ gs) ≤ 1048576 := of_decide_eq_true hk
    simp only [List.cons_append, List.nil_append, Rows.uptoBulkAll] at h
    have : wtAll m.body ≤ Rows.uptoBulk d0 := hwt
    omega
  have hlen : (codeOf m.body).length < 400000000 := by
    have := code_len m.body 0
    simp only [codeOf, List.length_append, List.length_singleton]
    omega
  refine (lawWays_any m W hin A0 cap0 ts hL hmc hcm hbulk hlen).mono fun e W' ⟨x, he, hw⟩ => ?_
  subst he
  subst hw
  exact post_true laidOut (by kernel_rfl) (tb := 4) rfl Try.underlying4 rfl rfl hW' x.below

set_option maxRecDepth 100000 in
theorem ways_lifted (os : Os) (started : os.Started) (H : Type) (enc : TypeId × Value → H) (F : Stop.Interp) :
    ReturnsInHanded {} Try.checked os 5 .any ((Rows.OpenSpec.upto Rows.codeWaysSpec).pre6 enc Try.prog Try.f5 Rows.codeWaysUptoRow.domain false) (((Rows.OpenSpec.upto Rows.codeWaysSpec).at F).post enc Try.prog Try.f5 false true false false) := by
  refine returnsInHanded_of_cond (C := Try.checked) (s := Rows.OpenSpec.upto Rows.codeWaysSpec) (k := Rows.uptoSmall) rfl own started (by kernel_rfl) Try.func5
    (OpenSpec.witness (enc := enc) (C := Try.checked) (s := Rows.OpenSpec.upto Rows.codeWaysSpec) (k := Rows.uptoSmall) rfl false ⟨#[], #[.agg #[.string ByteArray.empty, .bool false, .int .i64 0, .string ByteArray.empty, .int .i64 0, .int .i64 0, .int .i64 0, .int .i64 0, .int .i64 0, .int .i64 0, .int .i64 0, .int .i64 0, .int .i64 0, .slice none 0 0, .slice none 0 0, .slice none 0 0, .int .i64 0], .slice none 0 0], []⟩ 8 (by kernel_rfl) (by kernel_rfl) (by kernel_rfl)
      (x := ([.agg [.lit (.string []), .lit (.bool false), .agg [.lit (.int .i64 0), .lit (.string []), .lit (.int .i64 0), .agg [.agg [.lit (.int .i64 0), .lit (.int .i64 0)], .agg [.lit (.int .i64 0), .lit (.int .i64 0)], .agg [.lit (.int .i64 0), .lit (.int .i64 0)], .agg [.lit (.int .i64 0), .lit (.int .i64 0)]]], .nil, .nil, .nil, .lit (.int .i64 0)], .nil], [], [])) (by kernel_rfl) rfl (by kernel_rfl)) ?_
  intro W base args ds gs before hval hW _ hk _
  exact ways_contract H enc W base args ds gs before hval hW hk

theorem ways_over : Rows.codeWaysUptoRow.holds Try.pinned (Rows.OpenSpec.upto Rows.codeWaysSpec) :=
  OpenClaim.holds_of_cond 5 Try.f5 rfl rfl rfl rfl rfl rfl rfl ⟨rfl, rfl, rfl, rfl, rfl⟩ rfl rfl rfl rfl rfl (by kernel_rfl) Try.func5 (by kernel_rfl)
    (of_decide_eq_true (by kernel_rfl)) (by unfold Func.isWrapper; first | (rw [if_pos (by decide +kernel)]; kernel_rfl) | (rw [if_neg (by decide +kernel)]; exact ⟨rfl, rfl⟩))
    (fun os started H enc _ F => ways_lifted os started H enc F)

theorem codeWaysUpto_holds : Rows.CodeWaysUptoSaid := ways_over
#print axioms codeWaysUpto_holds
end Go.Proofs.Ytlgnjbocdmbeiaa
