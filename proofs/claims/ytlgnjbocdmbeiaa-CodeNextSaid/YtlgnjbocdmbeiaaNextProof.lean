/- CodeNext: at which step any code goes on from any place: for every code and every place the law returns true. No condition. -/
import Derived.Test.YtlgnjbocdmbeiaaLawNext
import Derived.Test.YtlgnjbocdmbeiaaMeArgs
set_option linter.unusedSimpArgs false
set_option linter.unusedVariables false
namespace Go.Proofs.Ytlgnjbocdmbeiaa
open Go.RowKit Go.Proofs.Grow Go.ChangeShapes Go.WideShapes

theorem cellsIns : Try.prog.cellsOf 44 = 25 := by kernel_rfl
theorem open_ins {H : Type} {enc : TypeId × Value → H} {W : World} {base : Nat} {spare : Nat → Bool} {held : Bool} (fuel : Nat) (cs : List Value) (x : DataW H × List MemPlace) (h : DataW.trod enc Try.prog W base spare held fuel 44 cs = some x) : ∃ i : Ins, cs = i.cells ∧ True := by
  obtain ⟨xs, n, rfl, _, hlen, hxl, hf⟩ := DataW.trod_struct Try.underlying44 h
  rw [cellsIns] at hlen
  obtain ⟨y0, g0⟩ := open_field hxl hf 0 3 0 1 rfl cellsInt
  obtain ⟨y1, g1⟩ := open_field hxl hf 1 41 1 23 rfl cellsSt
  obtain ⟨y2, g2⟩ := open_field hxl hf 2 3 24 1 rfl cellsInt
  obtain ⟨k, e0, _, _⟩ := DataW.trod_int Try.underlying3 g0
  obtain ⟨s, e1, _⟩ := open_st _ _ _ g1
  obtain ⟨go, e2, _, _⟩ := DataW.trod_int Try.underlying3 g2
  refine ⟨⟨k, s, go⟩, ?_, trivial⟩
  have e : cs = (cs.drop 0).take 1 ++ ((cs.drop 1).take 23 ++ ((cs.drop 24).take 1 ++ cs.drop 25)) := by
    rw [← drop_split, ← drop_split, ← drop_split]; rfl
  rw [e, e0, e1, e2, List.drop_eq_nil_of_le (by omega)]
  simp [Ins.cells]

set_option maxRecDepth 100000 in
theorem next_lifted (os : Os) (started : os.Started) (H : Type) (enc : TypeId × Value → H) :
    ReturnsInHanded {} Try.checked os 4 .any (Rows.codeNextSpec.pre6 enc Try.prog Try.f4 Rows.codeNextRow.domain false) (Rows.codeNextSpec.post enc Try.prog Try.f4 false true false false) := by
  refine returnsInHanded_of_change (C := Try.checked) own started (by kernel_rfl) Try.func4
    (ChangeSpec.witness6 (enc := enc) (C := Try.checked) false ⟨#[], #[.slice none 0 0, .int .i64 0], []⟩ 8 (by kernel_rfl) (by kernel_rfl) (by kernel_rfl) (by kernel_rfl)) ?_
  intro W base args ds gs before hval0 hW hcnd _
  have hval : ∀ (j : Nat) t v, Try.f4.params[j]? = some t → args[j]? = some v → Value.okWide Try.prog W .any base t v := hval0
  have hW' := hW
  obtain ⟨p, q, hA0, hV, rfl, hfz, hnd⟩ := hW
  have hA : DataW.TrodAll enc Try.prog W 0 (fun _ => true) true Try.f4.params.toList args.toList ds p := hA0
  rw [Try.params4] at hA hval
  obtain ⟨v0, vs0, d0, ds0, p0, q0, hargs, rfl, rfl, h0, r0⟩ := trodAll_cons hA
  obtain ⟨v1, vs1, d1, ds1, p1, q1, rfl, rfl, rfl, h1, r1⟩ := trodAll_cons r0
  obtain ⟨rfl, rfl, rfl⟩ := trodAll_nil r1
  obtain rfl : args = #[v0, v1] := by cases args; simp_all
  obtain ⟨A0, len0, cap0, rfl⟩ := okWide_slice Try.underlying35 (hval 0 35 v0 rfl rfl)
  obtain ⟨a1, rfl, rfl, rfl, w1⟩ := open_int Try.underlying3 (hval 1 3 v1 rfl rfl) h1
  obtain ⟨fuel, hf⟩ := h0
  obtain ⟨A, m, cap, hcs1, hmc, hcm, hL, hQ⟩ := open_list (enc' := Ins.cells) (Q := fun _ => True) Try.underlying35 cellsIns (by omega) (fun n cs x _ h => open_ins n cs x h) hf
  obtain ⟨rfl, rfl, rfl⟩ : A0 = A ∧ len0 = m.length ∧ cap0 = cap := by simpa [Value.cells] using hcs1
  refine (lawNext_any W A0 cap0 m a1 hL hmc hcm).mono fun e W' ⟨x, he, hw⟩ => ?_
  subst he
  subst hw
  exact post_true laidOut (by kernel_rfl) (tb := 4) rfl Try.underlying4 rfl rfl hW' x.below

theorem next_over : Rows.codeNextRow.holds Try.pinned (OpenSpec.ofChange Rows.codeNextSpec) :=
  OpenClaim.holds_of_wide 4 Try.f4 rfl rfl rfl rfl rfl rfl rfl ⟨rfl, rfl, rfl, rfl, rfl⟩ rfl rfl rfl rfl rfl (by kernel_rfl) Try.func4 (by kernel_rfl)
    (of_decide_eq_true (by kernel_rfl)) (by unfold Func.isWrapper; first | (rw [if_pos (by decide +kernel)]; kernel_rfl) | (rw [if_neg (by decide +kernel)]; exact ⟨rfl, rfl⟩))
    (fun os started H enc _ => next_lifted os started H enc)

theorem codeNext_holds : Rows.CodeNextSaid := next_over
#print axioms codeNext_holds
end Go.Proofs.Ytlgnjbocdmbeiaa
