/- LegalPut: a legal type of the mode Dominators stays so, put for the owners of another one, and a type with a hole is legal in no mode: for every list of classes, every two types and every mode the law returns true. No condition. -/
import Derived.Test.YtfebpmaaaiaccaaPutWalk
import Derived.Test.YtfebpmaaaiaccaaCells25
set_option linter.unusedSimpArgs false
set_option linter.unusedVariables false
namespace Go.Proofs.Ytfebpmaaaiaccaa
open Go.RowKit Go.Proofs.Grow Go.ChangeShapes Go.WideShapes

set_option maxRecDepth 100000 in
theorem put25_lifted (os : Os) (started : os.Started) (H : Type) (enc : TypeId × Value → H) :
    ReturnsInHanded {} Try.checked os 7 .any (Rows.legalPutSpec.pre6 enc Try.prog Try.f7 Rows.legalPutRow.domain false) (Rows.legalPutSpec.post enc Try.prog Try.f7 false true false false) := by
  refine returnsInHanded_of_change (C := Try.checked) own started (by kernel_rfl) Try.func7
    (ChangeSpec.witness6 (enc := enc) (C := Try.checked) false ⟨#[], #[.slice none 0 0, .agg #[.int .i64 0, .string ByteArray.empty, .int .i64 0, .int .i64 0, .int .i64 0, .int .i64 0, .int .i64 0, .int .i64 0, .int .i64 0, .int .i64 0, .int .i64 0, .int .i64 0, .string ByteArray.empty, .int .i64 0, .int .i64 0, .int .i64 0, .int .i64 0, .int .i64 0, .int .i64 0, .int .i64 0, .int .i64 0, .int .i64 0], .int .i64 0], []⟩ 8 (by kernel_rfl) (by kernel_rfl) (by kernel_rfl) (by kernel_rfl)) ?_
  intro W base args ds gs before hval0 hW hcnd _
  have hval : ∀ (j : Nat) t v, Try.f7.params[j]? = some t → args[j]? = some v → Value.okWide Try.prog W .any base t v := hval0
  have hW' := hW
  obtain ⟨p, q, hA0, hV, rfl, hfz, hnd⟩ := hW
  have hA : DataW.TrodAll enc Try.prog W 0 (fun _ => true) true Try.f7.params.toList args.toList ds p := hA0
  rw [Try.params7] at hA hval
  obtain ⟨v0, vs0, d0, ds0, p0, q0, hargs, rfl, rfl, h0, r0⟩ := trodAll_cons hA
  obtain ⟨v1, vs1, d1, ds1, p1, q1, rfl, rfl, rfl, h1, r1⟩ := trodAll_cons r0
  obtain ⟨v2, vs2, d2, ds2, p2, q2, rfl, rfl, rfl, h2, r2⟩ := trodAll_cons r1
  obtain ⟨rfl, rfl, rfl⟩ := trodAll_nil r2
  obtain rfl : args = #[v0, v1, v2] := by cases args; simp_all
  obtain ⟨A0, len0, cap0, rfl⟩ := okWide_slice Try.underlying38 (hval 0 38 v0 rfl rfl)
  obtain ⟨cs2, rfl, hcs2⟩ := okWide_array Try.underlying48 (hval 1 48 v1 rfl rfl)
  obtain ⟨m3, rfl, hm3⟩ := okWide_int Try.underlying3 (hval 2 3 v2 rfl rfl)
  obtain ⟨fuel, hf⟩ := h0
  obtain ⟨fuel1, hf1⟩ := h1
  obtain ⟨A, m, cap, hcs1, hmc, hcm, hL, hQ⟩ := open_list (enc' := Cl.cells) (Q := fun _ => True) Try.underlying38 cells45 (by omega) (fun n cs x _ h => by obtain ⟨cl, e⟩ := open_cl h; exact ⟨cl, e, trivial⟩) hf
  obtain ⟨l, hl, hc, _⟩ := open_array (enc' := Ty.cells) (Q := fun _ => True) Try.underlying48 cells35 (by kernel_rfl) (fun n cs x _ h => by obtain ⟨t, e, _⟩ := open_ty h; exact ⟨t, e, trivial⟩) hf1
  obtain ⟨rfl, rfl, rfl⟩ : A0 = A ∧ len0 = m.length ∧ cap0 = cap := by simpa [Value.cells] using hcs1
  match l, hl with
  | [t, u], _ =>
    obtain rfl : cs2 = (t.cells ++ u.cells).toArray := by
      obtain ⟨cs2⟩ := cs2
      simpa [Value.cells] using hc
    have hm : m.length ≤ 9223372036854775807 := by unfold maxLen at hcm; omega
    refine (put25_walk W A0 cap0 m t u m3 hm hL).mono fun e W' ⟨x, he, hw⟩ => ?_
    subst he
    subst hw
    exact post_true laidOut (by kernel_rfl) (tb := 4) rfl Try.underlying4 rfl rfl hW' x.below

theorem put25_over : Rows.legalPutRow.holds Try.pinned (OpenSpec.ofChange Rows.legalPutSpec) :=
  OpenClaim.holds_of_wide 7 Try.f7 rfl rfl rfl rfl rfl rfl rfl ⟨rfl, rfl, rfl, rfl, rfl⟩ rfl rfl rfl rfl rfl (by kernel_rfl) Try.func7 (by kernel_rfl)
    (of_decide_eq_true (by kernel_rfl)) (by unfold Func.isWrapper; first | (rw [if_pos (by decide +kernel)]; kernel_rfl) | (rw [if_neg (by decide +kernel)]; exact ⟨rfl, rfl⟩))
    (fun os started H enc _ => put25_lifted os started H enc)

theorem legalPut_holds : Rows.LegalPutSaid := put25_over
#print axioms legalPut_holds
end Go.Proofs.Ytfebpmaaaiaccaa
