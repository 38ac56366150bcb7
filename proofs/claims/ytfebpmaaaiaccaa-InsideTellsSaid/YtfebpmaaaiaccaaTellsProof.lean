/- InsideTells: which owner is inside which, and whether the first of any list, and of any type's owners, is inside all others: for every two owners, every list of owners and every type the law returns true. No condition. -/
import Derived.Test.YtfebpmaaaiaccaaTells
import Derived.Test.YtfebpmaaaiaccaaArgs
set_option linter.unusedSimpArgs false
set_option linter.unusedVariables false
namespace Go.Proofs.Ytfebpmaaaiaccaa
open Go.RowKit Go.Proofs.Grow Go.ChangeShapes Go.WideShapes

set_option maxRecDepth 100000 in
theorem tells_lifted (os : Os) (started : os.Started) (H : Type) (enc : TypeId × Value → H) :
    ReturnsInHanded {} Try.checked os 5 .any (Rows.insideTellsSpec.pre6 enc Try.prog Try.f5 Rows.insideTellsRow.domain false) (Rows.insideTellsSpec.post enc Try.prog Try.f5 false true false false) := by
  refine returnsInHanded_of_change (C := Try.checked) own started (by kernel_rfl) Try.func5
    (ChangeSpec.witness6 (enc := enc) (C := Try.checked) false ⟨#[], #[.agg #[.int .i64 0, .int .i64 0, .int .i64 0, .int .i64 0], .slice none 0 0, .agg #[.int .i64 0, .string ByteArray.empty, .int .i64 0, .int .i64 0, .int .i64 0, .int .i64 0, .int .i64 0, .int .i64 0, .int .i64 0, .int .i64 0, .int .i64 0]], []⟩ 8 (by kernel_rfl) (by kernel_rfl) (by kernel_rfl) (by kernel_rfl)) ?_
  intro W base args ds gs before hval0 hW hcnd _
  have hval : ∀ (j : Nat) t v, Try.f5.params[j]? = some t → args[j]? = some v → Value.okWide Try.prog W .any base t v := hval0
  have hW' := hW
  obtain ⟨p, q, hA0, hV, rfl, hfz, hnd⟩ := hW
  have hA : DataW.TrodAll enc Try.prog W 0 (fun _ => true) true Try.f5.params.toList args.toList ds p := hA0
  rw [Try.params5] at hA hval
  obtain ⟨v0, vs0, d0, ds0, p0, q0, hargs, rfl, rfl, h0, r0⟩ := trodAll_cons hA
  obtain ⟨v1, vs1, d1, ds1, p1, q1, rfl, rfl, rfl, h1, r1⟩ := trodAll_cons r0
  obtain ⟨v2, vs2, d2, ds2, p2, q2, rfl, rfl, rfl, h2, r2⟩ := trodAll_cons r1
  obtain ⟨rfl, rfl, rfl⟩ := trodAll_nil r2
  obtain rfl : args = #[v0, v1, v2] := by cases args; simp_all
  obtain ⟨cs, rfl, hcs⟩ := okWide_array Try.underlying30 (hval 0 30 v0 rfl rfl)
  obtain ⟨A0, len0, cap0, rfl⟩ := okWide_slice Try.underlying27 (hval 1 27 v1 rfl rfl)
  obtain ⟨cs2, rfl, hcs2⟩ := okWide_struct Try.underlying35 (hval 2 35 v2 rfl rfl)
  obtain ⟨fuel, hf⟩ := h0
  obtain ⟨fuel1, hf1⟩ := h1
  obtain ⟨fuel2, hf2⟩ := h2
  obtain ⟨l, hl, hc, hq⟩ := open_array Try.underlying30 cells23 (by kernel_rfl) (fun n cs x _ h => open_ow h) hf
  obtain ⟨A, m, cap, hcs1, hmc, hcm, hL, hQ⟩ := open_list Try.underlying27 cells23 (by omega) (fun n cs x _ h => open_ow h) hf1
  obtain ⟨t, ht, _⟩ := open_ty hf2
  obtain ⟨rfl, rfl, rfl⟩ : A0 = A ∧ len0 = m.length ∧ cap0 = cap := by simpa [Value.cells] using hcs1
  obtain rfl : cs2 = t.cells.toArray := by
    obtain ⟨cs2⟩ := cs2
    simpa [Value.cells] using ht
  match l, hl with
  | [a, b], _ =>
    obtain rfl : cs = #[.int .i64 a.k, .int .i64 a.n, .int .i64 b.k, .int .i64 b.n] := by
      obtain ⟨cs⟩ := cs
      simpa [Value.cells, Ow.cells] using hc
    have hm : m.length ≤ 9223372036854775807 := by unfold maxLen at hcm; omega
    refine (tells_walk a b t W A0 cap0 m hm hmc hL).mono fun e W' ⟨x, he, hw⟩ => ?_
    subst he
    subst hw
    exact post_true laidOut (by kernel_rfl) (tb := 4) rfl Try.underlying4 rfl rfl hW' x.below

theorem tells_over : Rows.insideTellsRow.holds Try.pinned (OpenSpec.ofChange Rows.insideTellsSpec) :=
  OpenClaim.holds_of_wide 5 Try.f5 rfl rfl rfl rfl rfl rfl rfl ⟨rfl, rfl, rfl, rfl, rfl⟩ rfl rfl rfl rfl rfl (by kernel_rfl) Try.func5 (by kernel_rfl)
    (of_decide_eq_true (by kernel_rfl)) (by unfold Func.isWrapper; first | (rw [if_pos (by decide +kernel)]; kernel_rfl) | (rw [if_neg (by decide +kernel)]; exact ⟨rfl, rfl⟩))
    (fun os started H enc _ => tells_lifted os started H enc)

theorem insideTells_holds : Rows.InsideTellsSaid := tells_over
#print axioms insideTells_holds
end Go.Proofs.Ytfebpmaaaiaccaa
