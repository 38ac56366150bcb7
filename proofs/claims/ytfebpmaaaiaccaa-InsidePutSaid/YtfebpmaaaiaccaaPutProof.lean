/- InsidePut: owners of which one is inside another one stay so, put for others of which the first one is inside all: for every two owners and every list of owners the law returns true. No condition. -/
import Derived.Test.YtfebpmaaaiaccaaPutLaw
import Derived.Test.YtfebpmaaaiaccaaArgs
set_option linter.unusedSimpArgs false
set_option linter.unusedVariables false
namespace Go.Proofs.Ytfebpmaaaiaccaa
open Go.RowKit Go.Proofs.Grow Go.ChangeShapes Go.WideShapes

set_option maxRecDepth 100000 in
theorem put_lifted (os : Os) (started : os.Started) (H : Type) (enc : TypeId × Value → H) :
    ReturnsInHanded {} Try.checked os 4 .any (Rows.insidePutSpec.pre6 enc Try.prog Try.f4 Rows.insidePutRow.domain false) (Rows.insidePutSpec.post enc Try.prog Try.f4 false true false false) := by
  refine returnsInHanded_of_change (C := Try.checked) own started (by kernel_rfl) Try.func4
    (ChangeSpec.witness6 (enc := enc) (C := Try.checked) false ⟨#[], #[.agg #[.int .i64 0, .int .i64 0, .int .i64 0, .int .i64 0], .slice none 0 0], []⟩ 8 (by kernel_rfl) (by kernel_rfl) (by kernel_rfl) (by kernel_rfl)) ?_
  intro W base args ds gs before hval0 hW hcnd _
  have hval : ∀ (j : Nat) t v, Try.f4.params[j]? = some t → args[j]? = some v → Value.okWide Try.prog W .any base t v := hval0
  have hW' := hW
  obtain ⟨p, q, hA0, hV, rfl, hfz, hnd⟩ := hW
  have hA : DataW.TrodAll enc Try.prog W 0 (fun _ => true) true Try.f4.params.toList args.toList ds p := hA0
  rw [Try.params4] at hA hval
  obtain ⟨v0, vs0, d0, ds0, p0, q0, hargs, rfl, rfl, h0, r0⟩ := trodAll_cons hA
  obtain ⟨v1, vs1, d1, ds1, p1, q1, rfl, rfl, rfl, h1, r1⟩ := trodAll_cons r0
  obtain ⟨rfl, rfl, rfl⟩ := trodAll_nil r1
  obtain rfl : args = #[v0, v1] := by cases args; simp_all
  obtain ⟨cs, rfl, hcs⟩ := okWide_array Try.underlying30 (hval 0 30 v0 rfl rfl)
  obtain ⟨A0, len0, cap0, rfl⟩ := okWide_slice Try.underlying27 (hval 1 27 v1 rfl rfl)
  obtain ⟨fuel, hf⟩ := h0
  obtain ⟨fuel1, hf1⟩ := h1
  obtain ⟨l, hl, hc, hq⟩ := open_array Try.underlying30 cells23 (by kernel_rfl) (fun n cs x _ h => open_ow h) hf
  obtain ⟨A, m, cap, hcs1, hmc, hcm, hL, hQ⟩ := open_list Try.underlying27 cells23 (by omega) (fun n cs x _ h => open_ow h) hf1
  obtain ⟨rfl, rfl, rfl⟩ : A0 = A ∧ len0 = m.length ∧ cap0 = cap := by simpa [Value.cells] using hcs1
  match l, hl with
  | [a, b], _ =>
    obtain rfl : cs = #[.int .i64 a.k, .int .i64 a.n, .int .i64 b.k, .int .i64 b.n] := by
      obtain ⟨cs⟩ := cs
      simpa [Value.cells, Ow.cells] using hc
    have hm : m.length ≤ 9223372036854775807 := by unfold maxLen at hcm; omega
    refine (put_walk a b W A0 cap0 m hm hmc hL).mono fun e W' ⟨x, he, hw⟩ => ?_
    subst he
    subst hw
    exact post_true laidOut (by kernel_rfl) (tb := 4) rfl Try.underlying4 rfl rfl hW' x.below

theorem put_over : Rows.insidePutRow.holds Try.pinned (OpenSpec.ofChange Rows.insidePutSpec) :=
  OpenClaim.holds_of_wide 4 Try.f4 rfl rfl rfl rfl rfl rfl rfl ⟨rfl, rfl, rfl, rfl, rfl⟩ rfl rfl rfl rfl rfl (by kernel_rfl) Try.func4 (by kernel_rfl)
    (of_decide_eq_true (by kernel_rfl)) (by unfold Func.isWrapper; first | (rw [if_pos (by decide +kernel)]; kernel_rfl) | (rw [if_neg (by decide +kernel)]; exact ⟨rfl, rfl⟩))
    (fun os started H enc _ => put_lifted os started H enc)

theorem insidePut_holds : Rows.InsidePutSaid := put_over
#print axioms insidePut_holds
end Go.Proofs.Ytfebpmaaaiaccaa
