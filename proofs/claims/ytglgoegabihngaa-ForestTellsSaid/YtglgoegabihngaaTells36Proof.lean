/- ForestTells: what is inside any owner, and which heaps are forests: for every heap, every owner and every number of clusters the law returns true. No condition. -/
import Derived.Test.YtglgoegabihngaaLawTells36
import Derived.Test.YtglgoegabihngaaCells
set_option linter.unusedSimpArgs false
set_option linter.unusedVariables false
namespace Go.Proofs.Ytglgoegabihngaa
open Go.RowKit Go.Proofs.Grow Go.ChangeShapes Go.WideShapes

set_option maxRecDepth 100000 in
theorem tells_lifted (os : Os) (started : os.Started) (H : Type) (enc : TypeId × Value → H) :
    ReturnsInHanded {} Try.checked os 5 .any (Rows.forestTellsSpec.pre6 enc Try.prog Try.f5 Rows.forestTellsRow.domain false) (Rows.forestTellsSpec.post enc Try.prog Try.f5 false true false false) := by
  refine returnsInHanded_of_change (C := Try.checked) own started (by kernel_rfl) Try.func5
    (ChangeSpec.witness6 (enc := enc) (C := Try.checked) false ⟨#[], #[.slice none 0 0, .int .i64 0, .int .i64 0], []⟩ 8 (by kernel_rfl) (by kernel_rfl) (by kernel_rfl) (by kernel_rfl)) ?_
  intro W base args ds gs before hval0 hW hcnd _
  have hval : ∀ (j : Nat) t v, Try.f5.params[j]? = some t → args[j]? = some v → Value.okWide Try.prog W .any base t v := hval0
  have hW' := hW
  obtain ⟨p, q, hA0, hV, rfl, hfz, hnd⟩ := hW
  have hA : DataW.TrodAll enc Try.prog W 0 (fun _ => true) true Try.f5.params.toList args.toList ds p := hA0
  rw [Try.params5] at hA hval
  obtain ⟨v0, vs0, d0, ds0, p0, q0, hargs, rfl, rfl, h0, r0⟩ := trodAll_cons hA
  obtain ⟨v1, vs1, d1, ds1, p1, q1, rfl, rfl, rfl, h1, r1⟩ := trodAll_cons r0
  obtain ⟨v2, vs2, d2, ds2, p2, q2, rfl, rfl, rfl, h2, r2⟩ := trodAll_cons r1
  obtain ⟨rfl, rfl, rfl⟩ := trodAll_nil r2
  obtain rfl : args = #[v0, v1, v2] := by cases args; simp_all
  obtain ⟨A0, len0, cap0, rfl⟩ := okWide_slice Try.underlying22 (hval 0 22 v0 rfl rfl)
  obtain ⟨a1, rfl, rfl, rfl, w1⟩ := open_int Try.underlying3 (hval 1 3 v1 rfl rfl) h1
  obtain ⟨a2, rfl, rfl, rfl, w2⟩ := open_int Try.underlying3 (hval 2 3 v2 rfl rfl) h2
  obtain ⟨fuel, hf⟩ := h0
  obtain ⟨A, m, cap, hcs1, hmc, hcm, hL, hQ⟩ := open_list (enc' := Ce.cells) (Q := fun c => CeIn W c) Try.underlying22 cellsCe (by omega) (fun n cs x _ h => open_ce h) hf
  obtain ⟨rfl, rfl, rfl⟩ : A0 = A ∧ len0 = m.length ∧ cap0 = cap := by simpa [Value.cells] using hcs1
  refine (lawTells_any W A0 cap0 m a1 a2 hL).mono fun e W' ⟨x, he, hw⟩ => ?_
  subst he
  subst hw
  exact post_true laidOut (by kernel_rfl) (tb := 4) rfl Try.underlying4 rfl rfl hW' x.below

theorem tells_over : Rows.forestTellsRow.holds Try.pinned (OpenSpec.ofChange Rows.forestTellsSpec) :=
  OpenClaim.holds_of_wide 5 Try.f5 rfl rfl rfl rfl rfl rfl rfl ⟨rfl, rfl, rfl, rfl, rfl⟩ rfl rfl rfl rfl rfl (by kernel_rfl) Try.func5 (by kernel_rfl)
    (of_decide_eq_true (by kernel_rfl)) (by unfold Func.isWrapper; first | (rw [if_pos (by decide +kernel)]; kernel_rfl) | (rw [if_neg (by decide +kernel)]; exact ⟨rfl, rfl⟩))
    (fun os started H enc _ => tells_lifted os started H enc)

theorem forestTells_holds : Rows.ForestTellsSaid := tells_over
#print axioms forestTells_holds
end Go.Proofs.Ytglgoegabihngaa
