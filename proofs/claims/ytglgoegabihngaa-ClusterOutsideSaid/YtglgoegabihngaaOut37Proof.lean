/- ClusterOutside: how many references come into any cluster of any heap from outside: for every heap, every frames and every cluster the law returns true. No condition. -/
import Derived.Test.YtglgoegabihngaaLawOut37
import Derived.Test.YtglgoegabihngaaCells2
set_option linter.unusedSimpArgs false
set_option linter.unusedVariables false
namespace Go.Proofs.Ytglgoegabihngaa
open Go.RowKit Go.Proofs.Grow Go.ChangeShapes Go.WideShapes

set_option maxRecDepth 100000 in
theorem out37_lifted (os : Os) (started : os.Started) (H : Type) (enc : TypeId × Value → H) :
    ReturnsInHanded {} Try.checked os 7 .any (Rows.clusterOutsideSpec.pre6 enc Try.prog Try.f7 Rows.clusterOutsideRow.domain false) (Rows.clusterOutsideSpec.post enc Try.prog Try.f7 false true false false) := by
  refine returnsInHanded_of_change (C := Try.checked) own started (by kernel_rfl) Try.func7
    (ChangeSpec.witness6 (enc := enc) (C := Try.checked) false ⟨#[], #[.slice none 0 0, .slice none 0 0, .int .i64 0], []⟩ 8 (by kernel_rfl) (by kernel_rfl) (by kernel_rfl) (by kernel_rfl)) ?_
  intro W base args ds gs before hval0 hW hcnd _
  have hval : ∀ (j : Nat) t v, Try.f7.params[j]? = some t → args[j]? = some v → Value.okWide Try.prog W .any base t v := hval0
  have hW' := hW
  obtain ⟨p, q, hA0, hV, rfl, hfz, hnd⟩ := hW
  have hA : DataW.TrodAll enc Try.prog W 0 (fun _ => true) true Try.f7.params.toList args.toList ds p := hA0
  rw [Try.params7] at hA hval
  obtain ⟨v0, vs0, d0, ds0, p0, q0, hargs, rfl, rfl, h0, r0⟩ := trodAll_cons hA
  obtain ⟨v1, vs1, d1, ds1, p1, q1, rfl, rfl, rfl, h1, r1⟩ := trodAll_cons r0
  obtain ⟨v2, vs2, d2, ds2, p2, q2, rfl, rfl, rfl, h2, r2⟩ := trodAll_cons r1
  obtain ⟨rfl, rfl, rfl⟩ := trodAll_nil r2
  obtain rfl : args = #[v0, v1, v2] := by cases args; simp_all
  obtain ⟨A0, len0, cap0, rfl⟩ := okWide_slice Try.underlying22 (hval 0 22 v0 rfl rfl)
  obtain ⟨A1, len1, cap1, rfl⟩ := okWide_slice Try.underlying39 (hval 1 39 v1 rfl rfl)
  obtain ⟨fuel1, hf1⟩ := h1
  obtain ⟨B, fr, capB, hcs1', hmc1, hcm1, hL1, hQ1⟩ := open_list (enc' := Fr.cells) (Q := fun c => FrIn W c) Try.underlying39 cellsFr (by omega) (fun n cs x _ h => open_fr h) hf1
  obtain ⟨rfl, rfl, rfl⟩ : A1 = B ∧ len1 = fr.length ∧ cap1 = capB := by simpa [Value.cells] using hcs1'
  obtain ⟨a2, rfl, rfl, rfl, w2⟩ := open_int Try.underlying3 (hval 2 3 v2 rfl rfl) h2
  obtain ⟨fuel, hf⟩ := h0
  obtain ⟨A, m, cap, hcs1, hmc, hcm, hL, hQ⟩ := open_list (enc' := Ce.cells) (Q := fun c => CeIn W c) Try.underlying22 cellsCe (by omega) (fun n cs x _ h => open_ce h) hf
  obtain ⟨rfl, rfl, rfl⟩ : A0 = A ∧ len0 = m.length ∧ cap0 = cap := by simpa [Value.cells] using hcs1
  refine (lawOut_any W A0 A1 cap0 cap1 m fr a2 hmc hcm hmc1 hcm1 hL hL1 hQ hQ1).mono fun e W' ⟨x, he, hw⟩ => ?_
  subst he
  subst hw
  exact post_true laidOut (by kernel_rfl) (tb := 4) rfl Try.underlying4 rfl rfl hW' x.below

theorem out37_over : Rows.clusterOutsideRow.holds Try.pinned (OpenSpec.ofChange Rows.clusterOutsideSpec) :=
  OpenClaim.holds_of_wide 7 Try.f7 rfl rfl rfl rfl rfl rfl rfl ⟨rfl, rfl, rfl, rfl, rfl⟩ rfl rfl rfl rfl rfl (by kernel_rfl) Try.func7 (by kernel_rfl)
    (of_decide_eq_true (by kernel_rfl)) (by unfold Func.isWrapper; first | (rw [if_pos (by decide +kernel)]; kernel_rfl) | (rw [if_neg (by decide +kernel)]; exact ⟨rfl, rfl⟩))
    (fun os started H enc _ => out37_lifted os started H enc)

theorem clusterOutside_holds : Rows.ClusterOutsideSaid := out37_over
#print axioms clusterOutside_holds
end Go.Proofs.Ytglgoegabihngaa
