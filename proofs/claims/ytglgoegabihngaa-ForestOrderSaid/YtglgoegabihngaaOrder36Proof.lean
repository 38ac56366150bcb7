/- ForestOrder: in a forest being inside is passed on, two that are inside one another are the same, and what is inside a cluster has it as its region: for every heap, every number of clusters and every three owners the law returns true. No condition. -/
import Derived.Test.YtglgoegabihngaaLawOrder36
import Derived.Test.YtglgoegabihngaaCells
set_option linter.unusedSimpArgs false
set_option linter.unusedVariables false
namespace Go.Proofs.Ytglgoegabihngaa
open Go.RowKit Go.Proofs.Grow Go.ChangeShapes Go.WideShapes

set_option maxRecDepth 100000 in
theorem order_lifted (os : Os) (started : os.Started) (H : Type) (enc : TypeId × Value → H) :
    ReturnsInHanded {} Try.checked os 4 .any (Rows.forestOrderSpec.pre6 enc Try.prog Try.f4 Rows.forestOrderRow.domain false) (Rows.forestOrderSpec.post enc Try.prog Try.f4 false true false false) := by
  refine returnsInHanded_of_change (C := Try.checked) own started (by kernel_rfl) Try.func4
    (ChangeSpec.witness6 (enc := enc) (C := Try.checked) false ⟨#[], #[.slice none 0 0, .int .i64 0, .agg #[.int .i64 0, .int .i64 0, .int .i64 0]], []⟩ 8 (by kernel_rfl) (by kernel_rfl) (by kernel_rfl) (by kernel_rfl)) ?_
  intro W base args ds gs before hval0 hW hcnd _
  have hval : ∀ (j : Nat) t v, Try.f4.params[j]? = some t → args[j]? = some v → Value.okWide Try.prog W .any base t v := hval0
  have hW' := hW
  obtain ⟨p, q, hA0, hV, rfl, hfz, hnd⟩ := hW
  have hA : DataW.TrodAll enc Try.prog W 0 (fun _ => true) true Try.f4.params.toList args.toList ds p := hA0
  rw [Try.params4] at hA hval
  obtain ⟨v0, vs0, d0, ds0, p0, q0, hargs, rfl, rfl, h0, r0⟩ := trodAll_cons hA
  obtain ⟨v1, vs1, d1, ds1, p1, q1, rfl, rfl, rfl, h1, r1⟩ := trodAll_cons r0
  obtain ⟨v2, vs2, d2, ds2, p2, q2, rfl, rfl, rfl, h2, r2⟩ := trodAll_cons r1
  obtain ⟨rfl, rfl, rfl⟩ := trodAll_nil r2
  obtain rfl : args = #[v0, v1, v2] := by cases args; simp_all
  obtain ⟨A0, len0, cap0, rfl⟩ := okWide_slice Try.underlying22 (hval 0 22 v0 rfl rfl)
  obtain ⟨a1, rfl, rfl, rfl, w1⟩ := open_int Try.underlying3 (hval 1 3 v1 rfl rfl) h1
  obtain ⟨cs2, rfl, hcs2⟩ := okWide_array Try.underlying26 (hval 2 26 v2 rfl rfl)
  obtain ⟨fuel2, hf2⟩ := h2
  obtain ⟨l2, hl2, hc2, hq2⟩ := open_array (enc' := fun k : Int => [Value.int .i64 k]) Try.underlying26 cellsInt cellsArr3 (fun n cs x _ h => open_int1 h) hf2
  obtain ⟨fuel, hf⟩ := h0
  obtain ⟨A, m, cap, hcs1, hmc, hcm, hL, hQ⟩ := open_list (enc' := Ce.cells) (Q := fun c => CeIn W c) Try.underlying22 cellsCe (by omega) (fun n cs x _ h => open_ce h) hf
  obtain ⟨rfl, rfl, rfl⟩ : A0 = A ∧ len0 = m.length ∧ cap0 = cap := by simpa [Value.cells] using hcs1
  match l2, hl2 with
  | [k0, k1, k2], _ =>
    obtain rfl : cs2 = #[.int .i64 k0, .int .i64 k1, .int .i64 k2] := by
      obtain ⟨cs2⟩ := cs2
      simpa [Value.cells] using hc2
    refine (lawOrder_any W A0 cap0 m a1 k0 k1 k2 hL).mono fun e W' ⟨x, he, hw⟩ => ?_
    subst he
    subst hw
    exact post_true laidOut (by kernel_rfl) (tb := 4) rfl Try.underlying4 rfl rfl hW' x.below

theorem order_over : Rows.forestOrderRow.holds Try.pinned (OpenSpec.ofChange Rows.forestOrderSpec) :=
  OpenClaim.holds_of_wide 4 Try.f4 rfl rfl rfl rfl rfl rfl rfl ⟨rfl, rfl, rfl, rfl, rfl⟩ rfl rfl rfl rfl rfl (by kernel_rfl) Try.func4 (by kernel_rfl)
    (of_decide_eq_true (by kernel_rfl)) (by unfold Func.isWrapper; first | (rw [if_pos (by decide +kernel)]; kernel_rfl) | (rw [if_neg (by decide +kernel)]; exact ⟨rfl, rfl⟩))
    (fun os started H enc _ => order_lifted os started H enc)

theorem forestOrder_holds : Rows.ForestOrderSaid := order_over
#print axioms forestOrder_holds
end Go.Proofs.Ytglgoegabihngaa
