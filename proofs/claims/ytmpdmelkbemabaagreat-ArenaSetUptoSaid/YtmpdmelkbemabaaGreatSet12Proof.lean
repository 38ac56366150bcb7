/- ArenaSet: which program any program is with any other types, or that it can't have them: for every list of classes and every list of types that together read of bulk at most 1048576 the law returns true. Condition: that bound (the second form), since the copies are made anew. -/
import Derived.Test.YtmpdmelkbemabaaGreatFwOpen
import Derived.Test.YtmpdmelkbemabaaGreatLawSet
import Derived.JoinedCond
set_option linter.unusedSimpArgs false
set_option linter.unusedVariables false
namespace Go.Proofs.YtmpdmelkbemabaaGreat
open Go.RowKit Go.Proofs.Grow Go.ChangeShapes Go.WideShapes

set_option maxRecDepth 100000 in
theorem set_contract (H : Type) (enc : TypeId × Value → H) (W : World) (base : Nat) (args : Array Value) (ds gs : List (DataW H)) (before : List MemPlace)
    (hval0 : ∀ (j : Nat) t v, Tryz.f3.params[j]? = some t → args[j]? = some v → Value.okWide Tryz.prog W .any base t v)
    (hW : DataW.Whole enc Tryz.prog Tryz.f3.params.toList Rows.arenaSetSpec.vars false W args.toList ds gs before) (hk : Rows.uptoSmall H (ds ++ gs) = true) :
    Calls Tryz.prog 3 args W fun e W' => ∃ v, e = .returned v ∧ Rows.arenaSetSpec.post enc Tryz.prog Tryz.f3 false true false false W args v W' := by
  have hval : ∀ (j : Nat) t v, Tryz.f3.params[j]? = some t → args[j]? = some v → Value.okWide Tryz.prog W .any base t v := hval0
  have hW' := hW
  obtain ⟨p, q, hA0, hV, rfl, hfz, hnd⟩ := hW
  have hA : DataW.TrodAll enc Tryz.prog W 0 (fun _ => true) true Tryz.f3.params.toList args.toList ds p := hA0
  rw [Tryz.params3] at hA hval
  obtain ⟨v0, vs0, d0, ds0, p0, q0, hargs, rfl, rfl, h0, r0⟩ := trodAll_cons hA
  obtain ⟨v1, vs1, d1, ds1, p1, q1, rfl, rfl, rfl, h1, r1⟩ := trodAll_cons r0
  obtain ⟨rfl, rfl, rfl⟩ := trodAll_nil r1
  obtain rfl : args = #[v0, v1] := by cases args; simp_all
  obtain ⟨A0, len0, cap0, rfl⟩ := okWide_slice Tryz.underlying22 (hval 0 22 v0 rfl rfl)
  obtain ⟨A1, len1, cap1, rfl⟩ := okWide_slice Tryz.underlying23 (hval 1 23 v1 rfl rfl)
  obtain ⟨fuel, hf⟩ := h0
  obtain ⟨fuel1, hf1⟩ := h1
  obtain ⟨A, C, cap, hcs1, hmc, hcm, hL, hQ, hw⟩ := open_list_w (enc' := Cl.cells) (Q := fun cl => ClIn W cl ∧ ClT cl) (wt := Cl.fw) (mu := Rows.uptoBulk) bulk_slice Tryz.underlying22 cellsCl (by omega) (fun m cs x hm h => open_cl_f m cs x h) hf
  obtain ⟨rfl, rfl, rfl⟩ : A0 = A ∧ len0 = C.length ∧ cap0 = cap := by simpa [Value.cells] using hcs1
  obtain ⟨AT, l, capT, hcs2, hlc, hlm, hLT, hQT⟩ := open_list (enc' := Ty.cells) (Q := fun t => t.cls.size ≤ maxLen) Tryz.underlying23 cellsTy (by omega) (fun m cs x hm h => open_ty h) hf1
  obtain ⟨rfl, rfl, rfl⟩ : A1 = AT ∧ len1 = l.length ∧ cap1 = capT := by simpa [Value.cells] using hcs2
  have hbulk : (C.map Cl.fw).sum ≤ 1048576 := by
    have h : Rows.uptoBulkAll ([d0, d1] ++ gs) ≤ 1048576 := of_decide_eq_true hk
    simp only [List.cons_append, List.nil_append, Rows.uptoBulkAll] at h
    have hw' : (C.map Cl.fw).sum ≤ Rows.uptoBulk d0 := hw
    omega
  have hin : ∀ cl ∈ C, ClIn W cl := fun cl h => (hQ cl h).1
  refine (lawSet_any W A0 cap0 C hmc hcm hL hin hbulk A1 cap1 l hLT hlc (Nat.le_trans hlc hlm) hQT).mono fun e W' ⟨x, he, hw⟩ => ?_
  subst he
  subst hw
  exact post_true laidOut (by kernel_rfl) (tb := 4) rfl Tryz.underlying4 rfl rfl hW' x.below

set_option maxRecDepth 100000 in
theorem set_lifted (os : Os) (started : os.Started) (H : Type) (enc : TypeId × Value → H) (F : Stop.Interp) :
    ReturnsInHanded {} Tryz.checked os 3 .any ((Rows.OpenSpec.upto Rows.arenaSetSpec).pre6 enc Tryz.prog Tryz.f3 Rows.arenaSetUptoRow.domain false) (((Rows.OpenSpec.upto Rows.arenaSetSpec).at F).post enc Tryz.prog Tryz.f3 false true false false) := by
  refine returnsInHanded_of_cond (C := Tryz.checked) (s := Rows.OpenSpec.upto Rows.arenaSetSpec) (k := Rows.uptoSmall) rfl own started (by kernel_rfl) Tryz.func3
    (OpenSpec.witness (enc := enc) (C := Tryz.checked) (s := Rows.OpenSpec.upto Rows.arenaSetSpec) (k := Rows.uptoSmall) rfl false ⟨#[], #[.slice none 0 0, .slice none 0 0], []⟩ 8 (by kernel_rfl) (by kernel_rfl) (by kernel_rfl)
      (x := ([.nil, .nil], [], [])) (by kernel_rfl) rfl (by kernel_rfl)) ?_
  intro W base args ds gs before hval hW _ hk _
  exact set_contract H enc W base args ds gs before hval hW hk

theorem set_over : Rows.arenaSetUptoRow.holds Tryz.pinned (Rows.OpenSpec.upto Rows.arenaSetSpec) :=
  OpenClaim.holds_of_cond 3 Tryz.f3 rfl rfl rfl rfl rfl rfl rfl ⟨rfl, rfl, rfl, rfl, rfl⟩ rfl rfl rfl rfl rfl (by kernel_rfl) Tryz.func3 (by kernel_rfl)
    (of_decide_eq_true (by kernel_rfl)) (by unfold Func.isWrapper; first | (rw [if_pos (by decide +kernel)]; kernel_rfl) | (rw [if_neg (by decide +kernel)]; exact ⟨rfl, rfl⟩))
    (fun os started H enc _ F => set_lifted os started H enc F)

theorem arenaSetUpto_holds : Rows.ArenaSetUptoSaid := set_over
#print axioms arenaSetUpto_holds
end Go.Proofs.YtmpdmelkbemabaaGreat
