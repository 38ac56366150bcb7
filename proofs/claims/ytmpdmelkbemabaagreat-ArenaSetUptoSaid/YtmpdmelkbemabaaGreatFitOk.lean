/- What arena.Set asks, by kinds. -/
import Derived.Test.YtmpdmelkbemabaaGreatSetA
import Derived.Test.YtmpdmelkbemabaaGreatFit
set_option linter.unusedSimpArgs false
set_option linter.unusedVariables false
namespace Go.Proofs.YtmpdmelkbemabaaGreat
open Go.RowKit Go.Proofs.Grow

/-! what may be set -/
theorem okSet_of {xs ys : List Sl} {L : List Ty} (h : xs.map Sl.st = ys.map Sl.st) (hx : okSet xs L) : okSet ys L := by
  have hl : xs.length = ys.length := by simpa using congrArg List.length h
  refine ⟨hl ▸ hx.1, fun i hi => ?_⟩
  have h1 := hx.2 i (by omega)
  have h2 : (xs[i]'(by omega)).st = ys[i].st := by
    have := congrArg (fun l => l[i]?) h
    simpa [hi, hl ▸ hi] using this
  unfold fitsAt at h1 ⊢
  rw [h2] at h1
  exact h1
theorem okSet_same {C D : List Cl} (h : C.map stCl = D.map stCl) {L : List Ty} (hx : okSet (slP C) L) : okSet (slP D) L := okSet_of (slP_same Sl.st (fun _ => rfl) h) hx
theorem fits_fit : ∀ (ks : List Bool) (xs : List Sl) (L : List Ty), xs.map Sl.st = ks → (Fit ks L ↔ ks.length ≤ L.length ∧ ∀ i (h : i < xs.length), fitsAt xs[i] L i = true)
  | [], xs, L, h => by
    obtain rfl : xs = [] := List.map_eq_nil_iff.1 h
    simp [Fit]
  | b :: ks, [], L, h => by simp at h
  | b :: ks, x :: xs, [], h => by simp [Fit]
  | b :: ks, x :: xs, t :: L, h => by
    rw [List.map_cons, List.cons.injEq] at h
    obtain ⟨h0, h1⟩ := h
    have ih := fits_fit ks xs L h1
    rw [Fit, ih]
    have e0 : fitsAt x (t :: L) 0 = true ↔ (b = true → t.k = 2) := by
      unfold fitsAt
      rw [h0]
      cases b <;> simp
    have es : ∀ i (y : Sl), fitsAt y (t :: L) (i + 1) = fitsAt y L i := fun i y => by
      unfold fitsAt
      simp
    constructor
    · rintro ⟨h2, h3, h4⟩
      refine ⟨by simp; omega, fun i hi => ?_⟩
      cases i with
      | zero => exact e0.2 h2
      | succ i => rw [es]; exact h4 i (by simpa using hi)
    · rintro ⟨h2, h3⟩
      refine ⟨e0.1 (h3 0 (by simp)), by simpa using h2, fun i hi => ?_⟩
      have := h3 (i + 1) (by simpa using hi)
      rw [es] at this
      exact this
theorem okSet_fit (C : List Cl) (L : List Ty) : okSet (slP C) L ↔ nCls C = L.length ∧ Fit (kdCls C) L := by
  have h := fits_fit (kdCls C) (slP C) L (slP_kd C)
  have e1 := slP_len C
  have e2 := kdCls_len C
  unfold okSet
  constructor
  · rintro ⟨h1, h2⟩; exact ⟨by omega, h.2 ⟨by omega, h2⟩⟩
  · rintro ⟨h1, h2⟩; exact ⟨by omega, (h.1 h2).2⟩
end Go.Proofs.YtmpdmelkbemabaaGreat
