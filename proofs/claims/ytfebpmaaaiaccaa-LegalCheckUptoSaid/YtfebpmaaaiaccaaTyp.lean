/- What both answer for a type: the plain law. -/
import Derived.Test.YtfebpmaaaiaccaaMay
set_option linter.unusedSimpArgs false
set_option linter.unusedVariables false
namespace Go.Proofs.Ytfebpmaaaiaccaa
open Go.RowKit Go.Proofs.Grow

/-- What more is asked of a type that is not unique. -/
def moreT (t : Ty) (m : Int) : Bool := m != 1 || allIn t.owners
/-- legal.Type, past the arity. -/
def typO (t : Ty) (m : Int) : Int :=
  if (t.owners.drop 1).all (fun o => decide (o.k ∈ behinds m)) = false then 19
  else if uniqT t = false then (if moreT t m then 0 else 23)
  else if (t.owners.drop 1).all (fun o => o.k == 4) then 0 else 22
def typT (C : List Cl) (t : Ty) (m : Int) : Int :=
  if t.k = 2 then
    if arity C t.cls < 0 then 8
    else if arity C t.cls = t.n then (if t.o0.k ∈ firsts m then typO t m else 19)
    else 10
  else 0

/-- demesneref25.Type's first question, at a place. -/
def badR (m : Int) (first : Bool) (o : Ow) : Bool := !mayT o.k m first && (m != 2 || o.k != 6)
theorem badR_first (m : Int) (o : Ow) : badR m true o = !decide (o.k ∈ firsts m) := by
  unfold badR mayT firsts
  by_cases h1 : m = 1
  · subst h1
    by_cases h6 : o.k = 6
    · simp [h6]
    · rw [Bool.eq_iff_iff]; simp [h6]; omega
  · by_cases h2 : m = 2
    · subst h2
      by_cases h6 : o.k = 6
      · simp [h6]
      · rw [Bool.eq_iff_iff]; simp [h6]; omega
    · by_cases h6 : o.k = 6
      · simp [h6, h1, h2]
      · simp [h6, h1, h2]
theorem badR_behind (m : Int) (o : Ow) : badR m false o = !decide (o.k ∈ behinds m) := by
  unfold badR mayT behinds
  by_cases h1 : m = 1
  · subst h1
    by_cases h6 : o.k = 6
    · simp [h6]
    · rw [Bool.eq_iff_iff]; simp [h6]; omega
  · by_cases h2 : m = 2
    · subst h2
      by_cases h6 : o.k = 6
      · simp [h6]
      · rw [Bool.eq_iff_iff]; simp [h6]; omega
    · by_cases h6 : o.k = 6
      · simp [h6, h1, h2]
      · simp [h6, h1, h2]
theorem owners_cons (t : Ty) (h : t.k = 2) : ∃ l, t.owners = t.o0 :: l := by
  refine ⟨(t.owners.drop 1), ?_⟩
  unfold Ty.owners
  rw [if_pos h]
  simp [Ty.own]
theorem owners_le (t : Ty) : t.owners.length ≤ 4 := by
  unfold Ty.owners
  split
  · rw [List.length_take, Ty.own_len]; omega
  · simp
end Go.Proofs.Ytfebpmaaaiaccaa
