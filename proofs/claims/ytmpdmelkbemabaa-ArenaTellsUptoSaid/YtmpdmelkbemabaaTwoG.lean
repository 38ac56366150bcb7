/- A region that draws its order: guarded operations. -/
import Derived.Test.YtmpdmelkbemabaaTwo
set_option linter.unusedSimpArgs false
set_option linter.unusedVariables false
namespace Go.Proofs.Grow
open Go.RowKit

section
variable {P : Program} {ops : Array Oper} {Q : Exit → Act → World → Prop} {md : Region.Mode} {S : World → Prop} {m : Nat}

/-- Take number i first, where S holds behind every operation; i is wanted. -/
theorem AnyTill.takeG {i : Nat} {oi : Oper} {v : Value} {n : Nat} {listed : Array Bool} {a : Act} {w : World} (hi : ops[i]? = some oi) (hc : (decide (ops.size ≤ m) && Region.noSelect ops && decide (i ≠ m) && Region.free md ops listed i && (Region.ready md ops listed).contains i) = true)
    (hQ : ∀ c a w, Q (.panic c) (a.put oi.dst v) w → Q (.panic c) a w) (hS : S w) (hy : ∀ w, S w → (execOp a.eval oi).run P w = .ok (.value v) w) (hg : Region.wanted oi (yielded ops a.tmps) = true)
    (h : AnyTill P md ops Q S m n (listed.setIfInBounds i true) (a.put oi.dst v) w) : AnyTill P md ops Q S m (n + 1) listed a w := by
  simp only [Bool.and_eq_true, decide_eq_true_eq] at hc
  obtain ⟨⟨⟨⟨h1, h2⟩, h3⟩, h4⟩, h5⟩ := hc
  exact AnyTill.firstS hi h3 h1 (Region.noSelect_spec h2) hQ n listed a w (Region.free_spec hi h4) (by simpa using h5) (.inl ⟨hg, hy⟩) hS h

/-- Number i, not wanted. -/
theorem AnyTill.skipG {i : Nat} {oi : Oper} {n : Nat} {listed : Array Bool} {a : Act} {w : World} (hi : ops[i]? = some oi) (hc : (decide (ops.size ≤ m) && Region.noSelect ops && decide (i ≠ m) && Region.free md ops listed i && (Region.ready md ops listed).contains i) = true)
    (hQ : ∀ c a w, Q (.panic c) (a.put oi.dst undef) w → Q (.panic c) a w) (hS : S w) (hg : Region.wanted oi (yielded ops a.tmps) = false)
    (h : AnyTill P md ops Q S m n (listed.setIfInBounds i true) (a.put oi.dst undef) w) : AnyTill P md ops Q S m (n + 1) listed a w := by
  simp only [Bool.and_eq_true, decide_eq_true_eq] at hc
  obtain ⟨⟨⟨⟨h1, h2⟩, h3⟩, h4⟩, h5⟩ := hc
  exact AnyTill.firstS hi h3 h1 (Region.noSelect_spec h2) hQ n listed a w (Region.free_spec hi h4) (by simpa using h5) (.inr ⟨hg, rfl⟩) hS h

/-- The one that may come up now, wanted. -/
theorem AnyTill.oneG {i : Nat} {oi : Oper} {n : Nat} {listed : Array Bool} {a : Act} {w : World} (hi : ops[i]? = some oi) (hr : Region.ready md ops listed = [i]) (hg : Region.wanted oi (yielded ops a.tmps) = true)
    (h : ∀ K : Act → World → Prop, (∀ a' w', (i ≠ m → S w') → AnyTill P md ops Q S m n (listed.setIfInBounds i true) a' w' → K a' w') → oi.wp P a w K Q) : AnyTill P md ops Q S m (n + 1) listed a w := by
  refine ⟨fun e => (by rw [hr] at e; cases e), fun j hj => ?_⟩
  rw [hr] at hj
  obtain rfl : j = i := by simpa using hj
  unfold wpOp
  simp only [hi]
  rw [if_pos hg]
  exact .inl (h _ fun _ _ h1 h2 => ⟨h1, h2⟩)
end
end Go.Proofs.Grow
