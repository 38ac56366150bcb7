/- A region that draws its order: guarded operations. -/
import Derived.Test.YtmpdmelkbemabaaGreatReg
set_option linter.unusedSimpArgs false
set_option linter.unusedVariables false
namespace Go.Proofs.Grow
open Go.RowKit

section
variable {P : Program} {ops : Array Oper} {Q : Exit → Act → World → Prop} {md : Region.Mode} {S : World → Prop} {m : Nat}

theorem AnyTill.firstS {i : Nat} {oi : Oper} {v : Value} (hi : ops[i]? = some oi) (him : i ≠ m) (hlast : ops.size ≤ m) (hsel : ∀ (j : Nat) (o : Oper) cs b, ops[j]? = some o → o.op ≠ .select cs b) (hQ : ∀ c a w, Q (.panic c) (a.put oi.dst v) w → Q (.panic c) a w) :
    ∀ (n : Nat) (listed : Array Bool) (a : Act) (w : World), (∀ j oj, ops[j]? = some oj → j ≠ i → listed.getD j true = false → (∀ e ∈ oj.after, Region.binds md e = true → e.on ≠ i) → oi.apart ops oj = true) →
      i ∈ Region.ready md ops listed → YieldsIf P ops S oi v a → S w → AnyTill P md ops Q S m n (listed.setIfInBounds i true) (a.put oi.dst v) w → AnyTill P md ops Q S m (n + 1) listed a w
  | n, listed, a, w, hfree, hr, hy, hS, H => by
    refine ⟨fun h => absurd h (ready_ne_nil hr), fun j hj => ?_⟩
    by_cases hji : j = i
    · subst hji
      exact hy.wpOp hi hS ⟨fun _ => hS, H⟩
    · cases n with
      | zero => exact absurd H.1 (ready_ne_nil (ready_mono hj hji))
      | succ n =>
        obtain ⟨hjun, oj, hoj, hall⟩ := mem_ready.1 hj
        have hnot : ∀ e ∈ oj.after, Region.binds md e = true → e.on ≠ i := fun e he hb heq => by
          have h1 := hall e he hb
          have h0 := (mem_ready.1 hr).1
          rw [heq] at h1
          rcases Nat.lt_or_ge i listed.size with h' | h'
          · simp [h'] at h0 h1; rw [h0] at h1; cases h1
          · simp [Array.getElem?_eq_none h'] at h1
        have hjm : j ≠ m := fun e => by
          rw [e, Array.getElem?_eq_none hlast] at hoj; cases hoj
        have h2 := wpOp_putIf hoj (hfree j oj hoj hji hjun hnot) (fun cs b => hsel i oi cs b hi) (fun cs b => hsel j oj cs b hoj) hQ hy (H.2 j (ready_mono hj hji))
        refine wpOp_mono (fun a' w' h3 => ?_) h2
        have hSw := h3.2.1 hjm
        refine ⟨fun _ => hSw, AnyTill.firstS hi him hlast hsel hQ n (listed.setIfInBounds j true) a' w' ?_ (ready_mono hr (Ne.symm hji)) h3.1 hSw ?_⟩
        · intro k ok hk hki hun hno
          refine hfree k ok hk hki ?_ hno
          by_cases hjk : j = k
          · subst hjk; exact hjun
          · rw [getD_set_ne true hjk] at hun; exact hun
        · rw [Array.setIfInBounds_comm _ _ hji]
          exact h3.2.2

/-- Take number i first, where S holds behind every operation. -/
theorem AnyTill.takeS {i : Nat} {oi : Oper} {v : Value} {n : Nat} {listed : Array Bool} {a : Act} {w : World} (hi : ops[i]? = some oi) (hc : (decide (ops.size ≤ m) && Region.noSelect ops && decide (i ≠ m) && Region.free md ops listed i && (Region.ready md ops listed).contains i) = true)
    (hQ : ∀ c a w, Q (.panic c) (a.put oi.dst v) w → Q (.panic c) a w) (hS : S w) (hy : ∀ w, S w → (execOp a.eval oi).run P w = .ok (.value v) w) (hg : oi.guard = none)
    (h : AnyTill P md ops Q S m n (listed.setIfInBounds i true) (a.put oi.dst v) w) : AnyTill P md ops Q S m (n + 1) listed a w := by
  simp only [Bool.and_eq_true, decide_eq_true_eq] at hc
  obtain ⟨⟨⟨⟨h1, h2⟩, h3⟩, h4⟩, h5⟩ := hc
  exact AnyTill.firstS hi h3 h1 (Region.noSelect_spec h2) hQ n listed a w (Region.free_spec hi h4) (by simpa using h5) (.inl ⟨by simp [Region.wanted, hg], hy⟩) hS h

/-- Two that may come up now. -/
theorem AnyTill.twoK {i j : Nat} {oi oj : Oper} {n : Nat} {listed : Array Bool} {a : Act} {w : World} (hi : ops[i]? = some oi) (hj : ops[j]? = some oj) (hr : Region.ready md ops listed = [i, j]) (hg : oi.guard = none) (hgj : oj.guard = none)
    (h : ∀ K : Act → World → Prop, (∀ a' w', (i ≠ m → S w') → AnyTill P md ops Q S m n (listed.setIfInBounds i true) a' w' → K a' w') → oi.wp P a w K Q)
    (h2 : ∀ K : Act → World → Prop, (∀ a' w', (j ≠ m → S w') → AnyTill P md ops Q S m n (listed.setIfInBounds j true) a' w' → K a' w') → oj.wp P a w K Q) : AnyTill P md ops Q S m (n + 1) listed a w := by
  refine ⟨fun e => (by rw [hr] at e; cases e), fun k hk => ?_⟩
  rw [hr] at hk
  simp only [List.mem_cons, List.not_mem_nil, or_false] at hk
  rcases hk with rfl | rfl
  · unfold wpOp
    simp only [hi, Region.wanted, hg, if_true]
    exact .inl (h _ fun _ _ h1 h2 => ⟨h1, h2⟩)
  · unfold wpOp
    simp only [hj, Region.wanted, hgj, if_true]
    exact .inl (h2 _ fun _ _ h1 h2 => ⟨h1, h2⟩)

end
end Go.Proofs.Grow
set_option linter.unusedSimpArgs false
set_option linter.unusedVariables false
namespace Go.Proofs.Grow
open Go.RowKit

section
variable {P : Program} {ops : Array Oper} {Q : Exit → Act → World → Prop} {md : Region.Mode} {S : World → Prop} {m : Nat}

/-- Take number i first, where S holds behind every operation; i is wanted. -/
theorem AnyTill.takeG {i : Nat} {oi : Oper} {v : Value} {n : Nat} {listed : Array Bool} {a : Act} {w : World} (hi : ops[i]? = some oi) (hc : (decide (ops.size ≤ m) && Region.noSelect ops && decide (i ≠ m) && Region.free md ops listed i && (Region.ready md ops listed).contains i) = true)
    (hQ : ∀ c a w, Q (.panic c) (a.put oi.dst v) w → Q (.panic c) a w) (hS : S w) (hy : ∀ w, S w → (execOp a.eval oi).run P w = .ok (.value v) w) (hg : Region.wanted oi (yielded ops a.tmps) = true)
    (h : AnyTill P md ops Q S m n (listed.setIfInBounds i true) (a.put oi.dst v) w) : AnyTill P md ops Q S m (n + 1) listed a w := by
  simp only [Bool.and_eq_true, decide_eq_true_eq] at hc
  obtain ⟨⟨⟨⟨h1, h2⟩, h3⟩, h4⟩, h5⟩ := hc
  exact AnyTill.firstS hi h3 h1 (Region.noSelect_spec h2) hQ n listed a w (Region.free_spec hi h4) (by simpa using h5) (.inl ⟨hg, hy⟩) hS h

/-- Number i, not wanted. -/
theorem AnyTill.skipG {i : Nat} {oi : Oper} {n : Nat} {listed : Array Bool} {a : Act} {w : World} (hi : ops[i]? = some oi) (hc : (decide (ops.size ≤ m) && Region.noSelect ops && decide (i ≠ m) && Region.free md ops listed i && (Region.ready md ops listed).contains i) = true)
    (hQ : ∀ c a w, Q (.panic c) (a.put oi.dst undef) w → Q (.panic c) a w) (hS : S w) (hg : Region.wanted oi (yielded ops a.tmps) = false)
    (h : AnyTill P md ops Q S m n (listed.setIfInBounds i true) (a.put oi.dst undef) w) : AnyTill P md ops Q S m (n + 1) listed a w := by
  simp only [Bool.and_eq_true, decide_eq_true_eq] at hc
  obtain ⟨⟨⟨⟨h1, h2⟩, h3⟩, h4⟩, h5⟩ := hc
  exact AnyTill.firstS hi h3 h1 (Region.noSelect_spec h2) hQ n listed a w (Region.free_spec hi h4) (by simpa using h5) (.inr ⟨hg, rfl⟩) hS h

/-- The one that may come up now, wanted. -/
theorem AnyTill.oneG {i : Nat} {oi : Oper} {n : Nat} {listed : Array Bool} {a : Act} {w : World} (hi : ops[i]? = some oi) (hr : Region.ready md ops listed = [i]) (hg : Region.wanted oi (yielded ops a.tmps) = true)
    (h : ∀ K : Act → World → Prop, (∀ a' w', (i ≠ m → S w') → AnyTill P md ops Q S m n (listed.setIfInBounds i true) a' w' → K a' w') → oi.wp P a w K Q) : AnyTill P md ops Q S m (n + 1) listed a w := by
  refine ⟨fun e => (by rw [hr] at e; cases e), fun j hj => ?_⟩
  rw [hr] at hj
  obtain rfl : j = i := by simpa using hj
  unfold wpOp
  simp only [hi]
  rw [if_pos hg]
  exact .inl (h _ fun _ _ h1 h2 => ⟨h1, h2⟩)
end
end Go.Proofs.Grow
