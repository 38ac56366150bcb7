/- What came in read as lists, with a weight that the reading's bulk bounds. -/
import Derived.Test.YtmpdmelkbemabaaOpen
set_option linter.unusedSimpArgs false
set_option linter.unusedVariables false
namespace Go.Proofs.Grow
open Go.RowKit Go.ChangeShapes Go.WideShapes Go.Deep

section
variable {H : Type} {enc : TypeId × Value → H} {P : Program} {W : World} {base : Nat} {spare : Nat → Bool} {held : Bool}

theorem open_field_at {fs : Array Field} {n : Nat} {cs : List Value} {xs : List (DataW H × List MemPlace)} (hxl : xs.length = fs.size)
    (hf : ∀ (i : Nat) (f : Field), fs[i]? = some f → DataW.trod enc P W base spare held n f.type ((cs.drop f.offset).take (P.cellsOf f.type)) = xs[i]?) (i t o s : Nat) (h : fs[i]?.map (fun f => (f.type, f.offset)) = some (t, o)) (hs : P.cellsOf t = s) :
    ∃ y, xs[i]? = some y ∧ DataW.trod enc P W base spare held n t ((cs.drop o).take s) = some y := by
  obtain ⟨f, hfi, he⟩ := Option.map_eq_some_iff.1 h
  simp only [Prod.mk.injEq] at he
  obtain ⟨rfl, rfl⟩ := he
  have hi := (Array.getElem?_eq_some_iff.1 hfi).1
  rw [← hs]
  exact ⟨xs[i]'(by omega), List.getElem?_eq_getElem (by omega), (hf i f hfi).trans (List.getElem?_eq_getElem (by omega))⟩

/-- A slice that came in; wt: a weight of an element that its reading's bulk bounds. -/
theorem open_list_w {α : Type} {t e : TypeId} {k fuel : Nat} {enc' : α → List Value} {Q : α → Prop} {wt : α → Nat} {mu : DataW H → Nat} (hmu : ∀ l r, ((l.map mu).sum) ≤ mu (.slice l r)) {cs : List Value} {x : DataW H × List MemPlace} (ht : P.underlying t = some (.slice e)) (hk : P.cellsOf e = k) (hk0 : 0 < k)
    (hR : ∀ n cs x, n < fuel → DataW.trod enc P W base spare held n e cs = some x → ∃ a, cs = enc' a ∧ Q a ∧ wt a ≤ mu x.1) (h : DataW.trod enc P W base spare held fuel t cs = some x) :
    ∃ (A : Option Addr) (l : List α) (cap : Nat), cs = [.slice A l.length cap] ∧ l.length ≤ cap ∧ cap ≤ maxLen ∧ Lies W k enc' A l ∧ (∀ a ∈ l, Q a) ∧ (l.map wt).sum ≤ mu x.1 := by
  rcases DataW.trod_slice ht h with ⟨rfl, _⟩ | ⟨a, len, cap, elems, rest, n, rfl, rfl, rfl, hb, hl, hm, hlen, hel, _, _⟩
  · exact ⟨none, [], 0, rfl, Nat.le_refl _, Nat.zero_le _, Lies.nil, fun _ h => by simp at h, by simp⟩
  · have key : ∀ i (hi : i < len), ∃ y : α, Q y ∧ wt y ≤ mu (elems[i]'(by omega)).1 ∧ ∃ b off, a = ⟨b, off, none⟩ ∧ b < W.heap.size ∧ ∀ j v, (enc' y)[j]? = some v → W.cell? ⟨b, off + i * k + j, none⟩ = some v := fun i hi => by
      have h1 := hel i hi
      rw [hk] at h1
      have hsome : elems[i]? = some (elems[i]'(by omega)) := List.getElem?_eq_getElem (by omega)
      rw [hsome, Option.bind_eq_some_iff] at h1
      obtain ⟨csi, hc, hy⟩ := h1
      obtain ⟨hbase, hcl, hat⟩ := World.cells?_some hc
      obtain ⟨y, rfl, hQ, hwt⟩ := hR n csi _ (by omega) hy
      have h0 := hat 0 hk0
      have hne : (enc' y)[0]? = some ((enc' y)[0]'(by omega)) := List.getElem?_eq_getElem (by omega)
      rw [hne] at h0
      have hspot := World.cell?_spot h0
      have hblk := World.block_lt_of_cell? _ _ h0
      obtain ⟨b, off, spot⟩ := a
      have hsp : i * k = 0 → spot = none := fun hz => by simpa [Addr.add, hz] using hspot
      have hspot' : spot = none := by
        rcases Nat.eq_zero_or_pos (i * k) with hz | hz
        · exact hsp hz
        · have h10 := hel 0 (by omega)
          rw [hk] at h10
          have hsome0 : elems[0]? = some (elems[0]'(by omega)) := List.getElem?_eq_getElem (by omega)
          rw [hsome0, Option.bind_eq_some_iff] at h10
          obtain ⟨cs0, hc0, hy0⟩ := h10
          obtain ⟨_, hcl0, hat0⟩ := World.cells?_some hc0
          have h00 := hat0 0 hk0
          have hne0 : cs0[0]? = some (cs0[0]'(by omega)) := List.getElem?_eq_getElem (by omega)
          rw [hne0] at h00
          simpa [Addr.add] using World.cell?_spot h00
      subst hspot'
      refine ⟨y, hQ, hwt, b, off, rfl, ?_, fun j v hv => ?_⟩
      · have : ((Addr.add ⟨b, off, none⟩ (i * k)).add 0).block = b := by simp [Addr.add]; split <;> rfl
        rw [this] at hblk; exact hblk
      · have hj : j < k := by have := (List.getElem?_eq_some_iff.1 hv).1; omega
        have := hat j hj
        rw [hv] at this
        have e : ((Addr.add ⟨b, off, none⟩ (i * k)).add j) = ⟨b, off + i * k + j, none⟩ := by
          unfold Addr.add
          by_cases hi0 : i * k = 0 <;> by_cases hj0 : j = 0 <;> simp [hi0, hj0]
        rw [e] at this; exact this
    clear hel h
    have build : ∀ m, m ≤ len → ∃ l : List α, l.length = m ∧ (∀ y ∈ l, Q y) ∧ (l.map wt).sum ≤ ((elems.take m).map fun y => mu y.1).sum ∧ ∀ i (hi : i < l.length), ∃ b off, a = ⟨b, off, none⟩ ∧ b < W.heap.size ∧ ∀ j v, (enc' l[i])[j]? = some v → W.cell? ⟨b, off + i * k + j, none⟩ = some v := by
      intro m
      induction m with
      | zero => exact fun _ => ⟨[], rfl, by simp, by simp, fun i hi => by simp at hi⟩
      | succ m ih =>
        intro hm'
        obtain ⟨l, hl1, hq, hw, hc⟩ := ih (by omega)
        obtain ⟨y, hQ, hwt, b, off, hA, hb', hcell⟩ := key m (by omega)
        refine ⟨l ++ [y], by simp [hl1], fun z hz => ?_, ?_, fun i hi => ?_⟩
        · rcases List.mem_append.1 hz with hz | hz
          · exact hq z hz
          · simp at hz; exact hz ▸ hQ
        · rw [List.take_succ_eq_append_getElem (by omega), List.map_append, List.map_append, List.sum_append, List.sum_append]
          simp only [List.map_cons, List.map_nil, List.sum_cons, List.sum_nil]
          omega
        · by_cases him : i < l.length
          · obtain ⟨b, off, h1, h2, h3⟩ := hc i him
            exact ⟨b, off, h1, h2, fun j v hv => h3 j v (by rw [List.getElem_append_left him] at hv; exact hv)⟩
          · have : i = m := by simp at hi; omega
            subst this
            refine ⟨b, off, hA, hb', fun j v hv => hcell j v ?_⟩
            rw [List.getElem_append_right (by omega)] at hv
            simpa [hl1] using hv
    obtain ⟨l, hl1, hq, hw, hc⟩ := build len (Nat.le_refl _)
    refine ⟨some a, l, cap, by rw [hl1], by omega, hm, fun i hi => ?_, hq, ?_⟩
    · obtain ⟨b, off, rfl, h2, h3⟩ := hc i hi
      exact ⟨b, off, rfl, h2, h3⟩
    · have h9 := hmu (elems.map (·.1)) (rest.map (·.1))
      rw [List.take_of_length_le (by omega)] at hw
      rw [List.map_map] at h9
      exact Nat.le_trans hw h9
end
end Go.Proofs.Grow
