/- Deleting, in plain Lean: what the two codes reckon with on their ways. -/
import Derived.Test.YtglgoegabihngaaClu
set_option linter.unusedSimpArgs false
set_option linter.unusedVariables false
namespace Go.Proofs.Grow
open Go.RowKit

def kill (c : Ce) : Ce := { c with dead := true }
def deadAt (ps : List Int) (p : Ce × Nat) : Ce := if ps.contains ((p.2 : Int) + 1) then kill p.1 else p.1
/-- A heap of which the cells ps have been deleted. -/
def delTo (l : List Ce) (ps : List Int) : List Ce := l.zipIdx.map (deadAt ps)
def cntTo (l : List Ce) (ps : List Int) : Nat := ((List.range l.length).filter fun i : Nat => (l[i]?.any fun c => !c.dead) && ps.contains ((i : Int) + 1)).length
theorem delTo_len (l : List Ce) (ps : List Int) : (delTo l ps).length = l.length := by simp [delTo]
theorem delTo_nil (l : List Ce) : delTo l [] = l := by
  unfold delTo
  rw [show (deadAt [] : Ce × Nat → Ce) = Prod.fst by funext p; simp [deadAt], List.zipIdx_map_fst]
theorem cntTo_nil (l : List Ce) : cntTo l [] = 0 := by simp [cntTo]
theorem delTo_at {l : List Ce} {ps : List Int} {i : Nat} (h : i < l.length) : (delTo l ps)[i]? = some (deadAt ps (l[i], i)) := by
  simp [delTo, List.getElem?_map, List.getElem?_zipIdx, List.getElem?_eq_getElem h]

theorem contains_snoc (ps : List Int) (a x : Int) : (ps ++ [a]).contains x = (ps.contains x || x == a) := by
  rw [Bool.eq_iff_iff]; simp

theorem count_flip {p q : Nat → Bool} {i : Nat} (hp : p i = false) (hq : q i = true) (h : ∀ k, k ≠ i → p k = q k) : ∀ n, i < n → ((List.range n).filter q).length = ((List.range n).filter p).length + 1
  | 0, hi => absurd hi (by omega)
  | n + 1, hi => by
    rw [List.range_succ, List.filter_append, List.filter_append, List.length_append, List.length_append]
    by_cases e : i = n
    · subst e
      have : (List.range i).filter q = (List.range i).filter p := List.filter_congr fun k hk => (h k (by have := List.mem_range.1 hk; omega)).symm
      rw [this]
      simp [hp, hq]
    · rw [count_flip hp hq h n (by omega)]
      have := h n (fun e' => e e'.symm)
      simp [List.filter_cons, this]
      omega

theorem step_dead {l : List Ce} {ps : List Int} {i : Nat} (h : i < l.length) (hd : (deadAt ps (l[i], i)).dead = true) : delTo l (ps ++ [(i : Int) + 1]) = delTo l ps ∧ cntTo l (ps ++ [(i : Int) + 1]) = cntTo l ps := by
  have hor : ps.contains ((i : Int) + 1) = true ∨ l[i].dead = true := by
    unfold deadAt at hd
    split at hd
    · exact .inl ‹_›
    · exact .inr hd
  constructor
  · unfold delTo
    refine List.map_congr_left fun p hp => ?_
    obtain ⟨c, k⟩ := p
    have hp : l[k]? = some c := List.mem_zipIdx_iff_getElem?.1 hp
    unfold deadAt
    rw [contains_snoc]
    by_cases e : k = i
    · subst e
      obtain ⟨_, rfl⟩ := List.getElem?_eq_some_iff.1 hp
      rcases hor with h1 | h1
      · rw [h1]; rfl
      · have hk : kill l[k] = l[k] := by
          unfold kill
          cases hl : l[k]; rw [hl] at h1; simp at h1; subst h1; rfl
        simp only [hk, ite_self]
    · have : (((k : Int) + 1) == ((i : Int) + 1)) = false := beq_eq_false_iff_ne.2 (by omega)
      rw [this, Bool.or_false]
  · unfold cntTo
    congr 1
    refine List.filter_congr fun k hk => ?_
    rw [contains_snoc]
    by_cases e : k = i
    · subst e
      rcases hor with h1 | h1
      · rw [h1]; simp
      · simp [List.getElem?_eq_getElem h, h1]
    · have : (((k : Int) + 1) == ((i : Int) + 1)) = false := beq_eq_false_iff_ne.2 (by omega)
      rw [this, Bool.or_false]

theorem step_live {l : List Ce} {ps : List Int} {i : Nat} (h : i < l.length) (hd : (deadAt ps (l[i], i)).dead = false) : delTo l (ps ++ [(i : Int) + 1]) = (delTo l ps).set i (kill (deadAt ps (l[i], i))) ∧ cntTo l (ps ++ [(i : Int) + 1]) = cntTo l ps + 1 := by
  have hc : ps.contains ((i : Int) + 1) = false := by
    unfold deadAt at hd
    split at hd
    · cases hd
    · rw [Bool.not_eq_true] at *; assumption
  have hl : l[i].dead = false := by
    unfold deadAt at hd
    rw [hc] at hd; exact hd
  constructor
  · apply List.ext_getElem?
    intro k
    rw [List.getElem?_set]
    by_cases e : i = k
    · subst e
      rw [if_pos rfl, if_pos (by rw [delTo_len]; exact h), delTo_at h]
      unfold deadAt
      rw [contains_snoc, hc]; simp
    · rw [if_neg e]
      by_cases hk : k < l.length
      · rw [delTo_at hk, delTo_at hk]
        unfold deadAt
        rw [contains_snoc]
        have : (((k : Int) + 1) == ((i : Int) + 1)) = false := beq_eq_false_iff_ne.2 (by omega)
        rw [this, Bool.or_false]
      · rw [List.getElem?_eq_none (by rw [delTo_len]; omega), List.getElem?_eq_none (by rw [delTo_len]; omega)]
  · unfold cntTo
    refine count_flip (i := i) ?_ ?_ (fun k hk => ?_) _ h
    · rw [hc]; simp
    · rw [contains_snoc]; simp [List.getElem?_eq_getElem h, hl]
    · rw [contains_snoc]
      have : (((k : Int) + 1) == ((i : Int) + 1)) = false := beq_eq_false_iff_ne.2 (by omega)
      rw [this, Bool.or_false]

theorem kill_cells (c : Ce) : (kill c).cells = c.cells.set 6 (.bool true) := rfl

/-- All that cluster.Delete goes through. -/
def allOf (l : List Ce) (o : Int) : List Int := members l o ++ if 0 < o ∧ o ≤ l.length then [o] else []
theorem inB_self (l : List Ce) (a : Int) : inB l a a = true := by
  unfold inB
  by_cases h : a = 0
  · simp [h]
  · rw [way, if_neg h]; simp
theorem allOf_at {l : List Ce} {o : Int} (ho : o ≠ 0) {i : Nat} (hi : i < l.length) : (allOf l o).contains ((i : Int) + 1) = inB l (i + 1) o := by
  rw [Bool.eq_iff_iff, List.contains_iff_mem]
  unfold allOf members
  rw [List.mem_append, List.mem_filter, List.mem_map]
  by_cases e : (i : Int) + 1 = o
  · rw [e, inB_self]
    simp
    omega
  · simp only [Bool.and_eq_true, bne_iff_ne]
    constructor
    · rintro (⟨_, _, h⟩ | h)
      · exact h
      · split at h
        · simp at h; exact absurd h e
        · simp at h
    · intro h
      exact .inl ⟨⟨i, by simp [hi], rfl⟩, e, h⟩
theorem allOf_in {l : List Ce} {o x : Int} (h : x ∈ allOf l o) : ∃ i : Nat, i < l.length ∧ x = (i : Int) + 1 := by
  unfold allOf members at h
  rw [List.mem_append, List.mem_filter, List.mem_map] at h
  rcases h with ⟨⟨i, hi, rfl⟩, _⟩ | h
  · exact ⟨i, by simpa using hi, rfl⟩
  · split at h
    · simp at h; exact ⟨(o - 1).toNat, by omega, by omega⟩
    · simp at h
theorem allOf_len (l : List Ce) (o : Int) : (allOf l o).length ≤ l.length + 1 := by
  unfold allOf members
  rw [List.length_append]
  have h1 := List.length_filter_le (fun i => i != o && inB l i o) ((List.range l.length).map fun (i : Nat) => ((i : Int) + 1))
  simp at h1
  split <;> simp <;> omega

theorem zip_count (l : List Ce) (f : Ce × Nat → Bool) : (l.zipIdx.filter f).length = ((List.range l.length).filter fun i => l[i]?.any fun c => f (c, i)).length := by
  have e : l.zipIdx.filter f = l.zipIdx.filter ((fun i : Nat => l[i]?.any fun c => f (c, i)) ∘ Prod.snd) := by
    refine List.filter_congr fun p hp => ?_
    obtain ⟨c, i⟩ := p
    have hp : l[i]? = some c := List.mem_zipIdx_iff_getElem?.1 hp
    simp [hp]
  rw [e, ← List.length_map (f := Prod.snd), ← List.filter_map, List.zipIdx_map_snd, List.range_eq_range']

theorem delTo_all {l : List Ce} {o : Int} (ho : o ≠ 0) : delTo l (allOf l o) = dels l o := by
  unfold delTo dels
  rw [if_neg ho]
  refine List.map_congr_left fun p hp => ?_
  obtain ⟨c, i⟩ := p
  have hp : l[i]? = some c := List.mem_zipIdx_iff_getElem?.1 hp
  obtain ⟨hi, rfl⟩ := List.getElem?_eq_some_iff.1 hp
  unfold deadAt goes
  rw [allOf_at ho hi]
  cases inB l (i + 1) o
  · rfl
  · cases hd : l[i].dead
    · rfl
    · unfold kill
      cases hl : l[i]; rw [hl] at hd; simp at hd; subst hd; rfl
theorem cntTo_all {l : List Ce} {o : Int} (ho : o ≠ 0) : cntTo l (allOf l o) = delN l o := by
  unfold cntTo delN
  rw [if_neg ho, zip_count]
  congr 1
  refine List.filter_congr fun i hi => ?_
  have hi : i < l.length := by simpa using hi
  rw [allOf_at ho hi, List.getElem?_eq_getElem hi]
  simp [goes, Bool.and_comm]

/-- What demesneref37.Delete makes of a cell. -/
def delB (l : List Ce) (o : Int) (p : Ce × Nat) : Bool := o != 0 && goes l o p
def delF (l : List Ce) (o : Int) (p : Ce × Nat) : Ce := if delB l o p then kill p.1 else p.1
theorem delF_all (l : List Ce) (o : Int) : l.zipIdx.map (delF l o) = dels l o := by
  unfold dels delF delB
  by_cases h : o = 0
  · subst h
    simp only [bne_self_eq_false, Bool.false_and, Bool.false_eq_true, if_false, if_true]
    exact List.zipIdx_map_fst ..
  · have : (o != 0) = true := bne_iff_ne.2 h
    simp only [this, Bool.true_and, if_neg h]
    rfl
theorem delB_all (l : List Ce) (o : Int) : (l.zipIdx.filter (delB l o)).length = delN l o := by
  unfold delN delB
  by_cases h : o = 0
  · subst h; simp
  · have : (o != 0) = true := bne_iff_ne.2 h
    simp only [this, Bool.true_and, if_neg h]
end Go.Proofs.Grow
