/- Giving away and deleting (chapter 37), in plain Lean. -/
import Derived.Test.YtglgoegabihngaaWay
set_option linter.unusedSimpArgs false
set_option linter.unusedVariables false
namespace Go.Proofs.Grow
open Go.RowKit

def giveC (k o : Int) (c : Ce) : Ce := if c.dead then c else { c with o0 := if c.o0 = k then o else c.o0, o1 := if c.o1 = k then o else c.o1, o2 := if c.o2 = k then o else c.o2, o3 := if c.o3 = k then o else c.o3 }
def give (l : List Ce) (k o : Int) : List Ce := if k < 0 then l.map (giveC k o) else l
def goes (l : List Ce) (o : Int) (p : Ce × Nat) : Bool := inB l (p.2 + 1) o && !p.1.dead
def dels (l : List Ce) (o : Int) : List Ce := if o = 0 then l else l.zipIdx.map fun p => if goes l o p then { p.1 with dead := true } else p.1
def delN (l : List Ce) (o : Int) : Nat := if o = 0 then 0 else (l.zipIdx.filter (goes l o)).length

/-- How many of some values are references into what is inside k. -/
def into (l : List Ce) (v : List Vl) (k : Int) : Nat := (v.filter fun x => x.ref && x.n != 0 && inB l x.n k).length

theorem give_len (l : List Ce) (k o : Int) : (give l k o).length = l.length := by unfold give; split <;> simp
theorem dels_len (l : List Ce) (o : Int) : (dels l o).length = l.length := by unfold dels; split <;> simp

section
variable {l : List Ce} {K O : Int}

theorem give_at (hK : K < 0) {i : Nat} (h : i < l.length) : (give l K O)[i]'(by rw [give_len]; exact h) = giveC K O l[i] := by
  simp [give, hK]

/-- An owner behind the giving. -/
def gv (K O x : Int) : Int := if x = K then O else x
theorem giveC_live {c : Ce} (h : c.dead = false) : giveC K O c = { c with o0 := gv K O c.o0, o1 := gv K O c.o1, o2 := gv K O c.o2, o3 := gv K O c.o3 } := by
  simp [giveC, h, gv]

variable (hd : ∀ i (h : i < l.length), l[i].dead = false) (hK : K < 0)
include hd hK

theorem up_give (x : Int) (hx : x ≠ K ∨ True) : up (give l K O) x = if 0 < x ∧ x ≤ l.length then gv K O (up l x) else 0 := by
  by_cases h : 0 < x ∧ x ≤ l.length
  · rw [if_pos h]
    have hi : (x - 1).toNat < l.length := by omega
    have e : x = ((x - 1).toNat : Int) + 1 := by omega
    rw [e, up_in hi, up_in (by rw [give_len]; exact hi), give_at hK hi, giveC_live (hd _ hi)]
  · rw [if_neg h, up_out (by rw [give_len]; exact h)]

/-- What is not inside K keeps its way. -/
theorem upN_out (hl : Ended l) {x : Int} (hx : inB l x K = false) : ∀ n, upN (give l K O) n x = upN l n x := by
  intro n
  induction n generalizing x with
  | zero => rfl
  | succ n ih =>
    have hux : inB l (up l x) K = false := by
      rw [← Bool.not_eq_true, hl.inB] at hx ⊢
      rintro ⟨k, hk⟩
      exact hx ⟨k + 1, hk⟩
    have hne : up l x ≠ K := fun e => by
      rw [← Bool.not_eq_true, hl.inB] at hux
      exact hux ⟨0, e⟩
    have e : up (give l K O) x = up l x := by
      rw [up_give hd hK x (.inr trivial)]
      split
      · unfold gv; rw [if_neg hne]
      · rw [up_out ‹_›]
    rw [upN, upN, e, ih hux]

/-- A way that comes to K: to O behind the giving. -/
theorem upN_in (hl : Ended l) {x : Int} {j : Nat} (hj : upN l (j + 1) x = K) (hmin : ∀ i, i ≤ j → upN l i x ≠ K) : (∀ i, i ≤ j → upN (give l K O) i x = upN l i x) ∧ upN (give l K O) (j + 1) x = O := by
  induction j generalizing x with
  | zero =>
    refine ⟨fun i hi => ?_, ?_⟩
    · obtain rfl : i = 0 := by omega
      rfl
    · show up (give l K O) x = O
      have hj' : up l x = K := hj
      rw [up_give hd hK x (.inr trivial), if_pos, hj']
      · simp [gv]
      · refine Decidable.byContradiction fun h => ?_
        rw [up_out h] at hj'; omega
  | succ j ih =>
    have h1 : up l x ≠ K := hmin 1 (by omega)
    have e : up (give l K O) x = up l x := by
      rw [up_give hd hK x (.inr trivial)]
      split
      · unfold gv; rw [if_neg h1]
      · rw [up_out ‹_›]
    obtain ⟨g1, g2⟩ := ih (x := up l x) hj (fun i hi => hmin (i + 1) (by omega))
    refine ⟨fun i hi => ?_, ?_⟩
    · cases i with
      | zero => rfl
      | succ i => rw [upN, upN, e]; exact g1 i (by omega)
    · rw [upN, e]; exact g2
end

theorem pigeon : ∀ (n : Nat) (f : Nat → Nat), (∀ i, i ≤ n → f i < n) → ∃ i k, i < k ∧ k ≤ n ∧ f i = f k
  | 0, f, h => absurd (h 0 (Nat.le_refl _)) (by omega)
  | n + 1, f, h => by
    by_cases hx : ∃ i, i ≤ n ∧ f i = f (n + 1)
    · obtain ⟨i, hi, he⟩ := hx
      exact ⟨i, n + 1, by omega, Nat.le_refl _, he⟩
    · have hne : ∀ i, i ≤ n → f i ≠ f (n + 1) := fun i hi e => hx ⟨i, hi, e⟩
      obtain ⟨i, k, h1, h2, h3⟩ := pigeon n (fun i => if f i = n then f (n + 1) else f i) (fun i hi => by
        have a := h i (by omega)
        have b := h (n + 1) (by omega)
        have c := hne i hi
        show (if f i = n then f (n + 1) else f i) < n
        split <;> omega)
      refine ⟨i, k, h1, by omega, ?_⟩
      have c1 := hne i (by omega)
      have c2 := hne k h2
      have h3' : (if f i = n then f (n + 1) else f i) = (if f k = n then f (n + 1) else f k) := h3
      split at h3' <;> split at h3' <;> omega

/-- A way that ends ends soon. -/
theorem ended_of {m : List Ce} {x : Int} {n : Nat} (h : upN m n x = 0) : upN m (m.length + 1) x = 0 := Classical.byContradiction fun hnz => by
  have hpos : ∀ i, i ≤ m.length + 1 → upN m i x ≠ 0 := fun i hi e => hnz (by
    obtain ⟨d, hd⟩ := Nat.exists_eq_add_of_le hi
    rw [hd, upN_add, e, upN_zero])
  have hcell : ∀ i, i ≤ m.length → 0 < upN m i x ∧ upN m i x ≤ m.length := fun i hi => Decidable.byContradiction fun hn => by
    refine hpos (i + 1) (by omega) ?_
    rw [upN_add]
    exact up_out hn
  obtain ⟨i, k, hik, hk, he⟩ := pigeon m.length (fun i => (upN m i x).toNat - 1) (fun i hi => by
    have := hcell i hi
    show (upN m i x).toNat - 1 < m.length
    omega)
  have c1 := hcell i (by omega)
  have c2 := hcell k hk
  have he' : upN m i x = upN m k x := by
    have he2 : (upN m i x).toNat - 1 = (upN m k x).toNat - 1 := he
    omega
  obtain ⟨d, rfl⟩ := Nat.exists_eq_add_of_lt hik
  rw [Nat.add_assoc, upN_add] at he'
  have hm := upN_mul he'.symm n
  have hz : upN m (n * (d + 1)) (upN m i x) = 0 := by
    rw [← upN_add]
    obtain ⟨q, hq⟩ := Nat.exists_eq_add_of_le (show n ≤ i + n * (d + 1) by
      have := Nat.le_mul_of_pos_right n (show 0 < d + 1 by omega); omega)
    rw [hq, upN_add, h, upN_zero]
  rw [hz] at hm
  omega

/-- The first time. -/
theorem first_at {p : Nat → Prop} [DecidablePred p] {k : Nat} (h : p k) : ∃ j, p j ∧ j ≤ k ∧ ∀ i, i < j → ¬ p i := by
  induction k using Nat.strongRecOn with
  | ind k ih =>
    by_cases hx : ∃ i, i < k ∧ p i
    · obtain ⟨i, hi, hp⟩ := hx
      obtain ⟨j, h1, h2, h3⟩ := ih i hi hp
      exact ⟨j, h1, by omega, h3⟩
    · exact ⟨k, h, Nat.le_refl _, fun i hi hp => hx ⟨i, hi, hp⟩⟩

section
variable {l : List Ce} {K O : Int} (hd : ∀ i (h : i < l.length), l[i].dead = false) (hK : K < 0) (hl : Ended l) (hO : inB l O K = false)
include hd hK hl hO

/-- The two ways of an owner that is inside K and is not K. -/
theorem way_give {x : Int} (hx : inB l x K = true) (hne : x ≠ K) : ∃ j, upN l (j + 1) x = K ∧ (∀ i, i ≤ j → upN l i x ≠ K ∧ upN (give l K O) i x = upN l i x) ∧ ∀ i, upN (give l K O) (j + 1 + i) x = upN l i O := by
  obtain ⟨k, hk⟩ := hl.inB.1 hx
  obtain ⟨j, hj, _, hm⟩ := first_at (p := fun k => upN l k x = K) hk
  cases j with
  | zero => exact absurd hj hne
  | succ j =>
    obtain ⟨g1, g2⟩ := upN_in hd hK (O := O) hl hj (fun i hi => hm i (by omega))
    refine ⟨j, hj, fun i hi => ⟨hm i (by omega), g1 i hi⟩, fun i => ?_⟩
    rw [upN_add, g2, upN_out hd hK hl hO]

theorem ended_give : Ended (give l K O) := by
  intro x
  by_cases hx : inB l x K = true
  · by_cases hne : x = K
    · subst hne
      have e : up (give l x O) x = 0 := up_out (by omega)
      rw [upN, e, upN_zero]
    · obtain ⟨j, hj, h1, h2⟩ := way_give hd hK hl hO hx hne
      exact ended_of (n := j + 1 + (l.length + 1)) (by rw [h2, hl O])
  · rw [Bool.not_eq_true] at hx
    rw [upN_out hd hK hl hx, give_len]
    exact hl x

theorem in_give {x : Int} (hx : inB l x K = true) (hne : x ≠ K) : inB (give l K O) x O = true := by
  obtain ⟨j, _, _, h2⟩ := way_give hd hK hl hO hx hne
  exact (ended_give hd hK hl hO).inB.2 ⟨j + 1 + 0, h2 0⟩

theorem none_in {x : Int} (hne : x ≠ K) : inB (give l K O) x K = false := by
  rw [← Bool.not_eq_true, (ended_give hd hK hl hO).inB]
  rintro ⟨k, hk⟩
  by_cases hx : inB l x K = true
  · obtain ⟨j, hj, h1, h2⟩ := way_give hd hK hl hO hx hne
    by_cases hkj : k ≤ j
    · rw [(h1 k hkj).2] at hk
      exact (h1 k hkj).1 hk
    · obtain ⟨m, rfl⟩ := Nat.exists_eq_add_of_le (show j + 1 ≤ k by omega)
      rw [h2] at hk
      have := hl.inB.2 ⟨m, hk⟩
      rw [hO] at this; cases this
  · rw [Bool.not_eq_true] at hx
    rw [upN_out hd hK hl hx] at hk
    have := hl.inB.2 ⟨k, hk⟩
    rw [hx] at this; cases this

theorem in_gv {a b : Int} (h : inB l a b = true) : inB (give l K O) (gv K O a) (gv K O b) = true := by
  have hg := ended_give hd hK hl hO
  by_cases ha : a = K
  · subst ha
    obtain ⟨k, hk⟩ := hl.inB.1 h
    cases k with
    | zero => obtain rfl : a = b := hk; exact hg.inB.2 ⟨0, rfl⟩
    | succ k =>
      have e : up l a = 0 := up_out (by omega)
      rw [upN, e, upN_zero] at hk
      subst hk
      rw [show gv a O 0 = 0 by unfold gv; rw [if_neg (by omega)]]
      exact inB_world _ _
  · rw [show gv K O a = a by unfold gv; rw [if_neg ha]]
    by_cases hb : b = K
    · subst hb
      rw [show gv b O b = O by simp [gv]]
      exact in_give hd hK hl hO h ha
    · rw [show gv K O b = b by unfold gv; rw [if_neg hb]]
      obtain ⟨q, hq⟩ := hl.inB.1 h
      by_cases hx : inB l a K = true
      · obtain ⟨j, hj, h1, h2⟩ := way_give hd hK hl hO hx ha
        by_cases hqj : q ≤ j
        · exact hg.inB.2 ⟨q, by rw [(h1 q hqj).2, hq]⟩
        · obtain ⟨m, rfl⟩ := Nat.exists_eq_add_of_le (show j + 1 ≤ q by omega)
          rw [upN_add, hj] at hq
          cases m with
          | zero => exact absurd hq.symm hb
          | succ m =>
            have e : up l K = 0 := up_out (by omega)
            rw [upN, e, upN_zero] at hq
            subst hq
            exact inB_world _ _
      · rw [Bool.not_eq_true] at hx
        exact hg.inB.2 ⟨q, by rw [upN_out hd hK hl hx, hq]⟩
end

theorem endAt_pos {m : List Ce} : ∀ {n p}, 0 < endAt m n p → (∀ i, i ≤ n → 0 < upN m i p)
  | 0, p, h, i, hi => by
    obtain rfl : i = 0 := by omega
    exact h
  | n + 1, p, h, i, hi => by
    rw [endAt] at h
    by_cases hp : p ≤ 0
    · rw [if_pos hp] at h; omega
    · rw [if_neg hp] at h
      cases i with
      | zero => show 0 < p; omega
      | succ i => rw [upN]; exact endAt_pos h i (by omega)

theorem endAt_of {m : List Ce} (h : Ended m) (ho : ∀ i (hi : i < m.length), m[i].o0 ≤ m.length) {i : Nat} (hi : i < m.length) : endAt m m.length (i + 1) ≤ 0 := Decidable.byContradiction fun hn => by
  have hpos := endAt_pos (show 0 < endAt m m.length (i + 1) by omega)
  have hcell : ∀ k, k ≤ m.length → 0 < upN m k (i + 1) ∧ upN m k (i + 1) ≤ m.length := fun k hk => by
    refine ⟨hpos k hk, ?_⟩
    cases k with
    | zero => show ((i : Int) + 1) ≤ m.length; omega
    | succ k =>
      have h1 := hpos (k + 1) hk
      rw [upN_add] at h1 ⊢
      have h1' : 0 < up m (upN m k (i + 1)) := h1
      show up m (upN m k (i + 1)) ≤ m.length
      by_cases hc : 0 < upN m k (i + 1) ∧ upN m k (i + 1) ≤ m.length
      · have e : upN m k (i + 1) = ((upN m k (i + 1) - 1).toNat : Int) + 1 := by omega
        rw [e, up_in (by omega)]
        exact ho _ _
      · rw [up_out hc] at h1'; omega
  obtain ⟨a, k, hak, hk, he⟩ := pigeon m.length (fun k => (upN m k (i + 1)).toNat - 1) (fun k hk => by
    have := hcell k hk
    show (upN m k (i + 1)).toNat - 1 < m.length
    omega)
  have c1 := hcell a (by omega)
  have c2 := hcell k hk
  have he' : upN m a (i + 1) = upN m k (i + 1) := by
    have he2 : (upN m a (i + 1)).toNat - 1 = (upN m k (i + 1)).toNat - 1 := he
    omega
  obtain ⟨d, rfl⟩ := Nat.exists_eq_add_of_lt hak
  rw [Nat.add_assoc, upN_add] at he'
  have hm := upN_mul he'.symm (m.length + 1)
  rw [h.far (by have := Nat.le_mul_of_pos_right (m.length + 1) (show 0 < d + 1 by omega); omega)] at hm
  omega

theorem okOwn_iff {m : List Ce} {c o k : Int} : okOwn m c o k = true ↔ k ≤ m.length ∧ (k < 0 → c ≤ k) ∧ inB m o k = true := by
  unfold okOwn
  cases inB m o k
  · simp
  · by_cases h1 : (m.length : Int) < k
    · simp [h1]; intro h; omega
    · by_cases h2 : k < 0
      · by_cases h3 : k < c
        · simp [h1, h2, h3]
        · simp [h1, h2, h3]; omega
      · simp [h1, h2]; omega

theorem okCell_iff {m : List Ce} {c : Int} {i : Nat} {x : Ce} : okCell m c i x = true ↔ endAt m m.length (i + 1) ≤ 0 ∧ okOwn m c x.o0 x.o0 = true ∧ okOwn m c x.o0 x.o1 = true ∧ okOwn m c x.o0 x.o2 = true ∧ okOwn m c x.o0 x.o3 = true := by
  simp [okCell, Ce.own]

theorem right_give {l : List Ce} {K O cl : Int} (hd : ∀ i (h : i < l.length), l[i].dead = false) (hK : K < 0) (hr : right l cl = true) (hO : inB l O K = false) (h1 : O ≤ l.length) (h2 : wrap64 (-cl) ≤ O) : right (give l K O) cl = true := by
  have hl := right_ended hr
  have hg := ended_give hd hK hl hO
  have hr' := right_iff.1 hr
  have own : ∀ {a b : Int}, okOwn l (wrap64 (-cl)) a b = true → okOwn (give l K O) (wrap64 (-cl)) (gv K O a) (gv K O b) = true := fun {a b} h => by
    rw [okOwn_iff] at h ⊢
    refine ⟨?_, ?_, in_gv hd hK hl hO h.2.2⟩
    · rw [give_len]; unfold gv; split
      · exact h1
      · exact h.1
    · unfold gv; split
      · exact fun _ => h2
      · exact h.2.1
  rw [right_iff]
  intro i hi
  have hi' : i < l.length := by rwa [give_len] at hi
  have h := okCell_iff.1 (hr' i hi')
  rw [give_at hK hi', giveC_live (hd i hi'), okCell_iff]
  refine ⟨endAt_of hg (fun k hk => ?_) hi, own h.2.1, own h.2.2.1, own h.2.2.2.1, own h.2.2.2.2⟩
  have hk' : k < l.length := by rwa [give_len] at hk
  rw [give_at hK hk', giveC_live (hd k hk'), give_len]
  have := (okOwn_iff.1 (okCell_iff.1 (hr' k hk')).2.1).1
  show gv K O l[k].o0 ≤ l.length
  unfold gv; split
  · exact h1
  · exact this

/-- What is not inside K has no owner K. -/
theorem own_out {l : List Ce} {K O cl : Int} (hd : ∀ i (h : i < l.length), l[i].dead = false) (hr : right l cl = true) {i : Nat} (hi : i < l.length) (hx : inB l (i + 1) K = false) : giveC K O l[i] = l[i] := by
  have hl := right_ended hr
  have h := okCell_iff.1 (right_iff.1 hr i hi)
  have key : ∀ {k : Int}, okOwn l (wrap64 (-cl)) l[i].o0 k = true → k ≠ K := fun {k} hk e => by
    subst e
    have h1 : inB l (i + 1) l[i].o0 = true := hl.inB.2 ⟨1, up_in hi⟩
    have := hl.trans h1 (okOwn_iff.1 hk).2.2
    rw [hx] at this; cases this
  rw [giveC_live (hd i hi)]
  simp only [gv, if_neg (key h.2.1), if_neg (key h.2.2.1), if_neg (key h.2.2.2.1), if_neg (key h.2.2.2.2)]

theorem delN_members {l : List Ce} {K : Int} (hd : ∀ i (h : i < l.length), l[i].dead = false) (hK : K < 0) : delN l K = (members l K).length := by
  unfold delN members
  rw [if_neg (by omega), List.filter_map, List.length_map]
  have e : l.zipIdx.filter (goes l K) = l.zipIdx.filter ((fun i : Nat => inB l ((i : Int) + 1) K) ∘ Prod.snd) := by
    refine List.filter_congr fun p hp => ?_
    obtain ⟨c, i⟩ := p
    have hp : l[i]? = some c := List.mem_zipIdx_iff_getElem?.1 hp
    obtain ⟨hi, rfl⟩ := List.getElem?_eq_some_iff.1 hp
    simp [goes, hd i hi]
  rw [e, ← List.length_map (f := Prod.snd), ← List.filter_map, List.zipIdx_map_snd, List.range_eq_range']
  congr 1
  refine List.filter_congr fun i _ => ?_
  have : ((i : Int) + 1 != K) = true := bne_iff_ne.2 (by omega)
  simp [this]

theorem dels_at {l : List Ce} {K : Int} (hd : ∀ i (h : i < l.length), l[i].dead = false) (hK : K < 0) {i : Nat} (hi : i < l.length) : (dels l K)[i]'(by rw [dels_len]; exact hi) = { l[i] with dead := inB l (i + 1) K } := by
  unfold dels
  simp only [if_neg (show ¬ K = 0 by omega), List.getElem_map, List.getElem_zipIdx, goes, hd i hi, Bool.not_false, Bool.and_true, Nat.zero_add]
  cases h : inB l (i + 1) K
  · have := hd i hi
    cases hl : l[i]; simp [hl] at this ⊢; exact this
  · simp
end Go.Proofs.Grow
