/- Heaps as Lean data; what is inside what (chapter 36), in plain Lean. -/
import Derived.Test.YtglgoegabihngaaApp
set_option linter.unusedSimpArgs false
set_option linter.unusedVariables false
namespace Go.Proofs.Grow
open Go.RowKit

/-- api.Val -/
structure Vl where
  ref : Bool
  n : Int
def Vl.cells (v : Vl) : List Value := [.bool v.ref, .int .i64 v.n]
theorem Vl.cells_len (v : Vl) : v.cells.length = 2 := rfl

/-- api.Cell; the slice inside with its address and capacity. -/
structure Ce where
  cls : ByteArray
  o0 : Int
  o1 : Int
  o2 : Int
  o3 : Int
  fA : Option Addr
  fc : Nat
  fields : List Vl
  dead : Bool
def Ce.cells (c : Ce) : List Value := [.string c.cls, .int .i64 c.o0, .int .i64 c.o1, .int .i64 c.o2, .int .i64 c.o3, .slice c.fA c.fields.length c.fc, .bool c.dead]
theorem Ce.cells_len (c : Ce) : c.cells.length = 7 := rfl
theorem Ce.cells_one (c : Ce) : ∀ u ∈ c.cells, u.oneCell' = true := by
  intro u hu; simp [Ce.cells] at hu; rcases hu with rfl | rfl | rfl | rfl | rfl | rfl | rfl <;> rfl
def Ce.own (c : Ce) : List Int := [c.o0, c.o1, c.o2, c.o3]

/-- What lies behind a cell's slice. -/
structure CeIn (w : World) (c : Ce) : Prop where
  lies : Lies w 2 Vl.cells c.fA c.fields
  le : c.fields.length ≤ c.fc
  max : c.fc ≤ maxLen
  cls : c.cls.size ≤ maxLen
theorem CeIn.ext {w : World} {c : Ce} (h : CeIn w c) (x : Ext w) : CeIn x.val c := ⟨h.lies.ext x, h.le, h.max, h.cls⟩

def up (l : List Ce) (o : Int) : Int := if h : 0 < o ∧ o ≤ l.length then (l[(o - 1).toNat]'(by omega)).o0 else 0
theorem up_in {l : List Ce} {k : Nat} (h : k < l.length) : up l (k + 1) = l[k].o0 := by
  unfold up
  rw [dif_pos (by omega)]
  congr 2
  omega
theorem up_out {l : List Ce} {o : Int} (h : ¬ (0 < o ∧ o ≤ l.length)) : up l o = 0 := dif_neg h

def way (l : List Ce) : Nat → Int → List Int
  | 0, _ => []
  | n + 1, o => if o = 0 then [] else o :: way l n (up l o)
theorem way_zero (l : List Ce) (n : Nat) : way l n 0 = [] := by cases n <;> simp [way]
theorem way_len (l : List Ce) : ∀ n o, (way l n o).length ≤ n
  | 0, _ => by simp [way]
  | n + 1, o => by
    rw [way]; split
    · simp
    · simpa using way_len l n (up l o)

def inB (l : List Ce) (a b : Int) : Bool := b == 0 || (way l (l.length + 2) a).contains b
def region (l : List Ce) (o : Int) : Int := ((way l (l.length + 2) o).find? (· < 0)).getD 0
def members (l : List Ce) (o : Int) : List Int := ((List.range l.length).map fun (i : Nat) => ((i : Int) + 1)).filter fun i => i != o && inB l i o
def endAt (l : List Ce) : Nat → Int → Int
  | 0, p => p
  | n + 1, p => if p ≤ 0 then p else endAt l n (up l p)
/-- May an owner k of a cell with the first owner o stand in a heap with so many clusters? (m: the least one) -/
def okOwn (l : List Ce) (m o k : Int) : Bool := !(decide ((l.length : Int) < k) || (decide (k < 0) && decide (k < m)) || !inB l o k)
def okCell (l : List Ce) (m : Int) (i : Nat) (c : Ce) : Bool := decide (endAt l l.length (i + 1) ≤ 0) && c.own.all fun k => okOwn l m c.o0 k
def right (l : List Ce) (clusters : Int) : Bool := l.zipIdx.all fun p => okCell l (wrap64 (-clusters)) p.2 p.1

/-! in a forest -/
def upN (l : List Ce) : Nat → Int → Int
  | 0, o => o
  | n + 1, o => upN l n (up l o)
theorem up_zero (l : List Ce) : up l 0 = 0 := up_out (by omega)
theorem upN_zero (l : List Ce) : ∀ n, upN l n 0 = 0
  | 0 => rfl
  | n + 1 => by rw [upN, up_zero, upN_zero l n]
theorem upN_add (l : List Ce) : ∀ m n o, upN l (m + n) o = upN l n (upN l m o)
  | 0, n, o => by simp [upN]
  | m + 1, n, o => by rw [Nat.succ_add, upN, upN_add l m n, ← upN]

theorem mem_way {l : List Ce} {x : Int} : ∀ {n : Nat} {a : Int}, x ∈ way l n a ↔ x ≠ 0 ∧ ∃ k, k < n ∧ upN l k a = x
  | 0, a => by simp [way]
  | n + 1, a => by
    rw [way]
    by_cases ha : a = 0
    · subst ha
      simp only [if_true, List.not_mem_nil, false_iff, not_and, not_exists]
      intro hx k _ e
      rw [upN_zero] at e
      exact hx e.symm
    · rw [if_neg ha, List.mem_cons, mem_way]
      constructor
      · rintro (rfl | ⟨hx, k, hk, e⟩)
        · exact ⟨ha, 0, by omega, rfl⟩
        · exact ⟨hx, k + 1, by omega, e⟩
      · rintro ⟨hx, k, hk, e⟩
        cases k with
        | zero => exact .inl e.symm
        | succ k => exact .inr ⟨hx, k, by omega, e⟩

theorem inB_iff {l : List Ce} {a b : Int} : inB l a b = true ↔ b = 0 ∨ (b ≠ 0 ∧ ∃ k, k < l.length + 2 ∧ upN l k a = b) := by
  unfold inB
  rw [Bool.or_eq_true, List.contains_iff_mem, mem_way]; simp

/-- All ways end. -/
def Ended (l : List Ce) : Prop := ∀ a, upN l (l.length + 1) a = 0

theorem endAt_spec (l : List Ce) : ∀ n p, endAt l n p ≤ 0 → upN l (n + 1) p = 0
  | 0, p, h => by
    simp only [endAt] at h
    show up l p = 0
    exact up_out (by omega)
  | n + 1, p, h => by
    rw [endAt] at h
    split at h
    · rw [upN, up_out (by omega), upN_zero]
    · rw [upN]; exact endAt_spec l n _ h

theorem right_iff {l : List Ce} {cl : Int} : right l cl = true ↔ ∀ i (h : i < l.length), okCell l (wrap64 (-cl)) i l[i] = true := by
  unfold right
  rw [List.all_eq_true]
  constructor
  · intro h i hi
    have := h (l[i], i) (List.mem_zipIdx_iff_getElem?.2 (by simp [hi]))
    exact this
  · rintro h ⟨c, i⟩ hp
    have hp : l[i]? = some c := List.mem_zipIdx_iff_getElem?.1 hp
    obtain ⟨hi, rfl⟩ := List.getElem?_eq_some_iff.1 hp
    exact h i hi

theorem right_ended {l : List Ce} {cl : Int} (h : right l cl = true) : Ended l := by
  intro a
  by_cases ha : 0 < a ∧ a ≤ l.length
  · have := right_iff.1 h (a - 1).toNat (by omega)
    unfold okCell at this
    rw [Bool.and_eq_true] at this
    have h1 := endAt_spec l _ _ (of_decide_eq_true this.1)
    rw [show (((a - 1).toNat : Nat) : Int) + 1 = a by omega] at h1
    exact h1
  · rw [upN, up_out ha, upN_zero]

theorem Ended.far {l : List Ce} (h : Ended l) {k : Nat} (hk : l.length + 1 ≤ k) (a : Int) : upN l k a = 0 := by
  obtain ⟨j, rfl⟩ := Nat.exists_eq_add_of_le hk
  rw [upN_add, h a, upN_zero]

theorem Ended.inB {l : List Ce} (h : Ended l) {a b : Int} : inB l a b = true ↔ ∃ k, upN l k a = b := by
  rw [inB_iff]
  constructor
  · rintro (rfl | ⟨_, k, _, e⟩)
    · exact ⟨_, h a⟩
    · exact ⟨k, e⟩
  · rintro ⟨k, rfl⟩
    by_cases hk : k < l.length + 2
    · by_cases h0 : upN l k a = 0
      · exact .inl h0
      · exact .inr ⟨h0, k, hk, rfl⟩
    · exact .inl (h.far (by omega) a)

theorem Ended.trans {l : List Ce} (h : Ended l) {a b c : Int} (h1 : Grow.inB l a b = true) (h2 : Grow.inB l b c = true) : Grow.inB l a c = true := by
  obtain ⟨j, rfl⟩ := h.inB.1 h1
  obtain ⟨k, rfl⟩ := h.inB.1 h2
  exact h.inB.2 ⟨j + k, upN_add l j k a⟩

theorem upN_mul {l : List Ce} {p : Nat} {a : Int} (h : upN l p a = a) : ∀ m, upN l (m * p) a = a
  | 0 => by simp [upN]
  | m + 1 => by rw [Nat.succ_mul, upN_add, upN_mul h m, h]

theorem Ended.anti {l : List Ce} (h : Ended l) {a b : Int} (h1 : Grow.inB l a b = true) (h2 : Grow.inB l b a = true) : a = b := by
  obtain ⟨j, rfl⟩ := h.inB.1 h1
  obtain ⟨k, e⟩ := h.inB.1 h2
  cases j with
  | zero => rfl
  | succ j =>
    rw [← upN_add] at e
    have e2 := upN_mul e (l.length + 1)
    rw [h.far (by rw [Nat.add_mul]; have := Nat.le_mul_of_pos_right l.length (show 0 < j + 1 + k by omega); omega)] at e2
    subst e2
    rw [upN_zero]

theorem Ended.below {l : List Ce} {a b c : Int} {j k : Nat} (hb : upN l j a = b) (hc : upN l k a = c) (hbn : b < 0) (hcn : c ≠ 0) : k ≤ j := by
  rcases Nat.lt_or_ge j k with hk | hk
  · obtain ⟨i, rfl⟩ := Nat.exists_eq_add_of_lt hk
    rw [Nat.add_assoc, upN_add, hb, Nat.add_comm i 1, upN_add] at hc
    have : upN l 1 b = 0 := up_out (by omega)
    rw [this, upN_zero] at hc
    exact absurd hc.symm hcn
  · exact hk

theorem region_iff {l : List Ce} {a b : Int} (hb : b < 0) : region l a = b ↔ inB l a b = true := by
  unfold region
  constructor
  · intro h
    cases hf : (way l (l.length + 2) a).find? (· < 0) with
    | none => rw [hf] at h; simp at h; omega
    | some x =>
      rw [hf] at h
      obtain rfl : x = b := by simpa using h
      have := List.mem_of_find?_eq_some hf
      unfold inB
      rw [Bool.or_eq_true, List.contains_iff_mem]
      exact .inr this
  · intro h
    unfold inB at h
    rw [Bool.or_eq_true, List.contains_iff_mem] at h
    have hm : b ∈ way l (l.length + 2) a := by
      rcases h with h | h
      · simp at h; omega
      · exact h
    cases hf : (way l (l.length + 2) a).find? (· < 0) with
    | none =>
      have := List.find?_eq_none.1 hf b hm
      simp at this; omega
    | some x =>
      have hx := List.mem_of_find?_eq_some hf
      have hxn : x < 0 := by simpa using List.find?_some hf
      obtain ⟨_, k, _, e⟩ := mem_way.1 hx
      obtain ⟨_, j, _, e2⟩ := mem_way.1 hm
      have h1 := Ended.below e e2 hxn (by omega)
      have h2 := Ended.below e2 e hb (by omega)
      have : j = k := by omega
      subst this
      simp [← e, e2]

theorem Ended.upIn {l : List Ce} (h : Ended l) (a : Int) : Grow.inB l a (up l a) = true := h.inB.2 ⟨1, rfl⟩
theorem inB_world (l : List Ce) (a : Int) : inB l a 0 = true := by simp [inB]
end Go.Proofs.Grow
