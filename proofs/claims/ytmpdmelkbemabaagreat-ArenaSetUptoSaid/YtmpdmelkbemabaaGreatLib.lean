/- General lemmas of my own: worlds that only grew (Ext), quiet regions whose callees make memory. -/
import Derived.WalkKit
import Derived.ProofKit
import Derived.BigQuiet
namespace Go.Proofs.Grow
open Go.RowKit

theorem hide {p : Prop} (h : p) : Hid p := h

/-- A world that is w below w's size: it only grew. -/
structure Ext (w : World) where
  val : World
  below : Below w.heap.size w val

theorem Ext.cell {w : World} (x : Ext w) {a : Addr} (h : a.block < w.heap.size) : x.val.cell? a = w.cell? a := x.below.cell h
theorem Ext.frozen {w : World} (x : Ext w) {a : Addr} (h : a.block < w.heap.size) : x.val.frozen? a = w.frozen? a := x.below.frozen h
theorem Ext.lt {w : World} (x : Ext w) {n : Nat} (h : n < w.heap.size) : n < x.val.heap.size := Nat.lt_of_lt_of_le h x.below.size
theorem Ext.lt_add {w : World} (x : Ext w) {n k : Nat} (h : n < w.heap.size) : n < x.val.heap.size + k := Nat.lt_of_lt_of_le h (Nat.le_trans x.below.size (Nat.le_add_right _ _))
theorem lt_size_add {w : World} {n k : Nat} (h : n < w.heap.size) : n < w.heap.size + k := by omega
theorem Ext.le {w : World} (x : Ext w) {n : Nat} (h : n ≤ w.heap.size) : n ≤ x.val.heap.size := Nat.le_trans h x.below.size
theorem Ext.le_add {w : World} (x : Ext w) {n k : Nat} (h : n ≤ w.heap.size) : n ≤ x.val.heap.size + k := Nat.le_trans h (Nat.le_trans x.below.size (Nat.le_add_right _ _))
theorem le_size_add {w : World} {n k : Nat} (h : n ≤ w.heap.size) : n ≤ w.heap.size + k := by omega
theorem le_alloc {w : World} {n : Nat} {o : Obj} (h : n ≤ w.heap.size) : n ≤ (w.alloc o).heap.size := by simp; omega
theorem le_drew {w : World} {n : Nat} (h : n ≤ w.heap.size) : n ≤ w.drew.heap.size := h
theorem le_setCell {w : World} {n : Nat} {p : Addr} {v : Value} (h : n ≤ w.heap.size) : n ≤ (w.setCell p v).heap.size := by simpa [World.setCell] using h
def Ext.step {w : World} (x : Ext w) {w2 : World} (h : Below x.val.heap.size x.val w2) : Ext w := ⟨w2, x.below.trans (h.mono x.below.size)⟩
def Ext.here (w : World) : Ext w := ⟨w, Below.refl _ _⟩
def Ext.drewOf (w : World) : Ext w := ⟨w.drew, (Below.refl _ _).drew⟩
theorem Ext.drewOf_val (w : World) : (Ext.drewOf w).val = w.drew := rfl
theorem Ext.of {w w' : World} (h : Below w.heap.size w w') : ∃ x : Ext w, w' = x.val := ⟨⟨w', h⟩, rfl⟩
instance (w : World) : Nonempty (Ext w) := ⟨Ext.here w⟩

/-- The contract of a function that returns v and only makes new memory. -/
def Gives (P : Program) (f : FuncId) (args : Array Value) (w : World) (v : Value) : Prop := Calls P f args w fun e w' => ∃ x : Ext w, e = .returned v ∧ w' = x.val

theorem Gives.mk {P : Program} {f : FuncId} {args : Array Value} {w : World} {v : Value} (h : Calls P f args w fun e w' => e = .returned v ∧ Below w.heap.size w w') : Gives P f args w v :=
  Calls.mono h fun _ _ ⟨he, hb⟩ => ⟨⟨_, hb⟩, he, rfl⟩

theorem Gives.ext {P : Program} {f : FuncId} {args : Array Value} {w : World} {x : Ext w} {v : Value} (h : Gives P f args x.val v) :
    Calls P f args x.val fun e w'' => e = .returned v ∧ ∃ y : Ext w, w'' = y.val :=
  Calls.mono h fun _ _ ⟨y, he, hb⟩ => ⟨he, x.step y.below, hb⟩

theorem wp_region_ext {P : Program} {id : Nat} {Q : Exit → Act → World → Prop} {a : Act} {w : World} {l : List Oper} (hm : P.follows .mixedOrders = true) (hB : Region.lexB .any l.toArray = true)
    (h : wpQuiet P l.toArray (fun w' => ∃ x : Ext w, w' = x.val) (fun a' => ∀ w', (∃ x : Ext w, w' = x.val) → Q .normal a' w') l a) : (Code.region id l.toArray true).wp P Q a w :=
  wp_region_quiet (C := fun w' => ∃ x : Ext w, w' = x.val) hm hB ⟨Ext.drewOf w, rfl⟩ (by simpa using h)
attribute [go_sem] Ext.cell Ext.frozen Ext.lt Ext.lt_add lt_size_add

/-! closing `Below` goals -/
theorem Ext.over {w : World} (x : Ext w) (y : Ext x.val) : ∃ z : Ext w, y.val = z.val := ⟨x.step y.below, rfl⟩
theorem Ext.below0 {w : World} (x : Ext w) : Below w.heap.size w x.val := x.below
theorem ret_int {k : IntKind} {a b : Int} (h : a = b) : Ending.returned (.int k a) = .returned (.int k b) := by rw [h]
theorem ret_bool {a b : Bool} (h : a = b) : Ending.returned (.bool a) = .returned (.bool b) := by rw [h]

theorem below_ext {B : Nat} {a w : World} (h : Below B a w) (hB : B ≤ w.heap.size) (x : Ext w) : Below B a x.val := h.trans (x.below.mono hB)

/-- The slice (address A, length l.length) holds l: element i takes 'size' cells, which are 'enc l[i]'. -/
def Lies {α : Type} (w : World) (size : Nat) (enc : α → List Value) (A : Option Addr) (l : List α) : Prop :=
  ∀ i (h : i < l.length), ∃ b off, A = some ⟨b, off, none⟩ ∧ b < w.heap.size ∧ ∀ j v, (enc l[i])[j]? = some v → w.cell? ⟨b, off + i * size + j, none⟩ = some v

section
variable {α : Type} {w : World} {size : Nat} {enc : α → List Value} {A : Option Addr} {l : List α}
theorem Lies.nil : Lies w size enc A ([] : List α) := fun i h => by simp at h
theorem Lies.ext (h : Lies w size enc A l) (x : Ext w) : Lies x.val size enc A l := fun i hi => by
  obtain ⟨b, off, hA, hb, hc⟩ := h i hi
  exact ⟨b, off, hA, x.lt hb, fun j v hv => (x.cell hb).trans (hc j v hv)⟩
theorem Lies.below {w' : World} (h : Lies w size enc A l) (hb : Below w.heap.size w w') : Lies w' size enc A l := h.ext ⟨w', hb⟩
theorem Lies.alloc (h : Lies w size enc A l) (o : Obj) : Lies (w.alloc o) size enc A l := h.below ((Below.refl _ _).alloc (Nat.le_refl _) o)
/-- A cut from k on: what the walk writes for 's[k:]'. -/
theorem Lies.cut (h : Lies w size enc A l) {k c : Nat} (hk : k ≤ l.length) (hc : l.length ≤ c) : Lies w size enc (if c = k then A else A.map (·.add (k * size))) (l.drop k) := fun i hi => by
  have hi' : k + i < l.length := by simp at hi; omega
  obtain ⟨b, off, rfl, hb, hcell⟩ := h (k + i) hi'
  rw [if_neg (by omega)]
  refine ⟨b, off + k * size, ?_, hb, fun j v hv => ?_⟩
  · by_cases h0 : k * size = 0
    · simp [Addr.add, h0]
    · simp [Addr.add, h0]
  · have e : off + k * size + i * size + j = off + (k + i) * size + j := by rw [Nat.add_mul]; omega
    rw [e]
    refine hcell j v ?_
    rw [← hv]; simp
end
end Go.Proofs.Grow
