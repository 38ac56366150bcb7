/- A program's slots; what an iterator reads of a program. -/
import Derived.Test.YtmpdmelkbemabaaLines
set_option linter.unusedSimpArgs false
set_option linter.unusedVariables false
namespace Go.Proofs.Grow
open Go.RowKit

/-- The slots of a class's methods. -/
def slMs (A : Option Addr) (c : Int) (l : List Me) : List Sl := (l.mapIdx fun k m => slM (bkA A) (ofA A + k * 17) c k m).flatten
theorem slMs_take (A : Option Addr) (c : Int) (l : List Me) (k : Nat) (h : k < l.length) : slMs A c (l.take (k + 1)) = slMs A c (l.take k) ++ slM (bkA A) (ofA A + k * 17) c k l[k] := by
  unfold slMs
  rw [List.take_succ_eq_append_getElem h, List.mapIdx_concat, List.length_take, Nat.min_eq_left (Nat.le_of_lt h), List.flatten_append]
  simp
theorem slMs_prefix (A : Option Addr) (c : Int) (l : List Me) (k : Nat) : slMs A c (l.take k) <+: slMs A c l := by
  have h : slMs A c l = slMs A c (l.take k ++ l.drop k) := by rw [List.take_append_drop]
  rw [h]
  unfold slMs
  rw [List.mapIdx_append, List.flatten_append]
  exact List.prefix_append _ _
/-- The slots of a class. -/
def slC (i : Nat) (cl : Cl) : List Sl := slV cl.fA i (-1) 0 cl.fields ++ slMs cl.mA i cl.methods
/-- The slots of a program. -/
def slP (l : List Cl) : List Sl := (l.mapIdx fun i cl => slC i cl).flatten
theorem slP_take (l : List Cl) (k : Nat) (h : k < l.length) : slP (l.take (k + 1)) = slP (l.take k) ++ slC k l[k] := by
  unfold slP
  rw [List.take_succ_eq_append_getElem h, List.mapIdx_concat, List.length_take, Nat.min_eq_left (Nat.le_of_lt h), List.flatten_append]
  simp
theorem slP_prefix (l : List Cl) (k : Nat) : slP (l.take k) <+: slP l := by
  have h : slP l = slP (l.take k ++ l.drop k) := by rw [List.take_append_drop]
  rw [h]
  unfold slP
  rw [List.mapIdx_append, List.flatten_append]
  exact List.prefix_append _ _

/-- What is read of a class. -/
structure RdC (cl : Cl) (W : World) : Prop where
  fields : RdV cl.fA cl.fields W
  mlen : cl.methods.length ≤ maxLen
  methods : ∀ k (h : k < cl.methods.length), ∃ b off, cl.mA = some ⟨b, off, none⟩ ∧ RdM b (off + k * 17) cl.methods[k] W
/-- What is read of a program. -/
structure RdP (A : Option Addr) (l : List Cl) (W : World) : Prop where
  len : l.length ≤ maxLen
  at_ : ∀ i (h : i < l.length), ∃ b off, A = some ⟨b, off, none⟩ ∧ b < W.heap.size ∧ W.cell? ⟨b, off + i * 7 + 4, none⟩ = some (.slice l[i].fA l[i].fields.length l[i].fc) ∧ W.cell? ⟨b, off + i * 7 + 5, none⟩ = some (.slice l[i].mA l[i].methods.length l[i].mc)
  each : ∀ cl ∈ l, RdC cl W
end Go.Proofs.Grow
