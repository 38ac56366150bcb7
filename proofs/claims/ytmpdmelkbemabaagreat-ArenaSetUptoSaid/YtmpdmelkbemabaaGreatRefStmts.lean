/- The statements of a program, each with its place; the walk of demesneref12.Stmts. -/
import Derived.Test.YtmpdmelkbemabaaGreatRefNotes
import Derived.Test.YtmpdmelkbemabaaGreatCls
import Derived.Test.YtmpdmelkbemabaaGreatRtL5
set_option linter.unusedSimpArgs false
set_option linter.unusedVariables false
namespace Go.Proofs.YtmpdmelkbemabaaGreat
open Go.RowKit Go.Proofs.Grow

/-- The lines of a method, of a class, of a program. -/
def lnM (i k : Int) (m : Me) : List Ln := (liAll m.body 0 (bkA m.bA) (ofA m.bA)).map (Li.ln i k)
def lnMs (i : Int) (l : List Me) : List Ln := (l.mapIdx fun k m => lnM i k m).flatten
def lnP (l : List Cl) : List Ln := (l.mapIdx fun i cl => lnMs i cl.methods).flatten
theorem lnMs_take (i : Int) (l : List Me) (k : Nat) (h : k < l.length) : lnMs i (l.take (k + 1)) = lnMs i (l.take k) ++ lnM i k l[k] := by
  unfold lnMs
  rw [List.take_succ_eq_append_getElem h, List.mapIdx_concat, List.length_take, Nat.min_eq_left (Nat.le_of_lt h), List.flatten_append]
  simp
theorem lnMs_prefix (i : Int) (l : List Me) (k : Nat) : lnMs i (l.take k) <+: lnMs i l := by
  have h : lnMs i l = lnMs i (l.take k ++ l.drop k) := by rw [List.take_append_drop]
  rw [h]
  unfold lnMs
  rw [List.mapIdx_append, List.flatten_append]
  exact List.prefix_append _ _
theorem lnP_take (l : List Cl) (k : Nat) (h : k < l.length) : lnP (l.take (k + 1)) = lnP (l.take k) ++ lnMs k l[k].methods := by
  unfold lnP
  rw [List.take_succ_eq_append_getElem h, List.mapIdx_concat, List.length_take, Nat.min_eq_left (Nat.le_of_lt h), List.flatten_append]
  simp
theorem lnP_prefix (l : List Cl) (k : Nat) : lnP (l.take k) <+: lnP l := by
  have h : lnP l = lnP (l.take k ++ l.drop k) := by rw [List.take_append_drop]
  rw [h]
  unfold lnP
  rw [List.mapIdx_append, List.flatten_append]
  exact List.prefix_append _ _

end Go.Proofs.YtmpdmelkbemabaaGreat
