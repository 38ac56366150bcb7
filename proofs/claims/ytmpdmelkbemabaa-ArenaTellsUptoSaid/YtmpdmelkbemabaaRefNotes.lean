/- The document's list of a program's types: the same as the iterator's. -/
import Derived.Test.YtmpdmelkbemabaaRefVars
set_option linter.unusedSimpArgs false
set_option linter.unusedVariables false
namespace Go.Proofs.Grow
open Go.RowKit

def rnV (c m : Int) (l : List Va) : List Nt := l.mapIdx fun j v => ⟨c, m, j, v.ty, v.pos⟩
theorem rnV_take (c m : Int) (l : List Va) (k : Nat) (h : k < l.length) : rnV c m (l.take (k + 1)) = rnV c m (l.take k) ++ [⟨c, m, k, l[k].ty, l[k].pos⟩] := by
  unfold rnV
  rw [List.take_succ_eq_append_getElem h, List.mapIdx_concat, List.length_take, Nat.min_eq_left (Nat.le_of_lt h)]
def rnB (c m : Int) (l : List Ln) : List Nt := (l.filter fun x => x.s.ty.k == 2).map fun x => ⟨c, m, -1, x.s.ty, x.s.pos⟩
theorem rnB_take (c m : Int) (l : List Ln) (k : Nat) (h : k < l.length) : rnB c m (l.take (k + 1)) = rnB c m (l.take k) ++ (if l[k].s.ty.k == 2 then [⟨c, m, -1, l[k].s.ty, l[k].s.pos⟩] else []) := by
  unfold rnB
  rw [List.take_succ_eq_append_getElem h, List.filter_append, List.map_append]
  congr 1
  by_cases h2 : (l[k].s.ty.k == 2) = true
  · simp [h2]
  · simp [h2]
def bodyLn (m : Me) : List Ln := (liAll m.body 0 (bkA m.bA) (ofA m.bA)).map (Li.ln 0 0)
def rnMe (c k : Int) (m : Me) : List Nt := ⟨c, k, -1, m.ret, m.pos⟩ :: (rnV c k (m.params ++ m.locals) ++ rnB c k (bodyLn m))
def rnMs (c : Int) (l : List Me) : List Nt := (l.mapIdx fun k m => rnMe c k m).flatten
theorem rnMs_take (c : Int) (l : List Me) (k : Nat) (h : k < l.length) : rnMs c (l.take (k + 1)) = rnMs c (l.take k) ++ rnMe c k l[k] := by
  unfold rnMs
  rw [List.take_succ_eq_append_getElem h, List.mapIdx_concat, List.length_take, Nat.min_eq_left (Nat.le_of_lt h), List.flatten_append]
  simp
def rnC (i : Nat) (cl : Cl) : List Nt := rnV i (-1) cl.fields ++ rnMs i cl.methods
def rnP (l : List Cl) : List Nt := (l.mapIdx fun i cl => rnC i cl).flatten
theorem rnP_take (l : List Cl) (k : Nat) (h : k < l.length) : rnP (l.take (k + 1)) = rnP (l.take k) ++ rnC k l[k] := by
  unfold rnP
  rw [List.take_succ_eq_append_getElem h, List.mapIdx_concat, List.length_take, Nat.min_eq_left (Nat.le_of_lt h), List.flatten_append]
  simp

theorem wrap_id {n : Nat} (h : n ≤ maxLen) : IntKind.i64.wrap ((n : Nat) : Int) = n := by
  rw [IntKind.wrap_i64 ((n : Nat) : Int)]
  unfold maxLen at h
  omega
theorem slV_note (A : Option Addr) (c m : Int) (f : Nat) (l : List Va) (h : f + l.length ≤ maxLen) : (slV A c m f l).map Sl.note = l.mapIdx fun j v => ⟨c, m, ((f + j : Nat) : Int), v.ty, v.pos⟩ := by
  unfold slV
  apply List.ext_getElem (by simp)
  intro i h1 h2
  have hi : i < l.length := by simpa using h2
  simp only [List.getElem_map, List.getElem_mapIdx, Sl.note]
  have e : IntKind.i64.wrap ((f : Int) + (i : Int)) = ((f + i : Nat) : Int) := by
    rw [← Int.natCast_add]; exact wrap_id (by omega)
  rw [e]
theorem slB_note (c m : Int) (ls : List Li) : (slB c m ls).map Sl.note = rnB c m (ls.map (Li.ln 0 0)) := by
  induction ls with
  | nil => rfl
  | cons x ls ih =>
    unfold slB rnB at *
    by_cases h : (x.s.ty.k == 2) = true
    · simp [Li.ln, h] at ih ⊢
      exact ⟨rfl, ih⟩
    · simp [Li.ln, h] at ih ⊢
      exact ih
theorem slM_note (b off : Nat) (c k : Int) (m : Me) (h : m.params.length + m.locals.length ≤ maxLen) : (slM b off c k m).map Sl.note = rnMe c k m := by
  unfold slM rnMe
  rw [List.map_cons, List.map_append, List.map_append, slB_note]
  have e1 := slV_note m.pA c k 0 m.params (by omega)
  have e2 := slV_note m.lA c k m.params.length m.locals h
  rw [show ((0 : Nat) : Int) = 0 from rfl] at e1
  rw [e1, e2]
  congr 1
  rw [← List.append_assoc]
  congr 1
  unfold rnV
  rw [List.mapIdx_append]
  congr 1
  · apply List.ext_getElem (by simp); intro i h1 h2; simp
  · apply List.ext_getElem (by simp); intro i h1 h2; simp [Int.add_comm]
theorem slMs_note (A : Option Addr) (c : Int) (l : List Me) (h : ∀ m ∈ l, m.params.length + m.locals.length ≤ maxLen) : (slMs A c l).map Sl.note = rnMs c l := by
  unfold slMs rnMs
  rw [List.map_flatten]
  congr 1
  apply List.ext_getElem (by simp)
  intro i h1 h2
  have hi : i < l.length := by simpa using h2
  simp only [List.getElem_map, List.getElem_mapIdx]
  exact slM_note _ _ _ _ _ (h _ (List.getElem_mem hi))
theorem slC_note (i : Nat) (cl : Cl) (hf : cl.fields.length ≤ maxLen) (h : ∀ m ∈ cl.methods, m.params.length + m.locals.length ≤ maxLen) : (slC i cl).map Sl.note = rnC i cl := by
  unfold slC rnC
  rw [List.map_append, slMs_note _ _ _ h]
  have e1 := slV_note cl.fA i (-1) 0 cl.fields (by omega)
  rw [show ((0 : Nat) : Int) = 0 from rfl] at e1
  rw [e1]
  congr 1
  unfold rnV
  apply List.ext_getElem (by simp); intro j h1 h2; simp
theorem slP_note (l : List Cl) (hf : ∀ cl ∈ l, cl.fields.length ≤ maxLen) (h : ∀ cl ∈ l, ∀ m ∈ cl.methods, m.params.length + m.locals.length ≤ maxLen) : (slP l).map Sl.note = rnP l := by
  unfold slP rnP
  rw [List.map_flatten]
  congr 1
  apply List.ext_getElem (by simp)
  intro i h1 h2
  have hi : i < l.length := by simpa using h2
  simp only [List.getElem_map, List.getElem_mapIdx]
  exact slC_note _ _ (hf _ (List.getElem_mem hi)) (h _ (List.getElem_mem hi))
end Go.Proofs.Grow
