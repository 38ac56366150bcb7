/- The document's list of a program's types: the same as the iterator's. -/
import Derived.Test.YtmpdmelkbemabaaGreatRows
import Derived.Test.YtmpdmelkbemabaaGreatNotes
import Derived.Test.YtmpdmelkbemabaaGreatTwoG
import Derived.BigGuardPart
import Derived.Deep.DeepCutAuto
set_option linter.unusedSimpArgs false
set_option linter.unusedVariables false
namespace Go.Proofs.Grow
open Go.RowKit
/-- demesneref12.Line, arena.Line -/
structure Ln where
  c : Int
  m : Int
  d : Int
  s : St
def Ln.cells (x : Ln) : List Value := .int .i64 x.c :: .int .i64 x.m :: .int .i64 x.d :: x.s.cells
theorem Ln.cells_len (x : Ln) : x.cells.length = 26 := by simp [Ln.cells, St.cells_len]
theorem St.cells_one (s : St) : ∀ u ∈ s.cells, u.oneCell' = true := by
  obtain ⟨k, x, y, name, ⟨tk, tc, tn, ⟨k0, n0⟩, ⟨k1, n1⟩, ⟨k2, n2⟩, ⟨k3, n3⟩⟩, ⟨ek, en, ename, eA, ec, kids⟩, aA, ac, args, bA, bc, body, lA, lc, els, pos⟩ := s
  intro u hu
  simp only [St.cells, Ty.cells, Ex.cells, List.cons_append, List.nil_append, List.mem_cons, List.not_mem_nil, or_false] at hu
  rcases hu with rfl | rfl | rfl | rfl | rfl | rfl | rfl | rfl | rfl | rfl | rfl | rfl | rfl | rfl | rfl | rfl | rfl | rfl | rfl | rfl | rfl | rfl | rfl <;> rfl
theorem Ln.cells_one (x : Ln) : ∀ u ∈ x.cells, u.oneCell' = true := by
  intro u hu
  unfold Ln.cells at hu
  rcases List.mem_cons.1 hu with rfl | hu
  · rfl
  rcases List.mem_cons.1 hu with rfl | hu
  · rfl
  rcases List.mem_cons.1 hu with rfl | hu
  · rfl
  exact x.s.cells_one u hu
def Li.ln (c m : Int) (x : Li) : Ln := ⟨c, m, x.d, x.s⟩
theorem StIn.body {w : World} {s : St} (h : StIn w s) : (∀ t ∈ s.body, StIn w t) ∧ Lies w 23 St.cells s.bA s.body ∧ s.body.length ≤ s.bc ∧ s.bc ≤ maxLen := by
  cases h with | mk he ha hac ham hai hb hbc hbm hbi hl hlc hlm hli hs => exact ⟨hbi, hb, hbc, hbm⟩
theorem StIn.els {w : World} {s : St} (h : StIn w s) : (∀ t ∈ s.els, StIn w t) ∧ Lies w 23 St.cells s.eA s.els ∧ s.els.length ≤ s.ec ∧ s.ec ≤ maxLen := by
  cases h with | mk he ha hac ham hai hb hbc hbm hbi hl hlc hlm hli hs => exact ⟨hli, hl, hlc, hlm⟩
/-- A line's box, its statement laid anew. -/
theorem ln_stmt {W : World} {g : Nat} {t : TypeId} (a : Ln) (s : St) (h : W.heap[g]? = some (.cells a.cells.toArray t (0, 0))) : (W.setCells g 3 s.cells).heap[g]? = some (.cells (Ln.mk a.c a.m a.d s).cells.toArray t (0, 0)) := by
  obtain ⟨cur', h1, h2⟩ := setCells_row g t s.cells 3 W _ h (by rw [St.cells_len]; simp [Ln.cells_len])
  have e : cur' = (Ln.mk a.c a.m a.d s).cells.toArray := by
    apply Array.toList_inj.1
    rw [h2, St.cells_len]
    show a.cells.take 3 ++ (s.cells ++ a.cells.drop 26) = _
    rw [List.drop_of_length_le (by rw [Ln.cells_len]; decide), List.append_nil]
    rfl
  rw [e] at h1
  exact h1
theorem ln_deep {W : World} {g : Nat} {t : TypeId} (a : Ln) (d : Int) (h : W.heap[g]? = some (.cells a.cells.toArray t (0, 0))) : (W.setCell ⟨g, 2, none⟩ (.int .i64 d)).heap[g]? = some (.cells (Ln.mk a.c a.m d a.s).cells.toArray t (0, 0)) := by
  have := row_store h 2 (.int .i64 d)
  rw [this]
  congr 2
end Go.Proofs.Grow
namespace Go.Proofs.YtmpdmelkbemabaaGreat
open Go.RowKit Go.Proofs.Grow

end Go.Proofs.YtmpdmelkbemabaaGreat
set_option linter.unusedSimpArgs false
set_option linter.unusedVariables false
namespace Go.Proofs.Grow
open Go.RowKit
theorem Va.cells_len (v : Va) : v.cells.length = 13 := rfl
theorem Va.cells_one (v : Va) : ∀ u ∈ v.cells, u.oneCell' = true := by
  intro u hu
  unfold Va.cells at hu
  rcases List.mem_cons.1 hu with rfl | hu
  · rfl
  rcases List.mem_append.1 hu with hu | hu
  · exact v.ty.cells_one u hu
  · rw [List.mem_singleton.1 hu]; rfl
end Go.Proofs.Grow
namespace Go.Proofs.YtmpdmelkbemabaaGreat
open Go.RowKit Go.Proofs.Grow

theorem infoVa : (Tryz.prog.info? 78).map (fun i => (i.zero.map (·.cells.size), i.size, i.bytes)) = some (some 13, 13, 120) := by kernel_rfl

end Go.Proofs.YtmpdmelkbemabaaGreat
set_option linter.unusedSimpArgs false
set_option linter.unusedVariables false
namespace Go.Proofs.Grow
open Go.RowKit

def rnV (c m : Int) (l : List Va) : List Nt := l.mapIdx fun j v => ⟨c, m, j, v.ty, v.pos⟩
theorem rnV_take (c m : Int) (l : List Va) (k : Nat) (h : k < l.length) : rnV c m (l.take (k + 1)) = rnV c m (l.take k) ++ [⟨c, m, k, l[k].ty, l[k].pos⟩] := by
  unfold rnV
  rw [List.take_succ_eq_append_getElem h, List.mapIdx_concat, List.length_take, Nat.min_eq_left (Nat.le_of_lt h)]
def rnB (c m : Int) (l : List Ln) : List Nt := (l.filter fun x => x.s.ty.k == 2).map fun x => ⟨c, m, -1, x.s.ty, x.s.pos⟩
theorem rnB_take (c m : Int) (l : List Ln) (k : Nat) (h : k < l.length) : rnB c m (l.take (k + 1)) = rnB c m (l.take k) ++ (if l[k].s.ty.k == 2 then [⟨c, m, -1, l[k].s.ty, l[k].s.pos⟩] else []) := by
  unfold rnB
  rw [List.take_succ_eq_append_getElem h, List.filter_append, List.map_append]
  congr 1
  by_cases h2 : (l[k].s.ty.k == 2) = true
  · simp [h2]
  · simp [h2]
def bodyLn (m : Me) : List Ln := (liAll m.body 0 (bkA m.bA) (ofA m.bA)).map (Li.ln 0 0)
def rnMe (c k : Int) (m : Me) : List Nt := ⟨c, k, -1, m.ret, m.pos⟩ :: (rnV c k (m.params ++ m.locals) ++ rnB c k (bodyLn m))
def rnMs (c : Int) (l : List Me) : List Nt := (l.mapIdx fun k m => rnMe c k m).flatten
theorem rnMs_take (c : Int) (l : List Me) (k : Nat) (h : k < l.length) : rnMs c (l.take (k + 1)) = rnMs c (l.take k) ++ rnMe c k l[k] := by
  unfold rnMs
  rw [List.take_succ_eq_append_getElem h, List.mapIdx_concat, List.length_take, Nat.min_eq_left (Nat.le_of_lt h), List.flatten_append]
  simp
def rnC (i : Nat) (cl : Cl) : List Nt := rnV i (-1) cl.fields ++ rnMs i cl.methods
def rnP (l : List Cl) : List Nt := (l.mapIdx fun i cl => rnC i cl).flatten
theorem rnP_take (l : List Cl) (k : Nat) (h : k < l.length) : rnP (l.take (k + 1)) = rnP (l.take k) ++ rnC k l[k] := by
  unfold rnP
  rw [List.take_succ_eq_append_getElem h, List.mapIdx_concat, List.length_take, Nat.min_eq_left (Nat.le_of_lt h), List.flatten_append]
  simp

theorem wrap_id {n : Nat} (h : n ≤ maxLen) : IntKind.i64.wrap ((n : Nat) : Int) = n := by
  rw [IntKind.wrap_i64 ((n : Nat) : Int)]
  unfold maxLen at h
  omega
theorem slV_note (A : Option Addr) (c m : Int) (f : Nat) (l : List Va) (h : f + l.length ≤ maxLen) : (slV A c m f l).map Sl.note = l.mapIdx fun j v => ⟨c, m, ((f + j : Nat) : Int), v.ty, v.pos⟩ := by
  unfold slV
  apply List.ext_getElem (by simp)
  intro i h1 h2
  have hi : i < l.length := by simpa using h2
  simp only [List.getElem_map, List.getElem_mapIdx, Sl.note]
  have e : IntKind.i64.wrap ((f : Int) + (i : Int)) = ((f + i : Nat) : Int) := by
    rw [← Int.natCast_add]; exact wrap_id (by omega)
  rw [e]
theorem slB_note (c m : Int) (ls : List Li) : (slB c m ls).map Sl.note = rnB c m (ls.map (Li.ln 0 0)) := by
  induction ls with
  | nil => rfl
  | cons x ls ih =>
    unfold slB rnB at *
    by_cases h : (x.s.ty.k == 2) = true
    · simp [Li.ln, h] at ih ⊢
      exact ⟨rfl, ih⟩
    · simp [Li.ln, h] at ih ⊢
      exact ih
theorem slM_note (b off : Nat) (c k : Int) (m : Me) (h : m.params.length + m.locals.length ≤ maxLen) : (slM b off c k m).map Sl.note = rnMe c k m := by
  unfold slM rnMe
  rw [List.map_cons, List.map_append, List.map_append, slB_note]
  have e1 := slV_note m.pA c k 0 m.params (by omega)
  have e2 := slV_note m.lA c k m.params.length m.locals h
  rw [show ((0 : Nat) : Int) = 0 from rfl] at e1
  rw [e1, e2]
  congr 1
  rw [← List.append_assoc]
  congr 1
  unfold rnV
  rw [List.mapIdx_append]
  congr 1
  · apply List.ext_getElem (by simp); intro i h1 h2; simp
  · apply List.ext_getElem (by simp); intro i h1 h2; simp [Int.add_comm]
theorem slMs_note (A : Option Addr) (c : Int) (l : List Me) (h : ∀ m ∈ l, m.params.length + m.locals.length ≤ maxLen) : (slMs A c l).map Sl.note = rnMs c l := by
  unfold slMs rnMs
  rw [List.map_flatten]
  congr 1
  apply List.ext_getElem (by simp)
  intro i h1 h2
  have hi : i < l.length := by simpa using h2
  simp only [List.getElem_map, List.getElem_mapIdx]
  exact slM_note _ _ _ _ _ (h _ (List.getElem_mem hi))
theorem slC_note (i : Nat) (cl : Cl) (hf : cl.fields.length ≤ maxLen) (h : ∀ m ∈ cl.methods, m.params.length + m.locals.length ≤ maxLen) : (slC i cl).map Sl.note = rnC i cl := by
  unfold slC rnC
  rw [List.map_append, slMs_note _ _ _ h]
  have e1 := slV_note cl.fA i (-1) 0 cl.fields (by omega)
  rw [show ((0 : Nat) : Int) = 0 from rfl] at e1
  rw [e1]
  congr 1
  unfold rnV
  apply List.ext_getElem (by simp); intro j h1 h2; simp
theorem slP_note (l : List Cl) (hf : ∀ cl ∈ l, cl.fields.length ≤ maxLen) (h : ∀ cl ∈ l, ∀ m ∈ cl.methods, m.params.length + m.locals.length ≤ maxLen) : (slP l).map Sl.note = rnP l := by
  unfold slP rnP
  rw [List.map_flatten]
  congr 1
  apply List.ext_getElem (by simp)
  intro i h1 h2
  have hi : i < l.length := by simpa using h2
  simp only [List.getElem_map, List.getElem_mapIdx]
  exact slC_note _ _ (hf _ (List.getElem_mem hi)) (h _ (List.getElem_mem hi))
end Go.Proofs.Grow
