/- A program's slots; what an iterator reads of a program. -/
import Derived.Test.YtmpdmelkbemabaaGreatTillIn
import Derived.Test.YtmpdmelkbemabaaGreatCls
import Derived.Test.YtmpdmelkbemabaaGreatIdx
import Derived.Test.YtmpdmelkbemabaaGreatReg
import Derived.Test.YtmpdmelkbemabaaGreatAcc
set_option linter.unusedSimpArgs false
set_option linter.unusedVariables false
namespace Go.Proofs.Grow
open Go.RowKit

/-- Where a slice lies. -/
def bkA : Option Addr → Nat | some a => a.block | none => 0
def ofA : Option Addr → Nat | some a => a.off | none => 0

/-- arena.Note, its type left empty: class, method, variable, place. -/
def noteCells (c m v p : Int) : List Value := [.int .i64 c, .int .i64 m, .int .i64 v, .int .i64 0, .string ⟨#[]⟩, .int .i64 0, .int .i64 0, .int .i64 0, .int .i64 0, .int .i64 0, .int .i64 0, .int .i64 0, .int .i64 0, .int .i64 0, .int .i64 p]
theorem noteCells_len (c m v p : Int) : (noteCells c m v p).length = 15 := rfl
theorem noteCells_one (c m v p : Int) : ∀ u ∈ noteCells c m v p, u.oneCell' = true := by
  intro u hu
  simp [noteCells] at hu
  rcases hu with rfl | rfl | rfl | rfl | rfl | rfl | rfl | rfl | rfl | rfl | rfl | rfl | rfl | rfl | rfl <;> rfl

/-- arena.slot: where the type lies (block b, from off on); the type is a ghost. -/
structure Sl where
  b : Nat
  off : Nat
  st : Bool
  c : Int
  m : Int
  v : Int
  p : Int
  ty : Ty
def Sl.cells (s : Sl) : List Value := .pointer (some ⟨s.b, s.off, none⟩) :: .bool s.st :: noteCells s.c s.m s.v s.p
def Sl.args (s : Sl) : Array Value := #[.agg s.cells.toArray]

/-- The slots of variables. -/
def slV (A : Option Addr) (c m f : Int) (l : List Va) : List Sl := l.mapIdx fun i v => ⟨bkA A, ofA A + i * 13 + 1, false, c, m, IntKind.i64.wrap (f + i), v.pos, v.ty⟩
theorem slV_take (A : Option Addr) (c m f : Int) (l : List Va) (k : Nat) (h : k < l.length) : slV A c m f (l.take (k + 1)) = slV A c m f (l.take k) ++ [⟨bkA A, ofA A + k * 13 + 1, false, c, m, IntKind.i64.wrap (f + k), l[k].pos, l[k].ty⟩] := by
  unfold slV
  rw [List.take_succ_eq_append_getElem h, List.mapIdx_concat, List.length_take, Nat.min_eq_left (Nat.le_of_lt h)]
theorem slV_prefix (A : Option Addr) (c m f : Int) (l : List Va) (k : Nat) : slV A c m f (l.take k) <+: slV A c m f l := by
  have h : slV A c m f l = slV A c m f (l.take k ++ l.drop k) := by rw [List.take_append_drop]
  rw [h]
  unfold slV
  rw [List.mapIdx_append]
  exact List.prefix_append _ _

/-- What is read of variables. -/
structure RdV (A : Option Addr) (l : List Va) (W : World) : Prop where
  len : l.length ≤ maxLen
  at_ : ∀ i (h : i < l.length), ∃ b off, A = some ⟨b, off, none⟩ ∧ b < W.heap.size ∧ W.cell? ⟨b, off + i * 13 + 12, none⟩ = some (.int .i64 l[i].pos)
end Go.Proofs.Grow
set_option linter.unusedSimpArgs false
set_option linter.unusedVariables false
namespace Go.Proofs.Grow
open Go.RowKit

/-- A statement where it stands: in how many others, at which place; itself (a ghost). -/
structure Li where
  d : Int
  b : Nat
  off : Nat
  s : St
def Li.args (x : Li) : Array Value := #[.int .i64 x.d, .pointer (some ⟨x.b, x.off, none⟩)]

mutual
def liOne : St → Int → Nat → Nat → List Li
  | .mk k x y name ty e aA ac args bA bc body eA ec els pos, d, b, off =>
    ⟨d, b, off, .mk k x y name ty e aA ac args bA bc body eA ec els pos⟩ :: (liAll body (wrap64 (d + 1)) (bkA bA) (ofA bA) ++ liAll els (wrap64 (d + 1)) (bkA eA) (ofA eA))
def liAll : List St → Int → Nat → Nat → List Li
  | [], _, _, _ => []
  | s :: l, d, b, off => liOne s d b off ++ liAll l d b (off + 23)
end
theorem liOne_eq (s : St) (d : Int) (b off : Nat) : liOne s d b off = ⟨d, b, off, s⟩ :: (liAll s.body (wrap64 (d + 1)) (bkA s.bA) (ofA s.bA) ++ liAll s.els (wrap64 (d + 1)) (bkA s.eA) (ofA s.eA)) := by
  obtain ⟨k, x, y, name, ty, e, aA, ac, args, bA, bc, body, eA, ec, els, pos⟩ := s
  rw [liOne]
  rfl
theorem liAll_append (d : Int) (b : Nat) : ∀ (l r : List St) (off : Nat), liAll (l ++ r) d b off = liAll l d b off ++ liAll r d b (off + l.length * 23)
  | [], r, off => by simp [liAll]
  | s :: l, r, off => by
    rw [List.cons_append, liAll, liAll, liAll_append d b l r (off + 23), List.append_assoc]
    congr 3
    simp; omega
theorem liAll_take (d : Int) (b off : Nat) (l : List St) (k : Nat) (h : k < l.length) : liAll (l.take (k + 1)) d b off = liAll (l.take k) d b off ++ liOne l[k] d b (off + k * 23) := by
  rw [List.take_succ_eq_append_getElem h, liAll_append, List.length_take, Nat.min_eq_left (Nat.le_of_lt h)]
  simp [liAll]
theorem liAll_prefix (d : Int) (b off : Nat) (l : List St) (k : Nat) : liAll (l.take k) d b off <+: liAll l d b off := by
  have h : liAll l d b off = liAll (l.take k ++ l.drop k) d b off := by rw [List.take_append_drop]
  rw [h, liAll_append]
  exact List.prefix_append _ _

/-- What is read of statements. -/
inductive RdB (W : World) : Option Addr → List St → Prop
  | mk {A : Option Addr} {l : List St} (len : l.length ≤ maxLen) (at_ : ∀ i (h : i < l.length), ∃ b off, A = some ⟨b, off, none⟩ ∧ b < W.heap.size ∧ W.cell? ⟨b, off + i * 23 + 4, none⟩ = some (.int .i64 l[i].ty.k) ∧
      W.cell? ⟨b, off + i * 23 + 20, none⟩ = some (.slice l[i].bA l[i].body.length l[i].bc) ∧ W.cell? ⟨b, off + i * 23 + 21, none⟩ = some (.slice l[i].eA l[i].els.length l[i].ec) ∧ W.cell? ⟨b, off + i * 23 + 22, none⟩ = some (.int .i64 l[i].pos))
      (body : ∀ s ∈ l, RdB W s.bA s.body) (els : ∀ s ∈ l, RdB W s.eA s.els) : RdB W A l
section
variable {W : World} {A : Option Addr} {l : List St}
theorem RdB.len (h : RdB W A l) : l.length ≤ maxLen := by cases h; assumption
theorem RdB.at_ (h : RdB W A l) (i : Nat) (hi : i < l.length) : ∃ b off, A = some ⟨b, off, none⟩ ∧ b < W.heap.size ∧ W.cell? ⟨b, off + i * 23 + 4, none⟩ = some (.int .i64 l[i].ty.k) ∧
      W.cell? ⟨b, off + i * 23 + 20, none⟩ = some (.slice l[i].bA l[i].body.length l[i].bc) ∧ W.cell? ⟨b, off + i * 23 + 21, none⟩ = some (.slice l[i].eA l[i].els.length l[i].ec) ∧ W.cell? ⟨b, off + i * 23 + 22, none⟩ = some (.int .i64 l[i].pos) := by cases h with | mk _ h _ _ => exact h i hi
theorem RdB.body (h : RdB W A l) {s : St} (hs : s ∈ l) : RdB W s.bA s.body := by cases h with | mk _ _ h _ => exact h s hs
theorem RdB.els (h : RdB W A l) {s : St} (hs : s ∈ l) : RdB W s.eA s.els := by cases h with | mk _ _ _ h => exact h s hs
end

/-- What is read of each line. -/
def RdLi (W : World) (x : Li) : Prop := x.b < W.heap.size ∧ W.cell? ⟨x.b, x.off + 4, none⟩ = some (.int .i64 x.s.ty.k) ∧ W.cell? ⟨x.b, x.off + 22, none⟩ = some (.int .i64 x.s.pos)
mutual
theorem liOne_mem {W : World} : ∀ (s : St) (d : Int) (b off : Nat), RdLi W ⟨d, b, off, s⟩ → RdB W s.bA s.body → RdB W s.eA s.els → ∀ x ∈ liOne s d b off, RdLi W x
  | .mk k x y name ty e aA ac args bA bc body eA ec els pos, d, b, off, h, hb, he, z, hz => by
    rw [liOne] at hz
    rcases List.mem_cons.1 hz with rfl | hz
    · exact h
    · rcases List.mem_append.1 hz with hz | hz
      · exact liAll_mem body _ bA hb z hz
      · exact liAll_mem els _ eA he z hz
theorem liAll_mem {W : World} : ∀ (l : List St) (d : Int) (A : Option Addr), RdB W A l → ∀ x ∈ liAll l d (bkA A) (ofA A), RdLi W x
  | l, d, A, h, x, hx => liTail_mem l d (bkA A) (ofA A) (fun i hi => by
      obtain ⟨b, off, rfl, hb, h4, _, _, h22⟩ := h.at_ i hi
      exact ⟨⟨hb, h4, h22⟩, h.body (List.getElem_mem hi), h.els (List.getElem_mem hi)⟩) x hx
theorem liTail_mem {W : World} : ∀ (l : List St) (d : Int) (b off : Nat), (∀ i (h : i < l.length), RdLi W ⟨d, b, off + i * 23, l[i]⟩ ∧ RdB W l[i].bA l[i].body ∧ RdB W l[i].eA l[i].els) → ∀ x ∈ liAll l d b off, RdLi W x
  | [], d, b, off, h, x, hx => by simp [liAll] at hx
  | s :: l, d, b, off, h, x, hx => by
    rw [liAll] at hx
    rcases List.mem_append.1 hx with hx | hx
    · have h0 := h 0 (by simp)
      exact liOne_mem s d b off (by simpa using h0.1) h0.2.1 h0.2.2 x hx
    · refine liTail_mem l d b (off + 23) (fun i hi => ?_) x hx
      have h1 := h (i + 1) (by simpa using hi)
      refine ⟨?_, h1.2⟩
      have e : off + 23 + i * 23 = off + (i + 1) * 23 := by omega
      rw [e]
      exact h1.1
end
/-- The slots of statements: those whose type is an object's. -/
def slB (c m : Int) (ls : List Li) : List Sl := (ls.filter fun x => x.s.ty.k == 2).map fun x => ⟨x.b, x.off + 4, true, c, m, -1, x.s.pos, x.s.ty⟩
theorem slB_append (c m : Int) (p q : List Li) : slB c m (p ++ q) = slB c m p ++ slB c m q := by simp [slB]
theorem slB_prefix {c m : Int} {p q : List Li} (h : p <+: q) : slB c m p <+: slB c m q := by
  obtain ⟨r, rfl⟩ := h
  rw [slB_append]
  exact List.prefix_append _ _
theorem slB_yes {c m : Int} (p : List Li) (x : Li) (h : (x.s.ty.k == 2) = true) : slB c m (p ++ [x]) = slB c m p ++ [⟨x.b, x.off + 4, true, c, m, -1, x.s.pos, x.s.ty⟩] := by
  rw [slB_append]; simp [slB, h]
theorem slB_no {c m : Int} (p : List Li) (x : Li) (h : (x.s.ty.k == 2) = false) : slB c m (p ++ [x]) = slB c m p := by
  rw [slB_append]; simp [slB, h]
/-- The slots of a method that lies at (b, off). -/
def slM (b off : Nat) (c k : Int) (m : Me) : List Sl :=
  ⟨b, off + 2, false, c, k, -1, m.pos, m.ret⟩ :: (slV m.pA c k 0 m.params ++ (slV m.lA c k m.params.length m.locals ++ slB c k (liAll m.body 0 (bkA m.bA) (ofA m.bA))))
/-- What is read of a method; its type may have been laid anew. -/
structure RdM (b off : Nat) (m : Me) (W : World) : Prop where
  lt : b < W.heap.size
  row : ∃ t : Ty, W.rangeAt b off ({ m with ret := t } : Me).cells
  params : RdV m.pA m.params W
  locals : RdV m.lA m.locals W
  body : RdB W m.bA m.body
theorem RdM.cell {b off : Nat} {m : Me} {W : World} (h : RdM b off m W) (j : Nat) (v : Value) (hj : 13 ≤ j) (hv : m.cells[j]? = some v) : W.cell? ⟨b, off + j, none⟩ = some v := by
  obtain ⟨t, ht⟩ := h.row
  refine ht j v ?_
  rw [← hv]
  have hlt : j < 17 := by have := (List.getElem?_eq_some_iff.1 hv).1; rwa [Me.cells_len] at this
  rcases (show j = 13 ∨ j = 14 ∨ j = 15 ∨ j = 16 by omega) with rfl | rfl | rfl | rfl <;> rfl
end Go.Proofs.Grow
set_option linter.unusedSimpArgs false
set_option linter.unusedVariables false
namespace Go.Proofs.Grow
open Go.RowKit

/-- The slots of a class's methods. -/
def slMs (A : Option Addr) (c : Int) (l : List Me) : List Sl := (l.mapIdx fun k m => slM (bkA A) (ofA A + k * 17) c k m).flatten
theorem slMs_take (A : Option Addr) (c : Int) (l : List Me) (k : Nat) (h : k < l.length) : slMs A c (l.take (k + 1)) = slMs A c (l.take k) ++ slM (bkA A) (ofA A + k * 17) c k l[k] := by
  unfold slMs
  rw [List.take_succ_eq_append_getElem h, List.mapIdx_concat, List.length_take, Nat.min_eq_left (Nat.le_of_lt h), List.flatten_append]
  simp
theorem slMs_prefix (A : Option Addr) (c : Int) (l : List Me) (k : Nat) : slMs A c (l.take k) <+: slMs A c l := by
  have h : slMs A c l = slMs A c (l.take k ++ l.drop k) := by rw [List.take_append_drop]
  rw [h]
  unfold slMs
  rw [List.mapIdx_append, List.flatten_append]
  exact List.prefix_append _ _
/-- The slots of a class. -/
def slC (i : Nat) (cl : Cl) : List Sl := slV cl.fA i (-1) 0 cl.fields ++ slMs cl.mA i cl.methods
/-- The slots of a program. -/
def slP (l : List Cl) : List Sl := (l.mapIdx fun i cl => slC i cl).flatten
theorem slP_take (l : List Cl) (k : Nat) (h : k < l.length) : slP (l.take (k + 1)) = slP (l.take k) ++ slC k l[k] := by
  unfold slP
  rw [List.take_succ_eq_append_getElem h, List.mapIdx_concat, List.length_take, Nat.min_eq_left (Nat.le_of_lt h), List.flatten_append]
  simp
theorem slP_prefix (l : List Cl) (k : Nat) : slP (l.take k) <+: slP l := by
  have h : slP l = slP (l.take k ++ l.drop k) := by rw [List.take_append_drop]
  rw [h]
  unfold slP
  rw [List.mapIdx_append, List.flatten_append]
  exact List.prefix_append _ _

/-- What is read of a class. -/
structure RdC (cl : Cl) (W : World) : Prop where
  fields : RdV cl.fA cl.fields W
  mlen : cl.methods.length ≤ maxLen
  methods : ∀ k (h : k < cl.methods.length), ∃ b off, cl.mA = some ⟨b, off, none⟩ ∧ RdM b (off + k * 17) cl.methods[k] W
/-- What is read of a program. -/
structure RdP (A : Option Addr) (l : List Cl) (W : World) : Prop where
  len : l.length ≤ maxLen
  at_ : ∀ i (h : i < l.length), ∃ b off, A = some ⟨b, off, none⟩ ∧ b < W.heap.size ∧ W.cell? ⟨b, off + i * 7 + 4, none⟩ = some (.slice l[i].fA l[i].fields.length l[i].fc) ∧ W.cell? ⟨b, off + i * 7 + 5, none⟩ = some (.slice l[i].mA l[i].methods.length l[i].mc)
  each : ∀ cl ∈ l, RdC cl W
end Go.Proofs.Grow
