/- The program's slots and lines as Lean lists; what an iterator reads of the program. -/
import Derived.Test.YtmpdmelkbemabaaSeqO
import Derived.Test.YtmpdmelkbemabaaTillIn
import Derived.Test.YtmpdmelkbemabaaCls
import Derived.Test.YtmpdmelkbemabaaIdx
import Derived.Test.YtmpdmelkbemabaaReg
set_option linter.unusedSimpArgs false
set_option linter.unusedVariables false
namespace Go.Proofs.Grow
open Go.RowKit

/-- Where a slice lies. -/
def bkA : Option Addr → Nat | some a => a.block | none => 0
def ofA : Option Addr → Nat | some a => a.off | none => 0

/-- arena.Note, its type left empty: class, method, variable, place. -/
def noteCells (c m v p : Int) : List Value := [.int .i64 c, .int .i64 m, .int .i64 v, .int .i64 0, .string ⟨#[]⟩, .int .i64 0, .int .i64 0, .int .i64 0, .int .i64 0, .int .i64 0, .int .i64 0, .int .i64 0, .int .i64 0, .int .i64 0, .int .i64 p]
theorem noteCells_len (c m v p : Int) : (noteCells c m v p).length = 15 := rfl
theorem noteCells_one (c m v p : Int) : ∀ u ∈ noteCells c m v p, u.oneCell' = true := by
  intro u hu
  simp [noteCells] at hu
  rcases hu with rfl | rfl | rfl | rfl | rfl | rfl | rfl | rfl | rfl | rfl | rfl | rfl | rfl | rfl | rfl <;> rfl

/-- arena.slot: where the type lies (block b, from off on); the type is a ghost. -/
structure Sl where
  b : Nat
  off : Nat
  st : Bool
  c : Int
  m : Int
  v : Int
  p : Int
  ty : Ty
def Sl.cells (s : Sl) : List Value := .pointer (some ⟨s.b, s.off, none⟩) :: .bool s.st :: noteCells s.c s.m s.v s.p
def Sl.args (s : Sl) : Array Value := #[.agg s.cells.toArray]

/-- The slots of variables. -/
def slV (A : Option Addr) (c m f : Int) (l : List Va) : List Sl := l.mapIdx fun i v => ⟨bkA A, ofA A + i * 13 + 1, false, c, m, IntKind.i64.wrap (f + i), v.pos, v.ty⟩
theorem slV_take (A : Option Addr) (c m f : Int) (l : List Va) (k : Nat) (h : k < l.length) : slV A c m f (l.take (k + 1)) = slV A c m f (l.take k) ++ [⟨bkA A, ofA A + k * 13 + 1, false, c, m, IntKind.i64.wrap (f + k), l[k].pos, l[k].ty⟩] := by
  unfold slV
  rw [List.take_succ_eq_append_getElem h, List.mapIdx_concat, List.length_take, Nat.min_eq_left (Nat.le_of_lt h)]
theorem slV_prefix (A : Option Addr) (c m f : Int) (l : List Va) (k : Nat) : slV A c m f (l.take k) <+: slV A c m f l := by
  have h : slV A c m f l = slV A c m f (l.take k ++ l.drop k) := by rw [List.take_append_drop]
  rw [h]
  unfold slV
  rw [List.mapIdx_append]
  exact List.prefix_append _ _

/-- What is read of variables. -/
structure RdV (A : Option Addr) (l : List Va) (W : World) : Prop where
  len : l.length ≤ maxLen
  at_ : ∀ i (h : i < l.length), ∃ b off, A = some ⟨b, off, none⟩ ∧ b < W.heap.size ∧ W.cell? ⟨b, off + i * 13 + 12, none⟩ = some (.int .i64 l[i].pos)
end Go.Proofs.Grow
