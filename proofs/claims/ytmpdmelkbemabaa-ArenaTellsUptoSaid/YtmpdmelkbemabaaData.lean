/- The program's data as Lean data: what a value's cells are; where the slices inside lie. -/
import Derived.Test.YtmpdmelkbemabaaApp
set_option linter.unusedSimpArgs false
set_option linter.unusedVariables false
namespace Go.Proofs.Grow
open Go.RowKit

/-- api.Owner -/
structure Ow where
  k : Int
  n : Int
def Ow.cells (o : Ow) : List Value := [.int .i64 o.k, .int .i64 o.n]
theorem Ow.cells_len (o : Ow) : o.cells.length = 2 := rfl
theorem Ow.cells_one (o : Ow) : ∀ u ∈ o.cells, u.oneCell' = true := by
  intro u hu; simp [Ow.cells] at hu; rcases hu with rfl | rfl <;> rfl

/-- api.Type -/
structure Ty where
  k : Int
  cls : ByteArray
  n : Int
  o0 : Ow
  o1 : Ow
  o2 : Ow
  o3 : Ow
def Ty.cells (t : Ty) : List Value := [.int .i64 t.k, .string t.cls, .int .i64 t.n, .int .i64 t.o0.k, .int .i64 t.o0.n, .int .i64 t.o1.k, .int .i64 t.o1.n, .int .i64 t.o2.k, .int .i64 t.o2.n, .int .i64 t.o3.k, .int .i64 t.o3.n]
theorem Ty.cells_len (t : Ty) : t.cells.length = 11 := rfl

def Ty.own (t : Ty) : List Ow := [t.o0, t.o1, t.o2, t.o3]
def Ty.count (t : Ty) : Int := max 0 (min t.n 3)
def Ty.owners (t : Ty) : List Ow := if t.k = 2 then t.own.take (t.count.toNat + 1) else []

theorem Ty.count_cases (t : Ty) : (t.n ≤ 0 ∧ t.count = 0) ∨ (t.n = 1 ∧ t.count = 1) ∨ (t.n = 2 ∧ t.count = 2) ∨ (t.n = 3 ∧ t.count = 3) ∨ (4 ≤ t.n ∧ t.count = 3) := by
  unfold Ty.count; omega

theorem Ty.own_len (t : Ty) : t.own.length = 4 := rfl

/-- api.Var -/
structure Va where
  name : ByteArray
  ty : Ty
  pos : Int
def Va.cells (v : Va) : List Value := .string v.name :: (v.ty.cells ++ [.int .i64 v.pos])

/-- api.Expr; a slice inside with its address and capacity. -/
inductive Ex where
  | mk (k num : Int) (name : ByteArray) (A : Option Addr) (c : Nat) (kids : List Ex)
def Ex.cells : Ex → List Value
  | .mk k num name A c kids => [.int .i64 k, .int .i64 num, .string name, .slice A kids.length c]
theorem Ex.cells_len (e : Ex) : e.cells.length = 4 := by cases e; rfl

/-- api.Stmt -/
inductive St where
  | mk (k : Int) (x y name : ByteArray) (ty : Ty) (e : Ex) (aA : Option Addr) (ac : Nat) (args : List Ex) (bA : Option Addr) (bc : Nat) (body : List St) (eA : Option Addr) (ec : Nat) (els : List St) (pos : Int)
def St.cells : St → List Value
  | .mk k x y name ty e aA ac args bA bc body eA ec els pos =>
    [.int .i64 k, .string x, .string y, .string name] ++ (ty.cells ++ (e.cells ++ [.slice aA args.length ac, .slice bA body.length bc, .slice eA els.length ec, .int .i64 pos]))
theorem St.cells_len (s : St) : s.cells.length = 23 := by
  cases s; simp [St.cells, Ty.cells_len, Ex.cells_len]

/-- What lies behind an expression's slices. -/
inductive ExIn (w : World) : Ex → Prop
  | mk {k num : Int} {name : ByteArray} {A : Option Addr} {c : Nat} {kids : List Ex} (h : Lies w 4 Ex.cells A kids) (hc : kids.length ≤ c) (hm : c ≤ maxLen) (hn : name.size ≤ maxLen) (hk : ∀ e ∈ kids, ExIn w e) : ExIn w (.mk k num name A c kids)
inductive StIn (w : World) : St → Prop
  | mk {k : Int} {x y name : ByteArray} {ty : Ty} {e : Ex} {aA : Option Addr} {ac : Nat} {args : List Ex} {bA : Option Addr} {bc : Nat} {body : List St} {eA : Option Addr} {ec : Nat} {els : List St} {pos : Int}
      (he : ExIn w e) (ha : Lies w 4 Ex.cells aA args) (hac : args.length ≤ ac) (ham : ac ≤ maxLen) (hai : ∀ e ∈ args, ExIn w e)
      (hb : Lies w 23 St.cells bA body) (hbc : body.length ≤ bc) (hbm : bc ≤ maxLen) (hbi : ∀ s ∈ body, StIn w s)
      (hl : Lies w 23 St.cells eA els) (hlc : els.length ≤ ec) (hlm : ec ≤ maxLen) (hli : ∀ s ∈ els, StIn w s) (hs : x.size ≤ maxLen ∧ y.size ≤ maxLen ∧ name.size ≤ maxLen ∧ ty.cls.size ≤ maxLen) : StIn w (.mk k x y name ty e aA ac args bA bc body eA ec els pos)

theorem ExIn.ext {w : World} {e : Ex} (h : ExIn w e) (x : Ext w) : ExIn x.val e := by
  induction h with
  | mk h hc hm hn _ ih => exact .mk (h.ext x) hc hm hn ih
theorem StIn.ext {w : World} {s : St} (h : StIn w s) (x : Ext w) : StIn x.val s := by
  induction h with
  | mk he ha hac ham hai hb hbc hbm _ hl hlc hlm _ hs ihb ihl => exact .mk (he.ext x) (ha.ext x) hac ham (fun e h => (hai e h).ext x) (hb.ext x) hbc hbm ihb (hl.ext x) hlc hlm ihl hs
end Go.Proofs.Grow
