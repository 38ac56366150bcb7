/- api.Method, api.Class as Lean data. -/
import Derived.Test.YtmpdmelkbemabaaGreatApp
set_option linter.unusedSimpArgs false
set_option linter.unusedVariables false
namespace Go.Proofs.Grow
open Go.RowKit

/-- api.Owner -/
structure Ow where
  k : Int
  n : Int
def Ow.cells (o : Ow) : List Value := [.int .i64 o.k, .int .i64 o.n]
theorem Ow.cells_len (o : Ow) : o.cells.length = 2 := rfl
theorem Ow.cells_one (o : Ow) : ∀ u ∈ o.cells, u.oneCell' = true := by
  intro u hu; simp [Ow.cells] at hu; rcases hu with rfl | rfl <;> rfl

/-- api.Type -/
structure Ty where
  k : Int
  cls : ByteArray
  n : Int
  o0 : Ow
  o1 : Ow
  o2 : Ow
  o3 : Ow
def Ty.cells (t : Ty) : List Value := [.int .i64 t.k, .string t.cls, .int .i64 t.n, .int .i64 t.o0.k, .int .i64 t.o0.n, .int .i64 t.o1.k, .int .i64 t.o1.n, .int .i64 t.o2.k, .int .i64 t.o2.n, .int .i64 t.o3.k, .int .i64 t.o3.n]
theorem Ty.cells_len (t : Ty) : t.cells.length = 11 := rfl

def Ty.own (t : Ty) : List Ow := [t.o0, t.o1, t.o2, t.o3]
def Ty.count (t : Ty) : Int := max 0 (min t.n 3)
def Ty.owners (t : Ty) : List Ow := if t.k = 2 then t.own.take (t.count.toNat + 1) else []

theorem Ty.count_cases (t : Ty) : (t.n ≤ 0 ∧ t.count = 0) ∨ (t.n = 1 ∧ t.count = 1) ∨ (t.n = 2 ∧ t.count = 2) ∨ (t.n = 3 ∧ t.count = 3) ∨ (4 ≤ t.n ∧ t.count = 3) := by
  unfold Ty.count; omega

theorem Ty.own_len (t : Ty) : t.own.length = 4 := rfl

/-- api.Var -/
structure Va where
  name : ByteArray
  ty : Ty
  pos : Int
def Va.cells (v : Va) : List Value := .string v.name :: (v.ty.cells ++ [.int .i64 v.pos])

/-- api.Expr; a slice inside with its address and capacity. -/
inductive Ex where
  | mk (k num : Int) (name : ByteArray) (A : Option Addr) (c : Nat) (kids : List Ex)
def Ex.cells : Ex → List Value
  | .mk k num name A c kids => [.int .i64 k, .int .i64 num, .string name, .slice A kids.length c]
theorem Ex.cells_len (e : Ex) : e.cells.length = 4 := by cases e; rfl

/-- api.Stmt -/
inductive St where
  | mk (k : Int) (x y name : ByteArray) (ty : Ty) (e : Ex) (aA : Option Addr) (ac : Nat) (args : List Ex) (bA : Option Addr) (bc : Nat) (body : List St) (eA : Option Addr) (ec : Nat) (els : List St) (pos : Int)
def St.cells : St → List Value
  | .mk k x y name ty e aA ac args bA bc body eA ec els pos =>
    [.int .i64 k, .string x, .string y, .string name] ++ (ty.cells ++ (e.cells ++ [.slice aA args.length ac, .slice bA body.length bc, .slice eA els.length ec, .int .i64 pos]))
theorem St.cells_len (s : St) : s.cells.length = 23 := by
  cases s; simp [St.cells, Ty.cells_len, Ex.cells_len]

/-- What lies behind an expression's slices. -/
inductive ExIn (w : World) : Ex → Prop
  | mk {k num : Int} {name : ByteArray} {A : Option Addr} {c : Nat} {kids : List Ex} (h : Lies w 4 Ex.cells A kids) (hc : kids.length ≤ c) (hm : c ≤ maxLen) (hn : name.size ≤ maxLen) (hk : ∀ e ∈ kids, ExIn w e) : ExIn w (.mk k num name A c kids)
inductive StIn (w : World) : St → Prop
  | mk {k : Int} {x y name : ByteArray} {ty : Ty} {e : Ex} {aA : Option Addr} {ac : Nat} {args : List Ex} {bA : Option Addr} {bc : Nat} {body : List St} {eA : Option Addr} {ec : Nat} {els : List St} {pos : Int}
      (he : ExIn w e) (ha : Lies w 4 Ex.cells aA args) (hac : args.length ≤ ac) (ham : ac ≤ maxLen) (hai : ∀ e ∈ args, ExIn w e)
      (hb : Lies w 23 St.cells bA body) (hbc : body.length ≤ bc) (hbm : bc ≤ maxLen) (hbi : ∀ s ∈ body, StIn w s)
      (hl : Lies w 23 St.cells eA els) (hlc : els.length ≤ ec) (hlm : ec ≤ maxLen) (hli : ∀ s ∈ els, StIn w s) (hs : x.size ≤ maxLen ∧ y.size ≤ maxLen ∧ name.size ≤ maxLen ∧ ty.cls.size ≤ maxLen) : StIn w (.mk k x y name ty e aA ac args bA bc body eA ec els pos)

theorem ExIn.ext {w : World} {e : Ex} (h : ExIn w e) (x : Ext w) : ExIn x.val e := by
  induction h with
  | mk h hc hm hn _ ih => exact .mk (h.ext x) hc hm hn ih
theorem StIn.ext {w : World} {s : St} (h : StIn w s) (x : Ext w) : StIn x.val s := by
  induction h with
  | mk he ha hac ham hai hb hbc hbm _ hl hlc hlm _ hs ihb ihl => exact .mk (he.ext x) (ha.ext x) hac ham (fun e h => (hai e h).ext x) (hb.ext x) hbc hbm ihb (hl.ext x) hlc hlm ihl hs
end Go.Proofs.Grow
set_option linter.unusedSimpArgs false
set_option linter.unusedVariables false
namespace Go.Proofs.Grow
open Go.RowKit

/-- api.Method -/
structure Me where
  name : ByteArray
  pure : Bool
  ret : Ty
  pA : Option Addr
  pc : Nat
  params : List Va
  lA : Option Addr
  lc : Nat
  locals : List Va
  bA : Option Addr
  bc : Nat
  body : List St
  pos : Int
def Me.cells (m : Me) : List Value := .string m.name :: .bool m.pure :: (m.ret.cells ++ [.slice m.pA m.params.length m.pc, .slice m.lA m.locals.length m.lc, .slice m.bA m.body.length m.bc, .int .i64 m.pos])
theorem Me.cells_len (m : Me) : m.cells.length = 17 := rfl
structure MeIn (w : World) (m : Me) : Prop where
  params : Lies w 13 Va.cells m.pA m.params
  pc : m.params.length ≤ m.pc
  pm : m.pc ≤ maxLen
  locals : Lies w 13 Va.cells m.lA m.locals
  lc : m.locals.length ≤ m.lc
  lm : m.lc ≤ maxLen
  body : Lies w 23 St.cells m.bA m.body
  bc : m.body.length ≤ m.bc
  bm : m.bc ≤ maxLen
  stmts : ∀ s ∈ m.body, StIn w s
theorem MeIn.ext {w : World} {m : Me} (h : MeIn w m) (x : Ext w) : MeIn x.val m :=
  ⟨h.params.ext x, h.pc, h.pm, h.locals.ext x, h.lc, h.lm, h.body.ext x, h.bc, h.bm, fun s hs => (h.stmts s hs).ext x⟩

/-- api.Class -/
structure Cl where
  name : ByteArray
  pA : Option Addr
  pc : Nat
  params : List ByteArray
  super : ByteArray
  aA : Option Addr
  ac : Nat
  above : List Ow
  fA : Option Addr
  fc : Nat
  fields : List Va
  mA : Option Addr
  mc : Nat
  methods : List Me
  pos : Int
def Cl.cells (c : Cl) : List Value := [.string c.name, .slice c.pA c.params.length c.pc, .string c.super, .slice c.aA c.above.length c.ac, .slice c.fA c.fields.length c.fc, .slice c.mA c.methods.length c.mc, .int .i64 c.pos]
theorem Cl.cells_len (c : Cl) : c.cells.length = 7 := rfl
def encStr (s : ByteArray) : List Value := [.string s]
structure ClIn (w : World) (c : Cl) : Prop where
  params : Lies w 1 encStr c.pA c.params
  pc : c.params.length ≤ c.pc
  pm : c.pc ≤ maxLen
  above : Lies w 2 Ow.cells c.aA c.above
  ac : c.above.length ≤ c.ac
  am : c.ac ≤ maxLen
  fields : Lies w 13 Va.cells c.fA c.fields
  fc : c.fields.length ≤ c.fc
  fm : c.fc ≤ maxLen
  methods : Lies w 17 Me.cells c.mA c.methods
  mc : c.methods.length ≤ c.mc
  mm : c.mc ≤ maxLen
  each : ∀ m ∈ c.methods, MeIn w m
theorem ClIn.ext {w : World} {c : Cl} (h : ClIn w c) (x : Ext w) : ClIn x.val c :=
  ⟨h.params.ext x, h.pc, h.pm, h.above.ext x, h.ac, h.am, h.fields.ext x, h.fc, h.fm, h.methods.ext x, h.mc, h.mm, fun m hm => (h.each m hm).ext x⟩
theorem Cl.cells_one (c : Cl) : ∀ u ∈ c.cells, u.oneCell' = true := by
  intro u hu
  simp [Cl.cells] at hu
  rcases hu with rfl | rfl | rfl | rfl | rfl | rfl | rfl <;> rfl
theorem Me.cells_one (m : Me) : ∀ u ∈ m.cells, u.oneCell' = true := by
  intro u hu
  simp [Me.cells, Ty.cells] at hu
  rcases hu with rfl | rfl | rfl | rfl | rfl | rfl | rfl | rfl | rfl | rfl | rfl | rfl | rfl | rfl | rfl | rfl | rfl <;> rfl
end Go.Proofs.Grow
