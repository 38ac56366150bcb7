/- api.Method, api.Class as Lean data. -/
import Derived.Test.YtmpdmelkbemabaaData
set_option linter.unusedSimpArgs false
set_option linter.unusedVariables false
namespace Go.Proofs.Grow
open Go.RowKit

/-- api.Method -/
structure Me where
  name : ByteArray
  pure : Bool
  ret : Ty
  pA : Option Addr
  pc : Nat
  params : List Va
  lA : Option Addr
  lc : Nat
  locals : List Va
  bA : Option Addr
  bc : Nat
  body : List St
  pos : Int
def Me.cells (m : Me) : List Value := .string m.name :: .bool m.pure :: (m.ret.cells ++ [.slice m.pA m.params.length m.pc, .slice m.lA m.locals.length m.lc, .slice m.bA m.body.length m.bc, .int .i64 m.pos])
theorem Me.cells_len (m : Me) : m.cells.length = 17 := rfl
structure MeIn (w : World) (m : Me) : Prop where
  params : Lies w 13 Va.cells m.pA m.params
  pc : m.params.length ≤ m.pc
  pm : m.pc ≤ maxLen
  locals : Lies w 13 Va.cells m.lA m.locals
  lc : m.locals.length ≤ m.lc
  lm : m.lc ≤ maxLen
  body : Lies w 23 St.cells m.bA m.body
  bc : m.body.length ≤ m.bc
  bm : m.bc ≤ maxLen
  stmts : ∀ s ∈ m.body, StIn w s
theorem MeIn.ext {w : World} {m : Me} (h : MeIn w m) (x : Ext w) : MeIn x.val m :=
  ⟨h.params.ext x, h.pc, h.pm, h.locals.ext x, h.lc, h.lm, h.body.ext x, h.bc, h.bm, fun s hs => (h.stmts s hs).ext x⟩

/-- api.Class -/
structure Cl where
  name : ByteArray
  pA : Option Addr
  pc : Nat
  params : List ByteArray
  super : ByteArray
  aA : Option Addr
  ac : Nat
  above : List Ow
  fA : Option Addr
  fc : Nat
  fields : List Va
  mA : Option Addr
  mc : Nat
  methods : List Me
  pos : Int
def Cl.cells (c : Cl) : List Value := [.string c.name, .slice c.pA c.params.length c.pc, .string c.super, .slice c.aA c.above.length c.ac, .slice c.fA c.fields.length c.fc, .slice c.mA c.methods.length c.mc, .int .i64 c.pos]
theorem Cl.cells_len (c : Cl) : c.cells.length = 7 := rfl
def encStr (s : ByteArray) : List Value := [.string s]
structure ClIn (w : World) (c : Cl) : Prop where
  params : Lies w 1 encStr c.pA c.params
  pc : c.params.length ≤ c.pc
  pm : c.pc ≤ maxLen
  above : Lies w 2 Ow.cells c.aA c.above
  ac : c.above.length ≤ c.ac
  am : c.ac ≤ maxLen
  fields : Lies w 13 Va.cells c.fA c.fields
  fc : c.fields.length ≤ c.fc
  fm : c.fc ≤ maxLen
  methods : Lies w 17 Me.cells c.mA c.methods
  mc : c.methods.length ≤ c.mc
  mm : c.mc ≤ maxLen
  each : ∀ m ∈ c.methods, MeIn w m
theorem ClIn.ext {w : World} {c : Cl} (h : ClIn w c) (x : Ext w) : ClIn x.val c :=
  ⟨h.params.ext x, h.pc, h.pm, h.above.ext x, h.ac, h.am, h.fields.ext x, h.fc, h.fm, h.methods.ext x, h.mc, h.mm, fun m hm => (h.each m hm).ext x⟩
theorem Cl.cells_one (c : Cl) : ∀ u ∈ c.cells, u.oneCell' = true := by
  intro u hu
  simp [Cl.cells] at hu
  rcases hu with rfl | rfl | rfl | rfl | rfl | rfl | rfl <;> rfl
theorem Me.cells_one (m : Me) : ∀ u ∈ m.cells, u.oneCell' = true := by
  intro u hu
  simp [Me.cells, Ty.cells] at hu
  rcases hu with rfl | rfl | rfl | rfl | rfl | rfl | rfl | rfl | rfl | rfl | rfl | rfl | rfl | rfl | rfl | rfl | rfl <;> rfl
end Go.Proofs.Grow
