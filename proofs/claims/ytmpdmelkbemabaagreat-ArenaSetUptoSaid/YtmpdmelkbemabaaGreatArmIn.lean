/- Arms of the walk inside a fence: whole structs loaded, stored; a slice literal of one struct; append of a list. -/
import Derived.Test.YtmpdmelkbemabaaGreatTillIn
import Derived.Test.YtmpdmelkbemabaaGreatSet
set_option linter.unusedSimpArgs false
set_option linter.unusedVariables false
namespace Go.Proofs.Grow
open Go.RowKit

section
variable {F : Fence} {n : Nat} {P : Program} {ops : Array Oper} {Q : Exit → Act → World → Prop}
theorem opIn_store_mid {o : Oper} {a : Act} {w : World} {K : Act → World → Prop} (hF : ∀ f, F.fn f) (ty : TypeId) (x y : Operand) (ho : o.op = .store ty x y) (b off : Nat) (cells : Array Value) (hx : a.eval x = .pointer (some ⟨b, off, none⟩)) (hy : a.eval y = .agg cells)
    (ht : w.there b off cells.size) (hi : (P.info? ty).map (·.size) = some cells.size) (h1 : cells.all (·.oneCell') = true) (h : K (a.put o.dst undef) (w.setCells b off cells.toList)) : o.wpIn F n P a w K Q := by
  unfold Oper.wpIn
  rw [Oper.semAt_plain F _ o (by rw [ho]; intro c h; cases h)]
  refine ⟨fun f _ => hF f, ?_⟩
  unfold execOp
  simp only [ho, hx, hy, Instr.storeAt, Instr.sureAddr, Sem.run_bind, Sem.run_pure, Result.andThen_ok, run_storeVar_mid w b off ty cells ht hi h1]
  exact h
theorem wpListIn_store_mid {rest : List Oper} {o : Oper} {a : Act} {w : World} (hF : ∀ f, F.fn f) (hg : o.guard = none) (ty : TypeId) (x y : Operand) (ho : o.op = .store ty x y) (b off : Nat) (cells : Array Value) (hx : a.eval x = .pointer (some ⟨b, off, none⟩)) (hy : a.eval y = .agg cells)
    (ht : w.there b off cells.size) (hi : (P.info? ty).map (·.size) = some cells.size) (h1 : cells.all (·.oneCell') = true) (h : wpListIn F n P ops Q rest (a.put o.dst undef) (w.setCells b off cells.toList)) : wpListIn F n P ops Q (o :: rest) a w :=
  wpListIn_plain hg fun K hK => opIn_store_mid hF ty x y ho b off cells hx hy ht hi h1 (hK _ _ h)
theorem wpListIn_load_mid {rest : List Oper} {o : Oper} {a : Act} {w : World} (hF : ∀ f, F.fn f) (hg : o.guard = none) (ty : TypeId) (x : Operand) (ho : o.op = .load ty x) (b off : Nat) (hx : a.eval x = .pointer (some ⟨b, off, none⟩)) (cs : List Value) (d : TypeDesc) (hc : w.rangeAt b off cs)
    (hu : P.underlying ty = some d) (hd : d.isRow = true) (hi : (P.info? ty).map (·.size) = some cs.length) (h : wpListIn F n P ops Q rest (a.put o.dst (.agg cs.toArray)) w) : wpListIn F n P ops Q (o :: rest) a w :=
  wpListIn_run hF hg (by rw [ho]; intro c h; cases h) (run_load_mid ho hx hc hu hd hi) h
theorem run_lit_one {o : Oper} {a : Act} {w : World} (t e : TypeId) (x : Operand) (ho : o.op = .buildSlice t 1 #[(0, x)])
    (cells : Array Value) (hx : a.eval x = .agg cells) (i : TypeInfo) (z : Value) (size : Nat) (hu : P.underlying t = some (.slice e)) (hi : P.info? e = some i) (hz : i.zero = some z) (hsize : i.size = size) (hcs : cells.size = size) (hsz : 0 < size) (hsm : size ≤ 16777216) :
    (execOp a.eval o).run P w = .ok (.value (.slice (some ⟨w.heap.size, 0, none⟩) 1 1)) (w.alloc (.cells cells e)) := by
  have hf : Instr.fill (fun j => some (j * i.size, i.size)) ((Array.range (1 * i.size)).map (z.cells[· % z.cells.size]!)) ((#[(0, x)] : Array (Nat × Operand)).map fun (j, x) => (j, a.eval x)).toList = some cells := by
    have hf := Great.fill_whole (s := size) hsz [.agg cells] ((Array.range (1 * i.size)).map (z.cells[· % z.cells.size]!)) (by simp [Value.cells, hcs]) (by simp [hsize])
    rw [hsize] at hf ⊢
    have e1 : ((#[(0, x)] : Array (Nat × Operand)).map fun (j, x) => (j, a.eval x)).toList = (([Value.agg cells].zipIdx 0).map fun x => (x.2, x.1)) := by simp [hx]
    have e2 : ([Value.agg cells].flatMap fun v => v.cells.toList).toArray = cells := by simp [Value.cells]
    rw [e1, hf, e2]
  unfold execOp
  simp only [ho, Sem.run_bind, run_buildSlice w t e 1 _ cells i z hu hi hz (by rw [hsize]; omega) (by rw [hsize]; omega) hf, Result.andThen_ok]
  rfl
theorem wpListIn_lit_one {rest : List Oper} {o : Oper} {a : Act} {w : World} (hF : ∀ f, F.fn f) (hg : o.guard = none) (t e : TypeId) (x : Operand) (ho : o.op = .buildSlice t 1 #[(0, x)])
    (cells : Array Value) (hx : a.eval x = .agg cells) (i : TypeInfo) (z : Value) (size : Nat) (hu : P.underlying t = some (.slice e)) (hi : P.info? e = some i) (hz : i.zero = some z) (hsize : i.size = size) (hcs : cells.size = size) (hsz : 0 < size) (hsm : size ≤ 16777216)
    (h : wpListIn F n P ops Q rest (a.put o.dst (.slice (some ⟨w.heap.size, 0, none⟩) 1 1)) (w.alloc (.cells cells e))) : wpListIn F n P ops Q (o :: rest) a w :=
  wpListIn_run hF hg (by rw [ho]; intro c h; cases h) (run_lit_one t e x ho cells hx i z size hu hi hz hsize hcs hsz hsm) h
theorem wpListIn_append_list {α : Type} (W : World) {rest : List Oper} {o : Oper} {a : Act} {enc : α → List Value} (hF : ∀ f, F.fn f) (hg : o.guard = none) (s x : Operand) (t : TypeId)
    (ho : o.op = .call { callee := .builtin .append, args := #[s, x], argTypes := #[t, t] })
    (base : Nat) (e : TypeId) (i : TypeInfo) (z : Value) (size bytes : Nat) (ht : P.underlying t = some (.slice e)) (hi : P.info? e = some i) (hz : i.zero = some z)
    (hsize : i.size = size) (hby : i.bytes = bytes) (hzs : z.cells.size = size) (hsz : 0 < size) (henc : ∀ a, (enc a).length = size) (hone : ∀ a, ∀ u ∈ enc a, u.oneCell' = true)
    (v : Value) (l : List α) (hs : a.eval s = v) (hown : Own W base e size enc v l) (A : Option Addr) (k c : Nat) (m : List α) (hx : a.eval x = .slice A k c) (hn : k = m.length) (hm : Lies W size enc A m)
    (h63 : l.length + m.length ≤ maxLen) (hbytes : (l.length + m.length) * bytes ≤ 140737488355328) (hbase : base ≤ W.heap.size)
    (h : ∀ v' w', Own w' base e size enc v' (l ++ m) → W.grownBy w' v.ownBlock → (v'.ownBlock = v.ownBlock ∨ v'.ownBlock = some W.heap.size) → wpListIn F n P ops Q rest (a.put o.dst v') w') : wpListIn F n P ops Q (o :: rest) a W := by
  subst hn
  obtain ⟨v', w', hr, h1, h2, h3⟩ := run_append_list (P := P) W base t o.type e i z size bytes ht hi hz hsize hby hzs hsz henc hone v l hown A c m hm h63 hbytes hbase
  refine wpListIn_plain hg fun K hK => ?_
  unfold Oper.wpIn
  refine ⟨fun f _ => hF f, ?_⟩
  rw [Oper.semAt_plain F _ _ (by rw [ho]; intro c hc'; cases hc')]
  simp [execOp, ho, resolve, invoke, builtin, hs, hx, hr, Result.andThen]
  exact hK _ _ (h v' w' h1 h2 h3)
end
end Go.Proofs.Grow
