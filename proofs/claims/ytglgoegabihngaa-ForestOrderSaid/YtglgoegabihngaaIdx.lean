/- A general lemma of my own: an element of an array's value. -/
import Derived.Test.YtglgoegabihngaaApp
set_option linter.unusedSimpArgs false
set_option linter.unusedVariables false
namespace Go.Proofs.Grow
open Go.RowKit

theorem run_index_arr {P : Program} (W : World) (t e : TypeId) (n : Nat) (cs : Array Value) (k : IntKind) (j : Nat) (i0 : TypeInfo) (ht : P.underlying t = some (.array n e)) (q : IntKind) (hu : P.underlying e = some (.int q)) (hi : P.info? e = some i0) (hsz : i0.size = 1)
    (hj : j < n) (v : Value) (hv : cs[j]? = some v) : (Instr.index t (.agg cs) (.int k j)).run P W = .ok v W := by
  have h1 : (0 : Int) ≤ j ∧ (j : Int) < n := by omega
  have h2 : ((j : Int)).toNat = j := by omega
  simp [Instr.index, asIntOf, run_underlying ht, h1, part, isAgg, run_underlying hu, sizeOf, typeInfo, hi, hsz, h2, hv, hj]

theorem wpList_index_arr {P : Program} {ops : Array Oper} {rest : List Oper} {o : Oper} {a : Act} {w : World} {Q : Exit → Act → World → Prop} (hg : o.guard = none) (t e : TypeId) (n : Nat) (x ix : Operand) (ho : o.op = .index t x ix)
    (cs : Array Value) (k : IntKind) (j : Nat) (hx : a.eval x = .agg cs) (hix : a.eval ix = .int k j) (i0 : TypeInfo) (ht : P.underlying t = some (.array n e)) (q : IntKind) (hu : P.underlying e = some (.int q)) (hi : P.info? e = some i0) (hsz : i0.size = 1)
    (hj : j < n) (v : Value) (hv : cs[j]? = some v) (h : wpList P ops Q rest (a.put o.dst v) w) : wpList P ops Q (o :: rest) a w :=
  wpList_plain hg fun K hK => by
    have hr := run_index_arr w t e n cs k j i0 ht q hu hi hsz hj v hv
    unfold Oper.wp execOp
    simp only [ho, hx, hix, Sem.run_bind, hr, Result.andThen_ok, Sem.run_pure]
    exact hK _ _ h

/-- A list in a block made just now. -/
theorem Lies.fresh {α : Type} {enc : α → List Value} {size : Nat} {e : TypeId} (W : World) (l : List α) (cs : Array Value) (henc : ∀ a, (enc a).length = size) (hcs : cs.toList = l.flatMap enc) : Lies (W.alloc (.cells cs e)) size enc (some ⟨W.heap.size, 0, none⟩) l := fun i hi => by
  refine ⟨_, _, rfl, by simp, fun j v hv => ?_⟩
  have hj : j < size := by rw [← henc l[i]]; exact (List.getElem?_eq_some_iff.1 hv).1
  rw [Nat.zero_add, World.cell?_alloc_at _ _ _ _ rfl, ← Array.getElem?_toList, hcs, flat_at henc l i j hi hj]
  exact hv
end Go.Proofs.Grow
