/- A general lemma of my own: an element of an array's value. -/
import Derived.Test.YtmpdmelkbemabaaGreatApp
set_option linter.unusedSimpArgs false
set_option linter.unusedVariables false
namespace Go.Proofs.Grow
open Go.RowKit

theorem run_index_arr {P : Program} (W : World) (t e : TypeId) (n : Nat) (cs : Array Value) (k : IntKind) (j : Nat) (i0 : TypeInfo) (ht : P.underlying t = some (.array n e)) (q : IntKind) (hu : P.underlying e = some (.int q)) (hi : P.info? e = some i0) (hsz : i0.size = 1)
    (hj : j < n) (v : Value) (hv : cs[j]? = some v) : (Instr.index t (.agg cs) (.int k j)).run P W = .ok v W := by
  have h1 : (0 : Int) ≤ j ∧ (j : Int) < n := by omega
  have h2 : ((j : Int)).toNat = j := by omega
  simp [Instr.index, asIntOf, run_underlying ht, h1, part, isAgg, run_underlying hu, sizeOf, typeInfo, hi, hsz, h2, hv, hj]

theorem wpList_index_arr {P : Program} {ops : Array Oper} {rest : List Oper} {o : Oper} {a : Act} {w : World} {Q : Exit → Act → World → Prop} (hg : o.guard = none) (t e : TypeId) (n : Nat) (x ix : Operand) (ho : o.op = .index t x ix)
    (cs : Array Value) (k : IntKind) (j : Nat) (hx : a.eval x = .agg cs) (hix : a.eval ix = .int k j) (i0 : TypeInfo) (ht : P.underlying t = some (.array n e)) (q : IntKind) (hu : P.underlying e = some (.int q)) (hi : P.info? e = some i0) (hsz : i0.size = 1)
    (hj : j < n) (v : Value) (hv : cs[j]? = some v) (h : wpList P ops Q rest (a.put o.dst v) w) : wpList P ops Q (o :: rest) a w :=
  wpList_plain hg fun K hK => by
    have hr := run_index_arr w t e n cs k j i0 ht q hu hi hsz hj v hv
    unfold Oper.wp execOp
    simp only [ho, hx, hix, Sem.run_bind, hr, Result.andThen_ok, Sem.run_pure]
    exact hK _ _ h

/-- A list in a block made just now. -/
theorem Lies.fresh {α : Type} {enc : α → List Value} {size : Nat} {e : TypeId} (W : World) (l : List α) (cs : Array Value) (henc : ∀ a, (enc a).length = size) (hcs : cs.toList = l.flatMap enc) : Lies (W.alloc (.cells cs e)) size enc (some ⟨W.heap.size, 0, none⟩) l := fun i hi => by
  refine ⟨_, _, rfl, by simp, fun j v hv => ?_⟩
  have hj : j < size := by rw [← henc l[i]]; exact (List.getElem?_eq_some_iff.1 hv).1
  rw [Nat.zero_add, World.cell?_alloc_at _ _ _ _ rfl, ← Array.getElem?_toList, hcs, flat_at henc l i j hi hj]
  exact hv
theorem own_store2 {α : Type} {enc : α → List Value} {W : World} {base size g : Nat} {e : TypeId} {v u : Value} {l : List α} (h : Own W base e size enc v l) (hne : v.ownBlock ≠ some g) (j : Nat) : Own (W.setCell ⟨g, j, none⟩ u) base e size enc v l := by
  obtain ⟨h1, h2⟩ := h
  refine ⟨h1, ?_⟩
  rcases h2 with h2 | ⟨g', cap, cur, rfl, hb, hh, hr⟩
  · exact .inl h2
  · refine .inr ⟨g', cap, cur, rfl, hb, (Below.heap_setCell W ⟨g, j, none⟩ u g' (fun e => hne (by simp [Value.ownBlock, e]))).trans hh, hr⟩
theorem row_store {W : World} {g : Nat} {t : TypeId} {cs : Array Value} (h : W.heap[g]? = some (.cells cs t (0, 0))) (j : Nat) (u : Value) : (W.setCell ⟨g, j, none⟩ u).heap[g]? = some (.cells (cs.setIfInBounds j u) t (0, 0)) := by
  simp [World.setCell, Array.getElem?_modify, h]
theorem row_cell {W : World} {g : Nat} {t : TypeId} {cs : List Value} (h : W.heap[g]? = some (.cells cs.toArray t (0, 0))) {j : Nat} {u : Value} (hj : cs[j]? = some u) : W.cell? ⟨g, j, none⟩ = some u ∧ W.frozen? ⟨g, j, none⟩ = false :=
  ⟨(cell_of_row W g j _ _ _ h).trans (by simpa using hj), by simp [World.frozen?, h]⟩
theorem row_lt {W : World} {g : Nat} {o : Obj} (h : W.heap[g]? = some o) : g < W.heap.size := (Array.getElem?_eq_some_iff.1 h).1
theorem Own.weaken {α : Type} {enc : α → List Value} {w : World} {base base' size : Nat} {e : TypeId} {v : Value} {l : List α} (h : Own w base e size enc v l) (hb : base' ≤ base) : Own w base' e size enc v l := by
  obtain ⟨h1, h2⟩ := h
  refine ⟨h1, ?_⟩
  rcases h2 with h2 | ⟨g, cap, cur, hv, hb', hr⟩
  · exact .inl h2
  · exact .inr ⟨g, cap, cur, hv, Nat.le_trans hb hb', hr⟩
end Go.Proofs.Grow
