/- The second inner loop of demesneref12.Types. -/
import Derived.Test.YtmpdmelkbemabaaGreatRefNotes
set_option linter.unusedSimpArgs false
set_option linter.unusedVariables false
namespace Go.Proofs.Grow
open Go.RowKit
theorem wpList_buildV {P : Program} {ops : Array Oper} {rest : List Oper} {o : Oper} {a : Act} {w : World} {Q : Exit → Act → World → Prop} (hg : o.guard = none) (t : TypeId) (parts : List (Nat × Operand)) (ho : o.op = .build t parts.toArray)
    (vals : List (Nat × Value)) (hv : (parts.map fun x => (x.1, a.eval x.2)) = vals) (cells : Array Value) (hf : P.built t vals = some cells) (h : wpList P ops Q rest (a.put o.dst (.agg cells)) w) : wpList P ops Q (o :: rest) a w :=
  wpList_buildL hg t parts ho cells (by rw [hv]; exact hf) h
theorem run_buildV {P : Program} {W : World} {o : Oper} {a : Act} (t : TypeId) (parts : List (Nat × Operand)) (ho : o.op = .build t parts.toArray) (vals : List (Nat × Value)) (hv : (parts.map fun x => (x.1, a.eval x.2)) = vals) (cells : Array Value) (hf : P.built t vals = some cells) :
    (execOp a.eval o).run P W = .ok (.value (.agg cells)) W := by
  have h := run_build (P := P) W t (parts.toArray.map fun (i, x) => (i, a.eval x)) cells (by
    have e : (parts.toArray.map fun (i, x) => (i, a.eval x)).toList = vals := by rw [← hv]; simp
    rw [e]; exact hf)
  unfold execOp
  simp only [ho, Sem.run_bind, h, Result.andThen_ok]
  rfl
theorem wp_lit_one {P : Program} {o : Oper} {a : Act} {w : World} {K : Act → World → Prop} {Q : Exit → Act → World → Prop} (t e : TypeId) (x : Operand) (ho : o.op = .buildSlice t 1 #[(0, x)])
    (cells : Array Value) (hx : a.eval x = .agg cells) (i : TypeInfo) (z : Value) (size : Nat) (hu : P.underlying t = some (.slice e)) (hi : P.info? e = some i) (hz : i.zero = some z) (hsize : i.size = size) (hcs : cells.size = size) (hsz : 0 < size) (hsm : size ≤ 16777216)
    (h : K (a.put o.dst (.slice (some ⟨w.heap.size, 0, none⟩) 1 1)) (w.alloc (.cells cells e))) : o.wp P a w K Q := by
  refine wp_buildSlice t e 1 _ ho cells i z hu hi hz (by rw [hsize]; omega) (by rw [hsize]; omega) ?_ h
  have hf := Great.fill_whole (s := size) hsz [.agg cells] ((Array.range (1 * i.size)).map (z.cells[· % z.cells.size]!)) (by simp [Value.cells, hcs]) (by simp [hsize])
  rw [hsize] at hf ⊢
  have e1 : ((#[(0, x)] : Array (Nat × Operand)).map fun (i, x) => (i, a.eval x)).toList = (([Value.agg cells].zipIdx 0).map fun x => (x.2, x.1)) := by simp [hx]
  have e2 : ([Value.agg cells].flatMap fun v => v.cells.toList).toArray = cells := by simp [Value.cells]
  rw [e1, hf, e2]
theorem Own.lies_ {α : Type} {enc : α → List Value} {w : World} {base size n c : Nat} {e : TypeId} {A : Option Addr} {l : List α} (h : Own w base e size enc (.slice A n c) l) (henc : ∀ a, (enc a).length = size) : Lies w size enc A l := by
  obtain ⟨A', c', he, _, _, h3⟩ := h.lies henc
  cases he
  exact h3
theorem own_ne {α : Type} {enc : α → List Value} {W : World} {base size g : Nat} {e t : TypeId} {v : Value} {l : List α} {cs : Array Value} {fr : Nat × Nat} (h : Own W base e size enc v l) (hr : W.heap[g]? = some (.cells cs t fr)) (hte : t ≠ e) : some g ≠ v.ownBlock := fun e2 => by
  obtain ⟨_, h2⟩ := h
  rcases h2 with ⟨rfl, _⟩ | ⟨g', cap, cur, rfl, _, hh, _⟩
  · cases e2
  · simp [Value.ownBlock] at e2
    subst e2
    rw [hh] at hr
    simp at hr
    exact hte hr.2.1.symm
/-- Two lists of other types: what one grows by leaves the other. -/
theorem Own.aside {α β : Type} {enc : α → List Value} {enc' : β → List Value} {W W' : World} {base base' size size' : Nat} {e t : TypeId} {v u : Value} {l : List α} {m : List β} (h : Own W base e size enc v l) (h2 : Own W base' t size' enc' u m) (hte : t ≠ e) (hg : W.grownBy W' v.ownBlock) : Own W' base' t size' enc' u m := by
  refine h2.keep fun g hgu => ?_
  obtain ⟨_, h3⟩ := h2
  rcases h3 with ⟨rfl, _⟩ | ⟨g', cap, cur, rfl, _, hh, _⟩
  · cases hgu
  · simp [Value.ownBlock] at hgu
    subst hgu
    exact hg.block _ (row_lt hh) (own_ne h hh hte)
end Go.Proofs.Grow
namespace Go.Proofs.YtmpdmelkbemabaaGreat
open Go.RowKit Go.Proofs.Grow

/-- The loops in a code, outer ones first. -/
def loops : Code → List Code
  | .loop c => c :: loops c
  | .seq a b => loops a ++ loops b
  | .block _ c => loops c
  | .scope c => loops c
  | .cond _ a b => loops a ++ loops b
  | _ => []
end Go.Proofs.YtmpdmelkbemabaaGreat
set_option linter.unusedSimpArgs false
set_option linter.unusedVariables false
namespace Go.Proofs.Grow
open Go.RowKit
theorem ln_ty (x : Ln) {i : Nat} {u : Value} (h : x.s.ty.cells[i]? = some u) : x.cells[7 + i]? = some u := by
  obtain ⟨c, m, d, s⟩ := x
  obtain ⟨k, x, y', name, ⟨tk, tc, tn, ⟨k0, n0⟩, ⟨k1, n1⟩, ⟨k2, n2⟩, ⟨k3, n3⟩⟩, ⟨ek, en, ename, eA, ec, kids⟩, aA, ac, args, bA, bc, body, lA, lc, els, pos⟩ := s
  have hj : i < 11 := (List.getElem?_eq_some_iff.1 h).1
  rw [← h]
  rcases (show i = 0 ∨ i = 1 ∨ i = 2 ∨ i = 3 ∨ i = 4 ∨ i = 5 ∨ i = 6 ∨ i = 7 ∨ i = 8 ∨ i = 9 ∨ i = 10 by omega) with rfl | rfl | rfl | rfl | rfl | rfl | rfl | rfl | rfl | rfl | rfl <;> rfl
theorem ln_at7 (x : Ln) : x.cells[7]? = some (.int .i64 x.s.ty.k) := ln_ty x (i := 0) rfl
theorem ln_at25 (x : Ln) : x.cells[25]? = some (.int .i64 x.s.pos) := by
  obtain ⟨c, m, d, s⟩ := x
  obtain ⟨k, x, y', name, ⟨tk, tc, tn, ⟨k0, n0⟩, ⟨k1, n1⟩, ⟨k2, n2⟩, ⟨k3, n3⟩⟩, ⟨ek, en, ename, eA, ec, kids⟩, aA, ac, args, bA, bc, body, lA, lc, els, pos⟩ := s
  rfl
theorem rnB_take_le (c m : Int) (l : List Ln) (k : Nat) : (rnB c m (l.take k)).length ≤ (rnB c m l).length := by
  have h : rnB c m l = rnB c m (l.take k ++ l.drop k) := by rw [List.take_append_drop]
  rw [h]
  unfold rnB
  rw [List.filter_append, List.map_append, List.length_append]
  omega
end Go.Proofs.Grow
namespace Go.Proofs.YtmpdmelkbemabaaGreat
open Go.RowKit Go.Proofs.Grow

end Go.Proofs.YtmpdmelkbemabaaGreat
