/- Where the walk of demesnelaw34.walk stands. -/
import Derived.Test.YtlgnjbocdmbeiaaTurn
import Derived.Maps.RangeWalk
set_option linter.unusedSimpArgs false
set_option linter.unusedVariables false
namespace Go.Proofs.Ytlgnjbocdmbeiaa
open Go.RowKit Go.Proofs.Grow

theorem st_one (s : St) : ∀ u ∈ s.cells, u.oneCell' = true := by
  obtain ⟨k, x, y, name, ⟨tk, tc, tn, ⟨k0, n0⟩, ⟨k1, n1⟩, ⟨k2, n2⟩, ⟨k3, n3⟩⟩, ⟨ek, en, ename, eA, ec, kids⟩, aA, ac, args, bA, bc, body, lA, lc, els, pos⟩ := s
  intro u hu
  simp only [St.cells, Ty.cells, Ex.cells, List.cons_append, List.nil_append, List.mem_cons, List.not_mem_nil, or_false] at hu
  rcases hu with rfl | rfl | rfl | rfl | rfl | rfl | rfl | rfl | rfl | rfl | rfl | rfl | rfl | rfl | rfl | rfl | rfl | rfl | rfl | rfl | rfl | rfl | rfl <;> rfl
/-- The cells of a statement that are read. -/
theorem st_at (s : St) : s.cells[0]? = some (.int .i64 s.k) ∧ (∃ A c, s.cells[20]? = some (.slice A s.body.length c) ∧ ∀ w, StIn w s → Lies w 23 St.cells A s.body ∧ s.body.length ≤ c ∧ c ≤ maxLen ∧ ∀ t ∈ s.body, StIn w t) ∧
    (∃ A c, s.cells[21]? = some (.slice A s.els.length c) ∧ ∀ w, StIn w s → Lies w 23 St.cells A s.els ∧ s.els.length ≤ c ∧ c ≤ maxLen ∧ ∀ t ∈ s.els, StIn w t) := by
  obtain ⟨k, x, y, name, ⟨tk, tc, tn, ⟨k0, n0⟩, ⟨k1, n1⟩, ⟨k2, n2⟩, ⟨k3, n3⟩⟩, ⟨ek, en, ename, eA, ec, kids⟩, aA, ac, args, bA, bc, body, lA, lc, els, pos⟩ := s
  refine ⟨rfl, ⟨bA, bc, rfl, fun w h => ?_⟩, ⟨lA, lc, rfl, fun w h => ?_⟩⟩
  · cases h with | mk he ha hac ham hai hb hbc hbm hbi hl hlc hlm hli hs => exact ⟨hb, hbc, hbm, hbi⟩
  · cases h with | mk he ha hac ham hai hb hbc hbm hbi hl hlc hlm hli hs => exact ⟨hl, hlc, hlm, hli⟩
theorem infoInt : (Try.prog.info? 3).map (fun i => (i.zero.map (·.cells.size), i.size, i.bytes)) = some (some 1, 1, 8) := by kernel_rfl
theorem encI_len (k : Int) : (encI k).length = 1 := rfl
theorem encI_one (k : Int) : ∀ u ∈ encI k, u.oneCell' = true := by intro u hu; simp [encI] at hu; subst hu; rfl

theorem own_ne {α : Type} {enc : α → List Value} {W : World} {base size g : Nat} {e t : TypeId} {v : Value} {l : List α} {cs : Array Value} {fr : Nat × Nat} (h : Own W base e size enc v l) (hr : W.heap[g]? = some (.cells cs t fr)) (hte : t ≠ e) : some g ≠ v.ownBlock := fun e2 => by
  obtain ⟨_, h2⟩ := h
  rcases h2 with ⟨rfl, _⟩ | ⟨g', cap, cur, rfl, _, hh, _⟩
  · cases e2
  · simp [Value.ownBlock] at e2
    subst e2
    rw [hh] at hr
    simp at hr
    exact hte hr.2.1.symm
theorem own_keep {α : Type} {enc : α → List Value} {A B : World} {base size : Nat} {e : TypeId} {v : Value} {l : List α} (h : Own A base e size enc v l) (hk : ∀ g, v.ownBlock = some g → B.heap[g]? = A.heap[g]?) : Own B base e size enc v l := by
  obtain ⟨h1, h2⟩ := h
  refine ⟨h1, ?_⟩
  rcases h2 with h2 | ⟨g, cap, cur, rfl, hb, hh, hr⟩
  · exact .inl h2
  · exact .inr ⟨g, cap, cur, rfl, hb, (hk g rfl).trans hh, hr⟩

/-- A way's value. -/
structure WyAt (w0 W : World) (tA : Option Addr) (tc : Nat) (mA : Option Addr) (mc : Nat) (wy : Wy) : Prop where
  tl : wy.turns.length ≤ tc
  tm : tc ≤ maxLen
  turns : Lies w0 1 encB tA wy.turns
  met : Own W w0.heap.size 3 1 encI (.slice mA wy.met.length mc) wy.met

def wyRow (tA : Option Addr) (tc : Nat) (mA : Option Addr) (mc : Nat) (wy : Wy) : Array Value := #[.slice tA wy.turns.length tc, .slice mA wy.met.length mc, .bool wy.back]

/-- Where the walk stands: X the world behind the two boxes' making was W; blocks X.heap.size (the way) and the next one (the result). -/
structure WSt (w0 X W : World) (ob : Option Nat) (tA : Option Addr) (tc : Nat) (mA : Option Addr) (mc : Nat) (wy : Wy) : Prop where
  base : w0.heap.size ≤ X.heap.size
  below : Below w0.heap.size w0 W
  grown : X.grownBy W ob
  row : W.heap[X.heap.size]? = some (.cells (wyRow tA tc mA mc wy) 52 (0, 0))
  res : W.heap[X.heap.size + 1]? = some (.cells #[.slice none 0 0, .slice none 0 0, .bool false] 52 (0, 0))
  at_ : WyAt w0 W tA tc mA mc wy
  own : (Value.slice mA wy.met.length mc).ownBlock = ob ∨ ∃ k, (Value.slice mA wy.met.length mc).ownBlock = some k ∧ X.heap.size ≤ k

/-- One block alone has turned. -/
structure OneOff (W W' : World) (g : Nat) : Prop where
  os : W'.os = W.os
  tape : W'.tape = W.tape
  output : W'.output = W.output
  size : W'.heap.size = W.heap.size
  block : ∀ k, k ≠ g → W'.heap[k]? = W.heap[k]?
theorem OneOff.setCell (W : World) (g j : Nat) (u : Value) : OneOff W (W.setCell ⟨g, j, none⟩ u) g :=
  ⟨rfl, rfl, rfl, by simp [World.setCell], fun k hk => Below.heap_setCell W ⟨g, j, none⟩ u k hk⟩
theorem OneOff.setCells (W : World) (g j : Nat) (vs : List Value) : OneOff W (W.setCells g j vs) g := by
  have h := setCells_below (B := g) (Nat.le_refl g) vs j W
  have h2 : (W.setCells g j vs).heap.size = W.heap.size := by
    clear h
    induction vs generalizing W j with
    | nil => rfl
    | cons v vs ih => rw [World.setCells, ih]; simp [World.setCell]
  exact ⟨h.os, h.tape, h.output, h2, fun k hk => setCells_other _ _ _ _ _ hk⟩

variable {w0 X W W' W'' : World} {ob : Option Nat} {tA tA' mA mA' : Option Addr} {tc tc' mc mc' : Nat} {wy wy' : Wy}

theorem WSt.step (h : WSt w0 X W ob tA tc mA mc wy) (hg : W.grownBy W' (Value.slice mA wy.met.length mc).ownBlock) (ho : OneOff W' W'' X.heap.size)
    (hr : W''.heap[X.heap.size]? = some (.cells (wyRow tA' tc' mA' mc' wy') 52 (0, 0))) (hA : WyAt w0 W' tA' tc' mA' mc' wy')
    (hat : (Value.slice mA' wy'.met.length mc').ownBlock = (Value.slice mA wy.met.length mc).ownBlock ∨ ∃ k, (Value.slice mA' wy'.met.length mc').ownBlock = some k ∧ W.heap.size ≤ k) : WSt w0 X W'' ob tA' tc' mA' mc' wy' := by
  have hsz : X.heap.size ≤ W.heap.size := h.grown.size
  have hrow1 : W'.heap[X.heap.size]? = _ := (hg.block _ (row_lt h.row) (own_ne h.at_.met h.row (by decide))).trans h.row
  have hres1 : W'.heap[X.heap.size + 1]? = _ := (hg.block _ (row_lt h.res) (own_ne h.at_.met h.res (by decide))).trans h.res
  have hnew := own_ne hA.met hrow1 (by decide)
  have hob : ∀ g, (Value.slice mA wy.met.length mc).ownBlock = some g → w0.heap.size ≤ g := fun g hg => (h.at_.met.from_ g hg).1
  refine ⟨h.base, ?_, ?_, hr, (ho.block _ (by omega)).trans hres1, ⟨hA.tl, hA.tm, hA.turns, own_keep hA.met fun g hg2 => ho.block g (fun e => hnew (by rw [hg2, e]))⟩, ?_⟩
  · have hb1 : Below w0.heap.size w0 W' := h.below.grown hg h.below.size hob
    refine ⟨ho.os.trans hb1.os, ho.tape.trans hb1.tape, ho.output.trans hb1.output, by rw [ho.size]; exact hb1.size, fun k hk => ?_⟩
    have := h.base
    exact (ho.block k (by omega)).trans (hb1.block k hk)
  · have hgr : X.grownBy W' ob := h.grown.andThen hg (fun j hj => by
      rcases h.own with e | ⟨k, e, hk⟩
      · exact .inr (e.symm.trans hj)
      · rw [e] at hj; cases hj; exact .inl hk)
    refine ⟨ho.os.trans hgr.os, ho.tape.trans hgr.tape, ho.output.trans hgr.output, by rw [ho.size]; exact hgr.size, fun k hk hko => ?_⟩
    exact (ho.block k (by omega)).trans (hgr.block k hk hko)
  · rcases hat with e | ⟨k, e, hk⟩
    · rw [e]; exact h.own
    · exact .inr ⟨k, e, by omega⟩
theorem WSt.box {p : Nat} {cs : Array Value} (h : WSt w0 X W ob tA tc mA mc wy) (hg : W.grownBy W' (Value.slice mA wy.met.length mc).ownBlock) (ho : OneOff W' W'' X.heap.size) (hp : X.heap.size < p)
    (hb : W.heap[p]? = some (.cells cs 41 (0, 0))) : W''.heap[p]? = some (.cells cs 41 (0, 0)) :=
  (ho.block _ (by omega)).trans ((hg.block _ (row_lt hb) (own_ne h.at_.met hb (by decide))).trans hb)
theorem WSt.alloc (h : WSt w0 X W ob tA tc mA mc wy) (o : Obj) : WSt w0 X (W.alloc o) ob tA tc mA mc wy := by
  have hg := World.grownBy_alloc W o
  refine ⟨h.base, h.below.alloc h.below.size o, ?_, (Below.heap_alloc _ _ _ (row_lt h.row)).trans h.row, (Below.heap_alloc _ _ _ (row_lt h.res)).trans h.res, ⟨h.at_.tl, h.at_.tm, h.at_.turns, h.at_.met.alloc o⟩, h.own⟩
  exact h.grown.andThen (hg none) (fun j hj => by cases hj)
theorem WSt.start {X w0 : World} (hb : Below w0.heap.size w0 X) (hA : WyAt w0 X tA tc mA mc wy) :
    WSt w0 X ((X.alloc (.cells (wyRow tA tc mA mc wy) 52)).alloc (.cells #[.slice none 0 0, .slice none 0 0, .bool false] 52)) (Value.slice mA wy.met.length mc).ownBlock tA tc mA mc wy := by
  obtain ⟨h1, h2, h3⟩ := two_rows X (.cells (wyRow tA tc mA mc wy) 52) (.cells #[.slice none 0 0, .slice none 0 0, .bool false] 52)
  refine ⟨hb.size, hb.trans (h3.mono hb.size), ?_, h1, h2, ⟨hA.tl, hA.tm, hA.turns, (hA.met.alloc _).alloc _⟩, .inl rfl⟩
  exact ((World.grownBy_alloc X _ _).trans (World.grownBy_alloc _ _ _))
theorem WSt.cells (h : WSt w0 X W ob tA tc mA mc wy) : W.cell? ⟨X.heap.size, 0, none⟩ = some (.slice tA wy.turns.length tc) ∧ W.cell? ⟨X.heap.size, 1, none⟩ = some (.slice mA wy.met.length mc) ∧ W.cell? ⟨X.heap.size, 2, none⟩ = some (.bool wy.back) :=
  ⟨(row_cell (cs := [_, _, _]) h.row (j := 0) rfl).1, (row_cell (cs := [_, _, _]) h.row (j := 1) rfl).1, (row_cell (cs := [_, _, _]) h.row (j := 2) rfl).1⟩
theorem WSt.behind (h : WSt w0 X W ob tA tc mA mc wy) {o : Obj} (hg : (W.alloc o).grownBy W' (Value.slice mA wy.met.length mc).ownBlock) :
    W'.heap[X.heap.size]? = some (.cells (wyRow tA tc mA mc wy) 52 (0, 0)) ∧ W.grownBy W' (Value.slice mA wy.met.length mc).ownBlock := by
  have h1 := h.alloc o
  exact ⟨(hg.block _ (row_lt h1.row) (own_ne h1.at_.met h1.row (by decide))).trans h1.row, (World.grownBy_alloc W o _).trans hg⟩
/-- Behind 'append(w.Met, k)', stored. -/
theorem WSt.put (h : WSt w0 X W ob tA tc mA mc wy) {g cap : Nat} {k : Int} (hr : W'.heap[X.heap.size]? = some (.cells (wyRow tA tc mA mc wy) 52 (0, 0))) (hg : W.grownBy W' (Value.slice mA wy.met.length mc).ownBlock)
    (hown : Own W' w0.heap.size 3 1 encI (.slice (some ⟨g, 0, none⟩) (wy.met.length + 1) cap) (wy.met ++ [k])) (hat : (Value.slice (some ⟨g, 0, none⟩) (wy.met.length + 1) cap).ownBlock = (Value.slice mA wy.met.length mc).ownBlock ∨ ∃ j, (Value.slice (some ⟨g, 0, none⟩) (wy.met.length + 1) cap).ownBlock = some j ∧ W.heap.size ≤ j) :
    WSt w0 X (W'.setCell ⟨X.heap.size, 1, none⟩ (.slice (some ⟨g, 0, none⟩) (wy.met.length + 1) cap)) ob tA tc (some ⟨g, 0, none⟩) cap ⟨wy.turns, wy.met ++ [k], wy.back⟩ := by
  have hlen : (wy.met ++ [k]).length = wy.met.length + 1 := by simp
  refine h.step hg (OneOff.setCell _ _ _ _) ?_ ⟨h.at_.tl, h.at_.tm, h.at_.turns, ?_⟩ ?_
  · have := row_store hr 1 (.slice (some ⟨g, 0, none⟩) (wy.met.length + 1) cap)
    rw [this]
    simp only [wyRow, hlen]
    rfl
  · simp only [hlen]; exact hown
  · simp only [hlen]; exact hat
/-- Behind 'w.Back = ..'. -/
theorem WSt.turnBack (h : WSt w0 X W ob tA tc mA mc wy) (b : Bool) : WSt w0 X (W.setCell ⟨X.heap.size, 2, none⟩ (.bool b)) ob tA tc mA mc ⟨wy.turns, wy.met, b⟩ := by
  refine h.step (World.grownBy.refl _ _) (OneOff.setCell _ _ _ _) ?_ ⟨h.at_.tl, h.at_.tm, h.at_.turns, h.at_.met⟩ (.inl rfl)
  have := row_store h.row 2 (.bool b)
  rw [this]
  rfl
/-- Behind the store of a whole way. -/
theorem WSt.whole (h : WSt w0 X W ob tA tc mA mc wy) (hg : W.grownBy W' (Value.slice mA wy.met.length mc).ownBlock) (hA : WyAt w0 W' tA' tc' mA' mc' wy')
    (hat : (Value.slice mA' wy'.met.length mc').ownBlock = (Value.slice mA wy.met.length mc).ownBlock ∨ ∃ k, (Value.slice mA' wy'.met.length mc').ownBlock = some k ∧ W.heap.size ≤ k) :
    W'.there X.heap.size 0 3 ∧ WSt w0 X (W'.setCells X.heap.size 0 (wyRow tA' tc' mA' mc' wy').toList) ob tA' tc' mA' mc' wy' := by
  have hr : W'.heap[X.heap.size]? = _ := (hg.block _ (row_lt h.row) (own_ne h.at_.met h.row (by decide))).trans h.row
  exact ⟨row_there hr 3 (Nat.le_refl _), h.step hg (OneOff.setCells _ _ _ _) (row_fill hr rfl) hA hat⟩
theorem grown_below {W W' : World} {ob : Option Nat} (h : Below W.heap.size W W') : W.grownBy W' ob := ⟨h.os, h.tape, h.output, h.size, fun k hk _ => h.block k hk⟩
/-- What a call gives back. -/
structure WEnd (w0 X W : World) (ob : Option Nat) (tA : Option Addr) (tc : Nat) (mA : Option Addr) (mc : Nat) (wy : Wy) : Prop where
  below : Below w0.heap.size w0 W
  grown : X.grownBy W ob
  at_ : WyAt w0 W tA tc mA mc wy
  own : (Value.slice mA wy.met.length mc).ownBlock = ob ∨ ∃ k, (Value.slice mA wy.met.length mc).ownBlock = some k ∧ X.heap.size ≤ k
theorem WSt.leave (h : WSt w0 X W ob tA tc mA mc wy) (vs : List Value) : WEnd w0 X (W.setCells (X.heap.size + 1) 0 vs) ob tA tc mA mc wy := by
  have ho := OneOff.setCells W (X.heap.size + 1) 0 vs
  have hne := own_ne h.at_.met h.res (by decide)
  refine ⟨?_, ?_, ⟨h.at_.tl, h.at_.tm, h.at_.turns, own_keep h.at_.met fun g hg => ho.block g (fun e => hne (by rw [hg, e]))⟩, h.own⟩
  · refine ⟨ho.os.trans h.below.os, ho.tape.trans h.below.tape, ho.output.trans h.below.output, by rw [ho.size]; exact h.below.size, fun k hk => ?_⟩
    have := h.base
    exact (ho.block k (by omega)).trans (h.below.block k hk)
  · refine ⟨ho.os.trans h.grown.os, ho.tape.trans h.grown.tape, ho.output.trans h.grown.output, by rw [ho.size]; exact h.grown.size, fun k hk hko => ?_⟩
    exact (ho.block k (by omega)).trans (h.grown.block k hk hko)
theorem wayS_met (n : Nat) (s : St) (w : Wy) (hw : w.turns.length ≤ n) : w.met.length + 1 ≤ (wayS n s w).met.length := by
  by_cases h9 : s.k = 9
  · rw [wayS_if h9]
    split
    · have := (much_way n s.body ⟨w.turns.tail, w.met ++ [s.k], false⟩ (by show w.turns.tail.length ≤ n; rw [List.length_tail]; omega)).2.1
      simpa using this
    · have := (much_way n s.els ⟨w.turns.tail, w.met ++ [s.k], false⟩ (by show w.turns.tail.length ≤ n; rw [List.length_tail]; omega)).2.1
      simpa using this
  · by_cases h10 : s.k = 10
    · rw [wayS_while h10]
      have := (much_W n s.k s.body ⟨w.turns, w.met ++ [s.k], false⟩ hw).2.1
      simpa using this
    · rw [wayS_do h9 h10]; simp
end Go.Proofs.Ytlgnjbocdmbeiaa
