/- General lemmas of my own: an element of a slice of the call's own set anew; a slice literal of one element. -/
import Derived.Test.YtmpdmelkbemabaaGreatReg
import Derived.Great.BuildSlice
import Derived.Great.FillDense
set_option linter.unusedSimpArgs false
set_option linter.unusedVariables false
namespace Go.Proofs.Grow
open Go.RowKit

theorem setCells_size (g : Nat) : ∀ (vs : List Value) (o : Nat) (W : World), (W.setCells g o vs).heap.size = W.heap.size
  | [], _, _ => rfl
  | v :: vs, o, W => by rw [World.setCells, setCells_size g vs]; simp [World.setCell]
theorem setCells_other (g : Nat) : ∀ (vs : List Value) (o : Nat) (W : World) (k : Nat), k ≠ g → (W.setCells g o vs).heap[k]? = W.heap[k]?
  | [], _, _, _, _ => rfl
  | v :: vs, o, W, k, h => by rw [World.setCells, setCells_other g vs _ _ k h]; exact Go.heap_setCell_other W ⟨g, o, none⟩ k v h
theorem setCells_rest (g : Nat) : ∀ (vs : List Value) (o : Nat) (W : World), (W.setCells g o vs).os = W.os ∧ (W.setCells g o vs).tape = W.tape ∧ (W.setCells g o vs).output = W.output
  | [], _, _ => ⟨rfl, rfl, rfl⟩
  | v :: vs, o, W => by rw [World.setCells]; exact setCells_rest g vs (o + 1) _
theorem setCells_below {g B : Nat} (h : B ≤ g) (vs : List Value) (o : Nat) (W : World) : Below B W (W.setCells g o vs) := by
  obtain ⟨h1, h2, h3⟩ := setCells_rest g vs o W
  exact ⟨h1, h2, h3, Nat.le_of_eq (setCells_size g vs o W).symm, fun k hk => setCells_other g vs o W k (by omega)⟩
theorem setCells_row (g : Nat) (e : TypeId) : ∀ (vs : List Value) (o : Nat) (W : World) (cur : Array Value), W.heap[g]? = some (.cells cur e (0, 0)) → o + vs.length ≤ cur.size →
    ∃ cur', (W.setCells g o vs).heap[g]? = some (.cells cur' e (0, 0)) ∧ cur'.toList = cur.toList.take o ++ (vs ++ cur.toList.drop (o + vs.length))
  | [], o, W, cur, h, _ => ⟨cur, h, by simp⟩
  | v :: vs, o, W, cur, h, hl => by
    have hl' : o + (vs.length + 1) ≤ cur.size := by simpa using hl
    obtain ⟨cur', h1, h2⟩ := setCells_row g e vs (o + 1) _ (cur.setIfInBounds o v) (Go.heap_setCell_same W g o cur e v h) (by simp; omega)
    refine ⟨cur', h1, ?_⟩
    rw [h2, Array.toList_setIfInBounds]
    have ho : o < cur.toList.length := by simp; omega
    rw [List.take_set, List.drop_set_of_lt (by omega)]
    have e1 : (cur.toList.take (o + 1)).set o v = cur.toList.take o ++ [v] := by
      rw [List.take_succ_eq_append_getElem ho, List.set_append_right _ _ (by rw [List.length_take]; omega)]
      have e3 : (List.take o cur.toList).length = o := by rw [List.length_take]; omega
      rw [e3, Nat.sub_self]; rfl
    rw [e1]
    simp [Nat.add_comm 1 vs.length, Nat.add_assoc]

theorem flat_setAll {α : Type} {enc : α → List Value} {size : Nat} (henc : ∀ a, (enc a).length = size) (a : α) : ∀ (l : List α) (k : Nat), k < l.length → (l.set k a).flatMap enc = (l.flatMap enc).take (k * size) ++ (enc a ++ (l.flatMap enc).drop (k * size + size))
  | b :: l, 0, _ => by
    rw [List.set_cons_zero, List.flatMap_cons, List.flatMap_cons, Nat.zero_mul, Nat.zero_add, List.take_zero, List.nil_append, List.drop_append_of_le_length (by rw [henc]; exact Nat.le_refl _), List.drop_of_length_le (by rw [henc]; exact Nat.le_refl _), List.nil_append]
  | b :: l, k + 1, h => by
    rw [List.set_cons_succ, List.flatMap_cons, List.flatMap_cons, flat_setAll henc a l k (by simpa using h)]
    have e1 : (k + 1) * size = (enc b).length + k * size := by rw [henc, Nat.add_mul]; omega
    have e2 : (k + 1) * size + size = (enc b).length + (k * size + size) := by rw [e1]; omega
    rw [e2, e1, List.take_length_add_append, List.drop_length_add_append, List.append_assoc]

theorem take_mid {β : Type} (A B C : List β) (n : Nat) (h : A.length + B.length ≤ n) : (A ++ (B ++ C)).take n = A ++ (B ++ C.take (n - (A.length + B.length))) := by
  rw [List.take_append, List.take_of_length_le (by omega), List.take_append, List.take_of_length_le (by omega), Nat.sub_sub]

theorem Own.setCells {α : Type} {enc : α → List Value} {W : World} {base size g : Nat} {e : TypeId} {v : Value} {l : List α} (h : Own W base e size enc v l) (henc : ∀ a, (enc a).length = size) (k : Nat) (hk : k < l.length) (a : α) (hg : v.ownBlock = some g) :
    Own (W.setCells g (k * size) (enc a)) base e size enc v (l.set k a) := by
  obtain ⟨h1, h2⟩ := h
  refine ⟨by rw [flat_len henc], ?_⟩
  rw [List.length_set, flat_setAll henc a l k hk]
  rcases h2 with ⟨rfl, h2⟩ | ⟨g', cap, cur, rfl, hb, hh, hnc, hcm, hcs, hcur⟩
  · omega
  · simp only [Value.ownBlock, Option.some.injEq] at hg
    subst hg
    have hle : k * size + size ≤ l.length * size := by
      have : (k + 1) * size ≤ l.length * size := Nat.mul_le_mul_right _ hk
      rw [Nat.add_mul] at this; omega
    have hlc : l.length * size ≤ cap * size := Nat.mul_le_mul_right _ hnc
    obtain ⟨cur', hc1, hc2⟩ := setCells_row g' e (enc a) (k * size) W cur hh (by rw [henc, hcs]; omega)
    refine .inr ⟨g', cap, cur', rfl, hb, hc1, hnc, hcm, ?_, ?_⟩
    · have := congrArg List.length hc2
      simp [henc] at this
      omega
    · rw [hc2, ← hcur, henc]
      have hlen : cur.toList.length = cap * size := by simpa using hcs
      have hA : (cur.toList.take (k * size)).length = k * size := by rw [List.length_take, hlen]; omega
      rw [take_mid _ _ _ _ (by rw [hA, henc]; exact hle), hA, henc, List.take_take, Nat.min_eq_left (by omega), List.drop_take]

theorem Own.there {α : Type} {enc : α → List Value} {W : World} {base size g : Nat} {e : TypeId} {v : Value} {l : List α} (h : Own W base e size enc v l) (k : Nat) (hk : k < l.length) (hg : v.ownBlock = some g) : W.there g (k * size) size := by
  obtain ⟨h1, h2⟩ := h
  rcases h2 with ⟨rfl, h2⟩ | ⟨g', cap, cur, rfl, hb, hh, hnc, hcm, hcs, hcur⟩
  · omega
  · simp only [Value.ownBlock, Option.some.injEq] at hg
    subst hg
    intro j hj
    have hle : k * size + size ≤ cap * size := by
      have : (k + 1) * size ≤ cap * size := Nat.mul_le_mul_right _ (by omega)
      rw [Nat.add_mul] at this; omega
    have hlt : k * size + j < cur.size := by omega
    rw [cell_of_row W g' _ _ _ _ hh]
    exact ⟨by simp [hlt], Go.frozen_of_row W g' _ cur _ hh⟩

/-- A slice literal of one element. -/
theorem Own.one {α : Type} {enc : α → List Value} (W : World) {base size : Nat} {e : TypeId} (hb : base ≤ W.heap.size) (a : α) (cs : Array Value) (hcs : cs.toList = enc a) (henc : (enc a).length = size) :
    Own (W.alloc (.cells cs e)) base e size enc (.slice (some ⟨W.heap.size, 0, none⟩) 1 1) [a] := by
  have hs : cs.size = size := by rw [← henc, ← hcs]; simp
  refine ⟨by simp [henc], .inr ⟨_, 1, cs, rfl, hb, heap_alloc_new W _, Nat.le_refl _, by simp [maxLen], by simpa using hs, ?_⟩⟩
  rw [List.flatMap_cons, List.flatMap_nil, List.append_nil, ← hcs]
  exact List.take_of_length_le (by simp [hs])

theorem GivesList.over {α : Type} {P : Program} {f : FuncId} {args : Array Value} {w1 : World} {size : Nat} {enc : α → List Value} {l : List α} (z : Ext w1) (h : GivesList P f args z.val size enc l) :
    Calls P f args z.val fun e w' => ∃ (y : Ext w1) (A : Option Addr) (c : Nat), (∃ y' : Ext z.val, y'.val = y.val) ∧ e = .returned (.slice A l.length c) ∧ w' = y.val ∧ l.length ≤ c ∧ c ≤ maxLen ∧ Lies y.val size enc A l :=
  Calls.mono h fun _ _ ⟨x, A, c, he, hw, h1, h2, h3⟩ => ⟨z.step x.below, A, c, ⟨x, rfl⟩, he, hw, h1, h2, h3⟩
theorem Gives.over {P : Program} {f : FuncId} {args : Array Value} {w1 : World} {v : Value} (z : Ext w1) (h : Gives P f args z.val v) :
    Calls P f args z.val fun e w' => ∃ y : Ext w1, (∃ y' : Ext z.val, y'.val = y.val) ∧ e = .returned v ∧ w' = y.val :=
  Calls.mono h fun _ _ ⟨x, he, hw⟩ => ⟨z.step x.below, ⟨x, rfl⟩, he, hw⟩
theorem Own.into {α : Type} {enc : α → List Value} {w w' : World} {base size : Nat} {e : TypeId} {v : Value} {l : List α} (h : Own w base e size enc v l) (hy : ∃ y' : Ext w, y'.val = w') : Own w' base e size enc v l := by
  obtain ⟨y', rfl⟩ := hy
  exact h.ext y'
theorem Lies.into {α : Type} {enc : α → List Value} {w w' : World} {size : Nat} {A : Option Addr} {l : List α} (h : Lies w size enc A l) (hy : ∃ y' : Ext w, y'.val = w') : Lies w' size enc A l := by
  obtain ⟨y', rfl⟩ := hy
  exact h.ext y'

theorem wpList_buildL {P : Program} {ops : Array Oper} {rest : List Oper} {o : Oper} {a : Act} {w : World} {Q : Exit → Act → World → Prop} (hg : o.guard = none) (t : TypeId) (parts : List (Nat × Operand)) (ho : o.op = .build t parts.toArray)
    (cells : Array Value) (hf : P.built t (parts.map fun x => (x.1, a.eval x.2)) = some cells) (h : wpList P ops Q rest (a.put o.dst (.agg cells)) w) : wpList P ops Q (o :: rest) a w :=
  wpList_buildTo hg t parts.toArray ho _ rfl cells (by simpa using hf) h

/-- A slice literal of one struct. -/
theorem wpList_lit_one {P : Program} {ops : Array Oper} {rest : List Oper} {o : Oper} {a : Act} {w : World} {Q : Exit → Act → World → Prop} (hg : o.guard = none) (t e : TypeId) (x : Operand) (ho : o.op = .buildSlice t 1 #[(0, x)])
    (cells : Array Value) (hx : a.eval x = .agg cells) (i : TypeInfo) (z : Value) (size : Nat) (hu : P.underlying t = some (.slice e)) (hi : P.info? e = some i) (hz : i.zero = some z) (hsize : i.size = size) (hcs : cells.size = size) (hsz : 0 < size) (hsm : size ≤ 16777216)
    (h : wpList P ops Q rest (a.put o.dst (.slice (some ⟨w.heap.size, 0, none⟩) 1 1)) (w.alloc (.cells cells e))) : wpList P ops Q (o :: rest) a w := by
  refine wpList_buildSlice hg t e 1 _ ho cells i z hu hi hz (by rw [hsize]; omega) (by rw [hsize]; omega) ?_ h
  have hf := Great.fill_whole (s := size) hsz [.agg cells] ((Array.range (1 * i.size)).map (z.cells[· % z.cells.size]!)) (by simp [Value.cells, hcs]) (by simp [hsize])
  rw [hsize] at hf ⊢
  have e1 : ((#[(0, x)] : Array (Nat × Operand)).map fun (i, x) => (i, a.eval x)).toList = (([Value.agg cells].zipIdx 0).map fun x => (x.2, x.1)) := by simp [hx]
  have e2 : ([Value.agg cells].flatMap fun v => v.cells.toList).toArray = cells := by simp [Value.cells]
  rw [e1, hf, e2]
theorem Own.some_pos {α : Type} {enc : α → List Value} {w : World} {base size : Nat} {e : TypeId} {v : Value} {l : List α} (h : Own w base e size enc v l) (hl : 0 < l.length) : ∃ g cap, v = .slice (some ⟨g, 0, none⟩) l.length cap ∧ base ≤ g := by
  obtain ⟨h1, h2⟩ := h
  rcases h2 with ⟨_, hn⟩ | ⟨g, cap, cur, hv, hb, _⟩
  · omega
  · exact ⟨g, cap, hv, hb⟩

/-- The contract of a function that gives a list in new memory. -/
def GivesNew {α : Type} (P : Program) (f : FuncId) (args : Array Value) (w : World) (size : Nat) (enc : α → List Value) (l : List α) : Prop :=
  Calls P f args w fun e w' => ∃ (x : Ext w) (A : Option Addr) (c : Nat), e = .returned (.slice A l.length c) ∧ w' = x.val ∧ l.length ≤ c ∧ c ≤ maxLen ∧ Lies x.val size enc A l ∧ ∀ ad, A = some ad → w.heap.size ≤ ad.block
theorem GivesNew.list {α : Type} {P : Program} {f : FuncId} {args : Array Value} {w : World} {size : Nat} {enc : α → List Value} {l : List α} (h : GivesNew P f args w size enc l) : GivesList P f args w size enc l :=
  Calls.mono h fun _ _ ⟨x, A, c, he, hw, h1, h2, h3, _⟩ => ⟨x, A, c, he, hw, h1, h2, h3⟩
theorem GivesNew.over {α : Type} {P : Program} {f : FuncId} {args : Array Value} {w1 : World} {size : Nat} {enc : α → List Value} {l : List α} (z : Ext w1) (h : GivesNew P f args z.val size enc l) :
    Calls P f args z.val fun e w' => ∃ (y : Ext w1) (A : Option Addr) (c : Nat), (∃ y' : Ext z.val, y'.val = y.val) ∧ e = .returned (.slice A l.length c) ∧ w' = y.val ∧ l.length ≤ c ∧ c ≤ maxLen ∧ Lies y.val size enc A l ∧ ∀ ad, A = some ad → z.val.heap.size ≤ ad.block :=
  Calls.mono h fun _ _ ⟨x, A, c, he, hw, h1, h2, h3, h4⟩ => ⟨z.step x.below, A, c, ⟨x, rfl⟩, he, hw, h1, h2, h3, h4⟩
theorem Lies.setCells {α : Type} {enc : α → List Value} {w : World} {size g : Nat} {A : Option Addr} {l : List α} (h : Lies w size enc A l) (hne : ∀ ad, A = some ad → ad.block ≠ g) (o : Nat) (vs : List Value) : Lies (w.setCells g o vs) size enc A l := fun i hi => by
  obtain ⟨b, off, rfl, hb, hc⟩ := h i hi
  refine ⟨b, off, rfl, by rw [setCells_size]; exact hb, fun j v hv => ?_⟩
  exact (World.cell?_setCells_out g vs o w ⟨b, off + i * size + j, none⟩ (fun e => absurd e (hne ⟨b, off, none⟩ rfl))).trans (hc j v hv)
theorem Lies.grown {α : Type} {enc : α → List Value} {w w' : World} {size : Nat} {ob : Option Nat} {A : Option Addr} {l : List α} (h : Lies w size enc A l) (hg : w.grownBy w' ob) (hne : ∀ ad, A = some ad → some ad.block ≠ ob) : Lies w' size enc A l := fun i hi => by
  obtain ⟨b, off, rfl, hb, hc⟩ := h i hi
  refine ⟨b, off, rfl, Nat.lt_of_lt_of_le hb hg.size, fun j v hv => ?_⟩
  have e := hg.block b hb (hne _ rfl)
  have := hc j v hv
  unfold World.cell? at this ⊢
  rw [e]
  exact this

/-- The contract of a function that gives a list in memory of its own. -/
def GivesOwn {α : Type} (P : Program) (f : FuncId) (args : Array Value) (w : World) (e : TypeId) (size : Nat) (enc : α → List Value) (l : List α) : Prop :=
  Calls P f args w fun r w' => ∃ (x : Ext w) (v : Value), r = .returned v ∧ w' = x.val ∧ Own x.val w.heap.size e size enc v l
theorem GivesOwn.new {α : Type} {P : Program} {f : FuncId} {args : Array Value} {w : World} {e : TypeId} {size : Nat} {enc : α → List Value} {l : List α} (henc : ∀ a, (enc a).length = size) (h : GivesOwn P f args w e size enc l) : GivesNew P f args w size enc l :=
  Calls.mono h fun _ _ ⟨x, v, he, hw, ho⟩ => by
    obtain ⟨A, c, rfl, h1, h2, h3⟩ := ho.lies henc
    exact ⟨x, A, c, he, hw, h1, h2, h3, fun ad e => (ho.from_ ad.block (by rw [e]; rfl)).1⟩

/-- An operation that is wanted, whatever its guard. -/
theorem wpList_wanted {P : Program} {ops : Array Oper} {rest : List Oper} {o : Oper} {a : Act} {w : World} {Q : Exit → Act → World → Prop} (hw : Region.wanted o (yielded ops a.tmps) = true)
    (h : ∀ K : Act → World → Prop, (∀ a w, wpList P ops Q rest a w → K a w) → o.wp P a w K Q) : wpList P ops Q (o :: rest) a w :=
  wpList_step fun K hK => by rw [if_pos hw]; exact h K hK
theorem wpList_load_row_g {P : Program} {ops : Array Oper} {rest : List Oper} {o : Oper} {a : Act} {w : World} {Q : Exit → Act → World → Prop} (hw : Region.wanted o (yielded ops a.tmps) = true) (ty : TypeId) (x : Operand) (ho : o.op = .load ty x)
    (g : Nat) (hx : a.eval x = .pointer (some ⟨g, 0, none⟩)) (t : TypeId) (cs : Array Value) (fr : Nat × Nat) (d : TypeDesc) (hg : w.heap[g]? = some (.cells cs t fr))
    (hu : P.underlying ty = some d) (hd : (match d with | .struct _ | .array _ _ => true | _ => false) = true) (hi : (P.info? ty).map (·.size) = some cs.size)
    (h : wpList P ops Q rest (a.put o.dst (.agg cs)) w) : wpList P ops Q (o :: rest) a w :=
  wpList_wanted hw fun _ hK => wp_load_row ty x ho g hx t cs fr d hg hu hd hi (hK _ _ h)
theorem wpList_load_mid_g {P : Program} {ops : Array Oper} {rest : List Oper} {o : Oper} {a : Act} {w : World} {Q : Exit → Act → World → Prop} (hw : Region.wanted o (yielded ops a.tmps) = true) (ty : TypeId) (x : Operand) (ho : o.op = .load ty x)
    (b off : Nat) (hx : a.eval x = .pointer (some ⟨b, off, none⟩)) (cs : List Value) (d : TypeDesc) (hc : w.rangeAt b off cs)
    (hu : P.underlying ty = some d) (hd : d.isRow = true) (hi : (P.info? ty).map (·.size) = some cs.length)
    (h : wpList P ops Q rest (a.put o.dst (.agg cs.toArray)) w) : wpList P ops Q (o :: rest) a w :=
  wpList_wanted hw fun _ hK => wp_load_mid ty x ho b off hx cs d hc hu hd hi (hK _ _ h)
theorem Own.cellAt {α : Type} {enc : α → List Value} {w : World} {base size g n cap : Nat} {e : TypeId} {l : List α} (h : Own w base e size enc (.slice (some ⟨g, 0, none⟩) n cap) l) (henc : ∀ a, (enc a).length = size) {k : Nat} {a : α} (hk : l[k]? = some a) {j : Nat} {v : Value} (hv : (enc a)[j]? = some v) :
    w.cell? ⟨g, k * size + j, none⟩ = some v ∧ w.frozen? ⟨g, k * size + j, none⟩ = false := by
  obtain ⟨hkl, rfl⟩ := List.getElem?_eq_some_iff.1 hk
  have hj : j < size := by rw [← henc l[k]]; exact (List.getElem?_eq_some_iff.1 hv).1
  refine ⟨?_, (h.there k hkl rfl j hj).2⟩
  obtain ⟨A', c', hs, _, _, hL⟩ := h.lies henc
  obtain ⟨b, off, hA, hb, hcell⟩ := hL k hkl
  obtain ⟨rfl, rfl⟩ : b = g ∧ off = 0 := by
    simp only [Value.slice.injEq] at hs
    rw [hA] at hs
    have := hs.1
    simp at this
    exact ⟨this.1.symm, this.2.symm⟩
  have := hcell j v hv
  rwa [Nat.zero_add] at this
theorem Own.below {α : Type} {enc : α → List Value} {w : World} {base size g n cap : Nat} {e : TypeId} {l : List α} (h : Own w base e size enc (.slice (some ⟨g, 0, none⟩) n cap) l) : base ≤ g := (h.from_ g rfl).1
end Go.Proofs.Grow
