/- General lemmas of my own: a slice of the call's own that holds a list of structs; append of one list to another. -/
import Derived.Test.YtmpdmelkbemabaaGreatLib
import Derived.Maps.AppendAt
import Derived.Deep.AppendLies
set_option linter.unusedSimpArgs false
set_option linter.unusedVariables false
namespace Go.Proofs.Grow
open Go.RowKit

section
variable {α : Type} {enc : α → List Value} {w w1 W : World} {base size : Nat} {e : TypeId} {v : Value} {l m : List α} {A : Option Addr}

theorem flat_len (henc : ∀ a, (enc a).length = size) : ∀ l : List α, (l.flatMap enc).length = l.length * size
  | [] => by simp
  | a :: l => by rw [List.flatMap_cons, List.length_append, henc, flat_len henc l, List.length_cons, Nat.add_mul]; omega

theorem flat_at (henc : ∀ a, (enc a).length = size) : ∀ (l : List α) (i j : Nat) (h : i < l.length), j < size → (l.flatMap enc)[i * size + j]? = (enc l[i])[j]?
  | a :: l, 0, j, _, hj => by
    rw [List.flatMap_cons, List.getElem?_append_left (by rw [henc]; omega)]; simp
  | a :: l, i + 1, j, h, hj => by
    rw [List.flatMap_cons, List.getElem?_append_right (by rw [henc, Nat.add_mul]; omega), henc]
    have e : (i + 1) * size + j - size = i * size + j := by rw [Nat.add_mul]; omega
    rw [e, flat_at henc l i j (by simpa using h) hj]; simp

/-- The list's cells, one behind the other. -/
theorem Lies.flat (hl : Lies w size enc A l) (henc : ∀ a, (enc a).length = size) (hsz : 0 < size) {ad : Addr} (hA : A = some ad) :
    ∀ j u, (l.flatMap enc)[j]? = some u → w.cell? (ad.add j) = some u := fun j u hu => by
  have hj : j < l.length * size := by rw [← flat_len henc l]; exact (List.getElem?_eq_some_iff.1 hu).1
  have hi : j / size < l.length := (Nat.div_lt_iff_lt_mul hsz).2 hj
  have hjm : j / size * size + j % size = j := by rw [Nat.mul_comm]; exact Nat.div_add_mod _ _
  obtain ⟨b, off, h1, _, hc⟩ := hl (j / size) hi
  obtain rfl : ad = ⟨b, off, none⟩ := by rw [hA] at h1; exact Option.some.inj h1
  rw [← hjm, flat_at henc l _ _ hi (Nat.mod_lt _ hsz)] at hu
  have := hc _ _ hu
  rw [Nat.add_assoc, hjm] at this
  unfold Addr.add
  by_cases h0 : j = 0
  · subst h0; simpa using this
  · simpa [h0] using this

/-- One element in a block of its own. -/
theorem Lies.one (W : World) (a : α) (cs : Array Value) (hcs : cs.toList = enc a) : Lies (W.alloc (.cells cs e)) size enc (some ⟨W.heap.size, 0, none⟩) [a] := fun i hi => by
  obtain rfl : i = 0 := by simpa using hi
  refine ⟨_, _, rfl, by simp, fun j v hv => ?_⟩
  have e0 : 0 + 0 * size + j = j := by omega
  rw [e0, World.cell?_alloc_at _ _ _ _ rfl, ← Array.getElem?_toList, hcs]
  simpa using hv

/-- The slice value v is the call's own (in blocks from base on), and holds l. -/
def Own (w : World) (base : Nat) (e : TypeId) (size : Nat) (enc : α → List Value) (v : Value) (l : List α) : Prop := w.ownsRow base e size v l.length (l.flatMap enc)

theorem Own.nil : Own w base e size enc (.slice none 0 0) ([] : List α) := World.ownsRow_nil _ _ _ _
theorem Own.empty (w : World) : Own (w.alloc (.cells #[] e)) w.heap.size e size enc (.slice (some ⟨w.heap.size, 0, none⟩) 0 0) ([] : List α) :=
  ⟨by simp, .inr ⟨_, 0, #[], rfl, Nat.le_refl _, heap_alloc_new w _, Nat.le_refl _, Nat.zero_le _, by simp, by simp⟩⟩
theorem Own.alloc (h : Own w base e size enc v l) (o : Obj) : Own (w.alloc o) base e size enc v l := World.ownsRow.alloc h o
theorem Own.drew (h : Own w base e size enc v l) : Own w.drew base e size enc v l := World.ownsRow.drew h

/-- A block that is there stays as it is in a world that only grew. -/
theorem Own.ext (h : Own w base e size enc v l) (x : Ext w) : Own x.val base e size enc v l := by
  obtain ⟨h1, h2⟩ := h
  refine ⟨h1, ?_⟩
  rcases h2 with h2 | ⟨g, cap, cur, hv, hb, hh, hr⟩
  · exact .inl h2
  · have hlt : g < w.heap.size := by
      rcases Nat.lt_or_ge g w.heap.size with h | h
      · exact h
      · rw [Array.getElem?_eq_none h] at hh; cases hh
    exact .inr ⟨g, cap, cur, hv, hb, (x.below.block g hlt).trans hh, hr⟩

theorem Own.lies (h : Own w base e size enc v l) (henc : ∀ a, (enc a).length = size) : ∃ A c, v = .slice A l.length c ∧ l.length ≤ c ∧ c ≤ maxLen ∧ Lies w size enc A l := by
  have hcells := fun g (hg : v.ownBlock = some g) => World.ownsRow.cells h hg
  obtain ⟨h1, h2⟩ := h
  rcases h2 with ⟨rfl, hn⟩ | ⟨g, cap, cur, rfl, hb, hh, hnc, hcm, _, _⟩
  · exact ⟨none, 0, by rw [hn], by omega, Nat.zero_le _, fun i hi => absurd hi (by omega)⟩
  · refine ⟨_, cap, rfl, hnc, hcm, fun i hi => ⟨g, 0, rfl, ?_, fun j u hu => ?_⟩⟩
    · rcases Nat.lt_or_ge g w.heap.size with h | h
      · exact h
      · rw [Array.getElem?_eq_none h] at hh; cases hh
    · have hj : j < size := by rw [← henc l[i]]; exact (List.getElem?_eq_some_iff.1 hu).1
      have := hcells g rfl (i * size + j) u (by rw [flat_at henc l i j hi hj]; exact hu)
      unfold Addr.add at this
      by_cases h0 : i * size + j = 0
      · simp only [h0, if_true] at this
        have e : (0 : Nat) + i * size + j = 0 := by omega
        rw [e]; exact this
      · simp only [h0, if_false] at this
        have e : (0 : Nat) + i * size + j = 0 + (i * size + j) := by omega
        rw [e]; exact this

theorem Own.some_ {a : α} (h : Own w base e size enc v (l ++ [a])) : ∃ g cap, v = .slice (some ⟨g, 0, none⟩) (l.length + 1) cap := by
  obtain ⟨h1, h2⟩ := h
  rcases h2 with ⟨_, hn⟩ | ⟨g, cap, cur, hv, _⟩
  · simp at hn
  · exact ⟨g, cap, by simpa using hv⟩

/-- Where it lies: from base on. -/
theorem Own.from_ (h : Own w base e size enc v l) : ∀ g, v.ownBlock = some g → base ≤ g ∧ g < w.heap.size := fun g hg => by
  obtain ⟨h1, h2⟩ := h
  rcases h2 with ⟨rfl, hn⟩ | ⟨g', cap, cur, rfl, hb, hh, _⟩
  · simp [Value.ownBlock] at hg
  · simp [Value.ownBlock] at hg
    subst hg
    refine ⟨hb, ?_⟩
    rcases Nat.lt_or_ge g' w.heap.size with h | h
    · exact h
    · rw [Array.getElem?_eq_none h] at hh; cases hh
end

/-- An element type's row of the program's table. -/
theorem info_row {P : Program} {e : TypeId} {size bytes : Nat} (h : (P.info? e).map (fun i => (i.zero.map (·.cells.size), i.size, i.bytes)) = some (some size, size, bytes)) :
    ∃ i z, P.info? e = some i ∧ i.zero = some z ∧ i.size = size ∧ i.bytes = bytes ∧ z.cells.size = size := by
  obtain ⟨i, hi, he⟩ := Option.map_eq_some_iff.1 h
  simp only [Prod.mk.injEq] at he
  obtain ⟨z, hz, hzs⟩ := Option.map_eq_some_iff.1 he.1
  exact ⟨i, z, hi, hz, he.2.1, he.2.2, hzs⟩

/-- 'append(s, x...)', s the call's own, x whatever holds a list. -/
theorem run_append_list {α : Type} {P : Program} (W : World) {enc : α → List Value} (base : Nat) (t ty e : TypeId) (i : TypeInfo) (z : Value) (size bytes : Nat) (ht : P.underlying t = some (.slice e)) (hi : P.info? e = some i) (hz : i.zero = some z)
    (hsize : i.size = size) (hby : i.bytes = bytes) (hzs : z.cells.size = size) (hsz : 0 < size) (henc : ∀ a, (enc a).length = size) (hone : ∀ a, ∀ u ∈ enc a, u.oneCell' = true)
    (v : Value) (l : List α) (hown : Own W base e size enc v l) (A : Option Addr) (c : Nat) (m : List α) (hm : Lies W size enc A m)
    (h63 : l.length + m.length ≤ maxLen) (hbytes : (l.length + m.length) * bytes ≤ 140737488355328) (hbase : base ≤ W.heap.size) :
    ∃ v' w', (Builtin.append_ #[t, t] ty #[v, .slice A m.length c]).run P W = .ok v' w' ∧ Own w' base e size enc v' (l ++ m) ∧ W.grownBy w' v.ownBlock ∧ (v'.ownBlock = v.ownBlock ∨ v'.ownBlock = some W.heap.size) := by
  cases A with
  | none =>
    have hm0 : m = [] := by
      cases m with
      | nil => rfl
      | cons a m => obtain ⟨_, _, h, _⟩ := hm 0 (by simp); cases h
    subst hm0
    refine ⟨v, W, ?_, by simpa using hown, World.grownBy.refl _ _, .inl rfl⟩
    rcases hown.2 with ⟨rfl, _⟩ | ⟨g, cap, cur, rfl, _, _, hnc, _⟩
    · simp [Builtin.append_, run_underlying ht, sizeOf, typeInfo, hi, Builtin.lenOf, Builtin.firstCells]
    · simp [Builtin.append_, run_underlying ht, sizeOf, typeInfo, hi, Builtin.lenOf, Builtin.firstCells, hnc, storeCells]
  | some ad =>
    have hone' : ∀ u ∈ m.flatMap enc, u.oneCell' = true := fun u hu => by
      obtain ⟨a, _, ha⟩ := List.mem_flatMap.1 hu
      exact hone a u ha
    obtain ⟨v', w', hr, h2, h3, _, h5⟩ := run_append_own_at (P := P) W base t ty e i z size bytes ht hi hz hsize hby hzs hsz v l.length (l.flatMap enc) hown ad m.length c (m.flatMap enc) (flat_len henc m) (hm.flat henc hsz rfl) hone' h63 hbytes hbase
    refine ⟨v', w', hr, ?_, h3, h5⟩
    unfold Own
    rw [List.length_append, List.flatMap_append]
    exact h2

theorem wp_append_list {α : Type} {P : Program} (W : World) {o : Oper} {a : Act} {K : Act → World → Prop} {Q : Exit → Act → World → Prop} {enc : α → List Value} (s x : Operand) (t : TypeId)
    (ho : o.op = .call { callee := .builtin .append, args := #[s, x], argTypes := #[t, t] })
    (base : Nat) (e : TypeId) (i : TypeInfo) (z : Value) (size bytes : Nat) (ht : P.underlying t = some (.slice e)) (hi : P.info? e = some i) (hz : i.zero = some z)
    (hsize : i.size = size) (hby : i.bytes = bytes) (hzs : z.cells.size = size) (hsz : 0 < size) (henc : ∀ a, (enc a).length = size) (hone : ∀ a, ∀ u ∈ enc a, u.oneCell' = true)
    (v : Value) (l : List α) (hs : a.eval s = v) (hown : Own W base e size enc v l) (A : Option Addr) (n c : Nat) (m : List α) (hx : a.eval x = .slice A n c) (hn : n = m.length) (hm : Lies W size enc A m)
    (h63 : l.length + m.length ≤ maxLen) (hbytes : (l.length + m.length) * bytes ≤ 140737488355328) (hbase : base ≤ W.heap.size)
    (h : ∀ v' w', Own w' base e size enc v' (l ++ m) → W.grownBy w' v.ownBlock → (v'.ownBlock = v.ownBlock ∨ v'.ownBlock = some W.heap.size) → K (a.put o.dst v') w') : o.wp P a W K Q := by
  subst hn
  obtain ⟨v', w', hr, h2, h3, h4⟩ := run_append_list (P := P) W base t o.type e i z size bytes ht hi hz hsize hby hzs hsz henc hone v l hown A c m hm h63 hbytes hbase
  unfold Oper.wp execOp
  simp only [ho, resolve, invoke, builtin, Sem.run_bind, Sem.run_pure, Result.andThen_ok, List.map_toArray, List.map_cons, List.map_nil, hs, hx, hr]
  exact h v' w' h2 h3 h4

/-- The same as one step of a region that draws its order. -/
theorem step_append_list {α : Type} {P : Program} (W : World) {ops : Array Oper} {o : Oper} {a : Act} {K : Act → World → Prop} {Q : Exit → Act → World → Prop} {E : Prop} {enc : α → List Value} (hgd : o.guard = none) (s x : Operand) (t : TypeId)
    (ho : o.op = .call { callee := .builtin .append, args := #[s, x], argTypes := #[t, t] })
    (base : Nat) (e : TypeId) (i : TypeInfo) (z : Value) (size bytes : Nat) (ht : P.underlying t = some (.slice e)) (hi : P.info? e = some i) (hz : i.zero = some z)
    (hsize : i.size = size) (hby : i.bytes = bytes) (hzs : z.cells.size = size) (hsz : 0 < size) (henc : ∀ a, (enc a).length = size) (hone : ∀ a, ∀ u ∈ enc a, u.oneCell' = true)
    (v : Value) (l : List α) (hs : a.eval s = v) (hown : Own W base e size enc v l) (A : Option Addr) (n c : Nat) (m : List α) (hx : a.eval x = .slice A n c) (hn : n = m.length) (hm : Lies W size enc A m)
    (h63 : l.length + m.length ≤ maxLen) (hbytes : (l.length + m.length) * bytes ≤ 140737488355328) (hbase : base ≤ W.heap.size)
    (h : ∀ v' w', Own w' base e size enc v' (l ++ m) → W.grownBy w' v.ownBlock → (v'.ownBlock = v.ownBlock ∨ v'.ownBlock = some W.heap.size) → K (a.put o.dst v') w') :
    if Region.wanted o (yielded ops a.tmps) = true then Oper.wp P o a W K Q else E := by
  have hw : Region.wanted o (yielded ops a.tmps) = true := by simp [Region.wanted, hgd]
  rw [if_pos hw]
  exact wp_append_list W s x t ho base e i z size bytes ht hi hz hsize hby hzs hsz henc hone v l hs hown A n c m hx hn hm h63 hbytes hbase h

/-- The same for the walk, w1 being a world that this one only grew from, the slice lying behind it. -/
theorem wpList_append_list {α : Type} {P : Program} {w1 : World} (W : World) {ops : Array Oper} {rest : List Oper} {o : Oper} {a : Act} {Q : Exit → Act → World → Prop} {enc : α → List Value} (hgd : o.guard = none) (s x : Operand) (t : TypeId)
    (ho : o.op = .call { callee := .builtin .append, args := #[s, x], argTypes := #[t, t] })
    (e : TypeId) (i : TypeInfo) (z : Value) (size bytes : Nat) (ht : P.underlying t = some (.slice e)) (hi : P.info? e = some i) (hz : i.zero = some z)
    (hsize : i.size = size) (hby : i.bytes = bytes) (hzs : z.cells.size = size) (hsz : 0 < size) (henc : ∀ a, (enc a).length = size) (hone : ∀ a, ∀ u ∈ enc a, u.oneCell' = true)
    (hW : Below w1.heap.size w1 W) (v : Value) (l : List α) (hs : a.eval s = v) (hown : Own W w1.heap.size e size enc v l) (A : Option Addr) (n c : Nat) (m : List α) (hx : a.eval x = .slice A n c) (hn : n = m.length) (hm : Lies W size enc A m)
    (h63 : l.length + m.length ≤ maxLen) (hbytes : (l.length + m.length) * bytes ≤ 140737488355328)
    (h : ∀ v' (y : Ext w1), Own y.val w1.heap.size e size enc v' (l ++ m) → W.grownBy y.val v.ownBlock → (v'.ownBlock = v.ownBlock ∨ v'.ownBlock = some W.heap.size) → wpList P ops Q rest (a.put o.dst v') y.val) : wpList P ops Q (o :: rest) a W :=
  wpList_plain hgd fun _ hK => wp_append_list W s x t ho w1.heap.size e i z size bytes ht hi hz hsize hby hzs hsz henc hone v l hs hown A n c m hx hn hm h63 hbytes hW.size fun v' w' h2 h3 h4 =>
    hK _ _ (h v' ⟨w', hW.grown h3 hW.size fun g hg => (hown.from_ g hg).1⟩ h2 h3 h4)
/-- The contract of a function that gives a list in memory. -/
def GivesList {α : Type} (P : Program) (f : FuncId) (args : Array Value) (w : World) (size : Nat) (enc : α → List Value) (l : List α) : Prop :=
  Calls P f args w fun e w' => ∃ (x : Ext w) (A : Option Addr) (c : Nat), e = .returned (.slice A l.length c) ∧ w' = x.val ∧ l.length ≤ c ∧ c ≤ maxLen ∧ Lies x.val size enc A l
end Go.Proofs.Grow
