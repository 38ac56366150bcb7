/- A region that draws its order, of which some operations write: a condition S on the world is kept up to the last operation, which need not keep it. -/
import Derived.Test.YtmpdmelkbemabaaGreatApp
import Derived.Deep.RegionHeld3
import Derived.Deep.MidRow
import Derived.Deep.WholeRow
set_option linter.unusedSimpArgs false
set_option linter.unusedVariables false
namespace Go.Proofs.Grow
open Go.RowKit

section
variable {P : Program} {ops : Array Oper} {Q : Exit → Act → World → Prop} {md : Region.Mode} {S : World → Prop}

/-- Whatever order is picked from here on; S holds behind each operation but number m. -/
def AnyTill (P : Program) (md : Region.Mode) (ops : Array Oper) (Q : Exit → Act → World → Prop) (S : World → Prop) (m : Nat) : Nat → Array Bool → Act → World → Prop
  | 0, listed, a, w => Region.ready md ops listed = [] ∧ Q .normal a w
  | n + 1, listed, a, w => (Region.ready md ops listed = [] → Q .normal a w) ∧
    ∀ i ∈ Region.ready md ops listed, wpOp P ops Q i (fun a' w' => (i ≠ m → S w') ∧ AnyTill P md ops Q S m n (listed.setIfInBounds i true) a' w') a w

variable {m : Nat}

theorem AnyTill.any : ∀ (n : Nat) (listed : Array Bool) (a : Act) (w : World), AnyTill P md ops Q S m n listed a w → wpAny P md ops Q n listed a w
  | 0, _, _, _, h => h
  | n + 1, _, _, _, h => ⟨h.1, fun i hi => wpOp_mono (fun a' w' h' => AnyTill.any n _ a' w' h'.2) (h.2 i hi)⟩

theorem ready_ne_nil {l : Array Bool} {i : Nat} (h : i ∈ Region.ready md ops l) : Region.ready md ops l ≠ [] := fun e => by rw [e] at h; cases h

/-- Operation m waits for operation i. -/
def waitsFor (md : Region.Mode) (ops : Array Oper) (m i : Nat) : Bool :=
  match ops[m]? with
  | some o => o.after.any fun e => Region.binds md e && e.on == i
  | none => false

theorem AnyTill.first {i : Nat} {oi : Oper} {v : Value} (hi : ops[i]? = some oi) (him : i ≠ m) (hlast : waitsFor md ops m i = true) (hsel : ∀ (j : Nat) (o : Oper) cs b, ops[j]? = some o → o.op ≠ .select cs b) (hQ : ∀ c a w, Q (.panic c) (a.put oi.dst v) w → Q (.panic c) a w) :
    ∀ (n : Nat) (listed : Array Bool) (a : Act) (w : World), (∀ j oj, ops[j]? = some oj → j ≠ i → listed.getD j true = false → (∀ e ∈ oj.after, Region.binds md e = true → e.on ≠ i) → oi.apart ops oj = true) →
      i ∈ Region.ready md ops listed → YieldsIf P ops S oi v a → S w → AnyTill P md ops Q S m n (listed.setIfInBounds i true) (a.put oi.dst v) w → AnyTill P md ops Q S m (n + 1) listed a w
  | n, listed, a, w, hfree, hr, hy, hS, H => by
    refine ⟨fun h => absurd h (ready_ne_nil hr), fun j hj => ?_⟩
    by_cases hji : j = i
    · subst hji
      exact hy.wpOp hi hS ⟨fun _ => hS, H⟩
    · cases n with
      | zero => exact absurd H.1 (ready_ne_nil (ready_mono hj hji))
      | succ n =>
        obtain ⟨hjun, oj, hoj, hall⟩ := mem_ready.1 hj
        have hnot : ∀ e ∈ oj.after, Region.binds md e = true → e.on ≠ i := fun e he hb heq => by
          have h1 := hall e he hb
          have h0 := (mem_ready.1 hr).1
          rw [heq] at h1
          rcases Nat.lt_or_ge i listed.size with h' | h'
          · simp [h'] at h0 h1; rw [h0] at h1; cases h1
          · simp [Array.getElem?_eq_none h'] at h1
        have hjm : j ≠ m := fun e => by
          subst e
          unfold waitsFor at hlast
          rw [hoj] at hlast
          simp only [Array.any_eq_true', Bool.and_eq_true, beq_iff_eq] at hlast
          obtain ⟨e, he, hb, ho⟩ := hlast
          exact hnot e he hb ho
        have h2 := wpOp_putIf hoj (hfree j oj hoj hji hjun hnot) (fun cs b => hsel i oi cs b hi) (fun cs b => hsel j oj cs b hoj) hQ hy (H.2 j (ready_mono hj hji))
        refine wpOp_mono (fun a' w' h3 => ?_) h2
        have hSw := h3.2.1 hjm
        refine ⟨fun _ => hSw, AnyTill.first hi him hlast hsel hQ n (listed.setIfInBounds j true) a' w' ?_ (ready_mono hr (Ne.symm hji)) h3.1 hSw ?_⟩
        · intro k ok hk hki hun hno
          refine hfree k ok hk hki ?_ hno
          by_cases hjk : j = k
          · subst hjk; exact hjun
          · rw [getD_set_ne true hjk] at hun; exact hun
        · rw [Array.setIfInBounds_comm _ _ hji]
          exact h3.2.2

/-- Take number i first. -/
theorem AnyTill.take {i : Nat} {oi : Oper} {v : Value} {n : Nat} {listed : Array Bool} {a : Act} {w : World} (hi : ops[i]? = some oi) (hc : (waitsFor md ops m i && Region.noSelect ops && decide (i ≠ m) && Region.free md ops listed i && (Region.ready md ops listed).contains i) = true)
    (hQ : ∀ c a w, Q (.panic c) (a.put oi.dst v) w → Q (.panic c) a w) (hS : S w) (hy : ∀ w, S w → (execOp a.eval oi).run P w = .ok (.value v) w) (hg : oi.guard = none)
    (h : AnyTill P md ops Q S m n (listed.setIfInBounds i true) (a.put oi.dst v) w) : AnyTill P md ops Q S m (n + 1) listed a w := by
  simp only [Bool.and_eq_true, decide_eq_true_eq] at hc
  obtain ⟨⟨⟨⟨h1, h2⟩, h3⟩, h4⟩, h5⟩ := hc
  exact AnyTill.first hi h3 h1 (Region.noSelect_spec h2) hQ n listed a w (Region.free_spec hi h4) (by simpa using h5) (.inl ⟨by simp [Region.wanted, hg], hy⟩) hS h

/-- The one that may come up now. -/
theorem AnyTill.one {i : Nat} {oi : Oper} {n : Nat} {listed : Array Bool} {a : Act} {w : World} (hi : ops[i]? = some oi) (hr : Region.ready md ops listed = [i]) (hg : oi.guard = none)
    (h : oi.wp P a w (fun a' w' => (i ≠ m → S w') ∧ AnyTill P md ops Q S m n (listed.setIfInBounds i true) a' w') Q) : AnyTill P md ops Q S m (n + 1) listed a w := by
  refine ⟨fun e => (by rw [hr] at e; cases e), fun j hj => ?_⟩
  rw [hr] at hj
  obtain rfl : j = i := by simpa using hj
  unfold wpOp
  simp only [hi, Region.wanted, hg, if_true]
  exact .inl h

/-- The same, what follows behind a variable. -/
theorem AnyTill.oneK {i : Nat} {oi : Oper} {n : Nat} {listed : Array Bool} {a : Act} {w : World} (hi : ops[i]? = some oi) (hr : Region.ready md ops listed = [i]) (hg : oi.guard = none)
    (h : ∀ K : Act → World → Prop, (∀ a' w', (i ≠ m → S w') → AnyTill P md ops Q S m n (listed.setIfInBounds i true) a' w' → K a' w') → oi.wp P a w K Q) : AnyTill P md ops Q S m (n + 1) listed a w :=
  AnyTill.one hi hr hg (h _ fun _ _ h1 h2 => ⟨h1, h2⟩)

theorem AnyTill.done {listed : Array Bool} {a : Act} {w : World} (hr : Region.ready md ops listed = []) (h : Q .normal a w) : ∀ n, AnyTill P md ops Q S m n listed a w
  | 0 => ⟨hr, h⟩
  | _ + 1 => ⟨fun _ => h, by rw [hr]; simp⟩

theorem wp_region_till {id : Nat} {a : Act} {w : World} (S : World → Prop) (m : Nat) (hm : P.follows .mixedOrders = true) (h : AnyTill P .any ops Q S m ops.size (Array.replicate ops.size false) a w.drew) : (Code.region id ops true).wp P Q a w :=
  wp_region_any hm (AnyTill.any _ _ _ _ h)
end

theorem Lies.drew {α : Type} {w : World} {size : Nat} {enc : α → List Value} {A : Option Addr} {l : List α} (h : Lies w size enc A l) : Lies w.drew size enc A l := h

theorem flat_set {α : Type} {enc : α → List Value} {size : Nat} (henc : ∀ a, (enc a).length = size) {a : α} {j : Nat} {u : Value} (hj : j < size) : ∀ (l : List α) (k : Nat) (h : k < l.length), enc a = (enc l[k]).set j u → (l.set k a).flatMap enc = (l.flatMap enc).set (k * size + j) u
  | b :: l, 0, h, ha => by
    simp only [List.set_cons_zero, List.flatMap_cons, Nat.zero_mul, Nat.zero_add]
    rw [List.set_append_left _ _ (by rw [henc]; exact hj)]
    simpa using ha
  | b :: l, k + 1, h, ha => by
    simp only [List.set_cons_succ, List.flatMap_cons]
    rw [List.set_append_right _ _ (by rw [henc, Nat.add_mul]; omega), henc, flat_set henc hj l k (by simpa using h) (by simpa using ha)]
    have e : (k + 1) * size + j - size = k * size + j := by rw [Nat.add_mul]; omega
    rw [e]

theorem Own.setCell {α : Type} {enc : α → List Value} {W : World} {base size g : Nat} {e : TypeId} {v : Value} {l : List α} (h : Own W base e size enc v l) (henc : ∀ a, (enc a).length = size) (k j : Nat) (hk : k < l.length) (hj : j < size) (u : Value) (a : α)
    (ha : enc a = (enc l[k]).set j u) (hg : v.ownBlock = some g) : Own (W.setCell ⟨g, k * size + j, none⟩ u) base e size enc v (l.set k a) := by
  obtain ⟨h1, h2⟩ := h
  refine ⟨by rw [flat_len henc], ?_⟩
  rw [List.length_set, flat_set henc hj l k hk ha]
  rcases h2 with ⟨rfl, h2⟩ | ⟨g', cap, cur, rfl, hb, hh, hnc, hcm, hcs, hcur⟩
  · omega
  · simp only [Value.ownBlock, Option.some.injEq] at hg
    subst hg
    refine .inr ⟨g', cap, cur.setIfInBounds (k * size + j) u, rfl, hb, Go.heap_setCell_same W g' _ cur e u hh, hnc, hcm, by simpa using hcs, ?_⟩
    rw [← hcur, Array.toList_setIfInBounds, List.take_set]

/-- A whole block loaded: a struct behind its own pointer. -/
theorem run_load_block {P : Program} {W : World} {o : Oper} {a : Act} {x : Operand} {ty t : TypeId} {g : Nat} {cs : Array Value} {fr : Nat × Nat} {d : TypeDesc} (ho : o.op = .load ty x) (hx : a.eval x = .pointer (some ⟨g, 0, none⟩))
    (hg : W.heap[g]? = some (.cells cs t fr)) (hu : P.underlying ty = some d) (hd : (match d with | .struct _ | .array _ _ => true | _ => false) = true) (hi : (P.info? ty).map (·.size) = some cs.size) :
    (execOp a.eval o).run P W = .ok (.value (.agg cs)) W := by
  have h := run_loadVar_row W g t ty cs fr d hg hu hd hi
  unfold execOp
  simp [ho, hx, Instr.loadAt, Instr.sureAddr, h]

/-- A whole struct into the block that was made last. -/
theorem wpList_store_new {P : Program} {ops : Array Oper} {rest : List Oper} {o : Oper} {a : Act} {W : World} {Q : Exit → Act → World → Prop} (hgd : o.guard = none) (ty : TypeId) (x y : Operand) (ho : o.op = .store ty x y)
    (old : Array Value) (t : TypeId) (cells : Array Value) (n : Nat) (hn : n = W.heap.size) (hx : a.eval x = .pointer (some ⟨n, 0, none⟩)) (hy : a.eval y = .agg cells) (hi : (P.info? ty).map (·.size) = some cells.size)
    (hold : old.size = cells.size) (h1 : ∀ u ∈ cells.toList, u.oneCell' = true) (h : wpList P ops Q rest (a.put o.dst undef) (W.alloc (.cells cells t))) : wpList P ops Q (o :: rest) a (W.alloc (.cells old t)) := by
  subst hn
  refine wpList_store_row hgd ty x y ho W.heap.size cells hx hy t old (heap_alloc_new W _) hi hold (Array.all_eq_true_iff_forall_mem.2 fun u hu => h1 u (by simpa using hu)) ?_
  rw [World.setRow_alloc_new]
  exact h
/-- A whole struct out of the block that was made last but one. -/
theorem wpList_load_under {P : Program} {ops : Array Oper} {rest : List Oper} {o : Oper} {a : Act} {W : World} {Q : Exit → Act → World → Prop} (hgd : o.guard = none) (ty : TypeId) (x : Operand) (ho : o.op = .load ty x)
    (cells : Array Value) (t : TypeId) (ob : Obj) (hx : a.eval x = .pointer (some ⟨W.heap.size, 0, none⟩)) {d : TypeDesc} (hu : P.underlying ty = some d) (hd : (match d with | .struct _ | .array _ _ => true | _ => false) = true) (hi : (P.info? ty).map (·.size) = some cells.size)
    (h : wpList P ops Q rest (a.put o.dst (.agg cells)) ((W.alloc (.cells cells t)).alloc ob)) : wpList P ops Q (o :: rest) a ((W.alloc (.cells cells t)).alloc ob) :=
  wpList_load_row hgd ty x ho W.heap.size hx t cells (0, 0) d ((Below.heap_alloc _ _ W.heap.size (by simp)).trans (heap_alloc_new W _)) hu hd hi h

/-- A whole struct out of the block that was made last. -/
theorem wpList_load_new {P : Program} {ops : Array Oper} {rest : List Oper} {o : Oper} {a : Act} {W : World} {Q : Exit → Act → World → Prop} (hgd : o.guard = none) (ty : TypeId) (x : Operand) (ho : o.op = .load ty x)
    (cells : Array Value) (t : TypeId) (hx : a.eval x = .pointer (some ⟨W.heap.size, 0, none⟩)) {d : TypeDesc} (hu : P.underlying ty = some d) (hd : (match d with | .struct _ | .array _ _ => true | _ => false) = true) (hi : (P.info? ty).map (·.size) = some cells.size)
    (h : wpList P ops Q rest (a.put o.dst (.agg cells)) (W.alloc (.cells cells t))) : wpList P ops Q (o :: rest) a (W.alloc (.cells cells t)) :=
  wpList_load_row hgd ty x ho W.heap.size hx t cells (0, 0) d (heap_alloc_new W _) hu hd hi h
theorem intOf_int (κ : IntKind) (n : Int) : intOf (.int κ n) = n := rfl
end Go.Proofs.Grow
