/- General lemmas of my own: what came in read as lists of structs; the last step of a law's row (it returns true and only makes memory). -/
import Derived.Test.YtmpdmelkbemabaaGreatLib
import Derived.Deep.Slices
import Derived.OpenShut
set_option linter.unusedSimpArgs false
set_option linter.unusedVariables false
namespace Go.Proofs.Grow
open Go.RowKit Go.ChangeShapes Go.WideShapes Go.Deep

section
variable {H : Type} {enc : TypeId × Value → H} {P : Program} {W : World} {base : Nat} {spare : Nat → Bool} {held : Bool}

/-- The arguments read as before behind a call that only made memory. -/
theorem trodAll_stays {W' : World} (hl : laidOutB P = true) (hb : Below W.heap.size W W') :
    ∀ (ts : List TypeId) (vs : List Value) (ds : List (DataW H)) (ps : List MemPlace), (ts.all fun t => P.readableRec t && decide (t < P.types.size)) = true →
      DataW.TrodAll enc P W 0 (fun _ => true) true ts vs ds ps → (∀ x ∈ ps, x.block < W.heap.size) → DataW.TrodAll enc P W' 0 (fun b => decide (b < W.heap.size)) true ts vs ds ps
  | [], [], [], _, _, h, _ => h
  | t :: ts, v :: vs, d :: ds, ps, ht, h, hlt => by
    obtain ⟨p, q, h1, h2, rfl⟩ := h
    simp only [List.all_cons, Bool.and_eq_true, decide_eq_true_eq] at ht
    exact ⟨p, q, Below.trod hl ht.1.1 ht.1.2 h1 hb (fun x hx => hlt x (List.mem_append_left _ hx)),
      trodAll_stays hl hb ts vs ds q (by simpa using ht.2) h2 (fun x hx => hlt x (List.mem_append_right _ hx)), rfl⟩
  | [], [], _ :: _, _, _, h, _ | [], _ :: _, [], _, _, h, _ | [], _ :: _, _ :: _, _, _, h, _ | _ :: _, [], [], _, _, h, _ | _ :: _, [], _ :: _, _, _, h, _ | _ :: _, _ :: _, [], _, _, h, _ => h.elim

/-- The law's last step. -/
theorem post_true {f : Func} {s : ChangeSpec} {W' : World} {args : Array Value} {ds gs : List (DataW H)} {before : List MemPlace} {tb : TypeId} (hl : laidOutB P = true)
    (hts : (f.params.toList.all fun t => P.readableRec t && decide (t < P.types.size)) = true) (hr : f.resultTypes = #[tb]) (hb : P.underlying tb = some .bool) (hv : s.vars = [])
    (hs : s.fn H ds = { results := [.lit (.bool true)], args := ds }) (hW : DataW.Whole enc P f.params.toList s.vars false W args.toList ds gs before) (bel : Below W.heap.size W W') :
    ∃ v, Ending.returned (.bool true) = .returned v ∧ s.post enc P f false true false false W args v W' := by
  have hW' := hW
  have hlt := fun x hx => hW'.lt x hx
  obtain ⟨p, q, hA, hV, rfl, hfz, hnd⟩ := hW
  rw [hv] at hV
  have hq : q = [] ∧ gs = [] := by
    cases gs with
    | nil => exact ⟨hV, rfl⟩
    | cons => exact hV.elim
  obtain ⟨rfl, rfl⟩ := hq
  have hs : s.fn H (ds ++ []) = { results := [.lit (.bool true)], args := ds } := by rw [List.append_nil]; exact hs
  refine ⟨_, rfl, ds, [], p ++ [], [], p, [], hW', ?_, ?_, ?_, bel.frame _, fun h => by cases h⟩
  · rw [hs, hr]
    exact trodAll_mk1 (shut_bool hb _)
  · rw [hs]
    exact trodAll_stays hl bel _ _ _ _ hts hA (fun x hx => by simpa using hlt x (List.mem_append_left _ hx))
  · rw [hv, hs]
    exact rfl

/-- A cell list of n parts, each of k cells. -/
theorem flat_parts {k : Nat} : ∀ (n : Nat) (cs : List Value), cs.length = n * k → cs = (List.range n).flatMap fun i => (cs.drop (i * k)).take k
  | 0, cs, h => by simp at h; simp [h]
  | n + 1, cs, h => by
    have hl : k ≤ cs.length := by rw [h, Nat.add_mul]; omega
    have ih := flat_parts (k := k) n (cs.drop k) (by simp [h, Nat.add_mul])
    rw [List.range_succ_eq_map, List.flatMap_cons, List.flatMap_map]
    simp only [Nat.zero_mul, List.drop_zero]
    have e : (List.range n).flatMap (fun i => ((cs.drop ((i + 1) * k)).take k)) = cs.drop k := by
      conv => rhs; rw [ih]
      congr 1
      funext i
      rw [List.drop_drop]
      congr 2
      rw [Nat.add_mul]; omega
    rw [e, List.take_append_drop]

theorem drop_split (cs : List Value) (o s : Nat) : cs.drop o = (cs.drop o).take s ++ cs.drop (o + s) := by
  rw [← List.drop_drop, List.take_append_drop]

/-- One field of a struct that came in. -/
theorem open_field {fs : Array Field} {n : Nat} {cs : List Value} {xs : List (DataW H × List MemPlace)} (hxl : xs.length = fs.size)
    (hf : ∀ (i : Nat) (f : Field), fs[i]? = some f → DataW.trod enc P W base spare held n f.type ((cs.drop f.offset).take (P.cellsOf f.type)) = xs[i]?) (i t o s : Nat) (h : fs[i]?.map (fun f => (f.type, f.offset)) = some (t, o)) (hs : P.cellsOf t = s) :
    ∃ y, DataW.trod enc P W base spare held n t ((cs.drop o).take s) = some y := by
  obtain ⟨f, hfi, he⟩ := Option.map_eq_some_iff.1 h
  simp only [Prod.mk.injEq] at he
  obtain ⟨rfl, rfl⟩ := he
  have hi := (Array.getElem?_eq_some_iff.1 hfi).1
  rw [← hs]
  exact ⟨xs[i]'(by omega), (hf i f hfi).trans (List.getElem?_eq_getElem (by omega))⟩

/-- An array that came in: its cells, part by part. -/
theorem open_array {α : Type} {t e : TypeId} {k m fuel : Nat} {enc' : α → List Value} {Q : α → Prop} {cs : List Value} {x : DataW H × List MemPlace} (ht : P.underlying t = some (.array m e)) (hk : P.cellsOf e = k) (hkt : P.cellsOf t = m * k)
    (hR : ∀ n cs x, n < fuel → DataW.trod enc P W base spare held n e cs = some x → ∃ a, cs = enc' a ∧ Q a) (h : DataW.trod enc P W base spare held fuel t cs = some x) :
    ∃ l : List α, l.length = m ∧ cs = l.flatMap enc' ∧ ∀ a ∈ l, Q a := by
  obtain ⟨xs, n, rfl, _, hlen, hxl, hf⟩ := DataW.trod_array ht h
  rw [hkt] at hlen
  have key : ∀ i, i < m → ∃ a, (cs.drop (i * k)).take k = enc' a ∧ Q a := fun i hi => by
    have h1 := hf i hi
    rw [hk] at h1
    exact hR n _ _ (by omega) (h1.trans (List.getElem?_eq_getElem (by omega)))
  have build : ∀ r, r ≤ m → ∃ l : List α, l.length = r ∧ (List.range r).flatMap (fun i => (cs.drop (i * k)).take k) = l.flatMap enc' ∧ ∀ a ∈ l, Q a := by
    intro r
    induction r with
    | zero => exact fun _ => ⟨[], rfl, rfl, by simp⟩
    | succ r ih =>
      intro hr
      obtain ⟨l, h1, h2, h3⟩ := ih (by omega)
      obtain ⟨a, ha, hq⟩ := key r (by omega)
      refine ⟨l ++ [a], by simp [h1], ?_, fun z hz => ?_⟩
      · rw [List.range_succ, List.flatMap_append, h2, List.flatMap_append]; simp [ha]
      · rcases List.mem_append.1 hz with hz | hz
        · exact h3 z hz
        · simp at hz; exact hz ▸ hq
  obtain ⟨l, h1, h2, h3⟩ := build m (Nat.le_refl _)
  exact ⟨l, h1, (flat_parts m cs hlen).trans h2, h3⟩

/-- The value of an array or struct argument. -/
theorem okWide_array {n : Nat} {e t : TypeId} {r : Reach} {b0 : Nat} {v : Value} (ht : P.underlying t = some (.array n e)) (h : Value.okWide P W r b0 t v) : ∃ cs, v = .agg cs ∧ cs.size = P.cellsOf t := by
  simp only [Value.okWide, ht] at h
  obtain ⟨cs, h1, h2, _⟩ := h
  exact ⟨cs, h1, h2⟩

/-- A slice that came in, its elements of a type that reads as α. -/
theorem open_list {α : Type} {t e : TypeId} {k fuel : Nat} {enc' : α → List Value} {Q : α → Prop} {cs : List Value} {x : DataW H × List MemPlace} (ht : P.underlying t = some (.slice e)) (hk : P.cellsOf e = k) (hk0 : 0 < k)
    (hR : ∀ n cs x, n < fuel → DataW.trod enc P W base spare held n e cs = some x → ∃ a, cs = enc' a ∧ Q a) (h : DataW.trod enc P W base spare held fuel t cs = some x) :
    ∃ (A : Option Addr) (l : List α) (cap : Nat), cs = [.slice A l.length cap] ∧ l.length ≤ cap ∧ cap ≤ maxLen ∧ Lies W k enc' A l ∧ ∀ a ∈ l, Q a := by
  rcases DataW.trod_slice ht h with ⟨rfl, _⟩ | ⟨a, len, cap, elems, rest, n, rfl, rfl, rfl, hb, hl, hm, hlen, hel, _, _⟩
  · exact ⟨none, [], 0, rfl, Nat.le_refl _, Nat.zero_le _, Lies.nil, fun _ h => by simp at h⟩
  · have key : ∀ i, i < len → ∃ y : α, Q y ∧ ∃ b off, a = ⟨b, off, none⟩ ∧ b < W.heap.size ∧ ∀ j v, (enc' y)[j]? = some v → W.cell? ⟨b, off + i * k + j, none⟩ = some v := fun i hi => by
      have h1 := hel i hi
      rw [hk] at h1
      have hsome : elems[i]? = some (elems[i]'(by omega)) := List.getElem?_eq_getElem (by omega)
      rw [hsome, Option.bind_eq_some_iff] at h1
      obtain ⟨csi, hc, hy⟩ := h1
      obtain ⟨hbase, hcl, hat⟩ := World.cells?_some hc
      obtain ⟨y, rfl, hQ⟩ := hR n csi _ (by omega) hy
      have h0 := hat 0 hk0
      have hne : (enc' y)[0]? = some ((enc' y)[0]'(by omega)) := List.getElem?_eq_getElem (by omega)
      rw [hne] at h0
      have hspot := World.cell?_spot h0
      have hblk := World.block_lt_of_cell? _ _ h0
      obtain ⟨b, off, spot⟩ := a
      have hsp : i * k = 0 → spot = none := fun hz => by simpa [Addr.add, hz] using hspot
      have hspot' : spot = none := by
        rcases Nat.eq_zero_or_pos (i * k) with hz | hz
        · exact hsp hz
        · -- another element tells it: the first one
          have h10 := hel 0 (by omega)
          rw [hk] at h10
          have hsome0 : elems[0]? = some (elems[0]'(by omega)) := List.getElem?_eq_getElem (by omega)
          rw [hsome0, Option.bind_eq_some_iff] at h10
          obtain ⟨cs0, hc0, hy0⟩ := h10
          obtain ⟨_, hcl0, hat0⟩ := World.cells?_some hc0
          have h00 := hat0 0 hk0
          have hne0 : cs0[0]? = some (cs0[0]'(by omega)) := List.getElem?_eq_getElem (by omega)
          rw [hne0] at h00
          simpa [Addr.add] using World.cell?_spot h00
      subst hspot'
      refine ⟨y, hQ, b, off, rfl, ?_, fun j v hv => ?_⟩
      · have : ((Addr.add ⟨b, off, none⟩ (i * k)).add 0).block = b := by simp [Addr.add]; split <;> rfl
        rw [this] at hblk; exact hblk
      · have hj : j < k := by have := (List.getElem?_eq_some_iff.1 hv).1; omega
        have := hat j hj
        rw [hv] at this
        have e : ((Addr.add ⟨b, off, none⟩ (i * k)).add j) = ⟨b, off + i * k + j, none⟩ := by
          unfold Addr.add
          by_cases hi0 : i * k = 0 <;> by_cases hj0 : j = 0 <;> simp [hi0, hj0]
        rw [e] at this; exact this
    clear hel h
    have build : ∀ m, m ≤ len → ∃ l : List α, l.length = m ∧ (∀ y ∈ l, Q y) ∧ ∀ i (hi : i < l.length), ∃ b off, a = ⟨b, off, none⟩ ∧ b < W.heap.size ∧ ∀ j v, (enc' l[i])[j]? = some v → W.cell? ⟨b, off + i * k + j, none⟩ = some v := by
      intro m
      induction m with
      | zero => exact fun _ => ⟨[], rfl, by simp, fun i hi => by simp at hi⟩
      | succ m ih =>
        intro hm'
        obtain ⟨l, hl1, hq, hc⟩ := ih (by omega)
        obtain ⟨y, hQ, b, off, hA, hb', hcell⟩ := key m (by omega)
        refine ⟨l ++ [y], by simp [hl1], fun z hz => ?_, fun i hi => ?_⟩
        · rcases List.mem_append.1 hz with hz | hz
          · exact hq z hz
          · simp at hz; exact hz ▸ hQ
        · by_cases him : i < l.length
          · obtain ⟨b, off, h1, h2, h3⟩ := hc i him
            exact ⟨b, off, h1, h2, fun j v hv => h3 j v (by rw [List.getElem_append_left him] at hv; exact hv)⟩
          · have : i = m := by simp at hi; omega
            subst this
            refine ⟨b, off, hA, hb', fun j v hv => hcell j v ?_⟩
            rw [List.getElem_append_right (by omega)] at hv
            simpa [hl1] using hv
    obtain ⟨l, hl1, hq, hc⟩ := build len (Nat.le_refl _)
    refine ⟨some a, l, cap, by rw [hl1], by omega, hm, fun i hi => ?_, hq⟩
    obtain ⟨b, off, rfl, h2, h3⟩ := hc i hi
    exact ⟨b, off, rfl, h2, h3⟩
end
end Go.Proofs.Grow
