/- What came in, read as expressions, statements, methods. -/
import Derived.Test.YtmpdmelkbemabaaGreatOpen
import Derived.Test.YtmpdmelkbemabaaGreatRows
import Derived.Test.YtmpdmelkbemabaaGreatCls
set_option linter.unusedSimpArgs false
set_option linter.unusedVariables false
namespace Go.Proofs.Grow
open Go.RowKit Go.ChangeShapes Go.WideShapes Go.Deep

section
variable {H : Type} {enc : TypeId × Value → H} {P : Program} {W : World} {base : Nat} {spare : Nat → Bool} {held : Bool}

theorem open_field_at {fs : Array Field} {n : Nat} {cs : List Value} {xs : List (DataW H × List MemPlace)} (hxl : xs.length = fs.size)
    (hf : ∀ (i : Nat) (f : Field), fs[i]? = some f → DataW.trod enc P W base spare held n f.type ((cs.drop f.offset).take (P.cellsOf f.type)) = xs[i]?) (i t o s : Nat) (h : fs[i]?.map (fun f => (f.type, f.offset)) = some (t, o)) (hs : P.cellsOf t = s) :
    ∃ y, xs[i]? = some y ∧ DataW.trod enc P W base spare held n t ((cs.drop o).take s) = some y := by
  obtain ⟨f, hfi, he⟩ := Option.map_eq_some_iff.1 h
  simp only [Prod.mk.injEq] at he
  obtain ⟨rfl, rfl⟩ := he
  have hi := (Array.getElem?_eq_some_iff.1 hfi).1
  rw [← hs]
  exact ⟨xs[i]'(by omega), List.getElem?_eq_getElem (by omega), (hf i f hfi).trans (List.getElem?_eq_getElem (by omega))⟩

/-- A slice that came in; wt: a weight of an element that its reading's bulk bounds. -/
theorem open_list_w {α : Type} {t e : TypeId} {k fuel : Nat} {enc' : α → List Value} {Q : α → Prop} {wt : α → Nat} {mu : DataW H → Nat} (hmu : ∀ l r, ((l.map mu).sum) ≤ mu (.slice l r)) {cs : List Value} {x : DataW H × List MemPlace} (ht : P.underlying t = some (.slice e)) (hk : P.cellsOf e = k) (hk0 : 0 < k)
    (hR : ∀ n cs x, n < fuel → DataW.trod enc P W base spare held n e cs = some x → ∃ a, cs = enc' a ∧ Q a ∧ wt a ≤ mu x.1) (h : DataW.trod enc P W base spare held fuel t cs = some x) :
    ∃ (A : Option Addr) (l : List α) (cap : Nat), cs = [.slice A l.length cap] ∧ l.length ≤ cap ∧ cap ≤ maxLen ∧ Lies W k enc' A l ∧ (∀ a ∈ l, Q a) ∧ (l.map wt).sum ≤ mu x.1 := by
  rcases DataW.trod_slice ht h with ⟨rfl, _⟩ | ⟨a, len, cap, elems, rest, n, rfl, rfl, rfl, hb, hl, hm, hlen, hel, _, _⟩
  · exact ⟨none, [], 0, rfl, Nat.le_refl _, Nat.zero_le _, Lies.nil, fun _ h => by simp at h, by simp⟩
  · have key : ∀ i (hi : i < len), ∃ y : α, Q y ∧ wt y ≤ mu (elems[i]'(by omega)).1 ∧ ∃ b off, a = ⟨b, off, none⟩ ∧ b < W.heap.size ∧ ∀ j v, (enc' y)[j]? = some v → W.cell? ⟨b, off + i * k + j, none⟩ = some v := fun i hi => by
      have h1 := hel i hi
      rw [hk] at h1
      have hsome : elems[i]? = some (elems[i]'(by omega)) := List.getElem?_eq_getElem (by omega)
      rw [hsome, Option.bind_eq_some_iff] at h1
      obtain ⟨csi, hc, hy⟩ := h1
      obtain ⟨hbase, hcl, hat⟩ := World.cells?_some hc
      obtain ⟨y, rfl, hQ, hwt⟩ := hR n csi _ (by omega) hy
      have h0 := hat 0 hk0
      have hne : (enc' y)[0]? = some ((enc' y)[0]'(by omega)) := List.getElem?_eq_getElem (by omega)
      rw [hne] at h0
      have hspot := World.cell?_spot h0
      have hblk := World.block_lt_of_cell? _ _ h0
      obtain ⟨b, off, spot⟩ := a
      have hsp : i * k = 0 → spot = none := fun hz => by simpa [Addr.add, hz] using hspot
      have hspot' : spot = none := by
        rcases Nat.eq_zero_or_pos (i * k) with hz | hz
        · exact hsp hz
        · have h10 := hel 0 (by omega)
          rw [hk] at h10
          have hsome0 : elems[0]? = some (elems[0]'(by omega)) := List.getElem?_eq_getElem (by omega)
          rw [hsome0, Option.bind_eq_some_iff] at h10
          obtain ⟨cs0, hc0, hy0⟩ := h10
          obtain ⟨_, hcl0, hat0⟩ := World.cells?_some hc0
          have h00 := hat0 0 hk0
          have hne0 : cs0[0]? = some (cs0[0]'(by omega)) := List.getElem?_eq_getElem (by omega)
          rw [hne0] at h00
          simpa [Addr.add] using World.cell?_spot h00
      subst hspot'
      refine ⟨y, hQ, hwt, b, off, rfl, ?_, fun j v hv => ?_⟩
      · have : ((Addr.add ⟨b, off, none⟩ (i * k)).add 0).block = b := by simp [Addr.add]; split <;> rfl
        rw [this] at hblk; exact hblk
      · have hj : j < k := by have := (List.getElem?_eq_some_iff.1 hv).1; omega
        have := hat j hj
        rw [hv] at this
        have e : ((Addr.add ⟨b, off, none⟩ (i * k)).add j) = ⟨b, off + i * k + j, none⟩ := by
          unfold Addr.add
          by_cases hi0 : i * k = 0 <;> by_cases hj0 : j = 0 <;> simp [hi0, hj0]
        rw [e] at this; exact this
    clear hel h
    have build : ∀ m, m ≤ len → ∃ l : List α, l.length = m ∧ (∀ y ∈ l, Q y) ∧ (l.map wt).sum ≤ ((elems.take m).map fun y => mu y.1).sum ∧ ∀ i (hi : i < l.length), ∃ b off, a = ⟨b, off, none⟩ ∧ b < W.heap.size ∧ ∀ j v, (enc' l[i])[j]? = some v → W.cell? ⟨b, off + i * k + j, none⟩ = some v := by
      intro m
      induction m with
      | zero => exact fun _ => ⟨[], rfl, by simp, by simp, fun i hi => by simp at hi⟩
      | succ m ih =>
        intro hm'
        obtain ⟨l, hl1, hq, hw, hc⟩ := ih (by omega)
        obtain ⟨y, hQ, hwt, b, off, hA, hb', hcell⟩ := key m (by omega)
        refine ⟨l ++ [y], by simp [hl1], fun z hz => ?_, ?_, fun i hi => ?_⟩
        · rcases List.mem_append.1 hz with hz | hz
          · exact hq z hz
          · simp at hz; exact hz ▸ hQ
        · rw [List.take_succ_eq_append_getElem (by omega), List.map_append, List.map_append, List.sum_append, List.sum_append]
          simp only [List.map_cons, List.map_nil, List.sum_cons, List.sum_nil]
          omega
        · by_cases him : i < l.length
          · obtain ⟨b, off, h1, h2, h3⟩ := hc i him
            exact ⟨b, off, h1, h2, fun j v hv => h3 j v (by rw [List.getElem_append_left him] at hv; exact hv)⟩
          · have : i = m := by simp at hi; omega
            subst this
            refine ⟨b, off, hA, hb', fun j v hv => hcell j v ?_⟩
            rw [List.getElem_append_right (by omega)] at hv
            simpa [hl1] using hv
    obtain ⟨l, hl1, hq, hw, hc⟩ := build len (Nat.le_refl _)
    refine ⟨some a, l, cap, by rw [hl1], by omega, hm, fun i hi => ?_, hq, ?_⟩
    · obtain ⟨b, off, rfl, h2, h3⟩ := hc i hi
      exact ⟨b, off, rfl, h2, h3⟩
    · have h9 := hmu (elems.map (·.1)) (rest.map (·.1))
      rw [List.take_of_length_le (by omega)] at hw
      rw [List.map_map] at h9
      exact Nat.le_trans hw h9
end
end Go.Proofs.Grow
set_option linter.unusedSimpArgs false
set_option linter.unusedVariables false
namespace Go.Proofs.Grow
open Go.RowKit
mutual
/-- How many statements there are in one. -/
def St.wt : St → Nat
  | .mk _ _ _ _ _ _ _ _ _ _ _ body _ _ els _ => 1 + wtAll body + wtAll els
def wtAll : List St → Nat
  | [] => 0
  | s :: l => s.wt + wtAll l
end
theorem wtAll_sum : ∀ l : List St, (l.map St.wt).sum = wtAll l
  | [] => by simp [wtAll]
  | s :: l => by simp [wtAll, wtAll_sum l]
end Go.Proofs.Grow
namespace Go.Proofs.YtmpdmelkbemabaaGreat
open Go.RowKit Go.Proofs.Grow Go.ChangeShapes Go.WideShapes

theorem own : ownKnob Tryz.prog.godebug = none := by kernel_rfl
theorem laidOut : laidOutB Tryz.prog = true := by kernel_rfl
theorem cellsOw : Tryz.prog.cellsOf 37 = 2 := by kernel_rfl
theorem cellsStr : Tryz.prog.cellsOf 9 = 1 := by kernel_rfl
theorem cellsInt : Tryz.prog.cellsOf 3 = 1 := by kernel_rfl
theorem cellsBool : Tryz.prog.cellsOf 4 = 1 := by kernel_rfl
theorem cellsArr : Tryz.prog.cellsOf 38 = 8 := by kernel_rfl
theorem cellsTy : Tryz.prog.cellsOf 40 = 11 := by kernel_rfl
theorem cellsEx : Tryz.prog.cellsOf 48 = 4 := by kernel_rfl
theorem cellsExs : Tryz.prog.cellsOf 46 = 1 := by kernel_rfl
theorem cellsSt : Tryz.prog.cellsOf 50 = 23 := by kernel_rfl
theorem cellsSts : Tryz.prog.cellsOf 41 = 1 := by kernel_rfl
theorem cellsVa : Tryz.prog.cellsOf 78 = 13 := by kernel_rfl
theorem cellsVas : Tryz.prog.cellsOf 32 = 1 := by kernel_rfl
theorem cellsMe : Tryz.prog.cellsOf 43 = 17 := by kernel_rfl

theorem bulk_slice {H : Type} (l r : List (DataW H)) : (l.map Rows.uptoBulk).sum ≤ Rows.uptoBulk (.slice l r) := by
  have h : ∀ l : List (DataW H), (l.map Rows.uptoBulk).sum = Rows.uptoBulkAll l := fun l => by
    induction l with
    | nil => simp [Rows.uptoBulkAll]
    | cons d l ih => simp [Rows.uptoBulkAll, ih]
  rw [h]
  simp only [Rows.uptoBulk]
  omega

section
variable {H : Type} {enc : TypeId × Value → H} {W : World} {base : Nat} {spare : Nat → Bool} {held : Bool}

theorem open_ow {fuel : Nat} {cs : List Value} {x : DataW H × List MemPlace} (h : DataW.trod enc Tryz.prog W base spare held fuel 37 cs = some x) : ∃ o : Ow, cs = o.cells ∧ True := by
  obtain ⟨xs, n, rfl, _, hlen, hxl, hf⟩ := DataW.trod_struct Tryz.underlying37 h
  rw [cellsOw] at hlen
  obtain ⟨y0, g0⟩ := open_field hxl hf 0 3 0 1 rfl cellsInt
  obtain ⟨y1, g1⟩ := open_field hxl hf 1 3 1 1 rfl cellsInt
  obtain ⟨k, e0, _, w0⟩ := DataW.trod_int Tryz.underlying3 g0
  obtain ⟨m, e1, _, w1⟩ := DataW.trod_int Tryz.underlying3 g1
  refine ⟨⟨k, m⟩, ?_, trivial⟩
  have e : cs = (cs.drop 0).take 1 ++ ((cs.drop 1).take 1 ++ cs.drop 2) := by
    rw [← drop_split, ← drop_split]; rfl
  rw [e, e0, e1, List.drop_eq_nil_of_le (by omega)]
  rfl

theorem open_ty {fuel : Nat} {cs : List Value} {x : DataW H × List MemPlace} (h : DataW.trod enc Tryz.prog W base spare held fuel 40 cs = some x) : ∃ t : Ty, cs = t.cells ∧ t.cls.size ≤ maxLen := by
  obtain ⟨xs, n, rfl, _, hlen, hxl, hf⟩ := DataW.trod_struct Tryz.underlying40 h
  rw [cellsTy] at hlen
  obtain ⟨y0, g0⟩ := open_field hxl hf 0 3 0 1 rfl cellsInt
  obtain ⟨y1, g1⟩ := open_field hxl hf 1 9 1 1 rfl cellsStr
  obtain ⟨y2, g2⟩ := open_field hxl hf 2 3 2 1 rfl cellsInt
  obtain ⟨y3, g3⟩ := open_field hxl hf 3 38 3 8 rfl cellsArr
  obtain ⟨k, e0, _, _⟩ := DataW.trod_int Tryz.underlying3 g0
  obtain ⟨s, e1, _, hs⟩ := DataW.trod_string Tryz.underlying9 g1
  obtain ⟨m, e2, _, _⟩ := DataW.trod_int Tryz.underlying3 g2
  obtain ⟨l, hl, e3, _⟩ := open_array Tryz.underlying38 cellsOw cellsArr (fun n cs x _ h => open_ow h) g3
  match l, hl with
  | [a, b, c, d], _ =>
    refine ⟨⟨k, s, m, a, b, c, d⟩, ?_, hs⟩
    have e : cs = (cs.drop 0).take 1 ++ ((cs.drop 1).take 1 ++ ((cs.drop 2).take 1 ++ ((cs.drop 3).take 8 ++ cs.drop 11))) := by
      rw [← drop_split, ← drop_split, ← drop_split, ← drop_split]; rfl
    rw [e, e0, e1, e2, e3, List.drop_eq_nil_of_le (by omega)]
    rfl

theorem open_ex (fuel : Nat) (cs : List Value) (x : DataW H × List MemPlace) (h : DataW.trod enc Tryz.prog W base spare held fuel 48 cs = some x) : ∃ e : Ex, cs = e.cells ∧ ExIn W e := by
  induction fuel using Nat.strongRecOn generalizing cs x with
  | ind fuel ih =>
    obtain ⟨xs, n, rfl, _, hlen, hxl, hf⟩ := DataW.trod_struct Tryz.underlying48 h
    rw [cellsEx] at hlen
    obtain ⟨y0, g0⟩ := open_field hxl hf 0 3 0 1 rfl cellsInt
    obtain ⟨y1, g1⟩ := open_field hxl hf 1 3 1 1 rfl cellsInt
    obtain ⟨y2, g2⟩ := open_field hxl hf 2 9 2 1 rfl cellsStr
    obtain ⟨y3, g3⟩ := open_field hxl hf 3 46 3 1 rfl cellsExs
    obtain ⟨k, e0, _, _⟩ := DataW.trod_int Tryz.underlying3 g0
    obtain ⟨num, e1, _, _⟩ := DataW.trod_int Tryz.underlying3 g1
    obtain ⟨s, e2, _, hs⟩ := DataW.trod_string Tryz.underlying9 g2
    obtain ⟨A, l, cap, e3, hlc, hcm, hL, hQ⟩ := open_list (enc' := Ex.cells) (Q := ExIn W) Tryz.underlying46 cellsEx (by omega) (fun m cs x hm h => ih m (by omega) cs x h) g3
    refine ⟨.mk k num s A cap l, ?_, .mk hL hlc hcm hs hQ⟩
    have e : cs = (cs.drop 0).take 1 ++ ((cs.drop 1).take 1 ++ ((cs.drop 2).take 1 ++ ((cs.drop 3).take 1 ++ cs.drop 4))) := by
      rw [← drop_split, ← drop_split, ← drop_split, ← drop_split]; rfl
    rw [e, e0, e1, e2, e3, List.drop_eq_nil_of_le (by omega)]
    rfl

theorem open_st (fuel : Nat) (cs : List Value) (x : DataW H × List MemPlace) (h : DataW.trod enc Tryz.prog W base spare held fuel 50 cs = some x) : ∃ s : St, cs = s.cells ∧ StIn W s ∧ s.wt ≤ Rows.uptoBulk x.1 := by
  induction fuel using Nat.strongRecOn generalizing cs x with
  | ind fuel ih =>
    obtain ⟨xs, n, rfl, rfl, hlen, hxl, hf⟩ := DataW.trod_struct Tryz.underlying50 h
    rw [cellsSt] at hlen
    obtain ⟨y0, g0⟩ := open_field hxl hf 0 3 0 1 rfl cellsInt
    obtain ⟨y1, g1⟩ := open_field hxl hf 1 9 1 1 rfl cellsStr
    obtain ⟨y2, g2⟩ := open_field hxl hf 2 9 2 1 rfl cellsStr
    obtain ⟨y3, g3⟩ := open_field hxl hf 3 9 3 1 rfl cellsStr
    obtain ⟨y4, g4⟩ := open_field hxl hf 4 40 4 11 rfl cellsTy
    obtain ⟨y5, g5⟩ := open_field hxl hf 5 48 15 4 rfl cellsEx
    obtain ⟨y6, g6⟩ := open_field hxl hf 6 46 19 1 rfl cellsExs
    obtain ⟨y7, q7, g7⟩ := open_field_at hxl hf 7 41 20 1 rfl cellsSts
    obtain ⟨y8, q8, g8⟩ := open_field_at hxl hf 8 41 21 1 rfl cellsSts
    obtain ⟨y9, g9⟩ := open_field hxl hf 9 3 22 1 rfl cellsInt
    obtain ⟨k, e0, _, _⟩ := DataW.trod_int Tryz.underlying3 g0
    obtain ⟨X, e1, _, hX⟩ := DataW.trod_string Tryz.underlying9 g1
    obtain ⟨Y, e2, _, hY⟩ := DataW.trod_string Tryz.underlying9 g2
    obtain ⟨N, e3, _, hN⟩ := DataW.trod_string Tryz.underlying9 g3
    obtain ⟨t, e4, ht⟩ := open_ty g4
    obtain ⟨e', e5, he'⟩ := open_ex _ _ _ g5
    obtain ⟨A6, l6, c6, e6, hlc6, hcm6, hL6, hQ6⟩ := open_list (enc' := Ex.cells) (Q := ExIn W) Tryz.underlying46 cellsEx (by omega) (fun m cs x hm h => open_ex m cs x h) g6
    obtain ⟨A7, l7, c7, e7, hlc7, hcm7, hL7, hQ7, hw7⟩ := open_list_w (enc' := St.cells) (Q := StIn W) (wt := St.wt) (mu := Rows.uptoBulk) bulk_slice Tryz.underlying41 cellsSt (by omega) (fun m cs x hm h => ih m (by omega) cs x h) g7
    obtain ⟨A8, l8, c8, e8, hlc8, hcm8, hL8, hQ8, hw8⟩ := open_list_w (enc' := St.cells) (Q := StIn W) (wt := St.wt) (mu := Rows.uptoBulk) bulk_slice Tryz.underlying41 cellsSt (by omega) (fun m cs x hm h => ih m (by omega) cs x h) g8
    obtain ⟨pos, e9, _, _⟩ := DataW.trod_int Tryz.underlying3 g9
    refine ⟨.mk k X Y N t e' A6 c6 l6 A7 c7 l7 A8 c8 l8 pos, ?_, .mk he' hL6 hlc6 hcm6 hQ6 hL7 hlc7 hcm7 hQ7 hL8 hlc8 hcm8 hQ8 ⟨hX, hY, hN, ht⟩, ?_⟩
    · have e : cs = (cs.drop 0).take 1 ++ ((cs.drop 1).take 1 ++ ((cs.drop 2).take 1 ++ ((cs.drop 3).take 1 ++ ((cs.drop 4).take 11 ++ ((cs.drop 15).take 4 ++ ((cs.drop 19).take 1 ++ ((cs.drop 20).take 1 ++ ((cs.drop 21).take 1 ++ ((cs.drop 22).take 1 ++ cs.drop 23))))))))) := by
        rw [← drop_split, ← drop_split, ← drop_split, ← drop_split, ← drop_split, ← drop_split, ← drop_split, ← drop_split, ← drop_split, ← drop_split]; rfl
      rw [e, e0, e1, e2, e3, e4, e5, e6, e7, e8, e9, List.drop_eq_nil_of_le (by omega)]
      simp [St.cells]
    · have hxl' : xs.length = 10 := hxl
      match xs, hxl' with
      | [b0, b1, b2, b3, b4, b5, b6, b7, b8, b9], _ =>
        obtain rfl : b7 = y7 := by simpa using q7
        obtain rfl : b8 = y8 := by simpa using q8
        rw [wtAll_sum] at hw7 hw8
        simp only [St.wt, List.map_cons, List.map_nil, Rows.uptoBulk, Rows.uptoBulkAll]
        omega

theorem open_va (fuel : Nat) (cs : List Value) (x : DataW H × List MemPlace) (h : DataW.trod enc Tryz.prog W base spare held fuel 78 cs = some x) : ∃ v : Va, cs = v.cells ∧ v.name.size ≤ maxLen ∧ v.ty.cls.size ≤ maxLen := by
  obtain ⟨xs, n, rfl, _, hlen, hxl, hf⟩ := DataW.trod_struct Tryz.underlying78 h
  rw [cellsVa] at hlen
  obtain ⟨y0, g0⟩ := open_field hxl hf 0 9 0 1 rfl cellsStr
  obtain ⟨y1, g1⟩ := open_field hxl hf 1 40 1 11 rfl cellsTy
  obtain ⟨y2, g2⟩ := open_field hxl hf 2 3 12 1 rfl cellsInt
  obtain ⟨s, e0, _, hs⟩ := DataW.trod_string Tryz.underlying9 g0
  obtain ⟨t, e1, ht⟩ := open_ty g1
  obtain ⟨p, e2, _, _⟩ := DataW.trod_int Tryz.underlying3 g2
  refine ⟨⟨s, t, p⟩, ?_, hs, ht⟩
  have e : cs = (cs.drop 0).take 1 ++ ((cs.drop 1).take 11 ++ ((cs.drop 12).take 1 ++ cs.drop 13)) := by
    rw [← drop_split, ← drop_split, ← drop_split]; rfl
  rw [e, e0, e1, e2, List.drop_eq_nil_of_le (by omega)]
  rfl

theorem open_me (fuel : Nat) (cs : List Value) (x : DataW H × List MemPlace) (h : DataW.trod enc Tryz.prog W base spare held fuel 43 cs = some x) : ∃ m : Me, cs = m.cells ∧ MeIn W m ∧ wtAll m.body ≤ Rows.uptoBulk x.1 := by
  obtain ⟨xs, n, rfl, rfl, hlen, hxl, hf⟩ := DataW.trod_struct Tryz.underlying43 h
  rw [cellsMe] at hlen
  obtain ⟨y0, g0⟩ := open_field hxl hf 0 9 0 1 rfl cellsStr
  obtain ⟨y1, g1⟩ := open_field hxl hf 1 4 1 1 rfl cellsBool
  obtain ⟨y2, g2⟩ := open_field hxl hf 2 40 2 11 rfl cellsTy
  obtain ⟨y3, g3⟩ := open_field hxl hf 3 32 13 1 rfl cellsVas
  obtain ⟨y4, g4⟩ := open_field hxl hf 4 32 14 1 rfl cellsVas
  obtain ⟨y5, q5, g5⟩ := open_field_at hxl hf 5 41 15 1 rfl cellsSts
  obtain ⟨y6, g6⟩ := open_field hxl hf 6 3 16 1 rfl cellsInt
  obtain ⟨s, e0, _, hs⟩ := DataW.trod_string Tryz.underlying9 g0
  obtain ⟨b, e1, _⟩ := DataW.trod_bool Tryz.underlying4 g1
  obtain ⟨t, e2, ht⟩ := open_ty g2
  obtain ⟨A3, l3, c3, e3, hlc3, hcm3, hL3, hQ3⟩ := open_list (enc' := Va.cells) (Q := fun _ => True) Tryz.underlying32 cellsVa (by omega) (fun m cs x hm h => by obtain ⟨v, hv, _⟩ := open_va m cs x h; exact ⟨v, hv, trivial⟩) g3
  obtain ⟨A4, l4, c4, e4, hlc4, hcm4, hL4, hQ4⟩ := open_list (enc' := Va.cells) (Q := fun _ => True) Tryz.underlying32 cellsVa (by omega) (fun m cs x hm h => by obtain ⟨v, hv, _⟩ := open_va m cs x h; exact ⟨v, hv, trivial⟩) g4
  obtain ⟨A5, l5, c5, e5, hlc5, hcm5, hL5, hQ5, hw5⟩ := open_list_w (enc' := St.cells) (Q := StIn W) (wt := St.wt) (mu := Rows.uptoBulk) bulk_slice Tryz.underlying41 cellsSt (by omega) (fun m cs x hm h => open_st m cs x h) g5
  obtain ⟨p, e6, _, _⟩ := DataW.trod_int Tryz.underlying3 g6
  refine ⟨⟨s, b, t, A3, c3, l3, A4, c4, l4, A5, c5, l5, p⟩, ?_, ⟨hL3, hlc3, hcm3, hL4, hlc4, hcm4, hL5, hlc5, hcm5, hQ5⟩, ?_⟩
  · have e : cs = (cs.drop 0).take 1 ++ ((cs.drop 1).take 1 ++ ((cs.drop 2).take 11 ++ ((cs.drop 13).take 1 ++ ((cs.drop 14).take 1 ++ ((cs.drop 15).take 1 ++ ((cs.drop 16).take 1 ++ cs.drop 17)))))) := by
      rw [← drop_split, ← drop_split, ← drop_split, ← drop_split, ← drop_split, ← drop_split, ← drop_split]; rfl
    rw [e, e0, e1, e2, e3, e4, e5, e6, List.drop_eq_nil_of_le (by omega)]
    simp [Me.cells]
  · have hxl' : xs.length = 7 := hxl
    match xs, hxl' with
    | [b0, b1, b2, b3, b4, b5, b6], _ =>
      obtain rfl : b5 = y5 := by simpa using q5
      rw [wtAll_sum] at hw5
      simp only [List.map_cons, List.map_nil, Rows.uptoBulk, Rows.uptoBulkAll]
      omega
end
end Go.Proofs.YtmpdmelkbemabaaGreat
