/- What came in, read as classes, with all that lies behind them, weighed. -/
import Derived.Test.YtmpdmelkbemabaaGreatRefNotes
import Derived.Test.YtmpdmelkbemabaaGreatMeArgs
set_option linter.unusedSimpArgs false
set_option linter.unusedVariables false
namespace Go.Proofs.Grow
open Go.RowKit
def Me.wt (m : Me) : Nat := 1 + m.params.length + m.locals.length + wtAll m.body
def Cl.wt (cl : Cl) : Nat := 1 + cl.fields.length + (cl.methods.map Me.wt).sum
mutual
theorem liOne_len : ∀ (s : St) (d : Int) (b off : Nat), (liOne s d b off).length = s.wt
  | .mk k x y name ty e aA ac args bA bc body eA ec els pos, d, b, off => by
    rw [liOne, St.wt, List.length_cons, List.length_append, liAll_len body, liAll_len els]
    omega
theorem liAll_len : ∀ (l : List St) (d : Int) (b off : Nat), (liAll l d b off).length = wtAll l
  | [], _, _, _ => by simp [liAll, wtAll]
  | s :: l, d, b, off => by
    rw [liAll, wtAll, List.length_append, liOne_len s, liAll_len l]
end
theorem rnMe_len (c k : Int) (m : Me) : (rnMe c k m).length ≤ m.wt := by
  unfold rnMe Me.wt rnB bodyLn rnV
  have h := List.length_filter_le (fun x : Ln => x.s.ty.k == 2) ((liAll m.body 0 (bkA m.bA) (ofA m.bA)).map (Li.ln 0 0))
  rw [List.length_map, liAll_len] at h
  simp only [List.length_cons, List.length_append, List.length_mapIdx, List.length_map]
  omega
theorem mapIdx_sum {α β : Type} (f : Nat → α → List β) (g : α → Nat) (h : ∀ i a, (f i a).length ≤ g a) : ∀ (l : List α) (n : Nat), ((l.mapIdx fun i a => f (n + i) a).flatten).length ≤ (l.map g).sum
  | [], n => by simp
  | a :: l, n => by
    have ih := mapIdx_sum f g h l (n + 1)
    have h0 := h n a
    rw [List.mapIdx_cons, List.flatten_cons, List.length_append, List.map_cons, List.sum_cons]
    have e : (fun i a => f (n + (i + 1)) a) = fun i a => f (n + 1 + i) a := by funext i a; congr 1; omega
    simp only [Nat.add_zero]
    rw [e]
    omega
theorem rnC_len (i : Nat) (cl : Cl) : (rnC i cl).length ≤ cl.wt := by
  unfold rnC Cl.wt rnMs rnV
  have h := mapIdx_sum (fun k m => rnMe i k m) Me.wt (fun k m => rnMe_len i k m) cl.methods 0
  simp only [Nat.zero_add] at h
  simp only [List.length_append, List.length_mapIdx]
  omega
theorem rnP_len (l : List Cl) : (rnP l).length ≤ (l.map Cl.wt).sum := by
  unfold rnP
  have h := mapIdx_sum (fun i cl => rnC i cl) Cl.wt (fun i cl => rnC_len i cl) l 0
  simpa using h
theorem sum_mem {α : Type} (g : α → Nat) : ∀ (l : List α) (a : α), a ∈ l → g a ≤ (l.map g).sum
  | b :: l, a, h => by
    rw [List.map_cons, List.sum_cons]
    rcases List.mem_cons.1 h with rfl | h
    · omega
    · have := sum_mem g l a h; omega
end Go.Proofs.Grow
set_option linter.unusedSimpArgs false
set_option linter.unusedVariables false
namespace Go.Proofs.YtmpdmelkbemabaaGreat
open Go.RowKit Go.Proofs.Grow Go.ChangeShapes Go.WideShapes

theorem cellsStrs : Tryz.prog.cellsOf 30 = 1 := by kernel_rfl
theorem cellsOws : Tryz.prog.cellsOf 31 = 1 := by kernel_rfl
theorem cellsMes : Tryz.prog.cellsOf 33 = 1 := by kernel_rfl
theorem cellsCl : Tryz.prog.cellsOf 35 = 7 := by kernel_rfl

section
variable {H : Type} {enc : TypeId × Value → H} {W : World} {base : Nat} {spare : Nat → Bool} {held : Bool}

theorem ones {α : Type} (l : List α) : (l.map fun _ => 1).sum = l.length := by induction l with | nil => rfl | cons a l ih => simp [ih]; omega
theorem open_va1 (fuel : Nat) (cs : List Value) (x : DataW H × List MemPlace) (h : DataW.trod enc Tryz.prog W base spare held fuel 78 cs = some x) : ∃ v : Va, cs = v.cells ∧ True ∧ 1 ≤ Rows.uptoBulk x.1 := by
  obtain ⟨v, hv, _⟩ := open_va fuel cs x h
  obtain ⟨xs, n, rfl, rfl, hlen, hxl, hf⟩ := DataW.trod_struct Tryz.underlying78 h
  exact ⟨v, hv, trivial, by simp only [Rows.uptoBulk]; omega⟩

theorem open_me1 (fuel : Nat) (cs : List Value) (x : DataW H × List MemPlace) (h : DataW.trod enc Tryz.prog W base spare held fuel 43 cs = some x) : ∃ m : Me, cs = m.cells ∧ MeIn W m ∧ m.wt ≤ Rows.uptoBulk x.1 := by
  obtain ⟨xs, n, rfl, rfl, hlen, hxl, hf⟩ := DataW.trod_struct Tryz.underlying43 h
  rw [cellsMe] at hlen
  obtain ⟨y0, g0⟩ := open_field hxl hf 0 9 0 1 rfl cellsStr
  obtain ⟨y1, g1⟩ := open_field hxl hf 1 4 1 1 rfl cellsBool
  obtain ⟨y2, g2⟩ := open_field hxl hf 2 40 2 11 rfl cellsTy
  obtain ⟨y3, q3, g3⟩ := open_field_at hxl hf 3 32 13 1 rfl cellsVas
  obtain ⟨y4, q4, g4⟩ := open_field_at hxl hf 4 32 14 1 rfl cellsVas
  obtain ⟨y5, q5, g5⟩ := open_field_at hxl hf 5 41 15 1 rfl cellsSts
  obtain ⟨y6, g6⟩ := open_field hxl hf 6 3 16 1 rfl cellsInt
  obtain ⟨s, e0, _, hs⟩ := DataW.trod_string Tryz.underlying9 g0
  obtain ⟨b, e1, _⟩ := DataW.trod_bool Tryz.underlying4 g1
  obtain ⟨t, e2, ht⟩ := open_ty g2
  obtain ⟨A3, l3, c3, e3, hlc3, hcm3, hL3, hQ3, hw3⟩ := open_list_w (enc' := Va.cells) (Q := fun _ => True) (wt := fun _ => 1) (mu := Rows.uptoBulk) bulk_slice Tryz.underlying32 cellsVa (by omega) (fun m cs x hm h => open_va1 m cs x h) g3
  obtain ⟨A4, l4, c4, e4, hlc4, hcm4, hL4, hQ4, hw4⟩ := open_list_w (enc' := Va.cells) (Q := fun _ => True) (wt := fun _ => 1) (mu := Rows.uptoBulk) bulk_slice Tryz.underlying32 cellsVa (by omega) (fun m cs x hm h => open_va1 m cs x h) g4
  obtain ⟨A5, l5, c5, e5, hlc5, hcm5, hL5, hQ5, hw5⟩ := open_list_w (enc' := St.cells) (Q := StIn W) (wt := St.wt) (mu := Rows.uptoBulk) bulk_slice Tryz.underlying41 cellsSt (by omega) (fun m cs x hm h => open_st m cs x h) g5
  obtain ⟨p, e6, _, _⟩ := DataW.trod_int Tryz.underlying3 g6
  refine ⟨⟨s, b, t, A3, c3, l3, A4, c4, l4, A5, c5, l5, p⟩, ?_, ⟨hL3, hlc3, hcm3, hL4, hlc4, hcm4, hL5, hlc5, hcm5, hQ5⟩, ?_⟩
  · have e : cs = (cs.drop 0).take 1 ++ ((cs.drop 1).take 1 ++ ((cs.drop 2).take 11 ++ ((cs.drop 13).take 1 ++ ((cs.drop 14).take 1 ++ ((cs.drop 15).take 1 ++ ((cs.drop 16).take 1 ++ cs.drop 17)))))) := by
      rw [← drop_split, ← drop_split, ← drop_split, ← drop_split, ← drop_split, ← drop_split, ← drop_split]; rfl
    rw [e, e0, e1, e2, e3, e4, e5, e6, List.drop_eq_nil_of_le (by omega)]
    simp [Me.cells]
  · have hxl' : xs.length = 7 := hxl
    match xs, hxl' with
    | [b0, b1, b2, b3, b4, b5, b6], _ =>
      obtain rfl : b3 = y3 := by simpa using q3
      obtain rfl : b4 = y4 := by simpa using q4
      obtain rfl : b5 = y5 := by simpa using q5
      rw [wtAll_sum] at hw5
      rw [ones] at hw3 hw4
      simp only [Me.wt, List.map_cons, List.map_nil, Rows.uptoBulk, Rows.uptoBulkAll]
      omega

theorem open_cl1 (fuel : Nat) (cs : List Value) (x : DataW H × List MemPlace) (h : DataW.trod enc Tryz.prog W base spare held fuel 35 cs = some x) : ∃ cl : Cl, cs = cl.cells ∧ ClIn W cl ∧ cl.wt ≤ Rows.uptoBulk x.1 := by
  obtain ⟨xs, n, rfl, rfl, hlen, hxl, hf⟩ := DataW.trod_struct Tryz.underlying35 h
  rw [cellsCl] at hlen
  obtain ⟨y0, g0⟩ := open_field hxl hf 0 9 0 1 rfl cellsStr
  obtain ⟨y1, g1⟩ := open_field hxl hf 1 30 1 1 rfl cellsStrs
  obtain ⟨y2, g2⟩ := open_field hxl hf 2 9 2 1 rfl cellsStr
  obtain ⟨y3, g3⟩ := open_field hxl hf 3 31 3 1 rfl cellsOws
  obtain ⟨y4, q4, g4⟩ := open_field_at hxl hf 4 32 4 1 rfl cellsVas
  obtain ⟨y5, q5, g5⟩ := open_field_at hxl hf 5 33 5 1 rfl cellsMes
  obtain ⟨y6, g6⟩ := open_field hxl hf 6 3 6 1 rfl cellsInt
  obtain ⟨s, e0, _, _⟩ := DataW.trod_string Tryz.underlying9 g0
  obtain ⟨A1, l1, c1, e1, hlc1, hcm1, hL1, hQ1⟩ := open_list (enc' := encStr) (Q := fun _ => True) Tryz.underlying30 cellsStr (by omega) (fun m cs x hm h => by obtain ⟨s, e, _, _⟩ := DataW.trod_string Tryz.underlying9 h; exact ⟨s, e, trivial⟩) g1
  obtain ⟨s2, e2, _, _⟩ := DataW.trod_string Tryz.underlying9 g2
  obtain ⟨A3, l3, c3, e3, hlc3, hcm3, hL3, hQ3⟩ := open_list (enc' := Ow.cells) (Q := fun _ => True) Tryz.underlying31 cellsOw (by omega) (fun m cs x hm h => open_ow h) g3
  obtain ⟨A4, l4, c4, e4, hlc4, hcm4, hL4, hQ4, hw4⟩ := open_list_w (enc' := Va.cells) (Q := fun _ => True) (wt := fun _ => 1) (mu := Rows.uptoBulk) bulk_slice Tryz.underlying32 cellsVa (by omega) (fun m cs x hm h => open_va1 m cs x h) g4
  obtain ⟨A5, l5, c5, e5, hlc5, hcm5, hL5, hQ5, hw5⟩ := open_list_w (enc' := Me.cells) (Q := MeIn W) (wt := Me.wt) (mu := Rows.uptoBulk) bulk_slice Tryz.underlying33 cellsMe (by omega) (fun m cs x hm h => open_me1 m cs x h) g5
  obtain ⟨k, e6, _, _⟩ := DataW.trod_int Tryz.underlying3 g6
  refine ⟨⟨s, A1, c1, l1, s2, A3, c3, l3, A4, c4, l4, A5, c5, l5, k⟩, ?_, ⟨hL1, hlc1, hcm1, hL3, hlc3, hcm3, hL4, hlc4, hcm4, hL5, hlc5, hcm5, hQ5⟩, ?_⟩
  · have e : cs = (cs.drop 0).take 1 ++ ((cs.drop 1).take 1 ++ ((cs.drop 2).take 1 ++ ((cs.drop 3).take 1 ++ ((cs.drop 4).take 1 ++ ((cs.drop 5).take 1 ++ ((cs.drop 6).take 1 ++ cs.drop 7)))))) := by
      rw [← drop_split, ← drop_split, ← drop_split, ← drop_split, ← drop_split, ← drop_split, ← drop_split]; rfl
    rw [e, e0, e1, e2, e3, e4, e5, e6, List.drop_eq_nil_of_le (by omega)]
    simp [Cl.cells]
  · have hxl' : xs.length = 7 := hxl
    match xs, hxl' with
    | [b0, b1, b2, b3, b4, b5, b6], _ =>
      obtain rfl : b4 = y4 := by simpa using q4
      obtain rfl : b5 = y5 := by simpa using q5
      rw [ones] at hw4
      simp only [Cl.wt, List.map_cons, List.map_nil, Rows.uptoBulk, Rows.uptoBulkAll]
      omega
end
end Go.Proofs.YtmpdmelkbemabaaGreat
