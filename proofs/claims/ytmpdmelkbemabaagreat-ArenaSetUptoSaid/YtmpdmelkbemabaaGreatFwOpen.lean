/- What came in, read as classes, weighed in full (expressions as well), with the sizes of the strings in all types. -/
import Derived.Test.YtmpdmelkbemabaaGreatClArgs
import Derived.Test.YtmpdmelkbemabaaGreatStrip
set_option linter.unusedSimpArgs false
set_option linter.unusedVariables false
namespace Go.Proofs.Grow
open Go.RowKit
def VaT (v : Va) : Prop := v.ty.cls.size ≤ maxLen
def MeT (m : Me) : Prop := m.ret.cls.size ≤ maxLen ∧ (∀ v ∈ m.params, VaT v) ∧ ∀ v ∈ m.locals, VaT v
def ClT (c : Cl) : Prop := (∀ v ∈ c.fields, VaT v) ∧ ∀ m ∈ c.methods, MeT m
end Go.Proofs.Grow
namespace Go.Proofs.YtmpdmelkbemabaaGreat
open Go.RowKit Go.Proofs.Grow Go.ChangeShapes Go.WideShapes

section
variable {H : Type} {enc : TypeId × Value → H} {W : World} {base : Nat} {spare : Nat → Bool} {held : Bool}

theorem open_ex_f (fuel : Nat) (cs : List Value) (x : DataW H × List MemPlace) (h : DataW.trod enc Tryz.prog W base spare held fuel 48 cs = some x) : ∃ e : Ex, cs = e.cells ∧ ExIn W e ∧ e.fw ≤ Rows.uptoBulk x.1 := by
  induction fuel using Nat.strongRecOn generalizing cs x with
  | ind fuel ih =>
    obtain ⟨xs, n, rfl, rfl, hlen, hxl, hf⟩ := DataW.trod_struct Tryz.underlying48 h
    rw [cellsEx] at hlen
    obtain ⟨y0, g0⟩ := open_field hxl hf 0 3 0 1 rfl cellsInt
    obtain ⟨y1, g1⟩ := open_field hxl hf 1 3 1 1 rfl cellsInt
    obtain ⟨y2, g2⟩ := open_field hxl hf 2 9 2 1 rfl cellsStr
    obtain ⟨y3, q3, g3⟩ := open_field_at hxl hf 3 46 3 1 rfl cellsExs
    obtain ⟨k, e0, _, _⟩ := DataW.trod_int Tryz.underlying3 g0
    obtain ⟨num, e1, _, _⟩ := DataW.trod_int Tryz.underlying3 g1
    obtain ⟨s, e2, _, hs⟩ := DataW.trod_string Tryz.underlying9 g2
    obtain ⟨A, l, c, e3, hlc, hcm, hL, hQ, hw⟩ := open_list_w (enc' := Ex.cells) (Q := ExIn W) (wt := Ex.fw) (mu := Rows.uptoBulk) bulk_slice Tryz.underlying46 cellsEx (by omega) (fun m cs x hm h => ih m (by omega) cs x h) g3
    refine ⟨.mk k num s A c l, ?_, .mk hL hlc hcm hs hQ, ?_⟩
    · have e : cs = (cs.drop 0).take 1 ++ ((cs.drop 1).take 1 ++ ((cs.drop 2).take 1 ++ ((cs.drop 3).take 1 ++ cs.drop 4))) := by
        rw [← drop_split, ← drop_split, ← drop_split, ← drop_split]; rfl
      rw [e, e0, e1, e2, e3, List.drop_eq_nil_of_le (by omega)]
      rfl
    · have hxl' : xs.length = 4 := hxl
      match xs, hxl' with
      | [b0, b1, b2, b3], _ =>
        obtain rfl : b3 = y3 := by simpa using q3
        rw [← exFw_sum] at hw
        simp only [Ex.fw, List.map_cons, List.map_nil, Rows.uptoBulk, Rows.uptoBulkAll]
        omega

theorem open_st_f (fuel : Nat) (cs : List Value) (x : DataW H × List MemPlace) (h : DataW.trod enc Tryz.prog W base spare held fuel 50 cs = some x) : ∃ s : St, cs = s.cells ∧ StIn W s ∧ s.fw ≤ Rows.uptoBulk x.1 := by
  induction fuel using Nat.strongRecOn generalizing cs x with
  | ind fuel ih =>
    obtain ⟨xs, n, rfl, rfl, hlen, hxl, hf⟩ := DataW.trod_struct Tryz.underlying50 h
    rw [cellsSt] at hlen
    obtain ⟨y0, g0⟩ := open_field hxl hf 0 3 0 1 rfl cellsInt
    obtain ⟨y1, g1⟩ := open_field hxl hf 1 9 1 1 rfl cellsStr
    obtain ⟨y2, g2⟩ := open_field hxl hf 2 9 2 1 rfl cellsStr
    obtain ⟨y3, g3⟩ := open_field hxl hf 3 9 3 1 rfl cellsStr
    obtain ⟨y4, g4⟩ := open_field hxl hf 4 40 4 11 rfl cellsTy
    obtain ⟨y5, q5, g5⟩ := open_field_at hxl hf 5 48 15 4 rfl cellsEx
    obtain ⟨y6, q6, g6⟩ := open_field_at hxl hf 6 46 19 1 rfl cellsExs
    obtain ⟨y7, q7, g7⟩ := open_field_at hxl hf 7 41 20 1 rfl cellsSts
    obtain ⟨y8, q8, g8⟩ := open_field_at hxl hf 8 41 21 1 rfl cellsSts
    obtain ⟨y9, g9⟩ := open_field hxl hf 9 3 22 1 rfl cellsInt
    obtain ⟨k, e0, _, _⟩ := DataW.trod_int Tryz.underlying3 g0
    obtain ⟨X, e1, _, hX⟩ := DataW.trod_string Tryz.underlying9 g1
    obtain ⟨Y, e2, _, hY⟩ := DataW.trod_string Tryz.underlying9 g2
    obtain ⟨N, e3, _, hN⟩ := DataW.trod_string Tryz.underlying9 g3
    obtain ⟨t, e4, ht⟩ := open_ty g4
    obtain ⟨e', e5, he', hw5⟩ := open_ex_f _ _ _ g5
    obtain ⟨A6, l6, c6, e6, hlc6, hcm6, hL6, hQ6, hw6⟩ := open_list_w (enc' := Ex.cells) (Q := ExIn W) (wt := Ex.fw) (mu := Rows.uptoBulk) bulk_slice Tryz.underlying46 cellsEx (by omega) (fun m cs x hm h => open_ex_f m cs x h) g6
    obtain ⟨A7, l7, c7, e7, hlc7, hcm7, hL7, hQ7, hw7⟩ := open_list_w (enc' := St.cells) (Q := StIn W) (wt := St.fw) (mu := Rows.uptoBulk) bulk_slice Tryz.underlying41 cellsSt (by omega) (fun m cs x hm h => ih m (by omega) cs x h) g7
    obtain ⟨A8, l8, c8, e8, hlc8, hcm8, hL8, hQ8, hw8⟩ := open_list_w (enc' := St.cells) (Q := StIn W) (wt := St.fw) (mu := Rows.uptoBulk) bulk_slice Tryz.underlying41 cellsSt (by omega) (fun m cs x hm h => ih m (by omega) cs x h) g8
    obtain ⟨pos, e9, _, _⟩ := DataW.trod_int Tryz.underlying3 g9
    refine ⟨.mk k X Y N t e' A6 c6 l6 A7 c7 l7 A8 c8 l8 pos, ?_, .mk he' hL6 hlc6 hcm6 hQ6 hL7 hlc7 hcm7 hQ7 hL8 hlc8 hcm8 hQ8 ⟨hX, hY, hN, ht⟩, ?_⟩
    · have e : cs = (cs.drop 0).take 1 ++ ((cs.drop 1).take 1 ++ ((cs.drop 2).take 1 ++ ((cs.drop 3).take 1 ++ ((cs.drop 4).take 11 ++ ((cs.drop 15).take 4 ++ ((cs.drop 19).take 1 ++ ((cs.drop 20).take 1 ++ ((cs.drop 21).take 1 ++ ((cs.drop 22).take 1 ++ cs.drop 23))))))))) := by
        rw [← drop_split, ← drop_split, ← drop_split, ← drop_split, ← drop_split, ← drop_split, ← drop_split, ← drop_split, ← drop_split, ← drop_split]; rfl
      rw [e, e0, e1, e2, e3, e4, e5, e6, e7, e8, e9, List.drop_eq_nil_of_le (by omega)]
      simp [St.cells]
    · have hxl' : xs.length = 10 := hxl
      match xs, hxl' with
      | [b0, b1, b2, b3, b4, b5, b6, b7, b8, b9], _ =>
        obtain rfl : b5 = y5 := by simpa using q5
        obtain rfl : b6 = y6 := by simpa using q6
        obtain rfl : b7 = y7 := by simpa using q7
        obtain rfl : b8 = y8 := by simpa using q8
        rw [← stFw_sum] at hw7 hw8
        rw [← exFw_sum] at hw6
        simp only [St.fw, List.map_cons, List.map_nil, Rows.uptoBulk, Rows.uptoBulkAll]
        omega

theorem open_va_f (fuel : Nat) (cs : List Value) (x : DataW H × List MemPlace) (h : DataW.trod enc Tryz.prog W base spare held fuel 78 cs = some x) : ∃ v : Va, cs = v.cells ∧ VaT v ∧ 1 ≤ Rows.uptoBulk x.1 := by
  obtain ⟨v, hv, _, ht⟩ := open_va fuel cs x h
  obtain ⟨xs, n, rfl, rfl, hlen, hxl, hf⟩ := DataW.trod_struct Tryz.underlying78 h
  exact ⟨v, hv, ht, by simp only [Rows.uptoBulk]; omega⟩

theorem open_me_f (fuel : Nat) (cs : List Value) (x : DataW H × List MemPlace) (h : DataW.trod enc Tryz.prog W base spare held fuel 43 cs = some x) : ∃ m : Me, cs = m.cells ∧ (MeIn W m ∧ MeT m) ∧ m.fw ≤ Rows.uptoBulk x.1 := by
  obtain ⟨xs, n, rfl, rfl, hlen, hxl, hf⟩ := DataW.trod_struct Tryz.underlying43 h
  rw [cellsMe] at hlen
  obtain ⟨y0, g0⟩ := open_field hxl hf 0 9 0 1 rfl cellsStr
  obtain ⟨y1, g1⟩ := open_field hxl hf 1 4 1 1 rfl cellsBool
  obtain ⟨y2, g2⟩ := open_field hxl hf 2 40 2 11 rfl cellsTy
  obtain ⟨y3, q3, g3⟩ := open_field_at hxl hf 3 32 13 1 rfl cellsVas
  obtain ⟨y4, q4, g4⟩ := open_field_at hxl hf 4 32 14 1 rfl cellsVas
  obtain ⟨y5, q5, g5⟩ := open_field_at hxl hf 5 41 15 1 rfl cellsSts
  obtain ⟨y6, g6⟩ := open_field hxl hf 6 3 16 1 rfl cellsInt
  obtain ⟨s, e0, _, hs⟩ := DataW.trod_string Tryz.underlying9 g0
  obtain ⟨b, e1, _⟩ := DataW.trod_bool Tryz.underlying4 g1
  obtain ⟨t, e2, ht⟩ := open_ty g2
  obtain ⟨A3, l3, c3, e3, hlc3, hcm3, hL3, hQ3, hw3⟩ := open_list_w (enc' := Va.cells) (Q := VaT) (wt := fun _ => 1) (mu := Rows.uptoBulk) bulk_slice Tryz.underlying32 cellsVa (by omega) (fun m cs x hm h => open_va_f m cs x h) g3
  obtain ⟨A4, l4, c4, e4, hlc4, hcm4, hL4, hQ4, hw4⟩ := open_list_w (enc' := Va.cells) (Q := VaT) (wt := fun _ => 1) (mu := Rows.uptoBulk) bulk_slice Tryz.underlying32 cellsVa (by omega) (fun m cs x hm h => open_va_f m cs x h) g4
  obtain ⟨A5, l5, c5, e5, hlc5, hcm5, hL5, hQ5, hw5⟩ := open_list_w (enc' := St.cells) (Q := StIn W) (wt := St.fw) (mu := Rows.uptoBulk) bulk_slice Tryz.underlying41 cellsSt (by omega) (fun m cs x hm h => open_st_f m cs x h) g5
  obtain ⟨p, e6, _, _⟩ := DataW.trod_int Tryz.underlying3 g6
  refine ⟨⟨s, b, t, A3, c3, l3, A4, c4, l4, A5, c5, l5, p⟩, ?_, ⟨⟨hL3, hlc3, hcm3, hL4, hlc4, hcm4, hL5, hlc5, hcm5, hQ5⟩, ht, hQ3, hQ4⟩, ?_⟩
  · have e : cs = (cs.drop 0).take 1 ++ ((cs.drop 1).take 1 ++ ((cs.drop 2).take 11 ++ ((cs.drop 13).take 1 ++ ((cs.drop 14).take 1 ++ ((cs.drop 15).take 1 ++ ((cs.drop 16).take 1 ++ cs.drop 17)))))) := by
      rw [← drop_split, ← drop_split, ← drop_split, ← drop_split, ← drop_split, ← drop_split, ← drop_split]; rfl
    rw [e, e0, e1, e2, e3, e4, e5, e6, List.drop_eq_nil_of_le (by omega)]
    simp [Me.cells]
  · have hxl' : xs.length = 7 := hxl
    match xs, hxl' with
    | [b0, b1, b2, b3, b4, b5, b6], _ =>
      obtain rfl : b3 = y3 := by simpa using q3
      obtain rfl : b4 = y4 := by simpa using q4
      obtain rfl : b5 = y5 := by simpa using q5
      rw [← stFw_sum] at hw5
      rw [ones] at hw3 hw4
      simp only [Me.fw, List.map_cons, List.map_nil, Rows.uptoBulk, Rows.uptoBulkAll]
      omega

theorem open_str_f (fuel : Nat) (cs : List Value) (x : DataW H × List MemPlace) (h : DataW.trod enc Tryz.prog W base spare held fuel 9 cs = some x) : ∃ s : ByteArray, cs = encStr s ∧ True ∧ 1 ≤ Rows.uptoBulk x.1 := by
  obtain ⟨s, e, hx, _⟩ := DataW.trod_string Tryz.underlying9 h
  refine ⟨s, e, trivial, ?_⟩
  subst hx
  simp only [Rows.uptoBulk]
  omega
theorem open_ow_f (fuel : Nat) (cs : List Value) (x : DataW H × List MemPlace) (h : DataW.trod enc Tryz.prog W base spare held fuel 37 cs = some x) : ∃ o : Ow, cs = o.cells ∧ True ∧ 1 ≤ Rows.uptoBulk x.1 := by
  obtain ⟨o, e, _⟩ := open_ow h
  obtain ⟨xs, n, rfl, rfl, hlen, hxl, hf⟩ := DataW.trod_struct Tryz.underlying37 h
  exact ⟨o, e, trivial, by simp only [Rows.uptoBulk]; omega⟩

theorem open_cl_f (fuel : Nat) (cs : List Value) (x : DataW H × List MemPlace) (h : DataW.trod enc Tryz.prog W base spare held fuel 35 cs = some x) : ∃ cl : Cl, cs = cl.cells ∧ (ClIn W cl ∧ ClT cl) ∧ cl.fw ≤ Rows.uptoBulk x.1 := by
  obtain ⟨xs, n, rfl, rfl, hlen, hxl, hf⟩ := DataW.trod_struct Tryz.underlying35 h
  rw [cellsCl] at hlen
  obtain ⟨y0, g0⟩ := open_field hxl hf 0 9 0 1 rfl cellsStr
  obtain ⟨y1, q1, g1⟩ := open_field_at hxl hf 1 30 1 1 rfl cellsStrs
  obtain ⟨y2, g2⟩ := open_field hxl hf 2 9 2 1 rfl cellsStr
  obtain ⟨y3, q3, g3⟩ := open_field_at hxl hf 3 31 3 1 rfl cellsOws
  obtain ⟨y4, q4, g4⟩ := open_field_at hxl hf 4 32 4 1 rfl cellsVas
  obtain ⟨y5, q5, g5⟩ := open_field_at hxl hf 5 33 5 1 rfl cellsMes
  obtain ⟨y6, g6⟩ := open_field hxl hf 6 3 6 1 rfl cellsInt
  obtain ⟨s, e0, _, _⟩ := DataW.trod_string Tryz.underlying9 g0
  obtain ⟨A1, l1, c1, e1, hlc1, hcm1, hL1, hQ1, hw1⟩ := open_list_w (enc' := encStr) (Q := fun _ => True) (wt := fun _ => 1) (mu := Rows.uptoBulk) bulk_slice Tryz.underlying30 cellsStr (by omega) (fun m cs x hm h => open_str_f m cs x h) g1
  obtain ⟨s2, e2, _, _⟩ := DataW.trod_string Tryz.underlying9 g2
  obtain ⟨A3, l3, c3, e3, hlc3, hcm3, hL3, hQ3, hw3⟩ := open_list_w (enc' := Ow.cells) (Q := fun _ => True) (wt := fun _ => 1) (mu := Rows.uptoBulk) bulk_slice Tryz.underlying31 cellsOw (by omega) (fun m cs x hm h => open_ow_f m cs x h) g3
  obtain ⟨A4, l4, c4, e4, hlc4, hcm4, hL4, hQ4, hw4⟩ := open_list_w (enc' := Va.cells) (Q := VaT) (wt := fun _ => 1) (mu := Rows.uptoBulk) bulk_slice Tryz.underlying32 cellsVa (by omega) (fun m cs x hm h => open_va_f m cs x h) g4
  obtain ⟨A5, l5, c5, e5, hlc5, hcm5, hL5, hQ5, hw5⟩ := open_list_w (enc' := Me.cells) (Q := fun m => MeIn W m ∧ MeT m) (wt := Me.fw) (mu := Rows.uptoBulk) bulk_slice Tryz.underlying33 cellsMe (by omega) (fun m cs x hm h => open_me_f m cs x h) g5
  obtain ⟨k, e6, _, _⟩ := DataW.trod_int Tryz.underlying3 g6
  refine ⟨⟨s, A1, c1, l1, s2, A3, c3, l3, A4, c4, l4, A5, c5, l5, k⟩, ?_, ⟨⟨hL1, hlc1, hcm1, hL3, hlc3, hcm3, hL4, hlc4, hcm4, hL5, hlc5, hcm5, fun m hm => (hQ5 m hm).1⟩, hQ4, fun m hm => (hQ5 m hm).2⟩, ?_⟩
  · have e : cs = (cs.drop 0).take 1 ++ ((cs.drop 1).take 1 ++ ((cs.drop 2).take 1 ++ ((cs.drop 3).take 1 ++ ((cs.drop 4).take 1 ++ ((cs.drop 5).take 1 ++ ((cs.drop 6).take 1 ++ cs.drop 7)))))) := by
      rw [← drop_split, ← drop_split, ← drop_split, ← drop_split, ← drop_split, ← drop_split, ← drop_split]; rfl
    rw [e, e0, e1, e2, e3, e4, e5, e6, List.drop_eq_nil_of_le (by omega)]
    simp [Cl.cells]
  · have hxl' : xs.length = 7 := hxl
    match xs, hxl' with
    | [b0, b1, b2, b3, b4, b5, b6], _ =>
      obtain rfl : b1 = y1 := by simpa using q1
      obtain rfl : b3 = y3 := by simpa using q3
      obtain rfl : b4 = y4 := by simpa using q4
      obtain rfl : b5 = y5 := by simpa using q5
      rw [ones] at hw1 hw3 hw4
      simp only [Cl.fw, List.map_cons, List.map_nil, Rows.uptoBulk, Rows.uptoBulkAll]
      omega
end
end Go.Proofs.YtmpdmelkbemabaaGreat
