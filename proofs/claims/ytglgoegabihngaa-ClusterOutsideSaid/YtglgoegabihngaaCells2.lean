/- What came in, read as frames, and as a cluster and an owner. -/
import Derived.Test.YtglgoegabihngaaCells
import Derived.Test.YtglgoegabihngaaHeld
set_option linter.unusedSimpArgs false
set_option linter.unusedVariables false
namespace Go.Proofs.Ytglgoegabihngaa
open Go.RowKit Go.Proofs.Grow Go.ChangeShapes Go.WideShapes

theorem cellsFr : Try.prog.cellsOf 42 = 6 := by kernel_rfl
theorem cellsHands : Try.prog.cellsOf 32 = 2 := by kernel_rfl

section
variable {H : Type} {enc : TypeId × Value → H} {W : World} {base : Nat} {spare : Nat → Bool} {held : Bool}

theorem open_hands {fuel : Nat} {cs : List Value} {x : DataW H × List MemPlace} (h : DataW.trod enc Try.prog W base spare held fuel 32 cs = some x) : ∃ a b : Int, cs = [.int .i64 a, .int .i64 b] := by
  obtain ⟨xs, n, rfl, _, hlen, hxl, hf⟩ := DataW.trod_struct Try.underlying32 h
  rw [cellsHands] at hlen
  obtain ⟨y0, g0⟩ := open_field hxl hf 0 3 0 1 rfl cellsInt
  obtain ⟨y1, g1⟩ := open_field hxl hf 1 3 1 1 rfl cellsInt
  obtain ⟨a, e0, _, w0⟩ := DataW.trod_int Try.underlying3 g0
  obtain ⟨b, e1, _, w1⟩ := DataW.trod_int Try.underlying3 g1
  refine ⟨a, b, ?_⟩
  have e : cs = (cs.drop 0).take 1 ++ ((cs.drop 1).take 1 ++ cs.drop 2) := by
    rw [← drop_split, ← drop_split]; rfl
  rw [e, e0, e1, List.drop_eq_nil_of_le (by omega)]
  rfl

theorem open_fr {fuel : Nat} {cs : List Value} {x : DataW H × List MemPlace} (h : DataW.trod enc Try.prog W base spare held fuel 42 cs = some x) : ∃ c : Fr, cs = c.cells ∧ FrIn W c := by
  obtain ⟨xs, n, rfl, _, hlen, hxl, hf⟩ := DataW.trod_struct Try.underlying42 h
  rw [cellsFr] at hlen
  obtain ⟨y0, g0⟩ := open_field hxl hf 0 3 0 1 rfl cellsInt
  obtain ⟨y1, g1⟩ := open_field hxl hf 1 9 1 1 rfl cellsStr
  obtain ⟨y2, g2⟩ := open_field hxl hf 2 9 2 1 rfl cellsStr
  obtain ⟨y3, g3⟩ := open_field hxl hf 3 40 3 1 rfl cellsVls
  obtain ⟨y4, g4⟩ := open_field hxl hf 4 3 4 1 rfl cellsInt
  obtain ⟨y5, g5⟩ := open_field hxl hf 5 3 5 1 rfl cellsInt
  obtain ⟨a, e0, _, _⟩ := DataW.trod_int Try.underlying3 g0
  obtain ⟨s1, e1, _, hs1⟩ := DataW.trod_string Try.underlying9 g1
  obtain ⟨s2, e2, _, hs2⟩ := DataW.trod_string Try.underlying9 g2
  obtain ⟨A, m, cap, e3, hlc, hcm, hL, _⟩ := open_list (enc' := Vl.cells) (Q := fun _ => True) Try.underlying40 cellsVl (by omega) (fun n cs x _ h => open_vl h) g3
  obtain ⟨p, e4, _, _⟩ := DataW.trod_int Try.underlying3 g4
  obtain ⟨q, e5, _, _⟩ := DataW.trod_int Try.underlying3 g5
  refine ⟨⟨a, s1, s2, A, cap, m, p, q⟩, ?_, ⟨hL, hlc, hcm⟩⟩
  have e : cs = (cs.drop 0).take 1 ++ ((cs.drop 1).take 1 ++ ((cs.drop 2).take 1 ++ ((cs.drop 3).take 1 ++ ((cs.drop 4).take 1 ++ ((cs.drop 5).take 1 ++ cs.drop 6))))) := by
    rw [← drop_split, ← drop_split, ← drop_split, ← drop_split, ← drop_split, ← drop_split]; rfl
  rw [e, e0, e1, e2, e3, e4, e5, List.drop_eq_nil_of_le (by omega)]
  rfl
end
end Go.Proofs.Ytglgoegabihngaa
