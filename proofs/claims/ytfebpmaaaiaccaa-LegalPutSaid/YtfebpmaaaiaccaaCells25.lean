/- What came in, read as classes. -/
import Derived.Test.YtfebpmaaaiaccaaArgs
import Derived.Test.YtfebpmaaaiaccaaCls
set_option linter.unusedSimpArgs false
set_option linter.unusedVariables false
namespace Go.Proofs.Ytfebpmaaaiaccaa
open Go.RowKit Go.Proofs.Grow Go.ChangeShapes Go.WideShapes

theorem cells45 : Try.prog.cellsOf 45 = 7 := by kernel_rfl
theorem cellsStrs : Try.prog.cellsOf 41 = 1 := by kernel_rfl
theorem cellsOws : Try.prog.cellsOf 27 = 1 := by kernel_rfl
theorem cellsVars : Try.prog.cellsOf 42 = 1 := by kernel_rfl
theorem cellsMes : Try.prog.cellsOf 43 = 1 := by kernel_rfl
def ty0 : Ty := ⟨0, ⟨#[]⟩, 0, ⟨0, 0⟩, ⟨0, 0⟩, ⟨0, 0⟩, ⟨0, 0⟩⟩

section
variable {H : Type} {enc : TypeId × Value → H} {W : World} {base : Nat} {spare : Nat → Bool} {held : Bool}

theorem open_any {t e fuel : Nat} {cs : List Value} {x : DataW H × List MemPlace} (ht : Try.prog.underlying t = some (.slice e)) (h : DataW.trod enc Try.prog W base spare held fuel t cs = some x) : ∃ A n c, cs = [.slice A n c] := by
  rcases DataW.trod_slice ht h with ⟨rfl, _⟩ | ⟨a, len, cap, elems, rest, n, rfl, rfl, rfl, _⟩
  · exact ⟨_, _, _, rfl⟩
  · exact ⟨_, _, _, rfl⟩

/-- A class that came in; of the lists in it the lengths alone. -/
theorem open_cl {fuel : Nat} {cs : List Value} {x : DataW H × List MemPlace} (h : DataW.trod enc Try.prog W base spare held fuel 45 cs = some x) : ∃ cl : Cl, cs = cl.cells := by
  obtain ⟨xs, n, rfl, _, hlen, hxl, hf⟩ := DataW.trod_struct Try.underlying45 h
  rw [cells45] at hlen
  obtain ⟨y0, g0⟩ := open_field hxl hf 0 9 0 1 rfl cells9
  obtain ⟨y1, g1⟩ := open_field hxl hf 1 41 1 1 rfl cellsStrs
  obtain ⟨y2, g2⟩ := open_field hxl hf 2 9 2 1 rfl cells9
  obtain ⟨y3, g3⟩ := open_field hxl hf 3 27 3 1 rfl cellsOws
  obtain ⟨y4, g4⟩ := open_field hxl hf 4 42 4 1 rfl cellsVars
  obtain ⟨y5, g5⟩ := open_field hxl hf 5 43 5 1 rfl cellsMes
  obtain ⟨y6, g6⟩ := open_field hxl hf 6 3 6 1 rfl cells3
  obtain ⟨s, e0, _, _⟩ := DataW.trod_string Try.underlying9 g0
  obtain ⟨A1, n1, c1, e1⟩ := open_any Try.underlying41 g1
  obtain ⟨s2, e2, _, _⟩ := DataW.trod_string Try.underlying9 g2
  obtain ⟨A3, n3, c3, e3⟩ := open_any Try.underlying27 g3
  obtain ⟨A4, n4, c4, e4⟩ := open_any Try.underlying42 g4
  obtain ⟨A5, n5, c5, e5⟩ := open_any Try.underlying43 g5
  obtain ⟨k, e6, _, _⟩ := DataW.trod_int Try.underlying3 g6
  refine ⟨⟨s, A1, c1, List.replicate n1 ⟨#[]⟩, s2, A3, c3, List.replicate n3 ⟨0, 0⟩, A4, c4, List.replicate n4 ⟨⟨#[]⟩, ty0, 0⟩, A5, c5, List.replicate n5 ⟨⟨#[]⟩, false, ty0, none, 0, [], none, 0, [], none, 0, [], 0⟩, k⟩, ?_⟩
  have e : cs = (cs.drop 0).take 1 ++ ((cs.drop 1).take 1 ++ ((cs.drop 2).take 1 ++ ((cs.drop 3).take 1 ++ ((cs.drop 4).take 1 ++ ((cs.drop 5).take 1 ++ ((cs.drop 6).take 1 ++ cs.drop 7)))))) := by
    rw [← drop_split, ← drop_split, ← drop_split, ← drop_split, ← drop_split, ← drop_split, ← drop_split]; rfl
  rw [e, e0, e1, e2, e3, e4, e5, e6, List.drop_eq_nil_of_le (by omega)]
  simp [Cl.cells]
end
end Go.Proofs.Ytfebpmaaaiaccaa
