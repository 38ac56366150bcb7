/- What came in, read as owners. -/
import Derived.Test.YtfebpmaaaiaccaaOwners
import Derived.Test.YtfebpmaaaiaccaaOpen
set_option linter.unusedSimpArgs false
set_option linter.unusedVariables false
namespace Go.Proofs.Ytfebpmaaaiaccaa
open Go.RowKit Go.Proofs.Grow Go.ChangeShapes Go.WideShapes

theorem own : ownKnob Try.prog.godebug = none := by kernel_rfl
theorem laidOut : laidOutB Try.prog = true := by kernel_rfl

theorem cells23 : Try.prog.cellsOf 23 = 2 := by kernel_rfl
theorem cells9 : Try.prog.cellsOf 9 = 1 := by kernel_rfl
theorem cells33 : Try.prog.cellsOf 33 = 8 := by kernel_rfl
theorem cells35 : Try.prog.cellsOf 35 = 11 := by kernel_rfl
theorem cells3 : Try.prog.cellsOf 3 = 1 := by kernel_rfl

section
variable {H : Type} {enc : TypeId × Value → H} {W : World} {base : Nat} {spare : Nat → Bool} {held : Bool}

/-- An owner that came in. -/
theorem open_ow {fuel : Nat} {cs : List Value} {x : DataW H × List MemPlace} (h : DataW.trod enc Try.prog W base spare held fuel 23 cs = some x) : ∃ o : Ow, cs = o.cells ∧ (Lit.int .i64 o.k).wf = true ∧ (Lit.int .i64 o.n).wf = true := by
  obtain ⟨xs, n, rfl, _, hlen, hxl, hf⟩ := DataW.trod_struct Try.underlying23 h
  rw [cells23] at hlen
  obtain ⟨y0, g0⟩ := open_field hxl hf 0 3 0 1 rfl cells3
  obtain ⟨y1, g1⟩ := open_field hxl hf 1 3 1 1 rfl cells3
  obtain ⟨k, e0, _, w0⟩ := DataW.trod_int Try.underlying3 g0
  obtain ⟨m, e1, _, w1⟩ := DataW.trod_int Try.underlying3 g1
  refine ⟨⟨k, m⟩, ?_, w0, w1⟩
  have e : cs = (cs.drop 0).take 1 ++ ((cs.drop 1).take 1 ++ cs.drop 2) := by
    rw [← drop_split, ← drop_split]; rfl
  rw [e, e0, e1, List.drop_eq_nil_of_le (by omega)]
  rfl

/-- A type that came in. -/
theorem open_ty {fuel : Nat} {cs : List Value} {x : DataW H × List MemPlace} (h : DataW.trod enc Try.prog W base spare held fuel 35 cs = some x) : ∃ t : Ty, cs = t.cells ∧ t.cls.size ≤ maxLen := by
  obtain ⟨xs, n, rfl, _, hlen, hxl, hf⟩ := DataW.trod_struct Try.underlying35 h
  rw [cells35] at hlen
  obtain ⟨y0, g0⟩ := open_field hxl hf 0 3 0 1 rfl cells3
  obtain ⟨y1, g1⟩ := open_field hxl hf 1 9 1 1 rfl cells9
  obtain ⟨y2, g2⟩ := open_field hxl hf 2 3 2 1 rfl cells3
  obtain ⟨y3, g3⟩ := open_field hxl hf 3 33 3 8 rfl cells33
  obtain ⟨k, e0, _, _⟩ := DataW.trod_int Try.underlying3 g0
  obtain ⟨s, e1, _, hs⟩ := DataW.trod_string Try.underlying9 g1
  obtain ⟨m, e2, _, _⟩ := DataW.trod_int Try.underlying3 g2
  obtain ⟨l, hl, e3, _⟩ := open_array Try.underlying33 cells23 cells33 (fun n cs x _ h => open_ow h) g3
  match l, hl with
  | [a, b, c, d], _ =>
    refine ⟨⟨k, s, m, a, b, c, d⟩, ?_, hs⟩
    have e : cs = (cs.drop 0).take 1 ++ ((cs.drop 1).take 1 ++ ((cs.drop 2).take 1 ++ ((cs.drop 3).take 8 ++ cs.drop 11))) := by
      rw [← drop_split, ← drop_split, ← drop_split, ← drop_split]; rfl
    rw [e, e0, e1, e2, e3, List.drop_eq_nil_of_le (by omega)]
    rfl
end
end Go.Proofs.Ytfebpmaaaiaccaa
