/- What came in, read as owners. -/
import Derived.Test.YtfebpmaaaiaccaaIn
import Derived.Test.YtfebpmaaaiaccaaOpen
set_option linter.unusedSimpArgs false
set_option linter.unusedVariables false
namespace Go.Proofs.Ytfebpmaaaiaccaa
open Go.RowKit Go.Proofs.Grow Go.ChangeShapes Go.WideShapes

theorem own : ownKnob Try.prog.godebug = none := by kernel_rfl
theorem laidOut : laidOutB Try.prog = true := by kernel_rfl

theorem cells23 : Try.prog.cellsOf 23 = 2 := by kernel_rfl
theorem cells3 : Try.prog.cellsOf 3 = 1 := by kernel_rfl

section
variable {H : Type} {enc : TypeId × Value → H} {W : World} {base : Nat} {spare : Nat → Bool} {held : Bool}

/-- An owner that came in. -/
theorem open_ow {fuel : Nat} {cs : List Value} {x : DataW H × List MemPlace} (h : DataW.trod enc Try.prog W base spare held fuel 23 cs = some x) : ∃ o : Ow, cs = o.cells ∧ (Lit.int .i64 o.k).wf = true ∧ (Lit.int .i64 o.n).wf = true := by
  obtain ⟨xs, n, rfl, _, hlen, hxl, hf⟩ := DataW.trod_struct Try.underlying23 h
  rw [cells23] at hlen
  obtain ⟨y0, g0⟩ := open_field hxl hf 0 3 0 1 rfl cells3
  obtain ⟨y1, g1⟩ := open_field hxl hf 1 3 1 1 rfl cells3
  obtain ⟨k, e0, _, w0⟩ := DataW.trod_int Try.underlying3 g0
  obtain ⟨m, e1, _, w1⟩ := DataW.trod_int Try.underlying3 g1
  refine ⟨⟨k, m⟩, ?_, w0, w1⟩
  have e : cs = (cs.drop 0).take 1 ++ ((cs.drop 1).take 1 ++ cs.drop 2) := by
    rw [← drop_split, ← drop_split]; rfl
  rw [e, e0, e1, List.drop_eq_nil_of_le (by omega)]
  rfl
end

end Go.Proofs.Ytfebpmaaaiaccaa
