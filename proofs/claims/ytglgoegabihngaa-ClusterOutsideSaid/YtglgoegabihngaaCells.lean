/- What came in, read as heaps' cells. -/
import Derived.Test.YtglgoegabihngaaRows
import Derived.Test.YtglgoegabihngaaOpen
import Derived.Test.YtglgoegabihngaaWay
set_option linter.unusedSimpArgs false
set_option linter.unusedVariables false
namespace Go.Proofs.Ytglgoegabihngaa
open Go.RowKit Go.Proofs.Grow Go.ChangeShapes Go.WideShapes

theorem own : ownKnob Try.prog.godebug = none := by kernel_rfl
theorem laidOut : laidOutB Try.prog = true := by kernel_rfl
theorem cellsStr : Try.prog.cellsOf 9 = 1 := by kernel_rfl
theorem cellsInt : Try.prog.cellsOf 3 = 1 := by kernel_rfl
theorem cellsBool : Try.prog.cellsOf 4 = 1 := by kernel_rfl
theorem cellsArr4 : Try.prog.cellsOf 45 = 4 := by kernel_rfl
theorem cellsArr3 : Try.prog.cellsOf 26 = 3 := by kernel_rfl
theorem cellsVl : Try.prog.cellsOf 53 = 2 := by kernel_rfl
theorem cellsVls : Try.prog.cellsOf 40 = 1 := by kernel_rfl
theorem cellsCe : Try.prog.cellsOf 47 = 7 := by kernel_rfl

section
variable {H : Type} {enc : TypeId × Value → H} {W : World} {base : Nat} {spare : Nat → Bool} {held : Bool}

theorem open_vl {fuel : Nat} {cs : List Value} {x : DataW H × List MemPlace} (h : DataW.trod enc Try.prog W base spare held fuel 53 cs = some x) : ∃ v : Vl, cs = v.cells ∧ True := by
  obtain ⟨xs, n, rfl, _, hlen, hxl, hf⟩ := DataW.trod_struct Try.underlying53 h
  rw [cellsVl] at hlen
  obtain ⟨y0, g0⟩ := open_field hxl hf 0 4 0 1 rfl cellsBool
  obtain ⟨y1, g1⟩ := open_field hxl hf 1 3 1 1 rfl cellsInt
  obtain ⟨b, e0, _⟩ := DataW.trod_bool Try.underlying4 g0
  obtain ⟨m, e1, _, w1⟩ := DataW.trod_int Try.underlying3 g1
  refine ⟨⟨b, m⟩, ?_, trivial⟩
  have e : cs = (cs.drop 0).take 1 ++ ((cs.drop 1).take 1 ++ cs.drop 2) := by
    rw [← drop_split, ← drop_split]; rfl
  rw [e, e0, e1, List.drop_eq_nil_of_le (by omega)]
  rfl

theorem open_int1 {fuel : Nat} {cs : List Value} {x : DataW H × List MemPlace} (h : DataW.trod enc Try.prog W base spare held fuel 3 cs = some x) : ∃ k : Int, cs = [.int .i64 k] ∧ True := by
  obtain ⟨k, e0, _, _⟩ := DataW.trod_int Try.underlying3 h
  exact ⟨k, e0, trivial⟩

theorem open_ce {fuel : Nat} {cs : List Value} {x : DataW H × List MemPlace} (h : DataW.trod enc Try.prog W base spare held fuel 47 cs = some x) : ∃ c : Ce, cs = c.cells ∧ CeIn W c := by
  obtain ⟨xs, n, rfl, _, hlen, hxl, hf⟩ := DataW.trod_struct Try.underlying47 h
  rw [cellsCe] at hlen
  obtain ⟨y0, g0⟩ := open_field hxl hf 0 9 0 1 rfl cellsStr
  obtain ⟨y1, g1⟩ := open_field hxl hf 1 45 1 4 rfl cellsArr4
  obtain ⟨y2, g2⟩ := open_field hxl hf 2 40 5 1 rfl cellsVls
  obtain ⟨y3, g3⟩ := open_field hxl hf 3 4 6 1 rfl cellsBool
  obtain ⟨s, e0, _, hs⟩ := DataW.trod_string Try.underlying9 g0
  obtain ⟨l, hl, e1, _⟩ := open_array (enc' := fun k : Int => [Value.int .i64 k]) Try.underlying45 cellsInt cellsArr4 (fun n cs x _ h => open_int1 h) g1
  obtain ⟨A, m, cap, e2, hlc, hcm, hL, _⟩ := open_list (enc' := Vl.cells) (Q := fun _ => True) Try.underlying40 cellsVl (by omega) (fun n cs x _ h => open_vl h) g2
  obtain ⟨b, e3, _⟩ := DataW.trod_bool Try.underlying4 g3
  match l, hl with
  | [o0, o1, o2, o3], _ =>
    refine ⟨⟨s, o0, o1, o2, o3, A, cap, m, b⟩, ?_, ⟨hL, hlc, hcm, hs⟩⟩
    have e : cs = (cs.drop 0).take 1 ++ ((cs.drop 1).take 4 ++ ((cs.drop 5).take 1 ++ ((cs.drop 6).take 1 ++ cs.drop 7))) := by
      rw [← drop_split, ← drop_split, ← drop_split, ← drop_split]; rfl
    rw [e, e0, e1, e2, e3, List.drop_eq_nil_of_le (by omega)]
    rfl
end
end Go.Proofs.Ytglgoegabihngaa
