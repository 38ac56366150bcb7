/- InsideOrder: being inside is passed on, and two that are inside one another are the same: for every three owners the law returns true. No condition. -/
import Derived.Test.YtfebpmaaaiaccaaOrder
import Derived.Test.YtfebpmaaaiaccaaOpen
set_option linter.unusedSimpArgs false
set_option linter.unusedVariables false
namespace Go.Proofs.Ytfebpmaaaiaccaa
open Go.RowKit Go.Proofs.Grow Go.ChangeShapes Go.WideShapes

theorem own : ownKnob Try.prog.godebug = none := by kernel_rfl
theorem laidOut : laidOutB Try.prog = true := by kernel_rfl

theorem cells23 : Try.prog.cellsOf 23 = 2 := by kernel_rfl
theorem cells3 : Try.prog.cellsOf 3 = 1 := by kernel_rfl

section
variable {H : Type} {enc : TypeId × Value → H} {W : World} {base : Nat} {spare : Nat → Bool} {held : Bool}

/-- An owner that came in. -/
theorem open_ow {fuel : Nat} {cs : List Value} {x : DataW H × List MemPlace} (h : DataW.trod enc Try.prog W base spare held fuel 23 cs = some x) : ∃ o : Ow, cs = o.cells ∧ (Lit.int .i64 o.k).wf = true ∧ (Lit.int .i64 o.n).wf = true := by
  obtain ⟨xs, n, rfl, _, hlen, hxl, hf⟩ := DataW.trod_struct Try.underlying23 h
  rw [cells23] at hlen
  obtain ⟨y0, g0⟩ := open_field hxl hf 0 3 0 1 rfl cells3
  obtain ⟨y1, g1⟩ := open_field hxl hf 1 3 1 1 rfl cells3
  obtain ⟨k, e0, _, w0⟩ := DataW.trod_int Try.underlying3 g0
  obtain ⟨m, e1, _, w1⟩ := DataW.trod_int Try.underlying3 g1
  refine ⟨⟨k, m⟩, ?_, w0, w1⟩
  have e : cs = (cs.drop 0).take 1 ++ ((cs.drop 1).take 1 ++ cs.drop 2) := by
    rw [← drop_split, ← drop_split]; rfl
  rw [e, e0, e1, List.drop_eq_nil_of_le (by omega)]
  rfl
end

set_option maxRecDepth 100000 in
theorem order_lifted (os : Os) (started : os.Started) (H : Type) (enc : TypeId × Value → H) :
    ReturnsInHanded {} Try.checked os 3 .any (Rows.insideOrderSpec.pre6 enc Try.prog Try.f3 Rows.insideOrderRow.domain false) (Rows.insideOrderSpec.post enc Try.prog Try.f3 false true false false) := by
  refine returnsInHanded_of_change (C := Try.checked) own started (by kernel_rfl) Try.func3
    (ChangeSpec.witness6 (enc := enc) (C := Try.checked) false ⟨#[], #[.agg #[.int .i64 0, .int .i64 0, .int .i64 0, .int .i64 0, .int .i64 0, .int .i64 0]], []⟩ 8 (by kernel_rfl) (by kernel_rfl) (by kernel_rfl) (by kernel_rfl)) ?_
  intro W base args ds gs before hval0 hW hcnd _
  have hval : ∀ (j : Nat) t v, Try.f3.params[j]? = some t → args[j]? = some v → Value.okWide Try.prog W .any base t v := hval0
  have hW' := hW
  obtain ⟨p, q, hA0, hV, rfl, hfz, hnd⟩ := hW
  have hA : DataW.TrodAll enc Try.prog W 0 (fun _ => true) true Try.f3.params.toList args.toList ds p := hA0
  rw [Try.params3] at hA hval
  obtain ⟨v0, vs0, d0, ds0, p0, q0, hargs, rfl, rfl, h0, r0⟩ := trodAll_cons hA
  obtain ⟨rfl, rfl, rfl⟩ := trodAll_nil r0
  obtain rfl : args = #[v0] := by cases args; simp_all
  obtain ⟨cs, rfl, hcs⟩ := okWide_array Try.underlying24 (hval 0 24 v0 rfl rfl)
  obtain ⟨fuel, hf⟩ := h0
  obtain ⟨l, hl, hc, hq⟩ := open_array Try.underlying24 cells23 (by kernel_rfl) (fun n cs x _ h => open_ow h) hf
  match l, hl with
  | [a, b, c], _ =>
    obtain rfl : cs = #[.int .i64 a.k, .int .i64 a.n, .int .i64 b.k, .int .i64 b.n, .int .i64 c.k, .int .i64 c.n] := by
      obtain ⟨cs⟩ := cs
      simpa [Value.cells, Ow.cells] using hc
    refine (order_any a.k a.n b.k b.n c.k c.n W).mono fun e W' ⟨x, he, hw⟩ => ?_
    subst he
    subst hw
    exact post_true laidOut (by kernel_rfl) (tb := 4) rfl Try.underlying4 rfl rfl hW' x.below

theorem order_over : Rows.insideOrderRow.holds Try.pinned (OpenSpec.ofChange Rows.insideOrderSpec) :=
  OpenClaim.holds_of_wide 3 Try.f3 rfl rfl rfl rfl rfl rfl rfl ⟨rfl, rfl, rfl, rfl, rfl⟩ rfl rfl rfl rfl rfl (by kernel_rfl) Try.func3 (by kernel_rfl)
    (of_decide_eq_true (by kernel_rfl)) (by unfold Func.isWrapper; first | (rw [if_pos (by decide +kernel)]; kernel_rfl) | (rw [if_neg (by decide +kernel)]; exact ⟨rfl, rfl⟩))
    (fun os started H enc _ => order_lifted os started H enc)

theorem insideOrder_holds : Rows.InsideOrderSaid := order_over
#print axioms insideOrder_holds
end Go.Proofs.Ytfebpmaaaiaccaa
