/- The walk of LegalType. -/
import Derived.Test.YtfebpmaaaiaccaaRType
import Derived.Test.YtfebpmaaaiaccaaAwake25
import Derived.BigQuiet
set_option linter.unusedSimpArgs false
set_option linter.unusedVariables false
namespace Go.Proofs.Grow
open Go.RowKit
theorem wpQuiet_load_mid {P : Program} {ops : Array Oper} {C : World → Prop} {Q : Act → Prop} {a : Act} {o : Oper} {rest : List Oper} (hw : Region.wanted o (yielded ops a.tmps) = true) (ty : TypeId) (x : Operand) (ho : o.op = .load ty x)
    (b off : Nat) (hx : a.eval x = .pointer (some ⟨b, off, none⟩)) (cs : List Value) (d : TypeDesc) (hc : ∀ w, C w → w.rangeAt b off cs)
    (hu : P.underlying ty = some d) (hd : d.isRow = true) (hi : (P.info? ty).map (·.size) = some cs.length)
    (h : wpQuiet P ops C Q rest (a.put o.dst (.agg cs.toArray))) : wpQuiet P ops C Q (o :: rest) a :=
  BigFrame.wpQuiet_want hw fun K hK => ⟨.agg cs.toArray, fun w hCw => by
    have e : (execOp a.eval o).run P w = .ok (.value (.agg cs.toArray)) w := by
      unfold execOp
      simp only [ho, hx, Instr.loadAt, Instr.sureAddr, Sem.run_bind, Sem.run_pure, Result.andThen_ok, run_loadVar_mid w b off ty cs d (hc w hCw) hu hd hi]
    unfold Oper.quietAt
    rw [e]
    exact ⟨rfl, rfl⟩, hK _ h⟩
end Go.Proofs.Grow
namespace Go.Proofs.Ytfebpmaaaiaccaa
open Go.RowKit Go.Proofs.Grow

set_option maxHeartbeats 4000000 in
set_option maxRecDepth 100000 in
theorem legal_walk (w : World) (A : Option Addr) (c : Nat) (C : List Cl) (t : Ty) (m : Int) (hl : C.length ≤ 9223372036854775807) (hs : Lies w 7 Cl.cells A C) :
    Gives Try.prog 6 #[.slice A C.length c, .agg t.cells.toArray, .int .i64 m] w (.bool true) := by
  refine Gives.mk ?_
  have HT1 := hide (fun (W : World) (hb : Below w.heap.size w W) => legType_any W A c C t m hl (hs.below hb))
  have HT2 := hide (fun (W : World) (hb : Below w.heap.size w W) => refTyp_any W A c C t m hl (hs.below hb))
  have HC1 := hide (fun (o : Cl) (W : World) => class_any o m W)
  have HC2 := hide (fun (o : Cl) (W : World) => refClass_any o m W)
  have HS := hide (hs.alloc (.cells t.cells.toArray 35))
  have hT : Hid (∀ u : Ext (w.alloc (.cells t.cells.toArray 35)), u.val.rangeAt w.heap.size 0 t.cells) := by
    intro u j v h
    rw [u.cell (by simp), World.cell?_alloc_at _ _ _ _ rfl]
    simpa using h
  have hB : Hid (∀ u : Ext (w.alloc (.cells t.cells.toArray 35)), Below w.heap.size w u.val) := fun u => by
    repeat (first | exact Below.refl _ _ | exact Nat.le_refl _ | assumption | refine below_ext ?_ ?_ _ | refine Below.alloc ?_ ?_ _ | refine Below.drew ?_ | refine Below.setCell ?_ ?_ _ | refine Ext.le _ ?_ | refine le_alloc ?_ | refine le_drew ?_ | refine le_setCell ?_)
    all_goals omega
  clear hs
  unfold Ty.cells at HT1 HT2 HS hT hB ⊢
  go_enter Try.func6, Try.ntmps6
  go_wp2_with fail
  go_loopw [7] (fun s7 wr => ∃ k : Nat, k ≤ C.length ∧ s7 = .int .i64 k ∧ ∃ u : Ext (w.alloc (.cells #[.int .i64 t.k, .string t.cls, .int .i64 t.n, .int .i64 t.o0.k, .int .i64 t.o0.n, .int .i64 t.o1.k, .int .i64 t.o1.n, .int .i64 t.o2.k, .int .i64 t.o2.n, .int .i64 t.o3.k, .int .i64 t.o3.n] 35)), wr = u.val) (fun s7 _ => C.length - (intOf s7).toNat)
  case atStart => exact ⟨0, Nat.zero_le _, rfl, Ext.here _, rfl⟩
  case round =>
    obtain ⟨k, hk, rfl, u, rfl⟩ := hrel
    by_cases hlt : k < C.length
    · obtain ⟨b, off, rfl, hb, hcell⟩ := HS.out k hlt
      have hlt' : (k : Int) < (C.length : Int) := by omega
      obtain ⟨e, he⟩ : ∃ e, e = C[k] := ⟨_, rfl⟩
      rw [← he] at hcell
      have hrange : Hid (∀ W, (∃ y : Ext u.val, W = y.val) → W.rangeAt b (off + k * 7) e.cells) := by
        rintro W ⟨y, rfl⟩ j v h
        exact (y.cell (u.lt hb)).trans ((u.cell hb).trans (hcell j v h))
      have HK := hide hlt
      have H1 := hide (HC1.out e)
      have H2 := hide (HC2.out e)
      clear hcell he hlt
      go_wp2_with fail
      refine wp_region_ext (by kernel_rfl) (by kernel_rfl) ?_
      repeat (first | (refine wpQuiet_load_mid rfl 45 (.tmp 16) rfl b (off + k * 7) rfl e.cells _ hrange.out Try.underlying45 rfl (by rw [Cl.cells_len]; kernel_rfl) ?_; try simp only [Act.put, List.setIfInBounds_toArray, List.set_cons_zero, List.set_cons_succ]) | (refine wpQuiet_load_mid rfl 45 (.tmp 22) rfl b (off + k * 7) rfl e.cells _ hrange.out Try.underlying45 rfl (by rw [Cl.cells_len]; kernel_rfl) ?_; try simp only [Act.put, List.setIfInBounds_toArray, List.set_cons_zero, List.set_cons_succ]) | go_big_quiet_step ((first | (go_at_call 17; with_reducible exact (H1.out _).ext) | (go_at_call 18; with_reducible exact (H2.out _).ext))))
      refine wpQuiet_nil ?_
      intro _ hw'
      obtain ⟨y, hw''⟩ := hw'
      subst hw''
      go_wp2_with fail
      go_roundw
      case rel => exact ⟨k + 1, HK.out, by go_num, u.step y.below, rfl⟩
      case measure => have := HK.out; simp [intOf]; omega
    · obtain rfl : k = C.length := by omega
      have hlt' : ¬ (C.length : Int) < (C.length : Int) := by omega
      have hr2 : Hid (∀ W, (∃ y : Ext u.val, W = y.val) → W.rangeAt w.heap.size 0 [.int .i64 t.k, .string t.cls, .int .i64 t.n, .int .i64 t.o0.k, .int .i64 t.o0.n, .int .i64 t.o1.k, .int .i64 t.o1.n, .int .i64 t.o2.k, .int .i64 t.o2.n, .int .i64 t.o3.k, .int .i64 t.o3.n]) := by
        rintro W ⟨y, rfl⟩
        exact hT.out (u.step y.below)
      have H1 := hide (fun y : Ext u.val => HT1.out y.val (hB.out (u.step y.below)))
      have H2 := hide (fun y : Ext u.val => HT2.out y.val (hB.out (u.step y.below)))
      go_wp2_with fail
      refine wp_region_ext (by kernel_rfl) (by kernel_rfl) ?_
      repeat (first | (refine wpQuiet_load_mid rfl 35 (.tmp 4) rfl w.heap.size 0 rfl _ _ hr2.out Try.underlying35 rfl (by kernel_rfl) ?_; try simp only [Act.put, List.setIfInBounds_toArray, List.set_cons_zero, List.set_cons_succ]) | go_big_quiet_step ((first | (go_at_call 21; exact (awake25_any _).ext) | (go_at_call 19; with_reducible exact (H1.out _).ext) | (go_at_call 20; with_reducible exact (H2.out _).ext))))
      refine wpQuiet_nil ?_
      intro _ hw'
      obtain ⟨y, hw''⟩ := hw'
      subst hw''
      go_wp2_with fail
      go_ret
      refine ⟨rfl, ?_⟩
      repeat (first | exact Below.refl _ _ | exact Nat.le_refl _ | assumption | refine below_ext ?_ ?_ _ | refine Below.alloc ?_ ?_ _ | refine Below.drew ?_ | refine Below.setCell ?_ ?_ _ | refine Ext.le _ ?_ | refine le_alloc ?_ | refine le_drew ?_ | refine le_setCell ?_)
      all_goals omega
end Go.Proofs.Ytfebpmaaaiaccaa
