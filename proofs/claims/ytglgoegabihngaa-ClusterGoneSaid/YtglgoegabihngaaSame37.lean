/- The walks of demesneref35.Vals, Same, at two lists that are the same. -/
import Derived.Test.YtglgoegabihngaaClone
import Derived.BigQuiet
import Derived.DeepKeys
set_option linter.unusedSimpArgs false
set_option linter.unusedVariables false
namespace Go.Proofs.Ytglgoegabihngaa
open Go.RowKit Go.Proofs.Grow

theorem eqI4 (w : World) (a b c d : Int) : (Op.equalIn 10000 45 (.agg #[.int .i64 a, .int .i64 b, .int .i64 c, .int .i64 d]) (.agg #[.int .i64 a, .int .i64 b, .int .i64 c, .int .i64 d])).run Try.prog w = .ok true w := by
  have u3 := Try.underlying3
  have a3 := Try.isAgg3
  have z3 := Try.sizeOf3
  rw [show (10000 : Nat) = 9999 + 1 from rfl, Op.equalIn]
  simp only [Sem.run_bind, run_underlying Try.underlying45, Result.andThen_ok]
  simp only [Std.Legacy.Range.forIn_eq_forIn_range', Std.Legacy.Range.size, Nat.sub_zero, Nat.add_sub_cancel, Nat.div_one, List.range'_succ, List.range'_zero, List.forIn_cons, List.forIn_nil]
  go_simp

set_option maxHeartbeats 1000000 in
set_option maxRecDepth 100000 in
theorem vals_any (w : World) (A1 A2 : Option Addr) (c1 c2 : Nat) (l : List Vl) (hl : l.length ≤ 1000000000) (h1 : Lies w 2 Vl.cells A1 l) (h2 : Lies w 2 Vl.cells A2 l) : Gives Try.prog 33 #[.slice A1 l.length c1, .slice A2 l.length c2] w (.bool true) := by
  refine Gives.mk ?_
  have H1 := hide h1
  have H2 := hide h2
  clear h1 h2
  go_enter Try.func33, Try.ntmps33
  go_wp2_with fail
  go_loopw [5] (fun s5 wr => ∃ k : Nat, k ≤ l.length ∧ s5 = .int .i64 k ∧ ∃ x : Ext w, wr = x.val) (fun s5 _ => l.length - (intOf s5).toNat)
  case atStart => exact ⟨0, Nat.zero_le _, rfl, Ext.here w, rfl⟩
  case round =>
    obtain ⟨k, hk, rfl, x, rfl⟩ := hrel
    by_cases hlt : k < l.length
    · have hlt' : (k : Int) < (l.length : Int) := by omega
      obtain ⟨b, off, rfl, hb, hcell⟩ := H1.out k hlt
      obtain ⟨b2, off2, rfl, hb2, hcell2⟩ := H2.out k hlt
      obtain ⟨e, he⟩ : ∃ e, e = l[k] := ⟨_, rfl⟩
      rw [← he] at hcell hcell2
      have a0 : w.cell? ⟨b, off + k * 2, none⟩ = some (.bool e.ref) := hcell 0 _ rfl
      have a1 : w.cell? ⟨b, off + k * 2 + 1, none⟩ = some (.int .i64 e.n) := hcell 1 _ rfl
      have d0 : w.cell? ⟨b2, off2 + k * 2, none⟩ = some (.bool e.ref) := hcell2 0 _ rfl
      have d1 : w.cell? ⟨b2, off2 + k * 2 + 1, none⟩ = some (.int .i64 e.n) := hcell2 1 _ rfl
      have HK := hide hlt
      clear hcell hcell2 he hlt
      go_wp2_with fail
      refine wp_region_ext (by kernel_rfl) (by kernel_rfl) ?_
      repeat (go_big_quiet_step ((first | fail)))
      refine wpQuiet_nil ?_
      intro _ hw'
      obtain ⟨v, hw''⟩ := hw'
      subst hw''
      go_wp2_with fail
      go_roundw
      case rel => exact ⟨k + 1, HK.out, by go_num, x.step v.below, rfl⟩
      case measure => have := HK.out; simp [intOf]; omega
    · obtain rfl : k = l.length := by omega
      have hlt' : ¬ (l.length : Int) < (l.length : Int) := by omega
      go_wp2_with fail
      go_ret
      exact ⟨rfl, x.below⟩

set_option maxHeartbeats 4000000 in
set_option maxRecDepth 100000 in
theorem same_any (w : World) (A1 A2 : Option Addr) (c1 c2 : Nat) (l : List Ce) (hl : l.length ≤ 1000000000) (hf : ∀ c ∈ l, c.fields.length ≤ 1000000000) (hin : ∀ c ∈ l, CeIn w c) (h1 : Lies w 7 Ce.cells A1 l) (h2 : Lies w 7 Ce.cells A2 l) : Gives Try.prog 24 #[.slice A1 l.length c1, .slice A2 l.length c2] w (.bool true) := by
  refine Gives.mk ?_
  have H1 := hide h1
  have H2 := hide h2
  have HF := hide hf
  have HI := hide hin
  clear h1 h2 hf hin
  go_enter Try.func24, Try.ntmps24
  go_wp2_with fail
  go_loopw [5] (fun s5 wr => ∃ k : Nat, k ≤ l.length ∧ s5 = .int .i64 k ∧ ∃ x : Ext w, wr = x.val) (fun s5 _ => l.length - (intOf s5).toNat)
  case atStart => exact ⟨0, Nat.zero_le _, rfl, Ext.here w, rfl⟩
  case round =>
    obtain ⟨k, hk, rfl, x, rfl⟩ := hrel
    by_cases hlt : k < l.length
    · have hlt' : (k : Int) < (l.length : Int) := by omega
      obtain ⟨b, off, rfl, hb, hcell⟩ := H1.out k hlt
      obtain ⟨b2, off2, rfl, hb2, hcell2⟩ := H2.out k hlt
      have hfe := HF.out _ (List.getElem_mem hlt)
      have hie := HI.out _ (List.getElem_mem hlt)
      obtain ⟨e, he⟩ : ∃ e, e = l[k] := ⟨_, rfl⟩
      rw [← he] at hcell hcell2 hfe hie
      have a0 : w.cell? ⟨b, off + k * 7, none⟩ = some (.string e.cls) := hcell 0 _ rfl
      have a1 : w.cell? ⟨b, off + k * 7 + 1, none⟩ = some (.int .i64 e.o0) := hcell 1 _ rfl
      have a2 : w.cell? ⟨b, off + k * 7 + 1 + 1, none⟩ = some (.int .i64 e.o1) := hcell 2 _ rfl
      have a3 : w.cell? ⟨b, off + k * 7 + 1 + 2, none⟩ = some (.int .i64 e.o2) := hcell 3 _ rfl
      have a4 : w.cell? ⟨b, off + k * 7 + 1 + 3, none⟩ = some (.int .i64 e.o3) := hcell 4 _ rfl
      have a5 : w.cell? ⟨b, off + k * 7 + 5, none⟩ = some (.slice e.fA e.fields.length e.fc) := hcell 5 _ rfl
      have a6 : w.cell? ⟨b, off + k * 7 + 6, none⟩ = some (.bool e.dead) := hcell 6 _ rfl
      have d0 : w.cell? ⟨b2, off2 + k * 7, none⟩ = some (.string e.cls) := hcell2 0 _ rfl
      have d1 : w.cell? ⟨b2, off2 + k * 7 + 1, none⟩ = some (.int .i64 e.o0) := hcell2 1 _ rfl
      have d2 : w.cell? ⟨b2, off2 + k * 7 + 1 + 1, none⟩ = some (.int .i64 e.o1) := hcell2 2 _ rfl
      have d3 : w.cell? ⟨b2, off2 + k * 7 + 1 + 2, none⟩ = some (.int .i64 e.o2) := hcell2 3 _ rfl
      have d4 : w.cell? ⟨b2, off2 + k * 7 + 1 + 3, none⟩ = some (.int .i64 e.o3) := hcell2 4 _ rfl
      have d5 : w.cell? ⟨b2, off2 + k * 7 + 5, none⟩ = some (.slice e.fA e.fields.length e.fc) := hcell2 5 _ rfl
      have d6 : w.cell? ⟨b2, off2 + k * 7 + 6, none⟩ = some (.bool e.dead) := hcell2 6 _ rfl
      have HQ := fun W : World => eqI4 W e.o0 e.o1 e.o2 e.o3
      have HV := hide (fun W : Ext x.val => vals_any W.val e.fA e.fA e.fc e.fc e.fields hfe ((hie.lies.ext x).ext W) ((hie.lies.ext x).ext W))
      have HK := hide hlt
      clear hcell hcell2 he hlt hie hfe
      go_wp2_with fail
      refine wp_region_ext (by kernel_rfl) (by kernel_rfl) ?_
      repeat (go_big_quiet_step ((first | (go_at_call 33; with_reducible exact (HV.out _).ext))))
      refine wpQuiet_nil ?_
      intro _ hw'
      obtain ⟨v, hw''⟩ := hw'
      subst hw''
      go_wp2_with fail
      go_roundw
      case rel => exact ⟨k + 1, HK.out, by go_num, x.step v.below, rfl⟩
      case measure => have := HK.out; simp [intOf]; omega
    · obtain rfl : k = l.length := by omega
      have hlt' : ¬ (l.length : Int) < (l.length : Int) := by omega
      go_wp2_with fail
      go_ret
      exact ⟨rfl, x.below⟩
end Go.Proofs.Ytglgoegabihngaa
