/- The walk of the law ArenaTells. -/
import Derived.Test.YtmpdmelkbemabaaSameW
import Derived.Test.YtmpdmelkbemabaaRefStmts
import Derived.Test.YtmpdmelkbemabaaClArgs
import Derived.Test.YtmpdmelkbemabaaNotes
import Derived.DeepKeys
import Derived.Test.YtmpdmelkbemabaaAwake12
import Derived.Test.YtmpdmelkbemabaaRefTypes
import Derived.Test.YtmpdmelkbemabaaHeavyAll
set_option linter.unusedSimpArgs false
set_option linter.unusedVariables false
namespace Go.Proofs.Ytmpdmelkbemabaa
open Go.RowKit Go.Proofs.Grow

theorem eqOwD (w : World) (k n : Int) : (Op.equalIn 9997 34 (.agg #[.int .i64 k, .int .i64 n]) (.agg #[.int .i64 k, .int .i64 n])).run Try.prog w = .ok true w := by
  have u3 := Try.underlying3
  have a3 := Try.isAgg3
  have z3 := Try.sizeOf3
  have hS : Try.prog.underlying 34 = some (.struct (Try.prog.fieldsOf 34)) := by kernel_rfl
  rw [show (9997 : Nat) = 9996 + 1 from rfl, run_equalIn_agg w 9996 34 _ _ hS (by kernel_rfl)]
  simp only [Program.fieldsOf, Try.underlying34]
  go_simp
theorem eqOwsD (w : World) (k0 n0 k1 n1 k2 n2 k3 n3 : Int) : (Op.equalIn 9998 35 (.agg #[.int .i64 k0, .int .i64 n0, .int .i64 k1, .int .i64 n1, .int .i64 k2, .int .i64 n2, .int .i64 k3, .int .i64 n3]) (.agg #[.int .i64 k0, .int .i64 n0, .int .i64 k1, .int .i64 n1, .int .i64 k2, .int .i64 n2, .int .i64 k3, .int .i64 n3])).run Try.prog w = .ok true w := by
  have a3 := Try.isAgg34
  have z3 := Try.sizeOf34
  have h0 := fun W => eqOwD W k0 n0
  have h1 := fun W => eqOwD W k1 n1
  have h2 := fun W => eqOwD W k2 n2
  have h3 := fun W => eqOwD W k3 n3
  rw [show (9998 : Nat) = 9997 + 1 from rfl, Op.equalIn]
  simp only [Sem.run_bind, run_underlying Try.underlying35, Result.andThen_ok]
  simp only [Std.Legacy.Range.forIn_eq_forIn_range', Std.Legacy.Range.size, Nat.sub_zero, Nat.add_sub_cancel, Nat.div_one, List.range'_succ, List.range'_zero, List.forIn_cons, List.forIn_nil]
  go_simp
theorem eqTyD (w : World) (t : Ty) : (Op.equalIn 9999 37 (.agg t.cells.toArray) (.agg t.cells.toArray)).run Try.prog w = .ok true w := by
  obtain ⟨tk, tc, tn, ⟨k0, n0⟩, ⟨k1, n1⟩, ⟨k2, n2⟩, ⟨k3, n3⟩⟩ := t
  have h := fun W => eqOwsD W k0 n0 k1 n1 k2 n2 k3 n3
  have u3 := Try.underlying3
  have a3 := Try.isAgg3
  have z3 := Try.sizeOf3
  have u9 := Try.underlying9
  have a9 := Try.isAgg9
  have z9 := Try.sizeOf9
  have aO := Try.isAgg35
  have zO := Try.sizeOf35
  have hS : Try.prog.underlying 37 = some (.struct (Try.prog.fieldsOf 37)) := by kernel_rfl
  rw [show (9999 : Nat) = 9998 + 1 from rfl, run_equalIn_agg w 9998 37 _ _ hS (by kernel_rfl)]
  simp only [Program.fieldsOf, Try.underlying37, Ty.cells]
  go_simp
theorem eqNtD (w : World) (e : Nt) : (Op.equalIn 10000 39 (.agg e.cells.toArray) (.agg e.cells.toArray)).run Try.prog w = .ok true w := by
  obtain ⟨c, m, v, t, p⟩ := e
  have h := fun W => eqTyD W t
  obtain ⟨tk, tc, tn, ⟨k0, n0⟩, ⟨k1, n1⟩, ⟨k2, n2⟩, ⟨k3, n3⟩⟩ := t
  simp only [Ty.cells] at h
  have u3 := Try.underlying3
  have a3 := Try.isAgg3
  have z3 := Try.sizeOf3
  have aT := Try.isAgg37
  have zT := Try.sizeOf37
  have hS : Try.prog.underlying 39 = some (.struct (Try.prog.fieldsOf 39)) := by kernel_rfl
  rw [show (10000 : Nat) = 9999 + 1 from rfl, run_equalIn_agg w 9999 39 _ _ hS (by kernel_rfl)]
  simp only [Program.fieldsOf, Try.underlying39, Nt.cells, Ty.cells]
  go_simp

theorem lnMs_len (i : Int) (l : List Me) : (lnMs i l).length ≤ (l.map Me.wt).sum := by
  have h := mapIdx_sum (fun k m => lnM i (k : Nat) m) Me.wt (fun k m => by
    unfold lnM
    rw [List.length_map, liAll_len]
    unfold Me.wt
    omega) l 0
  unfold lnMs
  simpa using h
theorem lnP_len (l : List Cl) : (lnP l).length ≤ (l.map Cl.wt).sum := by
  have h := mapIdx_sum (fun i cl => lnMs ((i : Nat) : Int) cl.methods) Cl.wt (fun i cl => by
    refine Nat.le_trans (lnMs_len _ _) ?_
    unfold Cl.wt
    omega) l 0
  unfold lnP
  simpa using h
end Go.Proofs.Ytmpdmelkbemabaa
set_option linter.unusedSimpArgs false
set_option linter.unusedVariables false
namespace Go.Proofs.Grow
open Go.RowKit
theorem wt_mem {C : List Cl} {cl : Cl} (h : cl ∈ C) : cl.wt ≤ (C.map Cl.wt).sum := sum_mem Cl.wt C cl h
theorem wt_me {cl : Cl} {m : Me} (h : m ∈ cl.methods) : m.wt ≤ cl.wt := by
  have := sum_mem Me.wt cl.methods m h
  unfold Cl.wt
  omega
end Go.Proofs.Grow
namespace Go.Proofs.Ytmpdmelkbemabaa
open Go.RowKit Go.Proofs.Grow

theorem types_w (W : World) (A : Option Addr) (c : Nat) (C : List Cl) (hin : ∀ cl ∈ C, ClIn W cl) (hs : Lies W 7 Cl.cells A C) (hlc : C.length ≤ c) (hcm : c ≤ maxLen) (hwt : (C.map Cl.wt).sum ≤ 1048576) : GivesNew Try.prog 7 #[.slice A C.length c] W 15 Nt.cells (rnP C) := by
  have hm : ∀ cl ∈ C, ∀ m ∈ cl.methods, m.params.length + m.locals.length ≤ maxLen := fun cl hcl m hm => by
    have h1 := wt_me hm
    have h2 := wt_mem hcl
    unfold Me.wt at h1
    unfold maxLen
    omega
  have hn := slP_note C (fun cl h => Nat.le_trans (hin cl h).fc (hin cl h).fm) hm
  have hlen : (slP C).length ≤ 1000000000000 := by
    have h1 := congrArg List.length hn
    rw [List.length_map] at h1
    have h2 := rnP_len C
    omega
  have h := types_any W A c C (fun X hX => RdP.of (hs.below hX) (fun cl hcl => by
    obtain ⟨x, rfl⟩ := Ext.of hX
    exact (hin cl hcl).ext x) (Nat.le_trans hlc hcm)) (slP_in hin) hlen
  rw [hn] at h
  exact h
theorem refTypes_w (W : World) (A : Option Addr) (c : Nat) (C : List Cl) (hin : ∀ cl ∈ C, ClIn W cl) (hs : Lies W 7 Cl.cells A C) (hlc : C.length ≤ c) (hcm : c ≤ maxLen) (hwt : (C.map Cl.wt).sum ≤ 1048576) : GivesNew Try.prog 8 #[.slice A C.length c] W 15 Nt.cells (rnP C) := by
  refine GivesOwn.new Nt.cells_len (refTypes_any W A c C (by have := Nat.le_trans hlc hcm; unfold maxLen at this; omega) hs hin ?_ ?_)
  · have h2 := rnP_len C
    omega
  · intro cl hcl m hm
    rw [liAll_len]
    have h1 := wt_me hm
    have h2 := wt_mem hcl
    unfold Me.wt at h1
    omega
theorem stmts_w (W : World) (A : Option Addr) (c : Nat) (C : List Cl) (hin : ∀ cl ∈ C, ClIn W cl) (hs : Lies W 7 Cl.cells A C) (hlc : C.length ≤ c) (hcm : c ≤ maxLen) (hwt : (C.map Cl.wt).sum ≤ 1048576) : GivesNew Try.prog 9 #[.slice A C.length c] W 26 Ln.cells (lnP C) :=
  stmts_any W A c C (by have := Nat.le_trans hlc hcm; unfold maxLen at this; omega) hs hin (by have := lnP_len C; omega)
theorem refStmts_w (W : World) (A : Option Addr) (c : Nat) (C : List Cl) (hin : ∀ cl ∈ C, ClIn W cl) (hs : Lies W 7 Cl.cells A C) (hlc : C.length ≤ c) (hcm : c ≤ maxLen) (hwt : (C.map Cl.wt).sum ≤ 1048576) : GivesNew Try.prog 10 #[.slice A C.length c] W 26 Ln.cells (lnP C) :=
  GivesOwn.new Ln.cells_len (refStmts_any W A c C (by have := Nat.le_trans hlc hcm; unfold maxLen at this; omega) hs hin (by have := lnP_len C; omega))

mutual
theorem liOne_st {W : World} : ∀ (s : St) (d : Int) (b off : Nat), StIn W s → ∀ x ∈ liOne s d b off, StIn W x.s
  | .mk k x y name ty e aA ac args bA bc body eA ec els pos, d, b, off, h, z, hz => by
    rw [liOne] at hz
    have hs := h
    cases h with
    | mk he ha hac ham hai hb hbc hbm hbi hl2 hlc hlm hli hst =>
    rcases List.mem_cons.1 hz with rfl | hz
    · exact hs
    · rcases List.mem_append.1 hz with hz | hz
      · exact liAll_st body _ _ _ hbi z hz
      · exact liAll_st els _ _ _ hli z hz
theorem liAll_st {W : World} : ∀ (l : List St) (d : Int) (b off : Nat), (∀ s ∈ l, StIn W s) → ∀ x ∈ liAll l d b off, StIn W x.s
  | [], d, b, off, h, x, hx => by simp [liAll] at hx
  | s :: l, d, b, off, h, x, hx => by
    rw [liAll] at hx
    rcases List.mem_append.1 hx with hx | hx
    · exact liOne_st s d b off (h s (by simp)) x hx
    · exact liAll_st l d b _ (fun t ht => h t (by simp [ht])) x hx
end
/-- Each line's statement stands in memory. -/
theorem lnP_in {W : World} {C : List Cl} (hin : ∀ cl ∈ C, ClIn W cl) : ∀ x ∈ lnP C, StIn W x.s := by
  intro x hx
  unfold lnP at hx
  obtain ⟨l1, h1, hx⟩ := List.mem_flatten.1 hx
  obtain ⟨i, hi, rfl⟩ := List.getElem_of_mem h1
  simp only [List.getElem_mapIdx] at hx
  unfold lnMs at hx
  obtain ⟨l2, h2, hx⟩ := List.mem_flatten.1 hx
  obtain ⟨j, hj, rfl⟩ := List.getElem_of_mem h2
  simp only [List.getElem_mapIdx] at hx
  unfold lnM at hx
  obtain ⟨y, hy, rfl⟩ := List.mem_map.1 hx
  exact liAll_st _ _ _ _ ((hin _ (List.getElem_mem _)).each _ (List.getElem_mem _)).stmts y hy
theorem Ln.at3 (x : Ln) {j : Nat} {u : Value} (h : x.s.cells[j]? = some u) : x.cells[3 + j]? = some u := by
  unfold Ln.cells
  rw [Nat.add_comm]
  exact h

set_option maxHeartbeats 40000000 in
set_option maxRecDepth 100000 in
theorem lawTells_any (w : World) (A : Option Addr) (c : Nat) (C : List Cl) (hlc : C.length ≤ c) (hcm : c ≤ maxLen) (hs : Lies w 7 Cl.cells A C) (hin : ∀ cl ∈ C, ClIn w cl) (hwt : (C.map Cl.wt).sum ≤ 1048576) :
    Gives Try.prog 3 #[.slice A C.length c] w (.bool true) := by
  refine Gives.mk ?_
  have HH := hide (heavy_any w A c C hs hlc hcm hin)
  have hLst := lnP_in hin
  have hTlen : (rnP C).length ≤ 1048576 := Nat.le_trans (rnP_len C) hwt
  have hLlen : (lnP C).length ≤ 1048576 := Nat.le_trans (lnP_len C) hwt
  have inW : ∀ W, Below w.heap.size w W → ∀ cl ∈ C, ClIn W cl := fun W hW cl hcl => by
    obtain ⟨x, rfl⟩ := Ext.of hW
    exact (hin cl hcl).ext x
  have H1 : Hid (∀ W, Below w.heap.size w W → GivesNew Try.prog 7 #[.slice A C.length c] W 15 Nt.cells (rnP C)) := fun W hW => types_w W A c C (inW W hW) (hs.below hW) hlc hcm hwt
  have H2 : Hid (∀ W, Below w.heap.size w W → GivesNew Try.prog 8 #[.slice A C.length c] W 15 Nt.cells (rnP C)) := fun W hW => refTypes_w W A c C (inW W hW) (hs.below hW) hlc hcm hwt
  have H3 : Hid (∀ W, Below w.heap.size w W → GivesNew Try.prog 9 #[.slice A C.length c] W 26 Ln.cells (lnP C)) := fun W hW => stmts_w W A c C (inW W hW) (hs.below hW) hlc hcm hwt
  have H4 : Hid (∀ W, Below w.heap.size w W → GivesNew Try.prog 10 #[.slice A C.length c] W 26 Ln.cells (lnP C)) := fun W hW => refStmts_w W A c C (inW W hW) (hs.below hW) hlc hcm hwt
  unfold GivesNew at H1 H2 H3 H4
  obtain ⟨T, hT⟩ : ∃ T, T = rnP C := ⟨_, rfl⟩
  obtain ⟨L, hL⟩ : ∃ L, L = lnP C := ⟨_, rfl⟩
  rw [← hT] at H1 H2 hTlen
  rw [← hL] at H3 H4 hLlen hLst
  have HSt := hide hLst
  clear hs hin hwt hT hL hLst inW
  go_enter Try.func3, Try.ntmps3
  go_upto_region 3 with (go_at_call 5; refine (HH.out.over (Ext.here w)).mono ?_; rintro _ _ ⟨y, u, hy, rfl, rfl⟩; cases u)
  rotate_left
  · refine ((awake12_any y.val).over y).mono ?_
    rintro _ _ ⟨y2, hy2, rfl, rfl⟩
    go_wp2_with fail
    go_ret
    exact ⟨rfl, y2.below⟩
  have hB0 : Hid (Below w.heap.size w y.val) := y.below
  generalize y.val = w0 at hB0 ⊢
  clear HH hy y
  go_upto_region 5 with (first | (go_at_call 7; ((with_reducible refine (H1.out _ hB0.out).mono ?_); rintro _ _ ⟨y1, A1, c1, rfl, rfl, k1, k2, k3, k4⟩; have hL1 := hide k3; have hB1 := hide (hB0.out.trans (y1.below.mono hB0.out.size)); clear k1 k2 k3 k4)) | (go_at_call 8; ((with_reducible refine (H2.out _ hB1.out).mono ?_); rintro _ _ ⟨y2, A2, c2, rfl, rfl, k1, k2, k3, k4⟩; have hL2 := hide k3; have hB2 := hide (hB1.out.trans (y2.below.mono hB1.out.size)); clear k1 k2 k3 k4)) | (go_at_call 9; ((with_reducible refine (H3.out _ hB2.out).mono ?_); rintro _ _ ⟨y3, A3, c3, rfl, rfl, k1, k2, k3, k4⟩; have hL3 := hide k3; have hB3 := hide (hB2.out.trans (y3.below.mono hB2.out.size)); clear k1 k2 k3 k4)) | (go_at_call 10; ((with_reducible refine (H4.out _ hB3.out).mono ?_); rintro _ _ ⟨y4, A4, c4, rfl, rfl, k1, k2, k3, k4⟩; have hL4 := hide k3; have hB4 := hide (hB3.out.trans (y4.below.mono hB3.out.size)); clear k1 k2 k3 k4)))
  have hLa := hide (((hL1.out.ext y2).ext y3).ext y4)
  have hLb := hide ((hL2.out.ext y3).ext y4)
  have hLc := hide (hL3.out.ext y4)
  have hLd := hL4
  clear hL4
  generalize y4.val = w1 at hLa hLb hLc hLd hB4 ⊢
  clear hL1 hL2 hL3 hB0 hB1 hB2 hB3 H1 H2 H3 H4 y1 y2 y3 y4
  have hB := hB4
  clear hB4
  go_wp2_with fail
  go_loopw [7] (fun i wr => ∃ n : Nat, i = .int .i64 n ∧ n ≤ T.length ∧ ∃ x : Ext w1, wr = x.val) (fun i _ => T.length - (intOf i).toNat)
  case atStart => exact ⟨0, rfl, Nat.zero_le _, Ext.here w1, rfl⟩
  case round =>
    obtain ⟨n, rfl, hn2, x, rfl⟩ := hrel
    by_cases hlt : n < T.length
    · obtain ⟨b, off, rfl, hb, hcA⟩ := hLa.out n hlt
      obtain ⟨b2, off2, rfl, hb2, hcB⟩ := hLb.out n hlt
      have hlt' : (n : Int) < (T.length : Int) := by omega
      obtain ⟨e, he⟩ : ∃ e, e = T[n] := ⟨_, rfl⟩
      rw [← he] at hcA hcB
      have hrA : Hid (∀ W, (∃ y : Ext x.val, W = y.val) → W.rangeAt b (off + n * 15) e.cells) := by
        rintro W ⟨y, rfl⟩ j v h
        exact (y.cell (x.lt hb)).trans ((x.cell hb).trans (hcA j v h))
      have hrB : Hid (∀ W, (∃ y : Ext x.val, W = y.val) → W.rangeAt b2 (off2 + n * 15) e.cells) := by
        rintro W ⟨y, rfl⟩ j v h
        exact (y.cell (x.lt hb2)).trans ((x.cell hb2).trans (hcB j v h))
      have HKW : Hid (wrap64 ((n : Int) + 1) = ((n + 1 : Nat) : Int)) := by
        show wrap64 _ = _
        unfold wrap64
        omega
      have hlt9 := hide hlt
      have HQ := fun W : World => eqNtD W e
      clear hcA hcB he hlt
      as_aux_lemma =>
        go_wp2_with fail
        refine wp_region_ext (by kernel_rfl) (by kernel_rfl) ?_
        repeat (first | (refine qload_mid rfl 39 (.tmp 40) rfl b (off + n * 15) rfl e.cells _ hrA.out Try.underlying39 rfl (by rw [Nt.cells_len]; kernel_rfl) ?_; try simp only [Act.put, List.setIfInBounds_toArray, List.set_cons_zero, List.set_cons_succ]) | (refine qload_mid rfl 40 (.tmp 44) rfl b2 (off2 + n * 15) rfl e.cells _ hrB.out Try.underlying40 rfl (by rw [Nt.cells_len]; kernel_rfl) ?_; try simp only [Act.put, List.setIfInBounds_toArray, List.set_cons_zero, List.set_cons_succ]) | go_big_quiet_step (fail))
        refine wpQuiet_nil ?_
        intro _ hw'
        obtain ⟨y, hw''⟩ := hw'
        subst hw''
        obtain ⟨z, hz⟩ := x.over y
        rw [hz]
        clear HQ
        go_wp2_with fail
        go_roundw
        case rel => exact ⟨n + 1, by first | rfl | rw [HKW.out], Nat.succ_le_of_lt hlt9.out, z, rfl⟩
        case measure =>
          first | rw [HKW.out, intOf_int, intOf_int, Int.toNat_natCast, Int.toNat_natCast] | rw [intOf_int, intOf_int]
          have := hlt9.out
          omega
    · obtain rfl : n = T.length := by omega
      have hlt' : ¬ (T.length : Int) < (T.length : Int) := by omega
      obtain ⟨w2, hw2⟩ : ∃ w2, w2 = x.val := ⟨_, rfl⟩
      have hLc2 : Hid (Lies w2 26 Ln.cells A3 L) := by show Lies _ _ _ _ _; rw [hw2]; exact hLc.out.ext x
      have hLd2 : Hid (Lies w2 26 Ln.cells A4 L) := by show Lies _ _ _ _ _; rw [hw2]; exact hLd.out.ext x
      have hB2 : Hid (Below w.heap.size w w2) := by show Below _ _ _; rw [hw2]; exact hB.out.trans (x.below.mono hB.out.size)
      rw [← hw2]
      clear hw2 hLa hLb hLc hLd hB hn2
      go_wp2_with fail
      go_loopw [8] (fun i wr => ∃ n : Nat, i = .int .i64 n ∧ n ≤ L.length ∧ ∃ x : Ext w2, wr = x.val) (fun i _ => L.length - (intOf i).toNat)
      case atStart => exact ⟨0, rfl, Nat.zero_le _, Ext.here w2, rfl⟩
      case round =>
        clear x
        obtain ⟨n, rfl, hn2, x, rfl⟩ := hrel
        by_cases hlt : n < L.length
        · obtain ⟨b, off, rfl, hb, hcA⟩ := hLc2.out n hlt
          obtain ⟨b2, off2, rfl, hb2, hcB⟩ := hLd2.out n hlt
          have hlt' : (n : Int) < (L.length : Int) := by omega
          obtain ⟨e, he⟩ : ∃ e, e = L[n] := ⟨_, rfl⟩
          have hmem : e ∈ L := he ▸ List.getElem_mem hlt
          rw [← he] at hcA hcB
          have hxA : ∀ j u, e.cells[j]? = some u → x.val.cell? ⟨b, off + n * 26 + j, none⟩ = some u := fun j u h => (x.cell hb).trans (hcA j u h)
          have hxB : ∀ j u, e.cells[j]? = some u → x.val.cell? ⟨b2, off2 + n * 26 + j, none⟩ = some u := fun j u h => (x.cell hb2).trans (hcB j u h)
          have hbx : b < x.val.heap.size := x.lt hb
          have hbx2 : b2 < x.val.heap.size := x.lt hb2
          have a0 : x.val.cell? ⟨b, off + n * 26, none⟩ = some (.int .i64 e.c) := hxA 0 _ rfl
          have a1 : x.val.cell? ⟨b, off + n * 26 + 1, none⟩ = some (.int .i64 e.m) := hxA 1 _ rfl
          have a2 : x.val.cell? ⟨b, off + n * 26 + 2, none⟩ = some (.int .i64 e.d) := hxA 2 _ rfl
          have a3 : x.val.cell? ⟨b, off + n * 26 + 3 + 22, none⟩ = some (.int .i64 e.s.pos) := hxA 25 _ (Ln.at3 e (St.at22 _))
          have a3' : x.val.cell? ⟨b, off + n * 26 + 25, none⟩ = some (.int .i64 e.s.pos) := a3
          have d0 : x.val.cell? ⟨b2, off2 + n * 26, none⟩ = some (.int .i64 e.c) := hxB 0 _ rfl
          have d1 : x.val.cell? ⟨b2, off2 + n * 26 + 1, none⟩ = some (.int .i64 e.m) := hxB 1 _ rfl
          have d2 : x.val.cell? ⟨b2, off2 + n * 26 + 2, none⟩ = some (.int .i64 e.d) := hxB 2 _ rfl
          have d3 : x.val.cell? ⟨b2, off2 + n * 26 + 3 + 22, none⟩ = some (.int .i64 e.s.pos) := hxB 25 _ (Ln.at3 e (St.at22 _))
          have d3' : x.val.cell? ⟨b2, off2 + n * 26 + 25, none⟩ = some (.int .i64 e.s.pos) := d3
          have hrA : Hid (∀ W, (∃ y : Ext x.val, W = y.val) → W.rangeAt b (off + n * 26 + 3) e.s.cells) := by
            rintro W ⟨y, rfl⟩ j u h
            have := hxA (3 + j) u (Ln.at3 e h)
            rw [← Nat.add_assoc] at this
            exact (y.cell hbx).trans this
          have hrB : Hid (∀ W, (∃ y : Ext x.val, W = y.val) → W.rangeAt b2 (off2 + n * 26 + 3) e.s.cells) := by
            rintro W ⟨y, rfl⟩ j u h
            have := hxB (3 + j) u (Ln.at3 e h)
            rw [← Nat.add_assoc] at this
            exact (y.cell hbx2).trans this
          have hSa : Hid (∀ y : Ext x.val, Gives Try.prog 11 #[.agg e.s.cells.toArray, .agg e.s.cells.toArray] y.val (.bool true)) := fun y => by
            obtain ⟨u, hu⟩ := Ext.of (hB2.out.trans ((x.below.trans (y.below.mono x.below.size)).mono hB2.out.size))
            have := (HSt.out e hmem).ext u
            rw [← hu] at this
            exact sameW_any e.s y.val this
          have HKW : Hid (wrap64 ((n : Int) + 1) = ((n + 1 : Nat) : Int)) := by
            show wrap64 _ = _
            unfold wrap64
            omega
          have hlt9 := hide hlt
          clear hcA hcB hxA hxB he hmem hlt
          as_aux_lemma =>
            go_wp2_with fail
            refine wp_region_ext (by kernel_rfl) (by kernel_rfl) ?_
            repeat (first | (refine qload_mid rfl 46 (.tmp 109) rfl b (off + n * 26 + 3) rfl e.s.cells _ hrA.out Try.underlying46 rfl (by rw [St.cells_len]; kernel_rfl) ?_; try simp only [Act.put, List.setIfInBounds_toArray, List.set_cons_zero, List.set_cons_succ]) | (refine qload_mid rfl 46 (.tmp 114) rfl b2 (off2 + n * 26 + 3) rfl e.s.cells _ hrB.out Try.underlying46 rfl (by rw [St.cells_len]; kernel_rfl) ?_; try simp only [Act.put, List.setIfInBounds_toArray, List.set_cons_zero, List.set_cons_succ]) | go_big_quiet_step ((first | (go_at_call 11; with_reducible exact (hSa.out _).ext))))
            refine wpQuiet_nil ?_
            intro _ hw'
            obtain ⟨y, hw''⟩ := hw'
            subst hw''
            obtain ⟨z, hz⟩ := x.over y
            rw [hz]
            clear a0 a1 a2 a3 a3' d0 d1 d2 d3 d3'
            go_wp2_with fail
            go_roundw
            case rel => exact ⟨n + 1, by first | rfl | rw [HKW.out], Nat.succ_le_of_lt hlt9.out, z, rfl⟩
            case measure =>
              first | rw [HKW.out, intOf_int, intOf_int, Int.toNat_natCast, Int.toNat_natCast] | rw [intOf_int, intOf_int]
              have := hlt9.out
              omega
        · have hlt' : ¬ (n : Int) < (L.length : Int) := by omega
          as_aux_lemma =>
            go_wp2_with fail
            refine ((awake12_any x.val).over x).mono ?_
            rintro _ _ ⟨y2, hy2, rfl, rfl⟩
            go_wp2_with fail
            go_ret
            exact ⟨rfl, hB2.out.trans (y2.below.mono hB2.out.size)⟩
end Go.Proofs.Ytmpdmelkbemabaa
