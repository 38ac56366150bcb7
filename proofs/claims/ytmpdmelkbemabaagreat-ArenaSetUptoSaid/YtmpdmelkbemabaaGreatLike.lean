/- demesneref09.one and Like: of programs that are alike but for where they lie. -/
import Derived.Test.YtmpdmelkbemabaaGreatLikeM
set_option linter.unusedSimpArgs false
set_option linter.unusedVariables false
namespace Go.Proofs.YtmpdmelkbemabaaGreat
open Go.RowKit Go.Proofs.Grow

theorem eqOwZ (w : World) (k n : Int) : (Op.equalIn 10000 37 (.agg #[.int .i64 k, .int .i64 n]) (.agg #[.int .i64 k, .int .i64 n])).run Tryz.prog w = .ok true w := by
  have u3 := Tryz.underlying3
  have a3 := Tryz.isAgg3
  have z3 := Tryz.sizeOf3
  have hS : Tryz.prog.underlying 37 = some (.struct (Tryz.prog.fieldsOf 37)) := by kernel_rfl
  rw [show (10000 : Nat) = 9999 + 1 from rfl, run_equalIn_agg w 9999 37 _ _ hS (by kernel_rfl)]
  simp only [Program.fieldsOf, Tryz.underlying37]
  go_simp

set_option maxHeartbeats 4000000 in
set_option maxRecDepth 100000 in
theorem one_any (w : World) (m q : Cl) (hs : stCl m = stCl q) (hin : ClIn w m) (hin' : ClIn w q) : Gives Tryz.prog 20 #[.agg m.cells.toArray, .agg q.cells.toArray, .bool true] w (.bool true) := by
  refine Gives.mk ?_
  obtain ⟨nm, pA, pc, ps, su, aA, ac, ab, fA, fc, fs, mA, mc, ms, pos⟩ := m
  obtain ⟨nm', pA', pc', ps', su', aA', ac', ab', fA', fc', fs', mA', mc', ms', pos'⟩ := q
  simp only [stCl, Cl.mk.injEq, true_and] at hs
  obtain ⟨rfl, rfl, rfl, rfl, rfl, hb, rfl⟩ := hs
  have P1 : Hid (∀ x : Ext w, Gives Tryz.prog 34 #[.slice fA fs.length fc, .slice fA' fs.length fc', .bool true] x.val (.bool true)) := fun x => vars_like x.val fA fA' fc fc' fs (hin.fields.ext x) (hin'.fields.ext x) (Nat.le_trans hin.fc hin.fm)
  have L1 := hide hin.params
  have L2 := hide hin'.params
  have A1 := hide hin.above
  have A2 := hide hin'.above
  have M1 := hide hin.methods
  have M2 := hide hin'.methods
  have I1 := hide hin.each
  have I2 := hide hin'.each
  have hpm : ps.length ≤ maxLen := Nat.le_trans hin.pc hin.pm
  have ham : ab.length ≤ maxLen := Nat.le_trans hin.ac hin.am
  have hmm : ms.length ≤ maxLen := Nat.le_trans hin.mc hin.mm
  have HM := hide hb
  have HE2 := hide (map_len hb)
  clear hin hin' hb
  simp only [] at L1 L2 A1 A2 M1 M2 I1 I2
  have hcc : (Cl.cells ⟨nm, pA', pc', ps, su, aA', ac', ab, fA', fc', fs, mA', mc', ms', pos⟩) = [.string nm, .slice pA' ps.length pc', .string su, .slice aA' ab.length ac', .slice fA' fs.length fc', .slice mA' ms.length mc', .int .i64 pos] := by
    simp only [Cl.cells, HE2.out]
  rw [hcc]
  simp only [Cl.cells]
  clear hcc
  obtain ⟨X, hX⟩ : ∃ X : List Value, Hid (X = [.string nm, .slice pA ps.length pc, .string su, .slice aA ab.length ac, .slice fA fs.length fc, .slice mA ms.length mc, .int .i64 pos]) := ⟨_, rfl⟩
  obtain ⟨Y, hY⟩ : ∃ Y : List Value, Hid (Y = [.string nm, .slice pA' ps.length pc', .string su, .slice aA' ab.length ac', .slice fA' fs.length fc', .slice mA' ms.length mc', .int .i64 pos]) := ⟨_, rfl⟩
  rw [← hX.out, ← hY.out]
  go_enter Tryz.func20, Tryz.ntmps20
  go_upto_region 1 with fail
  obtain ⟨w1, hw1⟩ : ∃ w1, w1 = (w.alloc (.cells X.toArray 35)).alloc (.cells Y.toArray 35) := ⟨_, rfl⟩
  rw [← hw1]
  have hB1 : Hid (Below w.heap.size w w1) := by
    show Below _ _ _
    rw [hw1]
    exact ((Below.refl _ _).alloc (Nat.le_refl _) _).alloc (by simp) _
  have hsz : w.heap.size < w1.heap.size := by rw [hw1]; simp; omega
  have hsz2 : w.heap.size + 1 < w1.heap.size := by rw [hw1]; simp
  have hA : w1.heap[w.heap.size]? = some (.cells X.toArray 35 (0, 0)) := by
    rw [hw1]
    exact (Below.heap_alloc _ _ w.heap.size (by simp)).trans (heap_alloc_new w _)
  have hBb : w1.heap[w.heap.size + 1]? = some (.cells Y.toArray 35 (0, 0)) := by
    rw [hw1]
    have := heap_alloc_new (w.alloc (.cells X.toArray 35)) (.cells Y.toArray 35)
    simpa using this
  have a0 : w1.cell? ⟨w.heap.size, 0, none⟩ = some (.string nm) := (cell_of_row _ _ _ _ _ _ hA).trans (by rw [hX.out]; rfl)
  have b0 : w1.cell? ⟨w.heap.size + 1, 0, none⟩ = some (.string nm) := (cell_of_row _ _ _ _ _ _ hBb).trans (by rw [hY.out]; rfl)
  have a1 : w1.cell? ⟨w.heap.size, 1, none⟩ = some (.slice pA ps.length pc) := (cell_of_row _ _ _ _ _ _ hA).trans (by rw [hX.out]; rfl)
  have b1 : w1.cell? ⟨w.heap.size + 1, 1, none⟩ = some (.slice pA' ps.length pc') := (cell_of_row _ _ _ _ _ _ hBb).trans (by rw [hY.out]; rfl)
  have a2 : w1.cell? ⟨w.heap.size, 2, none⟩ = some (.string su) := (cell_of_row _ _ _ _ _ _ hA).trans (by rw [hX.out]; rfl)
  have b2 : w1.cell? ⟨w.heap.size + 1, 2, none⟩ = some (.string su) := (cell_of_row _ _ _ _ _ _ hBb).trans (by rw [hY.out]; rfl)
  have a3 : w1.cell? ⟨w.heap.size, 3, none⟩ = some (.slice aA ab.length ac) := (cell_of_row _ _ _ _ _ _ hA).trans (by rw [hX.out]; rfl)
  have b3 : w1.cell? ⟨w.heap.size + 1, 3, none⟩ = some (.slice aA' ab.length ac') := (cell_of_row _ _ _ _ _ _ hBb).trans (by rw [hY.out]; rfl)
  have a4 : w1.cell? ⟨w.heap.size, 4, none⟩ = some (.slice fA fs.length fc) := (cell_of_row _ _ _ _ _ _ hA).trans (by rw [hX.out]; rfl)
  have b4 : w1.cell? ⟨w.heap.size + 1, 4, none⟩ = some (.slice fA' fs.length fc') := (cell_of_row _ _ _ _ _ _ hBb).trans (by rw [hY.out]; rfl)
  have a5 : w1.cell? ⟨w.heap.size, 5, none⟩ = some (.slice mA ms.length mc) := (cell_of_row _ _ _ _ _ _ hA).trans (by rw [hX.out]; rfl)
  have b5 : w1.cell? ⟨w.heap.size + 1, 5, none⟩ = some (.slice mA' ms.length mc') := (cell_of_row _ _ _ _ _ _ hBb).trans (by rw [hY.out]; rfl)
  have a6 : w1.cell? ⟨w.heap.size, 6, none⟩ = some (.int .i64 pos) := (cell_of_row _ _ _ _ _ _ hA).trans (by rw [hX.out]; rfl)
  have b6 : w1.cell? ⟨w.heap.size + 1, 6, none⟩ = some (.int .i64 pos) := (cell_of_row _ _ _ _ _ _ hBb).trans (by rw [hY.out]; rfl)
  clear hw1 hA hBb
  go_wp2_with fail
  go_loopw [7] (fun i wr => ∃ n : Nat, i = .int .i64 n ∧ n ≤ ps.length ∧ ∃ x : Ext w1, wr = x.val) (fun i _ => ps.length - (intOf i).toNat)
  case atStart => exact ⟨0, rfl, Nat.zero_le _, Ext.here w1, rfl⟩
  case round =>
    obtain ⟨n, rfl, hn2, x, rfl⟩ := hrel
    by_cases hlt : n < ps.length
    · obtain ⟨b, off, rfl, hb, hcell⟩ := L1.out n hlt
      obtain ⟨b', off', rfl, hb', hcell'⟩ := L2.out n hlt
      have hlt' : (n : Int) < (ps.length : Int) := by omega
      have hb1 : b < w1.heap.size := by omega
      have hb1' : b' < w1.heap.size := by omega
      obtain ⟨e, he⟩ : ∃ e, e = ps[n] := ⟨_, rfl⟩
      rw [← he] at hcell hcell'
      have d0 : w1.cell? ⟨b, off + n, none⟩ = some (.string e) := (Ext.cell ⟨w1, hB1.out⟩ hb).trans (by have := hcell 0 _ rfl; simpa using this)
      have g0 : w1.cell? ⟨b', off' + n, none⟩ = some (.string e) := (Ext.cell ⟨w1, hB1.out⟩ hb').trans (by have := hcell' 0 _ rfl; simpa using this)
      have HKW : Hid (wrap64 ((n : Int) + 1) = ((n + 1 : Nat) : Int)) := by
        have := hpm
        unfold maxLen at this
        show wrap64 _ = _
        unfold wrap64
        omega
      have hlt9 := hide hlt
      clear hcell he hlt hcell'
      as_aux_lemma =>
        go_wp2_with fail
        refine wp_region_ext (by kernel_rfl) (by kernel_rfl) ?_
        repeat (go_big_quiet_step ((first | fail)))
        refine wpQuiet_nil ?_
        intro _ hw'
        obtain ⟨y, hw''⟩ := hw'
        subst hw''
        obtain ⟨z, hz⟩ := x.over y
        rw [hz]
        go_wp2_with fail
        go_roundw
        case rel => exact ⟨n + 1, by rw [HKW.out], Nat.succ_le_of_lt hlt9.out, z, rfl⟩
        case measure =>
          rw [HKW.out, intOf_int, intOf_int, Int.toNat_natCast, Int.toNat_natCast]
          exact Nat.sub_lt_sub_left hlt9.out (Nat.lt_succ_self n)
    · have hlt' : ¬ (n : Int) < (ps.length : Int) := by omega
      go_wp2_with fail
      go_loopw [8] (fun i wr => ∃ n : Nat, i = .int .i64 n ∧ n ≤ ab.length ∧ ∃ x : Ext w1, wr = x.val) (fun i _ => ab.length - (intOf i).toNat)
      case atStart => exact ⟨0, rfl, Nat.zero_le _, x, rfl⟩
      case round =>
        obtain ⟨n, rfl, hn2, x, rfl⟩ := hrel
        by_cases hlt : n < ab.length
        · obtain ⟨b, off, rfl, hb, hcell⟩ := A1.out n hlt
          obtain ⟨b', off', rfl, hb', hcell'⟩ := A2.out n hlt
          have hlt' : (n : Int) < (ab.length : Int) := by omega
          have hb1 : b < w1.heap.size := by omega
          have hb1' : b' < w1.heap.size := by omega
          obtain ⟨e, he⟩ : ∃ e, e = ab[n] := ⟨_, rfl⟩
          rw [← he] at hcell hcell'
          obtain ⟨ok, on⟩ := e
          simp only [Ow.cells] at hcell hcell'
          have d0 : w1.cell? ⟨b, off + n * 2, none⟩ = _ := (Ext.cell ⟨w1, hB1.out⟩ hb).trans (hcell 0 _ rfl)
          have d1 : w1.cell? ⟨b, off + n * 2 + 1, none⟩ = _ := (Ext.cell ⟨w1, hB1.out⟩ hb).trans (hcell 1 _ rfl)
          have g0 : w1.cell? ⟨b', off' + n * 2, none⟩ = _ := (Ext.cell ⟨w1, hB1.out⟩ hb').trans (hcell' 0 _ rfl)
          have g1 : w1.cell? ⟨b', off' + n * 2 + 1, none⟩ = _ := (Ext.cell ⟨w1, hB1.out⟩ hb').trans (hcell' 1 _ rfl)
          have HQ := fun W : World => eqOwZ W ok on
          have HKW : Hid (wrap64 ((n : Int) + 1) = ((n + 1 : Nat) : Int)) := by
            have := ham
            unfold maxLen at this
            show wrap64 _ = _
            unfold wrap64
            omega
          have hlt9 := hide hlt
          clear hcell he hlt hcell'
          as_aux_lemma =>
            go_wp2_with fail
            refine wp_region_ext (by kernel_rfl) (by kernel_rfl) ?_
            repeat (go_big_quiet_step ((first | fail)))
            refine wpQuiet_nil ?_
            intro _ hw'
            obtain ⟨y, hw''⟩ := hw'
            subst hw''
            obtain ⟨z, hz⟩ := x.over y
            rw [hz]
            go_wp2_with fail
            go_roundw
            case rel => exact ⟨n + 1, by rw [HKW.out], Nat.succ_le_of_lt hlt9.out, z, rfl⟩
            case measure =>
              rw [HKW.out, intOf_int, intOf_int, Int.toNat_natCast, Int.toNat_natCast]
              exact Nat.sub_lt_sub_left hlt9.out (Nat.lt_succ_self n)
        · have hlt' : ¬ (n : Int) < (ab.length : Int) := by omega
          go_wp2_with fail
          go_loopw [9] (fun i wr => ∃ n : Nat, i = .int .i64 n ∧ n ≤ ms.length ∧ ∃ x : Ext w1, wr = x.val) (fun i _ => ms.length - (intOf i).toNat)
          case atStart => exact ⟨0, rfl, Nat.zero_le _, x, rfl⟩
          case round =>
            obtain ⟨n, rfl, hn2, x, rfl⟩ := hrel
            by_cases hlt : n < ms.length
            · have hq : n < ms'.length := by rw [HE2.out]; exact hlt
              obtain ⟨b, off, rfl, hb, hcell⟩ := M1.out n hlt
              obtain ⟨b', off', rfl, hb', hcell'⟩ := M2.out n hq
              have hlt' : (n : Int) < (ms.length : Int) := by omega
              have hb1 : b < w1.heap.size := by omega
              have hb1' : b' < w1.heap.size := by omega
              have hst := map_at HM.out n hlt hq
              obtain ⟨e, he⟩ : ∃ e, e = ms[n] := ⟨_, rfl⟩
              obtain ⟨f, hf⟩ : ∃ f, f = ms'[n] := ⟨_, rfl⟩
              have hmem : e ∈ ms := he ▸ List.getElem_mem hlt
              have hmem' : f ∈ ms' := hf ▸ List.getElem_mem hq
              rw [← he] at hcell hst
              rw [← hf] at hcell' hst
              have hrange : Hid (∀ W, (∃ y : Ext x.val, W = y.val) → W.rangeAt b (off + n * 17) e.cells) := by
                rintro W ⟨y, rfl⟩ j v h
                exact (y.cell (x.lt hb1)).trans ((x.cell hb1).trans ((Ext.cell ⟨w1, hB1.out⟩ hb).trans (hcell j v h)))
              have hrange2 : Hid (∀ W, (∃ y : Ext x.val, W = y.val) → W.rangeAt b' (off' + n * 17) f.cells) := by
                rintro W ⟨y, rfl⟩ j v h
                exact (y.cell (x.lt hb1')).trans ((x.cell hb1').trans ((Ext.cell ⟨w1, hB1.out⟩ hb').trans (hcell' j v h)))
              have H1 : Hid (∀ z : Ext x.val, Gives Tryz.prog 33 #[.agg e.cells.toArray, .agg f.cells.toArray, .bool true] z.val (.bool true)) := fun z => like_any z.val e f hst ((((I1.out e hmem).ext ⟨w1, hB1.out⟩).ext x).ext z) ((((I2.out f hmem').ext ⟨w1, hB1.out⟩).ext x).ext z)
              have HKW : Hid (wrap64 ((n : Int) + 1) = ((n + 1 : Nat) : Int)) := by
                have := hmm
                unfold maxLen at this
                show wrap64 _ = _
                unfold wrap64
                omega
              have hlt9 := hide hlt
              clear hcell he hlt hcell' hf hq hmem hmem' hst
              as_aux_lemma =>
                go_wp2_with fail
                refine wp_region_ext (by kernel_rfl) (by kernel_rfl) ?_
                repeat (first | (refine qload_mid rfl 43 (.tmp 105) rfl b (off + n * 17) rfl e.cells _ hrange.out Tryz.underlying43 rfl (by rw [Me.cells_len]; kernel_rfl) ?_; try simp only [Act.put, List.setIfInBounds_toArray, List.set_cons_zero, List.set_cons_succ]) | (refine qload_mid rfl 43 (.tmp 110) rfl b' (off' + n * 17) rfl f.cells _ hrange2.out Tryz.underlying43 rfl (by rw [Me.cells_len]; kernel_rfl) ?_; try simp only [Act.put, List.setIfInBounds_toArray, List.set_cons_zero, List.set_cons_succ]) | go_big_quiet_step ((first | (go_at_call 33; with_reducible exact (H1.out _).ext))))
                refine wpQuiet_nil ?_
                intro _ hw'
                obtain ⟨y, hw''⟩ := hw'
                subst hw''
                obtain ⟨z, hz⟩ := x.over y
                rw [hz]
                go_wp2_with fail
                go_roundw
                case rel => exact ⟨n + 1, by rw [HKW.out], Nat.succ_le_of_lt hlt9.out, z, rfl⟩
                case measure =>
                  rw [HKW.out, intOf_int, intOf_int, Int.toNat_natCast, Int.toNat_natCast]
                  exact Nat.sub_lt_sub_left hlt9.out (Nat.lt_succ_self n)
            · have hlt' : ¬ (n : Int) < (ms.length : Int) := by omega
              have Q1 : Hid (∀ z : Ext w1, Gives Tryz.prog 34 #[.slice fA fs.length fc, .slice fA' fs.length fc', .bool true] z.val (.bool true)) := fun z => P1.out ((⟨w1, hB1.out⟩ : Ext w).step z.below)
              unfold Gives at Q1
              as_aux_lemma =>
                go_wp2_with (go_at_call 34; (with_reducible refine (Q1.out x).mono ?_); rintro _ _ ⟨z2, rfl, rfl⟩; obtain ⟨z3, hz3⟩ := x.over z2; rw [hz3])
                go_ret
                exact ⟨rfl, hB1.out.trans (z3.below.mono hB1.out.size)⟩

set_option maxHeartbeats 4000000 in
set_option maxRecDepth 100000 in
theorem Like_any (w : World) (l q : List Cl) (hmap : l.map stCl = q.map stCl) (A B : Option Addr) (c d : Nat) (hl : Lies w 7 Cl.cells A l) (hl' : Lies w 7 Cl.cells B q) (hin : ∀ s ∈ l, ClIn w s) (hin' : ∀ s ∈ q, ClIn w s) (hm : l.length ≤ maxLen) : Gives Tryz.prog 8 #[.slice A l.length c, .slice B q.length d, .bool true] w (.bool true) := by
  refine Gives.mk ?_
  have hl2 := map_len hmap
  rw [hl2]
  have HL := hide hl
  have HI := hide hin
  have HL2 := hide hl'
  have HI2 := hide hin'
  have HM := hide hmap
  have HE2 := hide hl2
  clear hl hin hl' hin' hmap hl2
  go_enter Tryz.func8, Tryz.ntmps8
  go_wp2_with fail
  go_loopw [7] (fun i wr => ∃ n : Nat, i = .int .i64 n ∧ n ≤ l.length ∧ ∃ x : Ext w, wr = x.val) (fun i _ => l.length - (intOf i).toNat)
  case atStart => exact ⟨0, rfl, Nat.zero_le _, Ext.here w, rfl⟩
  case round =>
    obtain ⟨n, rfl, hn2, x, rfl⟩ := hrel
    by_cases hlt : n < l.length
    · have hq : n < q.length := by rw [HE2.out]; exact hlt
      obtain ⟨b, off, rfl, hb, hcell⟩ := HL.out n hlt
      obtain ⟨b', off', rfl, hb', hcell'⟩ := HL2.out n hq
      have hlt' : (n : Int) < (l.length : Int) := by omega
      have hst := hide (map_at HM.out n hlt hq)
      obtain ⟨e, he⟩ : ∃ e, e = l[n] := ⟨_, rfl⟩
      obtain ⟨f, hf⟩ : ∃ f, f = q[n] := ⟨_, rfl⟩
      have hmem : e ∈ l := he ▸ List.getElem_mem hlt
      have hmem' : f ∈ q := hf ▸ List.getElem_mem hq
      rw [← he] at hcell hst
      rw [← hf] at hcell' hst
      have hrange : Hid (∀ W, (∃ y : Ext x.val, W = y.val) → W.rangeAt b (off + n * 7) e.cells) := by
        rintro W ⟨y, rfl⟩ j v h
        exact (y.cell (x.lt hb)).trans ((x.cell hb).trans (hcell j v h))
      have hrange2 : Hid (∀ W, (∃ y : Ext x.val, W = y.val) → W.rangeAt b' (off' + n * 7) f.cells) := by
        rintro W ⟨y, rfl⟩ j v h
        exact (y.cell (x.lt hb')).trans ((x.cell hb').trans (hcell' j v h))
      have HKW : Hid (wrap64 ((n : Int) + 1) = ((n + 1 : Nat) : Int)) := by
        unfold maxLen at hm
        show wrap64 _ = _
        unfold wrap64
        omega
      have hlt9 := hide hlt
      have H1 : Hid (∀ z : Ext x.val, Gives Tryz.prog 20 #[.agg e.cells.toArray, .agg f.cells.toArray, .bool true] z.val (.bool true)) := fun z => one_any z.val e f hst.out (((HI.out e hmem).ext x).ext z) (((HI2.out f hmem').ext x).ext z)
      clear hcell he hlt hmem hcell' hf hmem' hq hst
      go_wp2_with fail
      refine wp_region_ext (by kernel_rfl) (by kernel_rfl) ?_
      repeat (first | (refine qload_mid rfl 35 (.tmp 21) rfl b (off + n * 7) rfl e.cells _ hrange.out Tryz.underlying35 rfl (by rw [Cl.cells_len]; kernel_rfl) ?_; try simp only [Act.put, List.setIfInBounds_toArray, List.set_cons_zero, List.set_cons_succ]) | (refine qload_mid rfl 35 (.tmp 25) rfl b' (off' + n * 7) rfl f.cells _ hrange2.out Tryz.underlying35 rfl (by rw [Cl.cells_len]; kernel_rfl) ?_; try simp only [Act.put, List.setIfInBounds_toArray, List.set_cons_zero, List.set_cons_succ]) | go_big_quiet_step ((first | (go_at_call 20; with_reducible exact (H1.out _).ext))))
      refine wpQuiet_nil ?_
      intro _ hw'
      obtain ⟨y, hw''⟩ := hw'
      subst hw''
      obtain ⟨z, hz⟩ := x.over y
      rw [hz]
      go_wp2_with fail
      go_roundw
      case rel => exact ⟨n + 1, by first | rfl | rw [HKW.out], Nat.succ_le_of_lt hlt9.out, z, rfl⟩
      case measure =>
        first | rw [HKW.out, intOf_int, intOf_int, Int.toNat_natCast, Int.toNat_natCast] | rw [intOf_int, intOf_int]
        have := hlt9.out
        omega
    · have hlt' : ¬ (n : Int) < (l.length : Int) := by omega
      go_wp2_with fail
      go_ret
      exact ⟨rfl, x.below⟩
end Go.Proofs.YtmpdmelkbemabaaGreat
