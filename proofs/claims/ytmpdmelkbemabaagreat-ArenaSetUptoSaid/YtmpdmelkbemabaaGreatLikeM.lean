/- demesneref09.like: of methods that are alike but for where they lie. -/
import Derived.Test.YtmpdmelkbemabaaGreatSameP
import Derived.Test.YtmpdmelkbemabaaGreatCls
set_option linter.unusedSimpArgs false
set_option linter.unusedVariables false
namespace Go.Proofs.YtmpdmelkbemabaaGreat
open Go.RowKit Go.Proofs.Grow

set_option maxHeartbeats 4000000 in
set_option maxRecDepth 100000 in
theorem vars_like (w : World) (A B : Option Addr) (c d : Nat) (l : List Va) (hl : Lies w 13 Va.cells A l) (hl' : Lies w 13 Va.cells B l) (hm : l.length ≤ maxLen) : Gives Tryz.prog 34 #[.slice A l.length c, .slice B l.length d, .bool true] w (.bool true) := by
  refine Gives.mk ?_
  have HL := hide hl
  have HL2 := hide hl'
  clear hl hl'
  go_enter Tryz.func34, Tryz.ntmps34
  go_wp2_with fail
  go_loopw [7] (fun i wr => ∃ n : Nat, i = .int .i64 n ∧ n ≤ l.length ∧ ∃ x : Ext w, wr = x.val) (fun i _ => l.length - (intOf i).toNat)
  case atStart => exact ⟨0, rfl, Nat.zero_le _, Ext.here w, rfl⟩
  case round =>
    obtain ⟨n, rfl, hn2, x, rfl⟩ := hrel
    by_cases hlt : n < l.length
    · obtain ⟨b, off, rfl, hb, hcell⟩ := HL.out n hlt
      obtain ⟨b', off', rfl, hb', hcell'⟩ := HL2.out n hlt
      have hlt' : (n : Int) < (l.length : Int) := by omega
      obtain ⟨e, he⟩ : ∃ e, e = l[n] := ⟨_, rfl⟩
      rw [← he] at hcell hcell'
      obtain ⟨nm, ⟨tk, tc, tn, ⟨k0, n0⟩, ⟨k1, n1⟩, ⟨k2, n2⟩, ⟨k3, n3⟩⟩, pos⟩ := e
      simp only [Va.cells, Ty.cells, List.cons_append, List.nil_append] at hcell hcell'
      have d0 : w.cell? ⟨b, off + n * 13, none⟩ = _ := hcell 0 _ rfl
      have d1 : w.cell? ⟨b, off + n * 13 + 1, none⟩ = _ := hcell 1 _ rfl
      have d2 : w.cell? ⟨b, off + n * 13 + 2, none⟩ = _ := hcell 2 _ rfl
      have d3 : w.cell? ⟨b, off + n * 13 + 3, none⟩ = _ := hcell 3 _ rfl
      have d4 : w.cell? ⟨b, off + n * 13 + 4, none⟩ = _ := hcell 4 _ rfl
      have d5 : w.cell? ⟨b, off + n * 13 + 5, none⟩ = _ := hcell 5 _ rfl
      have d6 : w.cell? ⟨b, off + n * 13 + 6, none⟩ = _ := hcell 6 _ rfl
      have d7 : w.cell? ⟨b, off + n * 13 + 7, none⟩ = _ := hcell 7 _ rfl
      have d8 : w.cell? ⟨b, off + n * 13 + 8, none⟩ = _ := hcell 8 _ rfl
      have d9 : w.cell? ⟨b, off + n * 13 + 9, none⟩ = _ := hcell 9 _ rfl
      have d10 : w.cell? ⟨b, off + n * 13 + 10, none⟩ = _ := hcell 10 _ rfl
      have d11 : w.cell? ⟨b, off + n * 13 + 11, none⟩ = _ := hcell 11 _ rfl
      have d12 : w.cell? ⟨b, off + n * 13 + 12, none⟩ = _ := hcell 12 _ rfl
      have g0 : w.cell? ⟨b', off' + n * 13, none⟩ = _ := hcell' 0 _ rfl
      have g1 : w.cell? ⟨b', off' + n * 13 + 1, none⟩ = _ := hcell' 1 _ rfl
      have g2 : w.cell? ⟨b', off' + n * 13 + 2, none⟩ = _ := hcell' 2 _ rfl
      have g3 : w.cell? ⟨b', off' + n * 13 + 3, none⟩ = _ := hcell' 3 _ rfl
      have g4 : w.cell? ⟨b', off' + n * 13 + 4, none⟩ = _ := hcell' 4 _ rfl
      have g5 : w.cell? ⟨b', off' + n * 13 + 5, none⟩ = _ := hcell' 5 _ rfl
      have g6 : w.cell? ⟨b', off' + n * 13 + 6, none⟩ = _ := hcell' 6 _ rfl
      have g7 : w.cell? ⟨b', off' + n * 13 + 7, none⟩ = _ := hcell' 7 _ rfl
      have g8 : w.cell? ⟨b', off' + n * 13 + 8, none⟩ = _ := hcell' 8 _ rfl
      have g9 : w.cell? ⟨b', off' + n * 13 + 9, none⟩ = _ := hcell' 9 _ rfl
      have g10 : w.cell? ⟨b', off' + n * 13 + 10, none⟩ = _ := hcell' 10 _ rfl
      have g11 : w.cell? ⟨b', off' + n * 13 + 11, none⟩ = _ := hcell' 11 _ rfl
      have g12 : w.cell? ⟨b', off' + n * 13 + 12, none⟩ = _ := hcell' 12 _ rfl
      have HKW : Hid (wrap64 ((n : Int) + 1) = ((n + 1 : Nat) : Int)) := by
        have := hm
        unfold maxLen at this
        show wrap64 _ = _
        unfold wrap64
        omega
      have hlt9 := hide hlt
      clear hcell he hlt hcell'
      have HQ := fun W : World => eqOwn W k0 n0 k1 n1 k2 n2 k3 n3
      go_wp2_with fail
      refine wp_region_ext (by kernel_rfl) (by kernel_rfl) ?_
      repeat (go_big_quiet_step ((first | fail)))
      refine wpQuiet_nil ?_
      intro _ hw'
      obtain ⟨y, hw''⟩ := hw'
      subst hw''
      obtain ⟨z, hz⟩ := x.over y
      rw [hz]
      go_wp2_with fail
      go_roundw
      case rel => exact ⟨n + 1, by rw [HKW.out], Nat.succ_le_of_lt hlt9.out, z, rfl⟩
      case measure =>
        rw [HKW.out, intOf_int, intOf_int, Int.toNat_natCast, Int.toNat_natCast]
        exact Nat.sub_lt_sub_left hlt9.out (Nat.lt_succ_self n)
    · have hlt' : ¬ (n : Int) < (l.length : Int) := by omega
      go_wp2_with fail
      go_ret
      exact ⟨rfl, x.below⟩

def AtsL (l : List St) : Prop := ∀ q : List St, l.map stSt = q.map stSt → ∀ (w : World) (A B : Option Addr) (c d : Nat), Lies w 23 St.cells A l → Lies w 23 St.cells B q → (∀ s ∈ l, StIn w s) → (∀ s ∈ q, StIn w s) → l.length ≤ maxLen → Gives Tryz.prog 48 #[.slice A l.length c, .slice B q.length d] w (.bool true)
theorem stSt_parts {s t : St} (h : stSt s = stSt t) : s.pos = t.pos ∧ s.body.map stSt = t.body.map stSt ∧ s.els.map stSt = t.els.map stSt := by
  cases s; cases t
  simp only [stSt, stSts_map, St.mk.injEq] at h
  obtain ⟨-, -, -, -, -, -, -, -, -, -, -, hb, -, -, hl, hp⟩ := h
  exact ⟨hp, hb, hl⟩
theorem _root_.Go.Proofs.Grow.StIn.tail {w : World} {s : St} (h : StIn w s) : Lies w 23 St.cells s.bA s.body ∧ s.body.length ≤ maxLen ∧ (∀ t ∈ s.body, StIn w t) ∧ Lies w 23 St.cells s.eA s.els ∧ s.els.length ≤ maxLen ∧ (∀ t ∈ s.els, StIn w t) := by
  cases h with
  | mk he ha hac ham hai hb hbc hbm hbi hl hlc hlm hli hs => exact ⟨hb, Nat.le_trans hbc hbm, hbi, hl, Nat.le_trans hlc hlm, hli⟩

set_option maxHeartbeats 4000000 in
set_option maxRecDepth 100000 in
theorem ats_step (l : List St) (ih : ∀ s ∈ l, AtsL s.body ∧ AtsL s.els) : AtsL l := by
  intro q hmap w A B c d hl hl' hin hin' hm
  refine Gives.mk ?_
  have hl2 := map_len hmap
  rw [hl2]
  have HL := hide hl
  have HI := hide hin
  have HL2 := hide hl'
  have HI2 := hide hin'
  have IH := hide ih
  have HM := hide hmap
  have HE2 := hide hl2
  clear hl hin ih hl' hin' hmap hl2
  go_enter Tryz.func48, Tryz.ntmps48
  go_wp2_with fail
  go_loopw [5] (fun i wr => ∃ n : Nat, i = .int .i64 n ∧ n ≤ l.length ∧ ∃ x : Ext w, wr = x.val) (fun i _ => l.length - (intOf i).toNat)
  case atStart => exact ⟨0, rfl, Nat.zero_le _, Ext.here w, rfl⟩
  case round =>
    obtain ⟨n, rfl, hn2, x, rfl⟩ := hrel
    by_cases hlt : n < l.length
    · have hq : n < q.length := by rw [HE2.out]; exact hlt
      obtain ⟨b, off, rfl, hb, hcell⟩ := HL.out n hlt
      obtain ⟨b', off', rfl, hb', hcell'⟩ := HL2.out n hq
      have hlt' : (n : Int) < (l.length : Int) := by omega
      have hst := stSt_parts (map_at HM.out n hlt hq)
      obtain ⟨e, he⟩ : ∃ e, e = l[n] := ⟨_, rfl⟩
      obtain ⟨f, hf⟩ : ∃ f, f = q[n] := ⟨_, rfl⟩
      have hmem : e ∈ l := he ▸ List.getElem_mem hlt
      have hmem' : f ∈ q := hf ▸ List.getElem_mem hq
      rw [← he] at hcell hst
      rw [← hf] at hcell' hst
      obtain ⟨hp, hbo, hel⟩ := hst
      have te := (HI.out e hmem).tail
      have tf := (HI2.out f hmem').tail
      have H1 : Hid (∀ z : Ext x.val, Gives Tryz.prog 48 #[.slice e.bA e.body.length e.bc, .slice f.bA f.body.length f.bc] z.val (.bool true)) := fun z =>
        (IH.out e hmem).1 f.body hbo z.val e.bA f.bA e.bc f.bc ((te.1.ext x).ext z) ((tf.1.ext x).ext z) (fun t ht => ((te.2.2.1 t ht).ext x).ext z) (fun t ht => ((tf.2.2.1 t ht).ext x).ext z) te.2.1
      have H2 : Hid (∀ z : Ext x.val, Gives Tryz.prog 48 #[.slice e.eA e.els.length e.ec, .slice f.eA f.els.length f.ec] z.val (.bool true)) := fun z =>
        (IH.out e hmem).2 f.els hel z.val e.eA f.eA e.ec f.ec ((te.2.2.2.1.ext x).ext z) ((tf.2.2.2.1.ext x).ext z) (fun t ht => ((te.2.2.2.2.2 t ht).ext x).ext z) (fun t ht => ((tf.2.2.2.2.2 t ht).ext x).ext z) te.2.2.2.2.1
      clear te tf hbo hel
      obtain ⟨ekd, ex, ey, enm, ety, ee, eaA, eac, eargs, ebA, ebc, ebody, elA, elc, eels, epos⟩ := e
      obtain ⟨fkd, fx, fy, fnm, fty, fe, faA, fac, fargs, fbA, fbc, fbody, flA, flc, fels, fpos⟩ := f
      obtain rfl : epos = fpos := hp
      have d20 : w.cell? ⟨b, off + n * 23 + 20, none⟩ = some (.slice ebA ebody.length ebc) := hcell 20 _ (by cases ee; rfl)
      have d21 : w.cell? ⟨b, off + n * 23 + 21, none⟩ = some (.slice elA eels.length elc) := hcell 21 _ (by cases ee; rfl)
      have d22 : w.cell? ⟨b, off + n * 23 + 22, none⟩ = some (.int .i64 epos) := hcell 22 _ (by cases ee; rfl)
      have g20 : w.cell? ⟨b', off' + n * 23 + 20, none⟩ = some (.slice fbA fbody.length fbc) := hcell' 20 _ (by cases fe; rfl)
      have g21 : w.cell? ⟨b', off' + n * 23 + 21, none⟩ = some (.slice flA fels.length flc) := hcell' 21 _ (by cases fe; rfl)
      have g22 : w.cell? ⟨b', off' + n * 23 + 22, none⟩ = some (.int .i64 epos) := hcell' 22 _ (by cases fe; rfl)
      change Hid (∀ z : Ext x.val, Gives Tryz.prog 48 #[.slice ebA ebody.length ebc, .slice fbA fbody.length fbc] z.val (.bool true)) at H1
      change Hid (∀ z : Ext x.val, Gives Tryz.prog 48 #[.slice elA eels.length elc, .slice flA fels.length flc] z.val (.bool true)) at H2
      have HKW : Hid (wrap64 ((n : Int) + 1) = ((n + 1 : Nat) : Int)) := by
        unfold maxLen at hm
        show wrap64 _ = _
        unfold wrap64
        omega
      have hlt9 := hide hlt
      clear hcell he hlt hmem hcell' hf hmem' hq
      go_wp2_with fail
      refine wp_region_ext (by kernel_rfl) (by kernel_rfl) ?_
      repeat (go_big_quiet_step ((first | (go_at_call 48; with_reducible exact (H1.out _).ext) | (go_at_call 48; with_reducible exact (H2.out _).ext))))
      refine wpQuiet_nil ?_
      intro _ hw'
      obtain ⟨y, hw''⟩ := hw'
      subst hw''
      obtain ⟨z, hz⟩ := x.over y
      rw [hz]
      go_wp2_with fail
      go_roundw
      case rel => exact ⟨n + 1, by rw [HKW.out], Nat.succ_le_of_lt hlt9.out, z, rfl⟩
      case measure =>
        rw [HKW.out, intOf_int, intOf_int, Int.toNat_natCast, Int.toNat_natCast]
        exact Nat.sub_lt_sub_left hlt9.out (Nat.lt_succ_self n)
    · have hlt' : ¬ (n : Int) < (l.length : Int) := by omega
      go_wp2_with fail
      go_ret
      exact ⟨rfl, x.below⟩
theorem ats_any : ∀ l : List St, AtsL l := fun l => ats_step l fun s hs =>
  have h1 := List.sizeOf_lt_of_mem hs; have h2 := s.body_size; have h3 := s.els_size; ⟨ats_any s.body, ats_any s.els⟩
termination_by l => SizeOf.sizeOf l
decreasing_by
  · omega
  · omega
end Go.Proofs.YtmpdmelkbemabaaGreat
set_option linter.unusedSimpArgs false
set_option linter.unusedVariables false
namespace Go.Proofs.YtmpdmelkbemabaaGreat
open Go.RowKit Go.Proofs.Grow

set_option maxHeartbeats 4000000 in
set_option maxRecDepth 100000 in
theorem like_any (w : World) (m q : Me) (hs : stMe m = stMe q) (hin : MeIn w m) (hin' : MeIn w q) : Gives Tryz.prog 33 #[.agg m.cells.toArray, .agg q.cells.toArray, .bool true] w (.bool true) := by
  refine Gives.mk ?_
  obtain ⟨nm, pu, ty, pA, pc, ps, lA, lc, ls, bA, bc, body, pos⟩ := m
  obtain ⟨nm', pu', ty', pA', pc', ps', lA', lc', ls', bA', bc', body', pos'⟩ := q
  simp only [stMe, stSts_map, Me.mk.injEq, true_and] at hs
  obtain ⟨rfl, rfl, rfl, rfl, rfl, hb, rfl⟩ := hs
  obtain ⟨tk, tc, tn, ⟨k0, n0⟩, ⟨k1, n1⟩, ⟨k2, n2⟩, ⟨k3, n3⟩⟩ := ty
  have P1 : Hid (∀ x : Ext w, Gives Tryz.prog 34 #[.slice pA ps.length pc, .slice pA' ps.length pc', .bool true] x.val (.bool true)) := fun x => vars_like x.val pA pA' pc pc' ps (hin.params.ext x) (hin'.params.ext x) (Nat.le_trans hin.pc hin.pm)
  have P2 : Hid (∀ x : Ext w, Gives Tryz.prog 34 #[.slice lA ls.length lc, .slice lA' ls.length lc', .bool true] x.val (.bool true)) := fun x => vars_like x.val lA lA' lc lc' ls (hin.locals.ext x) (hin'.locals.ext x) (Nat.le_trans hin.lc hin.lm)
  have P3 : Hid (∀ x : Ext w, Gives Tryz.prog 48 #[.slice bA body.length bc, .slice bA' body'.length bc'] x.val (.bool true)) := fun x => ats_any body body' hb x.val bA bA' bc bc' (hin.body.ext x) (hin'.body.ext x) (fun t ht => (hin.stmts t ht).ext x) (fun t ht => (hin'.stmts t ht).ext x) (Nat.le_trans hin.bc hin.bm)
  have P4 : Hid (∀ x : Ext w, Gives Tryz.prog 49 #[.slice bA body.length bc, .slice bA' body'.length bc'] x.val (.bool true)) := fun x => sameL2_any body (fun s _ => sameW2_any s) x.val bA bc (hin.body.ext x) (fun t ht => (hin.stmts t ht).ext x) (Nat.le_trans hin.bc hin.bm) body' hb bA' bc' (hin'.body.ext x) (fun t ht => (hin'.stmts t ht).ext x)
  clear hin hin' hb
  simp only [Me.cells, Ty.cells, List.cons_append, List.nil_append]
  obtain ⟨X, hX⟩ : ∃ X : List Value, Hid (X = [.string nm, .bool pu, .int .i64 tk, .string tc, .int .i64 tn, .int .i64 k0, .int .i64 n0, .int .i64 k1, .int .i64 n1, .int .i64 k2, .int .i64 n2, .int .i64 k3, .int .i64 n3, .slice pA ps.length pc, .slice lA ls.length lc, .slice bA body.length bc, .int .i64 pos]) := ⟨_, rfl⟩
  obtain ⟨Y, hY⟩ : ∃ Y : List Value, Hid (Y = [.string nm, .bool pu, .int .i64 tk, .string tc, .int .i64 tn, .int .i64 k0, .int .i64 n0, .int .i64 k1, .int .i64 n1, .int .i64 k2, .int .i64 n2, .int .i64 k3, .int .i64 n3, .slice pA' ps.length pc', .slice lA' ls.length lc', .slice bA' body'.length bc', .int .i64 pos]) := ⟨_, rfl⟩
  rw [← hX.out, ← hY.out]
  go_enter Tryz.func33, Tryz.ntmps33
  go_upto_region 1 with fail
  obtain ⟨w1, hw1⟩ : ∃ w1, w1 = (w.alloc (.cells X.toArray 43)).alloc (.cells Y.toArray 43) := ⟨_, rfl⟩
  rw [← hw1]
  have hB1 : Hid (Below w.heap.size w w1) := by
    show Below _ _ _
    rw [hw1]
    exact ((Below.refl _ _).alloc (Nat.le_refl _) _).alloc (by simp) _
  have hsz : w.heap.size < w1.heap.size := by rw [hw1]; simp; omega
  have hsz2 : w.heap.size + 1 < w1.heap.size := by rw [hw1]; simp
  have hA : w1.heap[w.heap.size]? = some (.cells X.toArray 43 (0, 0)) := by
    rw [hw1]
    exact (Below.heap_alloc _ _ w.heap.size (by simp)).trans (heap_alloc_new w _)
  have hBb : w1.heap[w.heap.size + 1]? = some (.cells Y.toArray 43 (0, 0)) := by
    rw [hw1]
    have := heap_alloc_new (w.alloc (.cells X.toArray 43)) (.cells Y.toArray 43)
    simpa using this
  have a0 : w1.cell? ⟨w.heap.size, 0, none⟩ = some (.string nm) := (cell_of_row _ _ _ _ _ _ hA).trans (by rw [hX.out]; rfl)
  have b0 : w1.cell? ⟨w.heap.size + 1, 0, none⟩ = some (.string nm) := (cell_of_row _ _ _ _ _ _ hBb).trans (by rw [hY.out]; rfl)
  have a1 : w1.cell? ⟨w.heap.size, 1, none⟩ = some (.bool pu) := (cell_of_row _ _ _ _ _ _ hA).trans (by rw [hX.out]; rfl)
  have b1 : w1.cell? ⟨w.heap.size + 1, 1, none⟩ = some (.bool pu) := (cell_of_row _ _ _ _ _ _ hBb).trans (by rw [hY.out]; rfl)
  have a2 : w1.cell? ⟨w.heap.size, 2, none⟩ = some (.int .i64 tk) := (cell_of_row _ _ _ _ _ _ hA).trans (by rw [hX.out]; rfl)
  have b2 : w1.cell? ⟨w.heap.size + 1, 2, none⟩ = some (.int .i64 tk) := (cell_of_row _ _ _ _ _ _ hBb).trans (by rw [hY.out]; rfl)
  have a3 : w1.cell? ⟨w.heap.size, 3, none⟩ = some (.string tc) := (cell_of_row _ _ _ _ _ _ hA).trans (by rw [hX.out]; rfl)
  have b3 : w1.cell? ⟨w.heap.size + 1, 3, none⟩ = some (.string tc) := (cell_of_row _ _ _ _ _ _ hBb).trans (by rw [hY.out]; rfl)
  have a4 : w1.cell? ⟨w.heap.size, 4, none⟩ = some (.int .i64 tn) := (cell_of_row _ _ _ _ _ _ hA).trans (by rw [hX.out]; rfl)
  have b4 : w1.cell? ⟨w.heap.size + 1, 4, none⟩ = some (.int .i64 tn) := (cell_of_row _ _ _ _ _ _ hBb).trans (by rw [hY.out]; rfl)
  have a5 : w1.cell? ⟨w.heap.size, 5, none⟩ = some (.int .i64 k0) := (cell_of_row _ _ _ _ _ _ hA).trans (by rw [hX.out]; rfl)
  have b5 : w1.cell? ⟨w.heap.size + 1, 5, none⟩ = some (.int .i64 k0) := (cell_of_row _ _ _ _ _ _ hBb).trans (by rw [hY.out]; rfl)
  have a6 : w1.cell? ⟨w.heap.size, 6, none⟩ = some (.int .i64 n0) := (cell_of_row _ _ _ _ _ _ hA).trans (by rw [hX.out]; rfl)
  have b6 : w1.cell? ⟨w.heap.size + 1, 6, none⟩ = some (.int .i64 n0) := (cell_of_row _ _ _ _ _ _ hBb).trans (by rw [hY.out]; rfl)
  have a7 : w1.cell? ⟨w.heap.size, 7, none⟩ = some (.int .i64 k1) := (cell_of_row _ _ _ _ _ _ hA).trans (by rw [hX.out]; rfl)
  have b7 : w1.cell? ⟨w.heap.size + 1, 7, none⟩ = some (.int .i64 k1) := (cell_of_row _ _ _ _ _ _ hBb).trans (by rw [hY.out]; rfl)
  have a8 : w1.cell? ⟨w.heap.size, 8, none⟩ = some (.int .i64 n1) := (cell_of_row _ _ _ _ _ _ hA).trans (by rw [hX.out]; rfl)
  have b8 : w1.cell? ⟨w.heap.size + 1, 8, none⟩ = some (.int .i64 n1) := (cell_of_row _ _ _ _ _ _ hBb).trans (by rw [hY.out]; rfl)
  have a9 : w1.cell? ⟨w.heap.size, 9, none⟩ = some (.int .i64 k2) := (cell_of_row _ _ _ _ _ _ hA).trans (by rw [hX.out]; rfl)
  have b9 : w1.cell? ⟨w.heap.size + 1, 9, none⟩ = some (.int .i64 k2) := (cell_of_row _ _ _ _ _ _ hBb).trans (by rw [hY.out]; rfl)
  have a10 : w1.cell? ⟨w.heap.size, 10, none⟩ = some (.int .i64 n2) := (cell_of_row _ _ _ _ _ _ hA).trans (by rw [hX.out]; rfl)
  have b10 : w1.cell? ⟨w.heap.size + 1, 10, none⟩ = some (.int .i64 n2) := (cell_of_row _ _ _ _ _ _ hBb).trans (by rw [hY.out]; rfl)
  have a11 : w1.cell? ⟨w.heap.size, 11, none⟩ = some (.int .i64 k3) := (cell_of_row _ _ _ _ _ _ hA).trans (by rw [hX.out]; rfl)
  have b11 : w1.cell? ⟨w.heap.size + 1, 11, none⟩ = some (.int .i64 k3) := (cell_of_row _ _ _ _ _ _ hBb).trans (by rw [hY.out]; rfl)
  have a12 : w1.cell? ⟨w.heap.size, 12, none⟩ = some (.int .i64 n3) := (cell_of_row _ _ _ _ _ _ hA).trans (by rw [hX.out]; rfl)
  have b12 : w1.cell? ⟨w.heap.size + 1, 12, none⟩ = some (.int .i64 n3) := (cell_of_row _ _ _ _ _ _ hBb).trans (by rw [hY.out]; rfl)
  have a13 : w1.cell? ⟨w.heap.size, 13, none⟩ = some (.slice pA ps.length pc) := (cell_of_row _ _ _ _ _ _ hA).trans (by rw [hX.out]; rfl)
  have b13 : w1.cell? ⟨w.heap.size + 1, 13, none⟩ = some (.slice pA' ps.length pc') := (cell_of_row _ _ _ _ _ _ hBb).trans (by rw [hY.out]; rfl)
  have a14 : w1.cell? ⟨w.heap.size, 14, none⟩ = some (.slice lA ls.length lc) := (cell_of_row _ _ _ _ _ _ hA).trans (by rw [hX.out]; rfl)
  have b14 : w1.cell? ⟨w.heap.size + 1, 14, none⟩ = some (.slice lA' ls.length lc') := (cell_of_row _ _ _ _ _ _ hBb).trans (by rw [hY.out]; rfl)
  have a15 : w1.cell? ⟨w.heap.size, 15, none⟩ = some (.slice bA body.length bc) := (cell_of_row _ _ _ _ _ _ hA).trans (by rw [hX.out]; rfl)
  have b15 : w1.cell? ⟨w.heap.size + 1, 15, none⟩ = some (.slice bA' body'.length bc') := (cell_of_row _ _ _ _ _ _ hBb).trans (by rw [hY.out]; rfl)
  have a16 : w1.cell? ⟨w.heap.size, 16, none⟩ = some (.int .i64 pos) := (cell_of_row _ _ _ _ _ _ hA).trans (by rw [hX.out]; rfl)
  have b16 : w1.cell? ⟨w.heap.size + 1, 16, none⟩ = some (.int .i64 pos) := (cell_of_row _ _ _ _ _ _ hBb).trans (by rw [hY.out]; rfl)
  clear hw1 hA hBb
  have HQ := fun W : World => eqOwn W k0 n0 k1 n1 k2 n2 k3 n3
  have Q1 : Hid (∀ z : Ext w1, Gives Tryz.prog 34 #[.slice pA ps.length pc, .slice pA' ps.length pc', .bool true] z.val (.bool true)) := fun z => P1.out ((⟨w1, hB1.out⟩ : Ext w).step z.below)
  have Q2 : Hid (∀ z : Ext w1, Gives Tryz.prog 34 #[.slice lA ls.length lc, .slice lA' ls.length lc', .bool true] z.val (.bool true)) := fun z => P2.out ((⟨w1, hB1.out⟩ : Ext w).step z.below)
  have Q3 : Hid (∀ z : Ext w1, Gives Tryz.prog 48 #[.slice bA body.length bc, .slice bA' body'.length bc'] z.val (.bool true)) := fun z => P3.out ((⟨w1, hB1.out⟩ : Ext w).step z.below)
  have Q4 : Hid (∀ z : Ext w1, Gives Tryz.prog 49 #[.slice bA body.length bc, .slice bA' body'.length bc'] z.val (.bool true)) := fun z => P4.out ((⟨w1, hB1.out⟩ : Ext w).step z.below)
  clear P1 P2 P3 P4
  have R3 : Hid (Gives Tryz.prog 48 #[.slice bA body.length bc, .slice bA' body'.length bc'] w1 (.bool true)) := Q3.out (Ext.here w1)
  go_upto_region 3 with (go_at_call 48; refine (R3.out).mono ?_; rintro _ _ ⟨z1, rfl, rfl⟩)
  unfold Gives at Q1 Q2 Q4
  have hz1 := hide (hB1.out.trans (z1.below.mono hB1.out.size))
  go_wp2_with (first | (go_at_call 34; first | ((with_reducible refine (Q1.out z1).mono ?_); rintro _ _ ⟨z2, rfl, rfl⟩; obtain ⟨z3, hz3⟩ := z1.over z2; rw [hz3]) | ((with_reducible refine (Q2.out z3).mono ?_); rintro _ _ ⟨z4, rfl, rfl⟩; obtain ⟨z5, hz5⟩ := z3.over z4; rw [hz5])) | (go_at_call 49; (with_reducible refine (Q4.out z5).mono ?_); rintro _ _ ⟨z6, rfl, rfl⟩; obtain ⟨z7, hz7⟩ := z5.over z6; rw [hz7]))
  go_ret
  exact ⟨rfl, hB1.out.trans (z7.below.mono hB1.out.size)⟩
end Go.Proofs.YtmpdmelkbemabaaGreat
