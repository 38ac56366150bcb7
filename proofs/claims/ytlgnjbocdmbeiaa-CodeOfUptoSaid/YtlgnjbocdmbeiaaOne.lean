/- The walk of demesneref34.one. -/
import Derived.Test.YtlgnjbocdmbeiaaRef
import Derived.Test.YtlgnjbocdmbeiaaSet
set_option linter.unusedSimpArgs false
set_option linter.unusedVariables false
namespace Go.Proofs.Ytlgnjbocdmbeiaa
open Go.RowKit Go.Proofs.Grow

theorem Ins.size (i : Ins) : i.cells.toArray.size = 25 := by rw [List.size_toArray, Ins.cells_len]
theorem built_ins (s : St) (k t : Int) : Try.prog.built 44 [(0, .int .i64 k), (1, .agg s.cells.toArray), (2, .int .i64 t)] = some (Ins.mk k s t).cells.toArray := by
  obtain ⟨kd, x, y, name, ⟨tk, tc, tn, ⟨k0, n0⟩, ⟨k1, n1⟩, ⟨k2, n2⟩, ⟨k3, n3⟩⟩, ⟨ek, en, ename, eA, ec, kids⟩, aA, ac, args, bA, bc, body, lA, lc, els, pos⟩ := s
  kernel_rfl
theorem built_insE (s : St) (k t t' : Int) (h : t' = t) : Try.prog.built 44 [(0, .int .i64 k), (1, .agg s.cells.toArray), (2, .int .i64 t')] = some (Ins.mk k s t).cells.toArray := by rw [h]; exact built_ins s k t
theorem built_ins0 (s : St) (k : Int) : Try.prog.built 44 [(0, .int .i64 k), (1, .agg s.cells.toArray)] = some (Ins.mk k s 0).cells.toArray := by
  obtain ⟨kd, x, y, name, ⟨tk, tc, tn, ⟨k0, n0⟩, ⟨k1, n1⟩, ⟨k2, n2⟩, ⟨k3, n3⟩⟩, ⟨ek, en, ename, eA, ec, kids⟩, aA, ac, args, bA, bc, body, lA, lc, els, pos⟩ := s
  kernel_rfl
theorem built_jump (k t : Int) : Try.prog.built 44 [(0, .int .i64 k), (2, .int .i64 t)] = some (Ins.mk k St.zero t).cells.toArray := by kernel_rfl
theorem built_jumpE (k t t' : Int) (h : t' = t) : Try.prog.built 44 [(0, .int .i64 k), (2, .int .i64 t')] = some (Ins.mk k St.zero t).cells.toArray := by rw [h]; exact built_jump k t
theorem built_end (k : Int) : Try.prog.built 44 [(0, .int .i64 k)] = some (Ins.mk k St.zero 0).cells.toArray := by kernel_rfl

set_option maxHeartbeats 2000000 in
set_option maxRecDepth 100000 in
theorem one_step (s : St) (ihb : Lists s.body) (ihl : Lists s.els) : Ones s := by
  intro w p q hq hin hN
  unfold GivesList
  obtain ⟨i0, z0, hi, hz0, hz1, hz2, hzs⟩ := info_row infoRefIns
  have hcs : ∃ kd x y name tk tc tn k0 n0 k1 n1 k2 n2 k3 n3 ek en ename eA ec kids aA ac args bA bc body lA lc els pos, Hid (s = .mk kd x y name ⟨tk, tc, tn, ⟨k0, n0⟩, ⟨k1, n1⟩, ⟨k2, n2⟩, ⟨k3, n3⟩⟩ (.mk ek en ename eA ec kids) aA ac args bA bc body lA lc els pos) := by
    obtain ⟨kd, x, y, name, ⟨tk, tc, tn, ⟨k0, n0⟩, ⟨k1, n1⟩, ⟨k2, n2⟩, ⟨k3, n3⟩⟩, ⟨ek, en, ename, eA, ec, kids⟩, aA, ac, args, bA, bc, body, lA, lc, els, pos⟩ := s
    exact ⟨_, _, _, _, _, _, _, _, _, _, _, _, _, _, _, _, _, _, _, _, _, _, _, _, _, _, _, _, _, _, _, rfl⟩
  obtain ⟨kd, x, y, name, tk, tc, tn, k0, n0, k1, n1, k2, n2, k3, n3, ek, en, ename, eA, ec, kids, aA, ac, args, bA, bc, body, lA, lc, els, pos, hse⟩ := hcs
  have eb : Hid (s.body = body) := by rw [hse.out]; rfl
  have el : Hid (s.els = els) := by rw [hse.out]; rfl
  have ek' : Hid (s.k = kd) := by rw [hse.out]; rfl
  have IHb : Hid (Lists body) := by rw [← eb.out]; exact ihb
  have IHl : Hid (Lists els) := by rw [← el.out]; exact ihl
  obtain ⟨hbody, hels⟩ : Hid (Lies w 23 St.cells bA body ∧ body.length ≤ bc ∧ bc ≤ maxLen ∧ ∀ s ∈ body, StIn w s) ∧ Hid (Lies w 23 St.cells lA els ∧ els.length ≤ lc ∧ lc ≤ maxLen ∧ ∀ s ∈ els, StIn w s) := by
    have h := hin
    rw [hse.out] at h
    cases h with
    | mk he ha hac ham hai hb hbc hbm hbi hl hlc hlm hli hs => exact ⟨⟨hb, hbc, hbm, hbi⟩, ⟨hl, hlc, hlm, hli⟩⟩
  have HN := hide hN
  have HQ := hide hq
  clear hin hN hq ihb ihl
  go_enter Try.func25, Try.ntmps25
  go_upto_region 1 with fail
  obtain ⟨w1, hw1⟩ : ∃ w1, w1 = w.alloc (.cells s.cells.toArray 41) := ⟨_, rfl⟩
  rw [← hw1]
  have hB1 : Hid (Below w.heap.size w w1) := by
    show Below _ _ _
    rw [hw1]
    exact (Below.refl _ _).alloc (Nat.le_refl _) _
  have hblk : Hid (w1.heap[w.heap.size]? = some (.cells s.cells.toArray 41 (0, 0))) := by rw [hw1]; exact heap_alloc_new w _
  have hsz : w.heap.size < w1.heap.size := by rw [hw1]; simp
  have hblkz : Hid (∀ z : Ext w1, z.val.heap[w.heap.size]? = some (.cells s.cells.toArray 41 (0, 0))) := fun z => (z.below.block _ hsz).trans hblk.out
  have c0 : w1.cell? ⟨w.heap.size, 0, none⟩ = some (.int .i64 kd) := by rw [cell_of_row _ _ _ _ _ _ hblk.out, hse.out]; rfl
  have c20 : w1.cell? ⟨w.heap.size, 20, none⟩ = some (.slice bA body.length bc) := by rw [cell_of_row _ _ _ _ _ _ hblk.out, hse.out]; rfl
  have c21 : w1.cell? ⟨w.heap.size, 21, none⟩ = some (.slice lA els.length lc) := by rw [cell_of_row _ _ _ _ _ _ hblk.out, hse.out]; rfl
  clear hw1
  have hbody1 : Hid (Lies w1 23 St.cells bA body ∧ body.length ≤ bc ∧ bc ≤ maxLen ∧ ∀ s ∈ body, StIn w1 s) := ⟨hbody.out.1.ext ⟨w1, hB1.out⟩, hbody.out.2.1, hbody.out.2.2.1, fun s h => (hbody.out.2.2.2 s h).ext ⟨w1, hB1.out⟩⟩
  have hels1 : Hid (Lies w1 23 St.cells lA els ∧ els.length ≤ lc ∧ lc ≤ maxLen ∧ ∀ s ∈ els, StIn w1 s) := ⟨hels.out.1.ext ⟨w1, hB1.out⟩, hels.out.2.1, hels.out.2.2.1, fun s h => (hels.out.2.2.2 s h).ext ⟨w1, hB1.out⟩⟩
  clear hbody hels
  obtain ⟨p1, hp1⟩ : ∃ p1, Hid (p1 = p + 1) := ⟨_, rfl⟩
  obtain ⟨m1, hm1⟩ : ∃ m1, Hid (m1 = (codeList body p1).length) := ⟨_, rfl⟩
  obtain ⟨p2, hp2⟩ : ∃ p2, Hid (p2 = p1 + m1) := ⟨_, rfl⟩
  obtain ⟨p3, hp3⟩ : ∃ p3, Hid (p3 = p2 + 1) := ⟨_, rfl⟩
  have hq' := HQ.out
  subst hq'
  clear HQ
  by_cases hk9' : kd = 9
  · have hk9b : (kd != 9) = false := by rw [hk9']; rfl
    have hk9c : (kd != 10) = true := by rw [hk9']; rfl
    have hk9d : (kd == 10) = false := by rw [hk9']; rfl
    have hk9 := hide hk9'
    clear hk9'
    by_cases hel : els.length = 0
    · have EQ := hide (codeOne_if (s := s) (ek'.out.trans hk9.out) (by rw [el.out]; exact hel) p)
      rw [eb.out] at EQ
      as_aux_lemma =>
        have hb2' : p2 < 400000000000 := by
          have := HN.out
          rw [EQ.out, ← hp1.out] at this
          simp only [List.length_cons, ← hm1.out] at this
          have := hp1.out; have := hp2.out
          omega
        have hb2 : Hid (p3 < 400000000001) := by have := hp3.out; show _ < _; omega
        have hez : ((els.length : Int) == 0) = true := by rw [hel]; rfl
        clear hel
        have wr1 : wrap64 ((p : Int) + 1) = ((p1 : Nat) : Int) := by have := hb2.out; have := hp1.out; have := hp2.out; have := hp3.out; unfold wrap64; omega
        have wr2 : wrap64 ((p1 : Int) + (m1 : Int)) = ((p2 : Nat) : Int) := by have := hb2.out; have := hp2.out; have := hp3.out; unfold wrap64; omega
        have wr3 : wrap64 ((p2 : Int) + 1) = ((p3 : Nat) : Int) := by have := hb2.out; have := hp3.out; unfold wrap64; omega
        have hl0 : Hid (1 + (codeList body p1).length < 400000000000) := by rw [← hm1.out]; have := hb2.out; have := hp1.out; have := hp2.out; have := hp3.out; show _ < _; omega
        go_upto_region 6 with (first | (go_at_call 18; refine (GivesNew.over (Ext.here w1) (IHb.out w1 bA bc p1 _ rfl hbody1.out.2.2.2 hbody1.out.1 hbody1.out.2.1 hbody1.out.2.2.1 (by rw [← hm1.out]; have := hb2.out; have := hp2.out; have := hp3.out; omega))).mono ?_; rintro _ _ ⟨y1, A1, c1, hy1, rfl, rfl, h1, h2, h3, h4⟩; rw [← hm1.out]; have HL1 := hide h3; clear h1 h2 h3 h4) | (refine wpList_load_row rfl 41 (.tmp 2) rfl w.heap.size rfl 41 s.cells.toArray (0, 0) _ (hblkz.out y1) Try.underlying41 rfl (by rw [List.size_toArray, St.cells_len]; kernel_rfl) ?_) | (go_at_call 27; refine ((bare_any s _).over y1).mono ?_; rintro _ _ ⟨y2, hy2, rfl, rfl⟩) | (refine wpList_buildL rfl 44 _ rfl _ (built_ins (bare s) 2 p2) ?_) | (refine wpList_lit_one rfl 35 44 (.tmp 34) rfl _ rfl i0 z0 25 Try.underlying35 hi hz0 hz1 (Ins.size _) (by omega) (by omega) ?_) | (at_builtin; refine wpList_append_list (w1 := w1) _ rfl (.tmp 35) (.tmp 36) 35 rfl 44 i0 z0 25 304 Try.underlying35 hi hz0 hz1 hz2 hzs (by omega) Ins.cells_len Ins.cells_one (y2.below.alloc (y2.le (Nat.le_refl _)) _) _ [Ins.mk 2 (bare s) p2] rfl (Own.one y2.val (y2.le (Nat.le_refl _)) _ _ rfl (Ins.cells_len _)) A1 _ c1 (codeList body p1) rfl hm1.out ((HL1.out.into hy2).alloc _) (by have := hl0.out; simp [maxLen]; omega) (by have := hl0.out; simp [maxLen]; omega) ?_; intro v3 z3 hown3 hgr3 hat3))
        obtain ⟨g, cap, rfl, hgb⟩ := hown3.some_pos (by simp)
        have HO3 := hide hown3
        clear hown3 hgr3 hat3 HL1
        have hlen3 : ([Ins.mk 2 (bare s) p2] ++ codeList body p1).length = m1 + 1 := by rw [hm1.out]; simp
        rw [hlen3] at HO3 ⊢
        clear hlen3
        have hgi : (0 : Int) < ((m1 + 1 : Nat) : Int) := by omega
        have HO3' := HO3
        go_wp2_with fail
        go_ret
        obtain ⟨A, c, hv, h1, h2, h3⟩ := HO3.out.lies Ins.cells_len
        have e : [Ins.mk 2 (bare s) p2] ++ codeList body p1 = codeOne s p := by
          rw [EQ.out, ← hp1.out, ← hm1.out, ← hp2.out]; rfl
        rw [e] at hv h1 h3
        obtain ⟨u, hu⟩ := Ext.of (hB1.out.trans (z3.below.mono hB1.out.size))
        exact ⟨u, A, c, congrArg Ending.returned hv, hu, h1, h2, hu ▸ h3⟩
    · have EQ := hide (codeOne_else (s := s) (ek'.out.trans hk9.out) (by rw [el.out]; exact hel) p)
      rw [eb.out, el.out] at EQ
      as_aux_lemma =>
        obtain ⟨m2, hm2⟩ : ∃ m2, Hid (m2 = (codeList els p3).length) := ⟨_, rfl⟩
        obtain ⟨p4, hp4⟩ : ∃ p4, Hid (p4 = p3 + m2) := ⟨_, rfl⟩
        have e3 : Hid (p + 1 + (codeList body (p + 1)).length + 1 = p3) := by
          have := hm1.out; have := hp1.out; have := hp2.out; have := hp3.out
          rw [← hp1.out, ← hm1.out, ← hp2.out]; exact hp3.out.symm
        rw [e3.out, ← hp1.out] at EQ
        have hb4 : Hid (p4 < 400000000000) := by
          have := HN.out
          rw [EQ.out] at this
          simp only [List.length_cons, List.length_append, ← hm1.out, ← hm2.out] at this
          have := hp1.out; have := hp2.out; have := hp3.out; have := hp4.out
          show _ < _
          omega
        have hb2 : Hid (p3 < 400000000000) := by have := hb4.out; have := hp4.out; show _ < _; omega
        have wr4 : wrap64 ((p3 : Int) + (m2 : Int)) = ((p4 : Nat) : Int) := by have := hb4.out; have := hp4.out; unfold wrap64; omega
        have hez : ((els.length : Int) == 0) = false := beq_eq_false_iff_ne.2 (by omega)
        clear hel
        have wr1 : wrap64 ((p : Int) + 1) = ((p1 : Nat) : Int) := by have := hb2.out; have := hp1.out; have := hp2.out; have := hp3.out; unfold wrap64; omega
        have wr2 : wrap64 ((p1 : Int) + (m1 : Int)) = ((p2 : Nat) : Int) := by have := hb2.out; have := hp2.out; have := hp3.out; unfold wrap64; omega
        have wr3 : wrap64 ((p2 : Int) + 1) = ((p3 : Nat) : Int) := by have := hb2.out; have := hp3.out; unfold wrap64; omega
        have hl0 : Hid (1 + (codeList body p1).length < 400000000000) := by rw [← hm1.out]; have := hb2.out; have := hp1.out; have := hp2.out; have := hp3.out; show _ < _; omega
        go_upto_region 6 with (first | (go_at_call 18; refine (GivesNew.over (Ext.here w1) (IHb.out w1 bA bc p1 _ rfl hbody1.out.2.2.2 hbody1.out.1 hbody1.out.2.1 hbody1.out.2.2.1 (by rw [← hm1.out]; have := hb2.out; have := hp2.out; have := hp3.out; omega))).mono ?_; rintro _ _ ⟨y1, A1, c1, hy1, rfl, rfl, h1, h2, h3, h4⟩; rw [← hm1.out]; have HL1 := hide h3; clear h1 h2 h3 h4) | (refine wpList_load_row rfl 41 (.tmp 2) rfl w.heap.size rfl 41 s.cells.toArray (0, 0) _ (hblkz.out y1) Try.underlying41 rfl (by rw [List.size_toArray, St.cells_len]; kernel_rfl) ?_) | (go_at_call 27; refine ((bare_any s _).over y1).mono ?_; rintro _ _ ⟨y2, hy2, rfl, rfl⟩) | (refine wpList_buildL rfl 44 _ rfl _ (built_ins (bare s) 2 p2) ?_) | (refine wpList_lit_one rfl 35 44 (.tmp 34) rfl _ rfl i0 z0 25 Try.underlying35 hi hz0 hz1 (Ins.size _) (by omega) (by omega) ?_) | (at_builtin; refine wpList_append_list (w1 := w1) _ rfl (.tmp 35) (.tmp 36) 35 rfl 44 i0 z0 25 304 Try.underlying35 hi hz0 hz1 hz2 hzs (by omega) Ins.cells_len Ins.cells_one (y2.below.alloc (y2.le (Nat.le_refl _)) _) _ [Ins.mk 2 (bare s) p2] rfl (Own.one y2.val (y2.le (Nat.le_refl _)) _ _ rfl (Ins.cells_len _)) A1 _ c1 (codeList body p1) rfl hm1.out ((HL1.out.into hy2).alloc _) (by have := hl0.out; simp [maxLen]; omega) (by have := hl0.out; simp [maxLen]; omega) ?_; intro v3 z3 hown3 hgr3 hat3))
        obtain ⟨g, cap, rfl, hgb⟩ := hown3.some_pos (by simp)
        have HO3 := hide hown3
        clear hown3 hgr3 hat3 HL1
        have hlen3 : ([Ins.mk 2 (bare s) p2] ++ codeList body p1).length = m1 + 1 := by rw [hm1.out]; simp
        rw [hlen3] at HO3 ⊢
        clear hlen3
        have hgi : (0 : Int) < ((m1 + 1 : Nat) : Int) := by omega
        have hgl := hide (HO3.out.from_ g rfl).2
        go_upto_region 12 with (go_at_call 18; refine (GivesNew.over z3 (IHl.out z3.val lA lc p3 _ rfl (fun s h => (hels1.out.2.2.2 s h).ext z3) (hels1.out.1.ext z3) hels1.out.2.1 hels1.out.2.2.1 (by rw [← hm2.out]; have := hb4.out; have := hp4.out; omega))).mono ?_; rintro _ _ ⟨y4, A2, c2, hy4, rfl, rfl, h1, h2, h3, h4⟩; rw [← hm2.out]; have HL2 := hide h3; have HF2 := hide h4; clear h1 h2 h3 h4)
        have HO4 := hide (HO3.out.into hy4)
        clear HO3 hy4
        go_upto_region 13 with (first | (refine wpList_load_row rfl 41 (.tmp 2) rfl w.heap.size rfl 41 s.cells.toArray (0, 0) _ (hblkz.out y4) Try.underlying41 rfl (by rw [List.size_toArray, St.cells_len]; kernel_rfl) ?_) | (go_at_call 27; refine ((bare_any s _).over y4).mono ?_; rintro _ _ ⟨y5, hy5, rfl, rfl⟩) | (refine wpList_buildL rfl 44 _ rfl _ (built_insE (bare s) 2 p3 _ wr3) ?_) | (refine wpList_store_mid rfl 44 (.tmp 69) (.tmp 68) rfl g 0 (Ins.mk 2 (bare s) p3).cells.toArray rfl rfl (by rw [Ins.size]; simpa using ((HO4.out.into hy5).there 0 (by simp) rfl)) (by rw [Ins.size]; kernel_rfl) (Array.all_eq_true_iff_forall_mem.2 fun u hu => Ins.cells_one _ u (by simpa using hu)) ?_))
        obtain ⟨z6, hz6⟩ : ∃ z : Ext w1, y5.val.setCells g 0 (Ins.mk 2 (bare s) p3).cells.toArray.toList = z.val := Ext.of (y5.below.trans (setCells_below hgb _ _ _))
        have HO6' : Own z6.val w1.heap.size 44 25 Ins.cells (.slice (some ⟨g, 0, none⟩) (m1 + 1) cap) ([Ins.mk 2 (bare s) p3] ++ codeList body p1) := by
          have h := (HO4.out.into hy5).setCells Ins.cells_len 0 (by simp) (Ins.mk 2 (bare s) p3) rfl
          rw [← hz6]
          simpa using h
        rw [hz6]
        have HO6 := hide HO6'
        have hne : Hid (∀ ad, A2 = some ad → ad.block ≠ g) := fun ad e h => by have := HF2.out ad e; have := hgl.out; omega
        have HL6 : Hid (Lies z6.val 25 Ins.cells A2 (codeList els p3)) := by
          rw [← hz6]
          exact (HL2.out.into hy5).setCells hne.out _ _
        clear HO4 hz6 HO6' HL2 hy5
        go_upto_region 14 with (first | (refine wpList_buildL rfl 44 _ rfl _ (built_jumpE 3 p4 _ (by simp only [wr3, wr4])) ?_) | (refine wpList_lit_one rfl 35 44 (.tmp 76) rfl _ rfl i0 z0 25 Try.underlying35 hi hz0 hz1 (Ins.size _) (by omega) (by omega) ?_) | (at_builtin; refine wpList_append_list (w1 := w1) _ rfl (.tmp 70) (.tmp 77) 35 rfl 44 i0 z0 25 304 Try.underlying35 hi hz0 hz1 hz2 hzs (by omega) Ins.cells_len Ins.cells_one (z6.below.alloc (z6.le (Nat.le_refl _)) _) _ ([Ins.mk 2 (bare s) p3] ++ codeList body p1) rfl (HO6.out.alloc _) _ _ 1 [Ins.mk 3 St.zero p4] rfl rfl (Lies.one z6.val (Ins.mk 3 St.zero p4) _ rfl) (by have := hb4.out; have := hp4.out; have := hp2.out; have := hp3.out; simp [maxLen, ← hm1.out, ← hm2.out]; omega) (by have := hb4.out; have := hp4.out; have := hp2.out; have := hp3.out; simp [maxLen, ← hm1.out, ← hm2.out]; omega) ?_; intro v7 z7 hown7 hgr7 hat7))
        have HL7 : Hid (Lies z7.val 25 Ins.cells A2 (codeList els p3)) := Lies.grown (HL6.out.alloc _) hgr7 (fun ad e h => hne.out ad e (by
          have h' : some ad.block = some g := h
          exact Option.some.inj h'))
        have HO7 := hide hown7
        clear hgr7 hat7 hown7 HL6
        go_wp2_with (first | (at_builtin; refine wpList_append_list (w1 := w1) _ rfl (.tmp 79) (.tmp 80) 35 rfl 44 i0 z0 25 304 Try.underlying35 hi hz0 hz1 hz2 hzs (by omega) Ins.cells_len Ins.cells_one (z7.below) _ (([Ins.mk 2 (bare s) p3] ++ codeList body p1) ++ [Ins.mk 3 St.zero p4]) rfl (HO7.out) A2 _ c2 (codeList els p3) rfl hm2.out (HL7.out) (by have := hb4.out; have := hp4.out; have := hp2.out; have := hp3.out; simp [maxLen, ← hm1.out, ← hm2.out]; omega) (by have := hb4.out; have := hp4.out; have := hp2.out; have := hp3.out; simp [maxLen, ← hm1.out, ← hm2.out]; omega) ?_; intro v8 z8 hown8 hgr8 hat8))
        go_ret
        obtain ⟨A, c, hv, h1, h2, h3⟩ := hown8.lies Ins.cells_len
        have e : (([Ins.mk 2 (bare s) p3] ++ codeList body p1) ++ [Ins.mk 3 St.zero p4]) ++ codeList els p3 = codeOne s p := by
          rw [EQ.out, ← hm2.out, ← hp4.out]; simp
        rw [e] at hv h1 h3
        obtain ⟨u, hu⟩ := Ext.of (hB1.out.trans (z8.below.mono hB1.out.size))
        exact ⟨u, A, c, congrArg Ending.returned hv, hu, h1, h2, hu ▸ h3⟩
  · have hk9b : (kd != 9) = true := bne_iff_ne.2 hk9'
    have hk9 := hide hk9'
    clear hk9'
    by_cases hk10' : kd = 10
    · have hk10b : (kd != 10) = false := by rw [hk10']; rfl
      have hk10c : (kd == 10) = true := by rw [hk10']; rfl
      have hk10 := hide hk10'
      clear hk10'
      have EQ := hide (codeOne_while (s := s) (ek'.out.trans hk10.out) p)
      rw [eb.out] at EQ
      as_aux_lemma =>
        have hb2 : Hid (p3 < 400000000000) := by
          have := HN.out
          rw [EQ.out, ← hp1.out] at this
          simp only [List.length_cons, List.length_append, List.length_nil, ← hm1.out] at this
          have := hp1.out; have := hp2.out; have := hp3.out
          show _ < _
          omega
        have wr1 : wrap64 ((p : Int) + 1) = ((p1 : Nat) : Int) := by have := hb2.out; have := hp1.out; have := hp2.out; have := hp3.out; unfold wrap64; omega
        have wr2 : wrap64 ((p1 : Int) + (m1 : Int)) = ((p2 : Nat) : Int) := by have := hb2.out; have := hp2.out; have := hp3.out; unfold wrap64; omega
        have wr3 : wrap64 ((p2 : Int) + 1) = ((p3 : Nat) : Int) := by have := hb2.out; have := hp3.out; unfold wrap64; omega
        have hl0 : Hid (1 + (codeList body p1).length < 400000000000) := by rw [← hm1.out]; have := hb2.out; have := hp1.out; have := hp2.out; have := hp3.out; show _ < _; omega
        go_upto_region 6 with (first | (go_at_call 18; refine (GivesNew.over (Ext.here w1) (IHb.out w1 bA bc p1 _ rfl hbody1.out.2.2.2 hbody1.out.1 hbody1.out.2.1 hbody1.out.2.2.1 (by rw [← hm1.out]; have := hb2.out; have := hp2.out; have := hp3.out; omega))).mono ?_; rintro _ _ ⟨y1, A1, c1, hy1, rfl, rfl, h1, h2, h3, h4⟩; rw [← hm1.out]; have HL1 := hide h3; clear h1 h2 h3 h4) | (refine wpList_load_row rfl 41 (.tmp 2) rfl w.heap.size rfl 41 s.cells.toArray (0, 0) _ (hblkz.out y1) Try.underlying41 rfl (by rw [List.size_toArray, St.cells_len]; kernel_rfl) ?_) | (go_at_call 27; refine ((bare_any s _).over y1).mono ?_; rintro _ _ ⟨y2, hy2, rfl, rfl⟩) | (refine wpList_buildL rfl 44 _ rfl _ (built_ins (bare s) 2 p2) ?_) | (refine wpList_lit_one rfl 35 44 (.tmp 34) rfl _ rfl i0 z0 25 Try.underlying35 hi hz0 hz1 (Ins.size _) (by omega) (by omega) ?_) | (at_builtin; refine wpList_append_list (w1 := w1) _ rfl (.tmp 35) (.tmp 36) 35 rfl 44 i0 z0 25 304 Try.underlying35 hi hz0 hz1 hz2 hzs (by omega) Ins.cells_len Ins.cells_one (y2.below.alloc (y2.le (Nat.le_refl _)) _) _ [Ins.mk 2 (bare s) p2] rfl (Own.one y2.val (y2.le (Nat.le_refl _)) _ _ rfl (Ins.cells_len _)) A1 _ c1 (codeList body p1) rfl hm1.out ((HL1.out.into hy2).alloc _) (by have := hl0.out; simp [maxLen]; omega) (by have := hl0.out; simp [maxLen]; omega) ?_; intro v3 z3 hown3 hgr3 hat3))
        obtain ⟨g, cap, rfl, hgb⟩ := hown3.some_pos (by simp)
        have HO3 := hide hown3
        clear hown3 hgr3 hat3 HL1
        have hlen3 : ([Ins.mk 2 (bare s) p2] ++ codeList body p1).length = m1 + 1 := by rw [hm1.out]; simp
        rw [hlen3] at HO3 ⊢
        clear hlen3
        have hgi : (0 : Int) < ((m1 + 1 : Nat) : Int) := by omega
        go_upto_region 8 with (first | (refine wpList_load_row rfl 41 (.tmp 2) rfl w.heap.size rfl 41 s.cells.toArray (0, 0) _ (hblkz.out z3) Try.underlying41 rfl (by rw [List.size_toArray, St.cells_len]; kernel_rfl) ?_) | (go_at_call 27; refine ((bare_any s _).over z3).mono ?_; rintro _ _ ⟨y4, hy4, rfl, rfl⟩) | (refine wpList_buildL rfl 44 _ rfl _ (built_insE (bare s) 2 p3 _ wr3) ?_) | (refine wpList_store_mid rfl 44 (.tmp 47) (.tmp 46) rfl g 0 (Ins.mk 2 (bare s) p3).cells.toArray rfl rfl (by rw [Ins.size]; simpa using ((HO3.out.into hy4).there 0 (by simp) rfl)) (by rw [Ins.size]; kernel_rfl) (Array.all_eq_true_iff_forall_mem.2 fun u hu => Ins.cells_one _ u (by simpa using hu)) ?_))
        obtain ⟨z5, hz5⟩ : ∃ z : Ext w1, y4.val.setCells g 0 (Ins.mk 2 (bare s) p3).cells.toArray.toList = z.val := Ext.of (y4.below.trans (setCells_below hgb _ _ _))
        have HO5' : Own z5.val w1.heap.size 44 25 Ins.cells (.slice (some ⟨g, 0, none⟩) (m1 + 1) cap) ([Ins.mk 2 (bare s) p3] ++ codeList body p1) := by
          have h := (HO3.out.into hy4).setCells Ins.cells_len 0 (by simp) (Ins.mk 2 (bare s) p3) rfl
          rw [← hz5]
          simpa using h
        rw [hz5]
        have HO5 := hide HO5'
        clear HO3 hz5 HO5'
        go_wp2_with (first | (refine wpList_buildL rfl 44 _ rfl _ (built_jump 3 p) ?_) | (refine wpList_lit_one rfl 35 44 (.tmp 50) rfl _ rfl i0 z0 25 Try.underlying35 hi hz0 hz1 (Ins.size _) (by omega) (by omega) ?_) | (at_builtin; refine wpList_append_list (w1 := w1) _ rfl (.tmp 48) (.tmp 51) 35 rfl 44 i0 z0 25 304 Try.underlying35 hi hz0 hz1 hz2 hzs (by omega) Ins.cells_len Ins.cells_one (z5.below.alloc (z5.le (Nat.le_refl _)) _) _ ([Ins.mk 2 (bare s) p3] ++ codeList body p1) rfl (HO5.out.alloc _) _ _ 1 [Ins.mk 3 St.zero p] rfl rfl (Lies.one z5.val (Ins.mk 3 St.zero p) _ rfl) (by have := hb2.out; have := hp2.out; have := hp3.out; simp [maxLen, ← hm1.out]; omega) (by have := hb2.out; have := hp2.out; have := hp3.out; simp [maxLen, ← hm1.out]; omega) ?_; intro v6 z6 hown6 hgr6 hat6))
        go_ret
        obtain ⟨A, c, hv, h1, h2, h3⟩ := hown6.lies Ins.cells_len
        have e : ([Ins.mk 2 (bare s) p3] ++ codeList body p1) ++ [Ins.mk 3 St.zero p] = codeOne s p := by
          rw [EQ.out, ← hp1.out, ← hm1.out, ← hp2.out, ← hp3.out]; simp
        rw [e] at hv h1 h3
        obtain ⟨u, hu⟩ := Ext.of (hB1.out.trans (z6.below.mono hB1.out.size))
        exact ⟨u, A, c, congrArg Ending.returned hv, hu, h1, h2, hu ▸ h3⟩
    · have hk10b : (kd != 10) = true := bne_iff_ne.2 hk10'
      have hk10 := hide hk10'
      clear hk10'
      as_aux_lemma =>
        go_wp2_with (first | (refine wpList_load_row rfl 41 (.tmp 2) rfl w.heap.size rfl 41 s.cells.toArray (0, 0) _ (hblk.out) Try.underlying41 rfl (by rw [List.size_toArray, St.cells_len]; kernel_rfl) ?_) | (go_at_call 27; refine ((bare_any s _).over (Ext.here w1)).mono ?_; rintro _ _ ⟨y1, hy1, rfl, rfl⟩) | (refine wpList_buildL rfl 44 _ rfl _ (built_ins0 (bare s) 1) ?_) | (refine wpList_lit_one rfl 35 44 (.tmp 19) rfl _ rfl i0 z0 25 Try.underlying35 hi hz0 hz1 (Ins.size _) (by omega) (by omega) ?_))
        go_ret
        have e := codeOne_do (s := s) (fun h => hk9.out (ek'.out.symm.trans h)) (fun h => hk10.out (ek'.out.symm.trans h)) p
        rw [e]
        have hl := Lies.one (e := 44) y1.val (size := 25) (enc := Ins.cells) ⟨1, bare s, 0⟩ _ rfl
        obtain ⟨u, hu⟩ := Ext.of (hB1.out.trans (((y1.below.mono hB1.out.size)).alloc (y1.le hB1.out.size) (.cells (Ins.mk 1 (bare s) 0).cells.toArray 44)))
        exact ⟨u, _, _, rfl, hu, Nat.le_refl _, by simp [maxLen], hu ▸ hl⟩
end Go.Proofs.Ytlgnjbocdmbeiaa
