/- The walk of demesnelaw34.walk. -/
import Derived.Test.YtlgnjbocdmbeiaaWhile
import Derived.Deep.CutBlock
set_option linter.unusedSimpArgs false
set_option linter.unusedVariables false
namespace Go.Proofs.Ytlgnjbocdmbeiaa
open Go.RowKit Go.Proofs.Grow

theorem way_drop {n : Nat} {l : List St} {i : Nat} (h : i < l.length) {wy : Wy} (hb : wy.back = false) : wayL n (l.drop i) wy = wayL n (l.drop (i + 1)) (wayS n l[i] wy) := by
  rw [List.drop_eq_getElem_cons h, wayL_cons, if_neg (by rw [hb]; simp)]

/-- What the loop keeps. -/
def Rest (n : Nat) (l : List St) (i : Nat) (wy fin : Wy) : Prop := wayL n (l.drop i) wy = fin ∧ wy.turns.length ≤ n

set_option maxHeartbeats 4000000 in
set_option maxRecDepth 100000 in
theorem walk_step (n : Nat) (l : List St) (ih : ∀ (m : Nat) (l' : List St), m < n ∨ (m = n ∧ SizeOf.sizeOf l' < SizeOf.sizeOf l) → WalkOk m l') : WalkOk n l := by
  intro w0 x A c tA tc mA mc wy hn hmet hin hl hlc hcm hA
  obtain ⟨i0, z0, hi0, hz0, hz1, hz2, hzs⟩ := info_row infoInt
  have HI := hide hin
  have HL := hide hl
  have HN := hide hmet
  have IH := hide ih
  have HLC := hide (And.intro hlc hcm)
  have hl63 : l.length ≤ 9223372036854775807 := by unfold maxLen at hcm; omega
  have hSt := hide (WSt.start x.below hA)
  obtain ⟨fin, hfin⟩ : ∃ fin, fin = wayL n l wy := ⟨_, rfl⟩
  rw [← hfin] at HN ⊢
  have hrest : Hid (Rest n l 0 wy fin) := ⟨by rw [hfin]; rfl, hn⟩
  clear hin hl hmet ih hlc hcm hA hfin hn
  obtain ⟨X, hX⟩ : ∃ X, X = x.val := ⟨_, rfl⟩
  rw [← hX] at hSt ⊢
  have HXb : Hid (Below w0.heap.size w0 X) := by rw [hX]; exact x.below
  clear hX
  obtain ⟨ob, hob⟩ : ∃ ob, ob = (Value.slice mA wy.met.length mc).ownBlock := ⟨_, rfl⟩
  rw [← hob] at hSt ⊢
  clear hob
  go_enter Try.func13, Try.ntmps13
  go_wp2_with fail
  go_loopw [5] (fun s5 wr => ∃ i : Nat, s5 = .int .i64 i ∧ i ≤ l.length ∧ ∃ (y : Ext w0) (tA1 : Option Addr) (tc1 : Nat) (mA1 : Option Addr) (mc1 : Nat) (wy1 : Wy), wr = y.val ∧ Hid (WSt w0 X y.val ob tA1 tc1 mA1 mc1 wy1) ∧ Hid (Rest n l i wy1 fin)) (fun s5 _ => l.length - (intOf s5).toNat)
  case atStart => exact ⟨0, rfl, Nat.zero_le _, ⟨_, hSt.out.below⟩, _, _, _, _, _, rfl, hSt, hrest⟩
  case round =>
    obtain ⟨i, rfl, hi, y, tA1, tc1, mA1, mc1, wy1, rfl, hst, hre⟩ := hrel
    clear hSt hrest
    obtain ⟨c0, c1, c2⟩ := hst.out.cells
    obtain ⟨bk, hbk⟩ : ∃ bk, wy1.back = bk := ⟨_, rfl⟩
    rw [hbk] at c2
    have HBK := hide hbk
    clear hbk
    by_cases hgo : i < l.length ∧ bk = false
    · obtain ⟨hlt, rfl⟩ := hgo
      obtain ⟨b, off, hAe, hb, hcell⟩ := HL.out i hlt
      have hlt' : (i : Int) < (l.length : Int) := by omega
      have hin1 := hide (HI.out _ (List.getElem_mem hlt))
      have hre2 := way_drop (n := n) hlt HBK.out
      have hsz0 := List.sizeOf_lt_of_mem (List.getElem_mem hlt)
      obtain ⟨s, hs⟩ : ∃ s, s = l[i] := ⟨_, rfl⟩
      rw [← hs] at hcell hin1 hre2 hsz0
      have HSZ := hide hsz0
      have hrange : Hid (y.val.rangeAt b (off + i * 23) s.cells) := fun j u h => (y.cell hb).trans (hcell j u h)
      have HRE : Hid (wayL n (l.drop (i + 1)) (wayS n s wy1) = fin ∧ wy1.turns.length ≤ n) := ⟨hre2.symm.trans hre.out.1, hre.out.2⟩
      have hlt9 := hide hlt
      subst hAe
      clear hcell hs hlt hre hre2 hsz0
      go_upto_region 5 with (first | (refine wpList_load_mid rfl 41 (.tmp 21) rfl b (off + i * 23) rfl s.cells _ hrange.out Try.underlying41 rfl (by rw [St.cells_len]; kernel_rfl) ?_) | (refine wpList_store_new rfl 41 (.tmp 6) (.tmp 22) rfl _ _ _ _ rfl rfl rfl (by rw [List.size_toArray, St.cells_len]; kernel_rfl) (by simp [St.cells_len]) (fun u hu => st_one s u (by simpa using hu)) ?_))
      obtain ⟨p, hp⟩ : ∃ p, p = y.val.heap.size := ⟨_, rfl⟩
      have hst1 : Hid (WSt w0 X (y.val.alloc (.cells s.cells.toArray 41)) ob tA1 tc1 mA1 mc1 wy1) := hst.out.alloc _
      have hbox1 : Hid ((y.val.alloc (.cells s.cells.toArray 41)).heap[p]? = some (.cells s.cells.toArray 41 (0, 0))) := by show _ = _; rw [hp]; exact heap_alloc_new _ _
      have hXp : Hid (X.heap.size + 1 < p) := by rw [hp]; exact row_lt hst.out.res
      rw [← hp]
      generalize (y.val.alloc (.cells s.cells.toArray 41)) = W1 at hst1 hbox1 ⊢
      clear hp hst c0 c1 c2 hrange y
      obtain ⟨c0, c1, c2⟩ := hst1.out.cells
      obtain ⟨e0, ⟨bA, bc, e20, hbd⟩, ⟨eA, ec, e21, hed⟩⟩ := st_at s
      have HBD := hide (hbd w0 hin1.out)
      have HED := hide (hed w0 hin1.out)
      obtain ⟨kd, hkd⟩ : ∃ kd, s.k = kd := ⟨_, rfl⟩
      rw [hkd] at e0
      have HKD := hide hkd
      have E0 := hide e0
      have E20 := hide e20
      have E21 := hide e21
      clear hbd hed hkd e0 e20 e21
      have b0 := (row_cell hbox1.out (j := 0) E0.out).1
      have hmetb : Hid (wy1.met.length + 1 ≤ 1000000000000) := by
        have h1 := wayS_met n s wy1 HRE.out.2
        have h2 := (much_S n s wy1 HRE.out.2 HBK.out).1
        have h3 := (much_way n (l.drop (i + 1)) (wayS n s wy1) (Nat.le_trans h2 HRE.out.2)).2.1
        rw [HRE.out.1] at h3
        have := HN.out
        show _ ≤ _
        omega
      go_upto_region 6 with (at_builtin; refine wpList_append_list (w1 := w0) _ rfl (.tmp 24) (.tmp 27) 50 rfl 3 i0 z0 1 8 Try.underlying50 hi0 hz0 hz1 hz2 hzs (by decide) encI_len encI_one (hst1.out.below.alloc hst1.out.below.size _) (.slice mA1 wy1.met.length mc1) wy1.met rfl (hst1.out.at_.met.alloc _) _ 1 1 [kd] rfl rfl (Lies.one W1 kd _ rfl) (by have := hmetb.out; simp [maxLen]; omega) (by have := hmetb.out; simp; omega) ?_; intro v' y2 hown' hgr hat; obtain ⟨g', cap', rfl⟩ := hown'.some_; obtain ⟨hr2, hgr2⟩ := hst1.out.behind hgr; obtain ⟨d1, f1⟩ := row_cell (cs := [_, _, _]) hr2 (j := 1) rfl; have HR2 := hide (And.intro hr2 hgr2); have HO2 := hide hown'; clear hr2 hgr2 hgr hown')
      have hst5 : Hid (WSt w0 X (y2.val.setCell ⟨X.heap.size, 1, none⟩ (.slice (some ⟨g', 0, none⟩) (wy1.met.length + 1) cap')) ob tA1 tc1 (some ⟨g', 0, none⟩) cap' ⟨wy1.turns, wy1.met ++ [kd], wy1.back⟩) :=
        hst1.out.put HR2.out.1 HR2.out.2 HO2.out (by
          rcases hat with h | h
          · exact .inl h
          · exact .inr ⟨_, h, by simp⟩)
      have hbox5 : Hid ((y2.val.setCell ⟨X.heap.size, 1, none⟩ (.slice (some ⟨g', 0, none⟩) (wy1.met.length + 1) cap')).heap[p]? = some (.cells s.cells.toArray 41 (0, 0))) :=
        hst1.out.box HR2.out.2 (OneOff.setCell _ _ _ _) (Nat.lt_of_succ_lt hXp.out) hbox1.out
      generalize (y2.val.setCell ⟨X.heap.size, 1, none⟩ (.slice (some ⟨g', 0, none⟩) (wy1.met.length + 1) cap')) = W5 at hst5 hbox5 ⊢
      clear hat d1 f1 HR2 HO2 hst1 hbox1 c0 c1 c2 b0 hmetb
      obtain ⟨M, hM⟩ : ∃ M, M = wy1.met ++ [kd] := ⟨_, rfl⟩
      have hML : wy1.met.length + 1 = M.length := by rw [hM]; simp
      rw [← hM] at hst5
      rw [hML]
      have HM := hide hM
      clear hM hML
      have hf6 : Hid (W5.frozen? ⟨X.heap.size, 2, none⟩ = false) := (row_cell (cs := [_, _, _]) hst5.out.row (j := 2) rfl).2
      have f2 := hf6.out
      obtain ⟨c0, c1, c2⟩ := hst5.out.cells
      have b0 := (row_cell hbox5.out (j := 0) E0.out).1
      go_upto_region 7 with fail
      have hst6 : Hid (WSt w0 X (W5.setCell ⟨X.heap.size, 2, none⟩ (.bool (kd == 11))) ob tA1 tc1 (some ⟨g', 0, none⟩) cap' ⟨wy1.turns, M, kd == 11⟩) := hst5.out.turnBack _
      have hbox6 : Hid ((W5.setCell ⟨X.heap.size, 2, none⟩ (.bool (kd == 11))).heap[p]? = some (.cells s.cells.toArray 41 (0, 0))) :=
        hst5.out.box (World.grownBy.refl _ _) (OneOff.setCell _ _ _ _) (Nat.lt_of_succ_lt hXp.out) hbox5.out
      generalize (W5.setCell ⟨X.heap.size, 2, none⟩ (.bool (kd == 11))) = W6 at hst6 hbox6 ⊢
      clear hf6 f2 c0 c1 c2 b0 hst5 hbox5
      obtain ⟨r, hr⟩ : ∃ r, r = (kd == 11) := ⟨_, rfl⟩
      rw [← hr] at hst6
      have HR := hide hr
      clear hr
      obtain ⟨c0, c1, c2⟩ := hst6.out.cells
      have b0 := (row_cell hbox6.out (j := 0) E0.out).1
      by_cases h9 : kd = 9
      · subst h9
        obtain rfl : r = false := HR.out
        obtain ⟨t, ht⟩ : ∃ t, t = wy1.turns.headD false := ⟨_, rfl⟩
        obtain ⟨T9, hT9⟩ : ∃ T9, T9 = wy1.turns.tail := ⟨_, rfl⟩
        have HTu := hide (turn_any w0 W6 hst6.out.below tA1 tc1 wy1.turns (some ⟨g', 0, none⟩) M.length cap' false hst6.out.at_.turns hst6.out.at_.tl hst6.out.at_.tm)
        rw [← ht, ← hT9] at HTu
        have HT := hide (And.intro ht hT9)
        have hT9n : Hid (T9.length ≤ n) := by show _ ≤ _; rw [hT9, List.length_tail]; have := HRE.out.2; omega
        clear ht hT9
        have hwy9 : Hid (wayS n s wy1 = if t then wayL n s.body ⟨T9, M, false⟩ else wayL n s.els ⟨T9, M, false⟩) := by
          show _ = _
          rw [wayS_if HKD.out, HKD.out, ← HM.out, ← HT.out.1, ← HT.out.2]
        go_upto_region 10 with (first | (go_at_call 14; refine HTu.out.mono ?_; clear HTu; rintro _ _ ⟨u, A9, c9, rfl, rfl, t1, t2, t3⟩; have hwh := hst6.out.whole (W' := u.val) (wy' := ⟨T9, M, false⟩) (grown_below u.below) ⟨t1, t2, t3, own_keep hst6.out.at_.met fun g hg => u.below.block g (hst6.out.at_.met.from_ g hg).2⟩ (.inl rfl); have hbx := hide (hst6.out.box (grown_below u.below) (OneOff.setCells u.val X.heap.size 0 (wyRow A9 c9 (some ⟨g', 0, none⟩) cap' ⟨T9, M, false⟩).toList) (Nat.lt_of_succ_lt hXp.out) hbox6.out); have hth := hide hwh.1; have hst9 := hide hwh.2; clear hwh t1 t2 t3) | (refine wpList_store_mid rfl 52 (.tmp 3) (.tmp 46) rfl X.heap.size 0 (wyRow A9 c9 (some ⟨g', 0, none⟩) cap' ⟨T9, M, false⟩) rfl rfl hth.out (by kernel_rfl) (by simp [wyRow, Value.oneCell']) ?_))
        obtain ⟨W9, hW9⟩ : ∃ W9, W9 = u.val.setCells X.heap.size 0 (wyRow A9 c9 (some ⟨g', 0, none⟩) cap' ⟨T9, M, false⟩).toList := ⟨_, rfl⟩
        rw [← hW9] at hst9 hbx ⊢
        clear hW9 hth hst6 hbox6 c0 c1 c2 b0 u
        obtain ⟨c0, c1, c2⟩ := hst9.out.cells
        have b0 := (row_cell hbx.out (j := 0) E0.out).1
        have b20 := (row_cell hbx.out (j := 20) E20.out).1
        have b21 := (row_cell hbx.out (j := 21) E21.out).1
        have hfm : Hid ((wayS n s wy1).met.length ≤ 1000000000000) := by
          have h2 := (much_S n s wy1 HRE.out.2 HBK.out).1
          have h3 := (much_way n (l.drop (i + 1)) (wayS n s wy1) (Nat.le_trans h2 HRE.out.2)).2.1
          rw [HRE.out.1] at h3
          have := HN.out
          show _ ≤ _
          omega
        have hbS := s.bs
        have heS := s.es
        have HSS := hide (And.intro hbS heS)
        clear hbS heS
        cases t with
        | true =>
          obtain ⟨R, hR⟩ : ∃ R, R = wayL n s.body ⟨T9, M, false⟩ := ⟨_, rfl⟩
          have hwR : Hid (wayS n s wy1 = R) := by show _ = _; rw [hwy9.out, if_pos rfl, hR]
          have HCl := hide (IH.out n s.body (.inr ⟨rfl, by have := HSS.out.1; have := HSZ.out; omega⟩) w0 ⟨W9, hst9.out.below⟩ bA bc A9 c9 (some ⟨g', 0, none⟩) cap' ⟨T9, M, false⟩ hT9n.out (by rw [← hR, ← hwR.out]; exact hfm.out) HBD.out.2.2.2 HBD.out.1 HBD.out.2.1 HBD.out.2.2.1 hst9.out.at_)
          rw [← hR] at HCl
          have hend : Hid (Rest n l (i + 1) R fin) := ⟨by rw [← hwR.out]; exact HRE.out.1, by rw [← hwR.out]; exact Nat.le_trans (much_S n s wy1 HRE.out.2 HBK.out).1 HRE.out.2⟩
          clear hR
          go_upto_block 2 with (first | (go_at_call 13; refine HCl.out.mono ?_; clear HCl; rintro _ _ ⟨y10, A10, c10, m10, d10, rfl, rfl, at10, gr10, ob10⟩; have hwh := hst9.out.whole (W' := y10.val) gr10 at10 ob10; have hbx2 := hide (hst9.out.box gr10 (OneOff.setCells y10.val X.heap.size 0 (wyRow A10 c10 m10 d10 R).toList) (Nat.lt_of_succ_lt hXp.out) hbx.out); have hth := hide hwh.1; have hst11 := hide hwh.2; clear hwh at10 gr10 ob10) | (refine wpList_store_mid rfl 52 (.tmp 3) (.tmp 56) rfl X.heap.size 0 (wyRow A10 c10 m10 d10 R) rfl rfl hth.out (by kernel_rfl) (by simp [wyRow, Value.oneCell']) ?_))
          generalize (y10.val.setCells X.heap.size 0 (wyRow A10 c10 m10 d10 R).toList) = W11 at hst11 hbx2 ⊢
          clear hth hst9 hbx c0 c1 c2 b0 b20 b21 y10
          have b0 := (row_cell hbx2.out (j := 0) E0.out).1
          go_wp2_with fail
          simp only [Act.put, List.setIfInBounds_toArray, List.set_cons_zero, List.set_cons_succ]
          go_loopw [7] (fun s7 wr => s7 = .bool true ∧ wr = W11) (fun _ _ => 0)
          case atStart => exact ⟨rfl, rfl⟩
          case round =>
          obtain ⟨rfl, rfl⟩ := hrel
          go_wp2_with fail
          go_roundw
          case rel => exact ⟨i + 1, by go_num, Nat.succ_le_of_lt hlt9.out, ⟨_, hst11.out.below⟩, _, _, _, _, _, rfl, hst11, hend⟩
          case measure => have := hlt9.out; simp [intOf]; omega
        | false =>
          obtain ⟨R, hR⟩ : ∃ R, R = wayL n s.els ⟨T9, M, false⟩ := ⟨_, rfl⟩
          have hwR : Hid (wayS n s wy1 = R) := by show _ = _; rw [hwy9.out, if_neg (by simp), hR]
          have HCl := hide (IH.out n s.els (.inr ⟨rfl, by have := HSS.out.2; have := HSZ.out; omega⟩) w0 ⟨W9, hst9.out.below⟩ eA ec A9 c9 (some ⟨g', 0, none⟩) cap' ⟨T9, M, false⟩ hT9n.out (by rw [← hR, ← hwR.out]; exact hfm.out) HED.out.2.2.2 HED.out.1 HED.out.2.1 HED.out.2.2.1 hst9.out.at_)
          rw [← hR] at HCl
          have hend : Hid (Rest n l (i + 1) R fin) := ⟨by rw [← hwR.out]; exact HRE.out.1, by rw [← hwR.out]; exact Nat.le_trans (much_S n s wy1 HRE.out.2 HBK.out).1 HRE.out.2⟩
          clear hR
          go_upto_block 2 with (first | (go_at_call 13; refine HCl.out.mono ?_; clear HCl; rintro _ _ ⟨y10, A10, c10, m10, d10, rfl, rfl, at10, gr10, ob10⟩; have hwh := hst9.out.whole (W' := y10.val) gr10 at10 ob10; have hbx2 := hide (hst9.out.box gr10 (OneOff.setCells y10.val X.heap.size 0 (wyRow A10 c10 m10 d10 R).toList) (Nat.lt_of_succ_lt hXp.out) hbx.out); have hth := hide hwh.1; have hst11 := hide hwh.2; clear hwh at10 gr10 ob10) | (refine wpList_store_mid rfl 52 (.tmp 3) (.tmp 63) rfl X.heap.size 0 (wyRow A10 c10 m10 d10 R) rfl rfl hth.out (by kernel_rfl) (by simp [wyRow, Value.oneCell']) ?_))
          generalize (y10.val.setCells X.heap.size 0 (wyRow A10 c10 m10 d10 R).toList) = W11 at hst11 hbx2 ⊢
          clear hth hst9 hbx c0 c1 c2 b0 b20 b21 y10
          have b0 := (row_cell hbx2.out (j := 0) E0.out).1
          go_wp2_with fail
          simp only [Act.put, List.setIfInBounds_toArray, List.set_cons_zero, List.set_cons_succ]
          go_loopw [7] (fun s7 wr => s7 = .bool false ∧ wr = W11) (fun _ _ => 0)
          case atStart => exact ⟨rfl, rfl⟩
          case round =>
          obtain ⟨rfl, rfl⟩ := hrel
          go_wp2_with fail
          go_roundw
          case rel => exact ⟨i + 1, by go_num, Nat.succ_le_of_lt hlt9.out, ⟨_, hst11.out.below⟩, _, _, _, _, _, rfl, hst11, hend⟩
          case measure => have := hlt9.out; simp [intOf]; omega
      · by_cases h10 : kd = 10
        · subst h10
          obtain rfl : r = false := HR.out
          have HTu := hide (turn_any w0 W6 hst6.out.below tA1 tc1 wy1.turns (some ⟨g', 0, none⟩) M.length cap' false hst6.out.at_.turns hst6.out.at_.tl hst6.out.at_.tm)
          obtain ⟨t, ht⟩ : ∃ t, t = wy1.turns.headD false := ⟨_, rfl⟩
          obtain ⟨T9, hT9⟩ : ∃ T9, T9 = wy1.turns.tail := ⟨_, rfl⟩
          rw [← ht, ← hT9] at HTu
          have HT := hide (And.intro ht hT9)
          clear ht hT9
          obtain ⟨R, hR⟩ : ∃ R, R = wayS n s wy1 := ⟨_, rfl⟩
          have hwR : Hid (wayW n 10 s.body ⟨wy1.turns, M, false⟩ = R) := by show _ = _; rw [hR, wayS_while HKD.out, HKD.out, ← HM.out]
          have hRm : Hid (R.met.length ≤ 1000000000000) := by
            have h2 := (much_S n s wy1 HRE.out.2 HBK.out).1
            have h3 := (much_way n (l.drop (i + 1)) (wayS n s wy1) (Nat.le_trans h2 HRE.out.2)).2.1
            rw [HRE.out.1, ← hR] at h3
            have := HN.out
            show _ ≤ _
            omega
          have hend : Hid (Rest n l (i + 1) R fin) := ⟨by rw [hR]; exact HRE.out.1, by rw [hR]; exact Nat.le_trans (much_S n s wy1 HRE.out.2 HBK.out).1 HRE.out.2⟩
          have IHb : Hid (∀ m < n, WalkOk m s.body) := fun m hm => IH.out m s.body (.inl hm)
          clear hR h9
          go_upto_block 2 with (first | (go_at_call 14; refine HTu.out.mono ?_; clear HTu; rintro _ _ ⟨u, A9, c9, rfl, rfl, t1, t2, t3⟩; have hwh := hst6.out.whole (W' := u.val) (wy' := ⟨T9, M, false⟩) (grown_below u.below) ⟨t1, t2, t3, own_keep hst6.out.at_.met fun g hg => u.below.block g (hst6.out.at_.met.from_ g hg).2⟩ (.inl rfl); have hbx := hide (hst6.out.box (grown_below u.below) (OneOff.setCells u.val X.heap.size 0 (wyRow A9 c9 (some ⟨g', 0, none⟩) cap' ⟨T9, M, false⟩).toList) (Nat.lt_of_succ_lt hXp.out) hbox6.out); have hth := hide hwh.1; have hst9 := hide hwh.2; have b0 := (row_cell (hst6.out.box (grown_below u.below) (OneOff.setCells u.val X.heap.size 0 (wyRow A9 c9 (some ⟨g', 0, none⟩) cap' ⟨T9, M, false⟩).toList) (Nat.lt_of_succ_lt hXp.out) hbox6.out) (j := 0) E0.out).1; clear hwh t1 t2 t3) | (refine wpList_store_mid rfl 52 (.tmp 3) (.tmp 46) rfl X.heap.size 0 (wyRow A9 c9 (some ⟨g', 0, none⟩) cap' ⟨T9, M, false⟩) rfl rfl hth.out (by kernel_rfl) (by simp [wyRow, Value.oneCell']) ?_))
          generalize (u.val.setCells X.heap.size 0 (wyRow A9 c9 (some ⟨g', 0, none⟩) cap' ⟨T9, M, false⟩).toList) = W9 at hst9 hbx b0 ⊢
          have hat : Hid (WhileAt w0 X ob n s R p (n + 1) (.bool t) W9) := by
            refine ⟨hbx.out, A9, c9, some ⟨g', 0, none⟩, cap', .inl ⟨n, wy1.turns, M, rfl, Nat.le_refl _, HRE.out.2, hwR.out, congrArg Value.bool HT.out.1, ?_⟩⟩
            have h8 := hst9.out
            have e := HT.out.2
            subst e
            exact h8
          clear hth c0 c1 c2 b0 hst6 hbox6 u hst9 hbx
          go_wp2_with fail
          refine wk_while n s HKD w0 X ob p hXp i0 z0 hi0 hz0 hz1 hz2 hzs IHb bA bc HBD E20 R hRm W9 (.bool t) hat _ _ _ _ _ _ _ _ _ _ _ _ _ _ _ _ _ _ _ _ _ _ _ _ _ _ _ _ _ _ _ _ _ _ _ _ _ _ _ _ _ _ _ _ _ _ _ _ _ _ _ _ _ _ _ _ _ _ _ _ _ _ _ _ _ _ _ _ _ _ _ _ _ _ _ _ _ _ _ _ _ _ _ _ _ _ _ _ _ _ _ _ _ ?_
          intro r7 r64 r65 r66 r67 r68 r69 r70 r71 r72 r73 r74 r75 r76 r77 r78 r79 r80 r81 r82 r83 r84 r85 r86 r87 r88 r89 r90 r91 r92 r93 y A' c' mA' d' hst11
          go_wp2_with fail
          go_roundw
          case rel => exact ⟨i + 1, by go_num, Nat.succ_le_of_lt hlt9.out, ⟨y, hst11.out.below⟩, _, _, _, _, _, rfl, hst11, hend⟩
          case measure => have := hlt9.out; simp [intOf]; omega
        · have k9 : (kd == 9) = false := by simpa using h9
          have k10 : (kd == 10) = false := by simpa using h10
          have hend : Hid (Rest n l (i + 1) ⟨wy1.turns, M, r⟩ fin) := by
            have e : wayS n s wy1 = ⟨wy1.turns, M, r⟩ := by rw [wayS_do (by rw [HKD.out]; exact h9) (by rw [HKD.out]; exact h10), HKD.out, HM.out, HR.out]
            exact ⟨by rw [← e]; exact HRE.out.1, HRE.out.2⟩
          clear h9 h10
          go_wp2_with fail
          go_loopw [7] (fun s7 wr => s7 = .bool false ∧ wr = W6) (fun _ _ => 0)
          case atStart => exact ⟨rfl, rfl⟩
          case round =>
          obtain ⟨rfl, rfl⟩ := hrel
          go_wp2_with fail
          go_roundw
          case rel => exact ⟨i + 1, by go_num, Nat.succ_le_of_lt hlt9.out, ⟨_, hst6.out.below⟩, _, _, _, _, _, rfl, hst6, hend⟩
          case measure => have := hlt9.out; simp [intOf]; omega
    · have hfin : Hid (wy1 = fin) := by
        show _ = _
        rw [← hre.out.1]
        by_cases hlt : i < l.length
        · have hb : bk = true := by
            cases bk with
            | true => rfl
            | false => exact absurd ⟨hlt, rfl⟩ hgo
          rw [wayL_back n _ _ (HBK.out.trans hb)]
        · rw [List.drop_of_length_le (by omega), wayL_nil]
      have hres := hide (row_there hst.out.res 3 (Nat.le_refl _))
      obtain ⟨W3, hW3⟩ : ∃ W3, W3 = y.val.setCells (X.heap.size + 1) 0 (#[.slice tA1 wy1.turns.length tc1, .slice mA1 wy1.met.length mc1, .bool bk] : Array Value).toList := ⟨_, rfl⟩
      have h3 : W3.heap[X.heap.size + 1]? = some (.cells (#[.slice tA1 wy1.turns.length tc1, .slice mA1 wy1.met.length mc1, .bool bk] : Array Value).toList.toArray 52 (0, 0)) := by rw [hW3]; exact row_fill hst.out.res (by simp)
      have hend : Hid (WEnd w0 X W3 ob tA1 tc1 mA1 mc1 wy1) := by show WEnd _ _ _ _ _ _ _ _ _; rw [hW3]; exact hst.out.leave _
      obtain ⟨q0, _⟩ := row_cell h3 (j := 0) rfl
      obtain ⟨q1, _⟩ := row_cell h3 (j := 1) rfl
      obtain ⟨q2, _⟩ := row_cell h3 (j := 2) rfl
      have HW3 := hide hW3
      clear h3 hW3
      by_cases hlt : i < l.length
      · have hlt' : (i : Int) < (l.length : Int) := by omega
        obtain rfl : bk = true := by
          cases bk with
          | true => rfl
          | false => exact absurd ⟨hlt, rfl⟩ hgo
        clear hgo hlt
        go_wp2_with (refine wpList_store_mid rfl 52 (.tmp 4) (.tmp 94) rfl (X.heap.size + 1) 0 _ rfl rfl hres.out (by kernel_rfl) (by simp [Value.oneCell']) ?_; rw [← HW3.out])
        refine bodyPost_ret (v := .agg #[.slice tA1 wy1.turns.length tc1, .slice mA1 wy1.met.length mc1, .bool true]) ?_ ?_ ?_
        · simp [results, Try.f13, go_sem, q0, q1, q2]
        · rfl
        · have e := hfin.out
          subst e
          refine ⟨⟨W3, hend.out.below⟩, tA1, tc1, mA1, mc1, ?_, rfl, hend.out.at_, hend.out.grown, hend.out.own⟩
          unfold wyRow
          rw [HBK.out]
      · have hlt' : ¬ (i : Int) < (l.length : Int) := by omega
        clear hgo hlt
        go_wp2_with (refine wpList_store_mid rfl 52 (.tmp 4) (.tmp 94) rfl (X.heap.size + 1) 0 _ rfl rfl hres.out (by kernel_rfl) (by simp [Value.oneCell']) ?_; rw [← HW3.out])
        refine bodyPost_ret (v := .agg #[.slice tA1 wy1.turns.length tc1, .slice mA1 wy1.met.length mc1, .bool bk]) ?_ ?_ ?_
        · simp [results, Try.f13, go_sem, q0, q1, q2]
        · rfl
        · have e := hfin.out
          subst e
          refine ⟨⟨W3, hend.out.below⟩, tA1, tc1, mA1, mc1, ?_, rfl, hend.out.at_, hend.out.grown, hend.out.own⟩
          unfold wyRow
          rw [HBK.out]

theorem walk_ok (n : Nat) (l : List St) : WalkOk n l := walk_step n l fun m l' h => walk_ok m l'
termination_by (n, SizeOf.sizeOf l)
decreasing_by
  rcases h with h | ⟨rfl, h⟩
  · exact Prod.Lex.left _ _ h
  · exact Prod.Lex.right _ h
end Go.Proofs.Ytlgnjbocdmbeiaa
