/- The walk of demesnelaw34.CodeOf. -/
import Derived.Test.YtlgnjbocdmbeiaaLawHeavy
import Derived.Test.YtlgnjbocdmbeiaaAwake
import Derived.Test.YtlgnjbocdmbeiaaSameS
import Derived.Test.YtlgnjbocdmbeiaaTwo
import Derived.Test.YtlgnjbocdmbeiaaQLoad
set_option linter.unusedSimpArgs false
set_option linter.unusedVariables false
namespace Go.Proofs.Ytlgnjbocdmbeiaa
open Go.RowKit Go.Proofs.Grow

set_option maxRecDepth 100000 in
set_option maxHeartbeats 2000000 in
theorem lawOf_any (m : Me) (w : World) (hm : MeIn w m) (hN : (codeOf m.body).length < 400000000000) : Gives Try.prog 3 #[.agg m.cells.toArray] w (.bool true) := by
  refine Gives.mk ?_
  have HM := hide hm
  have HN := hide hN
  clear hm hN
  go_enter Try.func3, Try.ntmps3
  go_upto_region 1 with fail
  obtain ⟨w1, hw1⟩ : ∃ w1, w1 = w.alloc (.cells m.cells.toArray 30) := ⟨_, rfl⟩
  rw [← hw1]
  have hB1 : Hid (Below w.heap.size w w1) := by
    show Below _ _ _
    rw [hw1]
    exact (Below.refl _ _).alloc (Nat.le_refl _) _
  have hsz : w.heap.size < w1.heap.size := by rw [hw1]; simp
  have hblk : Hid (w1.heap[w.heap.size]? = some (.cells m.cells.toArray 30 (0, 0))) := by rw [hw1]; exact heap_alloc_new w _
  have hblkz : Hid (∀ z : Ext w1, z.val.heap[w.heap.size]? = some (.cells m.cells.toArray 30 (0, 0))) := fun z => (z.below.block _ hsz).trans hblk.out
  have hM1 := hide (HM.out.ext ⟨w1, hB1.out⟩)
  clear hw1
  go_upto_region 3 with (first | (refine wpList_load_row rfl 30 (.tmp 1) rfl w.heap.size rfl 30 m.cells.toArray (0, 0) _ hblk.out Try.underlying30 rfl (by rw [List.size_toArray, Me.cells_len]; kernel_rfl) ?_) | (go_at_call 6; refine ((lawHeavy_any m w1 hM1.out).over (Ext.here w1)).mono ?_; rintro _ _ ⟨y, u, hy, rfl, rfl⟩; cases u))
  rotate_left
  · go_wp2_with fail
    refine ((awake_any y.val).over y).mono ?_
    rintro _ _ ⟨y2, hy2, rfl, rfl⟩
    go_wp2_with fail
    go_ret
    exact ⟨rfl, hB1.out.trans (y2.below.mono hB1.out.size)⟩
  obtain ⟨L, hL⟩ : ∃ L, L = codeOf m.body := ⟨_, rfl⟩
  obtain ⟨N, hNL⟩ : ∃ N, N = L.length := ⟨_, rfl⟩
  have hA : Hid (∀ z : Ext w1, Calls Try.prog 8 #[.agg m.cells.toArray] z.val fun e w' => ∃ (y : Ext w1) (A : Option Addr) (c : Nat), (∃ y' : Ext z.val, y'.val = y.val) ∧ e = .returned (.slice A N c) ∧ w' = y.val ∧ N ≤ c ∧ c ≤ maxLen ∧ Lies y.val 25 Ins.cells A L) := fun z => by
    have h := (codeOf_any m z.val (hM1.out.ext z) HN.out).over z
    rw [← hL, ← hNL] at h
    exact h
  have hR : Hid (∀ z : Ext w1, Calls Try.prog 9 #[.agg m.cells.toArray] z.val fun e w' => ∃ (y : Ext w1) (A : Option Addr) (c : Nat), (∃ y' : Ext z.val, y'.val = y.val) ∧ e = .returned (.slice A N c) ∧ w' = y.val ∧ N ≤ c ∧ c ≤ maxLen ∧ Lies y.val 25 Ins.cells A L) := fun z => by
    have h := (refOf_any m z.val (hM1.out.ext z) HN.out).over z
    rw [← hL, ← hNL] at h
    exact h
  have HLN := hide (And.intro hL hNL)
  clear hL hNL
  go_cut [3, 4] (fun u v W => ∃ (A B : Option Addr) (c d : Nat) (z : Ext w1), u = .slice A N c ∧ v = .slice B N d ∧ Hid (N ≤ c ∧ c ≤ maxLen ∧ N ≤ d ∧ d ≤ maxLen ∧ Lies z.val 25 Ins.cells A L ∧ Lies z.val 25 Ins.cells B L) ∧ W = z.val)
  case first =>
    have hS : (fun W : World => ∃ x : Ext w1, W = x.val) y.val.drew := ⟨⟨y.val.drew, y.below.drew⟩, rfl⟩
    refine wp_region_till (fun W : World => ∃ x : Ext w1, W = x.val) 99 (by kernel_rfl) ?_
    simp only [List.size_toArray, List.length_cons, List.length_nil, Nat.reduceAdd]
    refine AnyTill.takeS (i := 0) (v := .agg m.cells.toArray) rfl (by kernel_rfl) (fun _ _ _ h => h) hS (fun W hSW => by
      obtain ⟨x, rfl⟩ := hSW
      exact run_load_block (g := w.heap.size) rfl rfl (hblkz.out x) Try.underlying30 rfl (by rw [List.size_toArray, Me.cells_len]; kernel_rfl)) rfl ?_
    try simp only [Act.put, List.setIfInBounds_toArray, List.set_cons_zero, List.set_cons_succ]
    refine AnyTill.takeS (i := 2) (v := .agg m.cells.toArray) rfl (by kernel_rfl) (fun _ _ _ h => h) hS (fun W hSW => by
      obtain ⟨x, rfl⟩ := hSW
      exact run_load_block (g := w.heap.size) rfl rfl (hblkz.out x) Try.underlying30 rfl (by rw [List.size_toArray, Me.cells_len]; kernel_rfl)) rfl ?_
    try simp only [Act.put, List.setIfInBounds_toArray, List.set_cons_zero, List.set_cons_succ]
    obtain ⟨x0, hx0⟩ := hS
    rw [hx0]
    refine AnyTill.oneK (i := 1) rfl (by kernel_rfl) rfl ?_
    intro K hK
    go_simp
    refine (hA.out x0).mono ?_
    rintro _ _ ⟨x1, A, c, hy1, rfl, rfl, h1, h2, h3⟩
    refine hK _ _ (fun _ => ⟨x1, rfl⟩) ?_
    clear hK K
    refine AnyTill.oneK (i := 3) rfl (by kernel_rfl) rfl ?_
    intro K hK
    go_simp
    refine (hR.out x1).mono ?_
    rintro _ _ ⟨x2, B, d, hy2, rfl, rfl, h4, h5, h6⟩
    have HF : Hid (N ≤ c ∧ c ≤ maxLen ∧ N ≤ d ∧ d ≤ maxLen ∧ Lies x2.val 25 Ins.cells A L ∧ Lies x2.val 25 Ins.cells B L) := ⟨h1, h2, h4, h5, h3.into hy2, h6⟩
    clear h1 h2 h3 h4 h5 h6
    refine hK _ _ (fun _ => ⟨x2, rfl⟩) ?_
    clear hK K
    refine AnyTill.oneK (i := 4) rfl (by kernel_rfl) rfl ?_
    intro K hK
    go_simp
    refine hK _ _ (fun _ => ⟨x2, rfl⟩) ?_
    clear hK K
    refine AnyTill.oneK (i := 5) rfl (by kernel_rfl) rfl ?_
    intro K hK
    go_simp
    refine hK _ _ (fun _ => ⟨x2, rfl⟩) ?_
    clear hK K
    refine AnyTill.done (by kernel_rfl) ?_ _
    go_wp2_with fail
    go_meet
    case rel => exact ⟨A, B, c, d, x2, rfl, rfl, HF, rfl⟩
  case rest =>
    obtain ⟨A, B, c, d, z, rfl, rfl, hF, rfl⟩ := hcut
    have hL9 : Hid (∀ I ∈ L, ∃ t, I.s = bare t ∧ StIn w1 t) := by
      intro I hI
      rw [HLN.out.1, codeOf, List.mem_append] at hI
      rcases hI with hI | hI
      · exact code_in w1 m.body 0 hM1.out.stmts I hI
      · obtain rfl : I = _ := by simpa using hI
        exact ⟨St.zero, rfl, StIn.zero w1⟩
    have hNN : N < 400000000000 := by have h1 := HLN.out.2; rw [HLN.out.1] at h1; rw [h1]; exact HN.out
    have hcm : c ≤ maxLen := hF.out.2.1
    have hNc : N ≤ c := hF.out.1
    go_wp2_with fail
    go_loopw [5] (fun i wr => ∃ n : Nat, i = .int .i64 n ∧ n ≤ N ∧ ∃ x : Ext w1, wr = x.val ∧ Hid (Lies x.val 25 Ins.cells A L ∧ Lies x.val 25 Ins.cells B L)) (fun i _ => N - (intOf i).toNat)
    case atStart => exact ⟨0, rfl, Nat.zero_le _, z, rfl, hF.out.2.2.2.2⟩
    case round =>
      obtain ⟨n, rfl, hn2, x, rfl, hX⟩ := hrel
      by_cases hlt : n < N
      · have hnL : n < L.length := by rw [← HLN.out.2]; exact hlt
        obtain ⟨b, off, rfl, hb, hcA⟩ := hX.out.1 n hnL
        obtain ⟨b2, off2, rfl, hb2, hcB⟩ := hX.out.2 n hnL
        obtain ⟨t, ht, hti⟩ := hL9.out _ (List.getElem_mem hnL)
        have hNx : Hid (∀ y : Ext x.val, Gives Try.prog 11 #[.slice (some ⟨b, off, none⟩) N c, .int .i64 n] y.val (.int .i64 (next L n))) := fun y => by
          have h := codeNext_any y.val (some ⟨b, off, none⟩) c L n (by rw [← HLN.out.2]; omega) (hX.out.1.ext y)
          rw [← HLN.out.2] at h
          exact h
        have hNy : Hid (∀ y : Ext x.val, Gives Try.prog 12 #[.slice (some ⟨b2, off2, none⟩) N d, .int .i64 n] y.val (.int .i64 (next L n))) := fun y => by
          have h := refNext_any y.val (some ⟨b2, off2, none⟩) d L n (by rw [← HLN.out.2]; omega) (hX.out.2.ext y)
          rw [← HLN.out.2] at h
          exact h
        have hSa : Hid (∀ y : Ext x.val, Gives Try.prog 10 #[.agg (bare t).cells.toArray, .agg (bare t).cells.toArray] y.val (.bool true)) := fun y => sameS_any t y.val ((hti.ext x).ext y)
        obtain ⟨I, hI⟩ : ∃ I, I = L[n] := ⟨_, rfl⟩
        rw [← hI] at hcA hcB ht
        have hpos : ∃ po, (bare t).cells[22]? = some (.int .i64 po) := by
          obtain ⟨k, x, y, name, ty, e, aA, ac, args, bA, bc, body, eA, ec, els, pos⟩ := t
          obtain ⟨ek, en, ename, eA, ec, kids⟩ := e
          exact ⟨pos, rfl⟩
        obtain ⟨po, hpo⟩ := hpos
        obtain ⟨ik, is, igo⟩ := I
        simp only at ht
        subst ht
        have hat : ∀ j u, (bare t).cells[j]? = some u → (Ins.mk ik (bare t) igo).cells[1 + j]? = some u := fun j u h => by
          unfold Ins.cells
          rw [Nat.add_comm, List.getElem?_cons_succ, List.getElem?_append_left (List.getElem?_eq_some_iff.1 h).1]
          exact h
        have a0 : x.val.cell? ⟨b, off + n * 25, none⟩ = some (.int .i64 ik) := hcA 0 _ rfl
        have a24 : x.val.cell? ⟨b, off + n * 25 + 24, none⟩ = some (.int .i64 igo) := hcA 24 _ (Ins.at24 _)
        have a23 : x.val.cell? ⟨b, off + n * 25 + 1 + 22, none⟩ = some (.int .i64 po) := hcA 23 _ (hat 22 _ hpo)
        have d0 : x.val.cell? ⟨b2, off2 + n * 25, none⟩ = some (.int .i64 ik) := hcB 0 _ rfl
        have d24 : x.val.cell? ⟨b2, off2 + n * 25 + 24, none⟩ = some (.int .i64 igo) := hcB 24 _ (Ins.at24 _)
        have d23 : x.val.cell? ⟨b2, off2 + n * 25 + 1 + 22, none⟩ = some (.int .i64 po) := hcB 23 _ (hat 22 _ hpo)
        have a23' : x.val.cell? ⟨b, off + n * 25 + 23, none⟩ = some (.int .i64 po) := a23
        have d23' : x.val.cell? ⟨b2, off2 + n * 25 + 23, none⟩ = some (.int .i64 po) := d23
        have hrA : Hid (∀ W, (∃ y : Ext x.val, W = y.val) → W.rangeAt b (off + n * 25 + 1) (bare t).cells) := by
          rintro W ⟨y, rfl⟩ j u h
          have := hcA (1 + j) u (hat j u h)
          rw [← Nat.add_assoc] at this
          exact (y.cell hb).trans this
        have hrB : Hid (∀ W, (∃ y : Ext x.val, W = y.val) → W.rangeAt b2 (off2 + n * 25 + 1) (bare t).cells) := by
          rintro W ⟨y, rfl⟩ j u h
          have := hcB (1 + j) u (hat j u h)
          rw [← Nat.add_assoc] at this
          exact (y.cell hb2).trans this
        have HKW := hide (wrap_next (Nat.lt_of_lt_of_le hlt hNc) hcm)
        have hlt9 := hide hlt
        have hlt' : (n : Int) < (N : Int) := by omega
        clear hcA hcB hat hpo hI hti hlt hnL
        as_aux_lemma =>
          go_wp2_with fail
          refine wp_region_ext (by kernel_rfl) (by kernel_rfl) ?_
          repeat (first | (refine wpQuiet_load_mid rfl 41 (.tmp 67) rfl b (off + n * 25 + 1) rfl (bare t).cells _ hrA.out Try.underlying41 rfl (by rw [St.cells_len]; kernel_rfl) ?_; try simp only [Act.put, List.setIfInBounds_toArray, List.set_cons_zero, List.set_cons_succ]) | (refine wpQuiet_load_mid rfl 41 (.tmp 72) rfl b2 (off2 + n * 25 + 1) rfl (bare t).cells _ hrB.out Try.underlying41 rfl (by rw [St.cells_len]; kernel_rfl) ?_; try simp only [Act.put, List.setIfInBounds_toArray, List.set_cons_zero, List.set_cons_succ]) | go_big_quiet_step ((first | (go_at_call 10; with_reducible exact (hSa.out _).ext) | (go_at_call 11; with_reducible exact (hNx.out _).ext) | (go_at_call 12; with_reducible exact (hNy.out _).ext))))
          refine wpQuiet_nil ?_
          intro _ hw'
          obtain ⟨y, hw''⟩ := hw'
          subst hw''
          have hX2 : Hid (Lies y.val 25 Ins.cells (some ⟨b, off, none⟩) L ∧ Lies y.val 25 Ins.cells (some ⟨b2, off2, none⟩) L) := ⟨hX.out.1.ext y, hX.out.2.ext y⟩
          obtain ⟨z', hz'⟩ := x.over y
          rw [hz'] at hX2 ⊢
          clear hz' hX a0 a23 a23' a24 d0 d23 d23' d24
          go_wp2_with fail
          go_roundw
          case rel => exact ⟨n + 1, (by first | rw [HKW.out] | simp), Nat.succ_le_of_lt hlt9.out, z', rfl, hX2⟩
          case measure =>
            first
              | (rw [HKW.out, intOf_int, intOf_int, Int.toNat_natCast, Int.toNat_natCast]; exact step_lt hlt9.out)
              | (rw [intOf_int, intOf_int]; have := hlt9.out; omega)
      · have hlt' : ¬ (n : Int) < (N : Int) := by omega
        as_aux_lemma =>
          go_wp2_with fail
          refine ((awake_any x.val).over x).mono ?_
          rintro _ _ ⟨y2, hy2, rfl, rfl⟩
          go_wp2_with fail
          go_ret
          exact ⟨rfl, hB1.out.trans (y2.below.mono hB1.out.size)⟩
end Go.Proofs.Ytlgnjbocdmbeiaa
