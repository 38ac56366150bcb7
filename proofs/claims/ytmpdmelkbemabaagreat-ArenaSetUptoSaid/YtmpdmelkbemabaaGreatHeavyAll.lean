/- The walk of demesneref10.Heavy: that it gives an answer. -/
import Derived.Test.YtmpdmelkbemabaaGreatUniq
import Derived.Deep.LoopGhost
set_option linter.unusedSimpArgs false
set_option linter.unusedVariables false
namespace Go.Proofs.YtmpdmelkbemabaaGreat
open Go.RowKit Go.Proofs.Grow

set_option maxHeartbeats 2000000 in
set_option maxRecDepth 100000 in
theorem heavy_any (w : World) (A : Option Addr) (c : Nat) (C : List Cl) (hl : Lies w 7 Cl.cells A C) (hlc : C.length ≤ c) (hcm : c ≤ maxLen) (hin : ∀ x ∈ C, ClIn w x) : SomeBool Tryz.prog 4 #[.slice A C.length c] w := by
  unfold SomeBool
  have HL := hide hl
  have HI := hide hin
  clear hl hin
  go_enter Tryz.func4, Tryz.ntmps4
  go_wp2_with fail
  go_loopg [3, 4] (C.length) (fun n v i W => ∃ (k : Nat) (q : Int) (x : Ext w), k ≤ C.length ∧ n = C.length - k ∧ i = .int .i64 k ∧ v = .int .i64 q ∧ W = x.val)
  case atStart => exact ⟨0, 0, Ext.here w, Nat.zero_le _, rfl, rfl, rfl, rfl⟩
  case round =>
    obtain ⟨k, q, x, hk, rfl, rfl, rfl, rfl⟩ := hrel
    by_cases hlt : k < C.length
    · obtain ⟨b, off, rfl, hb, hcell⟩ := HL.out k hlt
      have hlt' : (k : Int) < (C.length : Int) := by omega
      have hin1 := hide ((HI.out _ (List.getElem_mem hlt)).ext x)
      obtain ⟨cl, hcl⟩ : ∃ cl, cl = C[k] := ⟨_, rfl⟩
      rw [← hcl] at hin1 hcell
      have hrange : Hid (x.val.rangeAt b (off + k * 7) cl.cells) := fun j u h => (x.cell hb).trans (hcell j u h)
      have HKW := hide (wrap_next (Nat.lt_of_lt_of_le hlt hlc) hcm)
      have hlt9 := hide hlt
      clear hcell hcl hlt
      go_upto_region 6 with (first | (refine wpList_load_mid rfl 35 (.tmp 17) rfl b (off + k * 7) rfl cl.cells _ hrange.out Tryz.underlying35 rfl (by rw [Cl.cells_len]; kernel_rfl) ?_) | (refine wpList_store_new rfl 35 (.tmp 5) (.tmp 18) rfl _ _ _ _ rfl rfl rfl (by rw [List.size_toArray, Cl.cells_len]; kernel_rfl) rfl (fun u hu => Cl.cells_one cl u (by simpa using hu)) ?_))
      obtain ⟨w1, hw1⟩ : ∃ w1, w1 = x.val.alloc (.cells cl.cells.toArray 35) := ⟨_, rfl⟩
      rw [← hw1]
      have hsz : x.val.heap.size < w1.heap.size := by rw [hw1]; simp
      have hB1 : Hid (Below w.heap.size w w1) := by
        show Below _ _ _
        rw [hw1]
        exact x.below.alloc (x.le (Nat.le_refl _)) _
      have hin2 : Hid (ClIn w1 cl) := by
        obtain ⟨u, hu⟩ := Ext.of ((Below.refl x.val.heap.size x.val).alloc (Nat.le_refl _) (.cells cl.cells.toArray 35))
        rw [hw1, hu]
        exact hin1.out.ext u
      have a1 : w1.cell? ⟨x.val.heap.size, 1, none⟩ = some (.slice cl.pA cl.params.length cl.pc) := by rw [hw1, cell_of_row _ _ _ _ _ _ (heap_alloc_new x.val _)]; rfl
      have a3 : w1.cell? ⟨x.val.heap.size, 3, none⟩ = some (.slice cl.aA cl.above.length cl.ac) := by rw [hw1, cell_of_row _ _ _ _ _ _ (heap_alloc_new x.val _)]; rfl
      have a4 : w1.cell? ⟨x.val.heap.size, 4, none⟩ = some (.slice cl.fA cl.fields.length cl.fc) := by rw [hw1, cell_of_row _ _ _ _ _ _ (heap_alloc_new x.val _)]; rfl
      have a5 : w1.cell? ⟨x.val.heap.size, 5, none⟩ = some (.slice cl.mA cl.methods.length cl.mc) := by rw [hw1, cell_of_row _ _ _ _ _ _ (heap_alloc_new x.val _)]; rfl
      obtain ⟨g1, hg1⟩ : ∃ g1, x.val.heap.size = g1 := ⟨_, rfl⟩
      rw [hg1] at hsz a1 a3 a4 a5 ⊢
      clear hw1 hin1 hrange hg1
      go_upto_region 8 with fail
      iterate 5
        · go_ret
          exact ⟨⟨w1, hB1.out⟩, _, rfl, rfl⟩
      clear a1 a3 a4
      go_wp2_with fail
      go_loopg [3, 6] (cl.methods.length) (fun n v i W => ∃ (k2 : Nat) (q : Int) (y : Ext w1), k2 ≤ cl.methods.length ∧ n = cl.methods.length - k2 ∧ i = .int .i64 k2 ∧ v = .int .i64 q ∧ W = y.val)
      case atStart => exact ⟨0, q, Ext.here w1, Nat.zero_le _, rfl, rfl, rfl, rfl⟩
      case round =>
        obtain ⟨k2, q2, y, hk2, rfl, rfl, rfl, rfl⟩ := hrel
        by_cases hlt2 : k2 < cl.methods.length
        · obtain ⟨b2, off2, hmA, hb2, hcell⟩ := hin2.out.methods k2 hlt2
          have hlt2' : (k2 : Int) < (cl.methods.length : Int) := by omega
          rw [hmA] at a5
          have hme := hide ((hin2.out.each _ (List.getElem_mem hlt2)).ext y)
          have HKW2 := hide (wrap_next (Nat.lt_of_lt_of_le hlt2 hin2.out.mc) hin2.out.mm)
          obtain ⟨m, hmm⟩ : ∃ m, m = cl.methods[k2] := ⟨_, rfl⟩
          rw [← hmm] at hme hcell
          have hlt29 := hide hlt2
          have hrange2 : Hid (y.val.rangeAt b2 (off2 + k2 * 17) m.cells) := fun j u h => (y.cell hb2).trans (hcell j u h)
          obtain ⟨ML, hML⟩ : ∃ ML, cl.methods.length = ML := ⟨_, rfl⟩
          rw [hML] at a5 hlt2'
          have HML := hide hML
          clear hcell hmm hlt2 hmA hML
          go_upto_region 12 with (first | (refine wpList_load_mid rfl 43 (.tmp 56) rfl b2 (off2 + k2 * 17) rfl m.cells _ hrange2.out Tryz.underlying43 rfl (by rw [Me.cells_len]; kernel_rfl) ?_) | (refine wpList_store_new rfl 43 (.tmp 7) (.tmp 57) rfl _ _ _ _ rfl rfl rfl (by rw [List.size_toArray, Me.cells_len]; kernel_rfl) rfl (fun u hu => Me.cells_one m u (by simpa using hu)) ?_))
          obtain ⟨w2, hw2⟩ : ∃ w2, w2 = y.val.alloc (.cells m.cells.toArray 43) := ⟨_, rfl⟩
          rw [← hw2]
          have hsz2 : y.val.heap.size < w2.heap.size := by rw [hw2]; simp
          have hB2 : Hid (Below w1.heap.size w1 w2) := by
            show Below _ _ _
            rw [hw2]
            exact y.below.alloc (y.le (Nat.le_refl _)) _
          have hme2 : Hid (MeIn w2 m) := by
            obtain ⟨u, hu⟩ := Ext.of ((Below.refl y.val.heap.size y.val).alloc (Nat.le_refl _) (.cells m.cells.toArray 43))
            rw [hw2, hu]
            exact hme.out.ext u
          have hblk2 : Hid (w2.heap[y.val.heap.size]? = some (.cells m.cells.toArray 43 (0, 0))) := by rw [hw2]; exact heap_alloc_new y.val _
          have m13 : w2.cell? ⟨y.val.heap.size, 13, none⟩ = some (.slice m.pA m.params.length m.pc) := by rw [hw2, cell_of_row _ _ _ _ _ _ (heap_alloc_new y.val _)]; rfl
          have m14 : w2.cell? ⟨y.val.heap.size, 14, none⟩ = some (.slice m.lA m.locals.length m.lc) := by rw [hw2, cell_of_row _ _ _ _ _ _ (heap_alloc_new y.val _)]; rfl
          have m15 : w2.cell? ⟨y.val.heap.size, 15, none⟩ = some (.slice m.bA m.body.length m.bc) := by rw [hw2, cell_of_row _ _ _ _ _ _ (heap_alloc_new y.val _)]; rfl
          obtain ⟨g2, hg2⟩ : ∃ g2, y.val.heap.size = g2 := ⟨_, rfl⟩
          rw [hg2] at hsz2 m13 m14 m15 hblk2 ⊢
          clear hw2 hme hrange2 hg2
          have hf2 := hide (fun (z : Ext w2) => (show ∃ u : Ext w, z.val = u.val from by
            obtain ⟨u, hu⟩ := below_two hB2.out z
            obtain ⟨u', hu'⟩ := below_two hB1.out u
            exact ⟨u', hu.trans hu'⟩))
          as_aux_lemma =>
            go_upto_region 14 with (first | (refine wpList_load_row_g rfl 43 (.tmp 7) rfl g2 rfl 43 m.cells.toArray (0, 0) _ hblk2.out Tryz.underlying43 rfl (by rw [List.size_toArray, Me.cells_len]; kernel_rfl) ?_) | (go_at_call 9; refine ((uniques_any m w2 hme2.out).over (Ext.here w2)).mono ?_; rintro _ _ ⟨z2, u2, hz2, rfl, rfl⟩))
            iterate 3
              · go_ret
                obtain ⟨u, hu⟩ := hf2.out (Ext.here w2)
                exact ⟨u, _, rfl, hu⟩
            · go_ret
              obtain ⟨u, hu⟩ := hf2.out z2
              exact ⟨u, _, rfl, hu⟩
            clear m13 m14
            go_wp2_with fail
            go_loopg [3, 8] (m.body.length) (fun n v i W => ∃ (k3 : Nat) (q : Int) (z : Ext w2), k3 ≤ m.body.length ∧ n = m.body.length - k3 ∧ i = .int .i64 k3 ∧ v = .int .i64 q ∧ W = z.val)
            case atStart => exact ⟨0, _, z2, Nat.zero_le _, rfl, rfl, rfl, rfl⟩
            case round =>
              obtain ⟨k3, q3, z, hk3, rfl, rfl, rfl, rfl⟩ := hrel
              by_cases hlt3 : k3 < m.body.length
              · obtain ⟨b3, off3, hbA, hb3, hcell⟩ := hme2.out.body k3 hlt3
                have hlt3' : (k3 : Int) < (m.body.length : Int) := by omega
                rw [hbA] at m15
                have hst := hide ((hme2.out.stmts _ (List.getElem_mem hlt3)).ext z)
                have HKW3 := hide (wrap_next (Nat.lt_of_lt_of_le hlt3 hme2.out.bc) hme2.out.bm)
                obtain ⟨s, hss⟩ : ∃ s, s = m.body[k3] := ⟨_, rfl⟩
                rw [← hss] at hst hcell
                have hlt39 := hide hlt3
                have hrange3 : Hid (z.val.rangeAt b3 (off3 + k3 * 23) s.cells) := fun j u h => (z.cell hb3).trans (hcell j u h)
                obtain ⟨BL, hBL⟩ : ∃ BL, m.body.length = BL := ⟨_, rfl⟩
                rw [hBL] at m15 hlt3'
                have HBL := hide hBL
                clear hcell hss hlt3 hbA hBL
                as_aux_lemma =>
                  go_upto_region 19 with (refine wpList_load_mid_g rfl 50 (.tmp 92) rfl b3 (off3 + k3 * 23) rfl s.cells _ hrange3.out Tryz.underlying50 rfl (by rw [St.cells_len]; kernel_rfl) ?_)
                  · go_ret
                    obtain ⟨u, hu⟩ := hf2.out z
                    exact ⟨u, _, rfl, hu⟩
                  refine ((much_any s z.val 25 hst.out).over z).mono ?_
                  rintro _ _ ⟨z4, u4, hz4, rfl, rfl⟩
                  have hst4 : Hid (StIn z4.val s) := by obtain ⟨y', hy'⟩ := hz4; rw [← hy']; exact hst.out.ext y'
                  have hrange4 : Hid (z4.val.rangeAt b3 (off3 + k3 * 23) s.cells) := by
                    obtain ⟨y', hy'⟩ := hz4
                    intro j u h
                    rw [← hy']
                    exact (y'.cell (z.lt hb3)).trans (hrange3.out j u h)
                  cases u4
                  · go_upto_region 19 with fail
                    go_wp2_with (first | (refine wpList_load_mid rfl 50 (.tmp 100) rfl b3 (off3 + k3 * 23) rfl s.cells _ hrange4.out Tryz.underlying50 rfl (by rw [St.cells_len]; kernel_rfl) ?_) | (go_at_call 11; refine ((size_any s z4.val hst4.out).over z4).mono ?_; rintro _ _ ⟨z5, u5, hz5, rfl, rfl⟩))
                    go_roundg (m.body.length - (k3 + 1))
                    case measure => have := hlt39.out; omega
                    case rel => exact ⟨k3 + 1, _, z5, Nat.succ_le_of_lt hlt39.out, rfl, (by first | rw [HKW3.out] | simp), rfl, rfl⟩
                  · go_wp2_with fail
                    go_ret
                    obtain ⟨u, hu⟩ := hf2.out z4
                    exact ⟨u, _, rfl, hu⟩
              · have hlt3' : ¬ (k3 : Int) < (m.body.length : Int) := by omega
                as_aux_lemma =>
                  go_wp2_with fail
                  obtain ⟨u, hu⟩ := below_two hB2.out z
                  go_roundg (cl.methods.length - (k2 + 1))
                  case measure => have := hlt29.out; omega
                  case rel => exact ⟨k2 + 1, _, u, Nat.succ_le_of_lt hlt29.out, rfl, (by first | rw [HKW2.out] | simp), rfl, hu⟩
        · have hlt2' : ¬ (k2 : Int) < (cl.methods.length : Int) := by omega
          go_wp2_with fail
          obtain ⟨z, hz⟩ := below_two hB1.out y
          go_roundg (C.length - (k + 1))
          case measure => have := hlt9.out; omega
          case rel => exact ⟨k + 1, q2, z, Nat.succ_le_of_lt hlt9.out, rfl, (by first | rw [HKW.out] | simp), rfl, hz⟩
    · have hlt' : ¬ (k : Int) < (C.length : Int) := by omega
      go_wp2_with fail
      go_ret
      exact ⟨x, _, rfl, rfl⟩
end Go.Proofs.YtmpdmelkbemabaaGreat
