/- The walk of demesneref25.Check. -/
import Derived.Test.YtfebpmaaaiaccaaCheckA
set_option linter.unusedSimpArgs false
set_option linter.unusedVariables false
namespace Go.Proofs.Ytfebpmaaaiaccaa
open Go.RowKit Go.Proofs.Grow

set_option maxHeartbeats 4000000 in
set_option maxRecDepth 100000 in
theorem refCheck_any (w : World) (A : Option Addr) (c : Nat) (C : List Cl) (m : Int) (hlc : C.length ≤ c) (hcm : c ≤ maxLen) (hs : Lies w 7 Cl.cells A C)
    (HTy : ∀ (W : World) (hb : Below w.heap.size w W) (B : Option Addr) (d : Nat) (cl : Cl), cl ∈ C → Lies W 7 Cl.cells B [cl] → 1 ≤ d → GivesNew Try.prog 45 #[.slice B 1 d] W 15 Nt.cells (rnP [cl])) :
    Gives Try.prog 29 #[.slice A C.length c, .int .i64 m] w (.agg #[.int .i64 (chk C m C).1, .int .i64 (chk C m C).2]) := by
  refine Gives.mk ?_
  have hl63 : C.length ≤ 9223372036854775807 := by unfold maxLen at hcm; omega
  have Hl : Hid (∀ (W : World) (hb : Below w.heap.size w W) (t : Ty), Gives Try.prog 20 #[.slice A C.length c, .agg t.cells.toArray, .int .i64 m] W (.int .i64 (typT C t m))) := fun W hb t => refTyp_any W A c C t m hl63 (hs.below hb)
  have Hc : Hid (∀ (W : World) (cl : Cl), Gives Try.prog 18 #[.agg cl.cells.toArray, .int .i64 m] W (.int .i64 (clsT cl m))) := fun W cl => refClass_any cl m W
  have HS := hide hs
  have HT := hide HTy
  have HL := hide (And.intro hlc hcm)
  clear hs HTy hlc hcm
  obtain ⟨r, hr⟩ : ∃ r, r = chk C m C := ⟨_, rfl⟩
  rw [← hr]
  have HR := hide hr
  clear hr
  go_enter Try.func29, Try.ntmps29
  go_wp2_with fail
  obtain ⟨w1, hw1⟩ : ∃ w1, w1 = w.alloc (.cells #[.int .i64 0, .int .i64 0] 56) := ⟨_, rfl⟩
  have hsz1 : w1.heap.size = w.heap.size + 1 := by rw [hw1]; simp
  have hB1 : Hid (Below w.heap.size w w1) := by show Below _ _ _; rw [hw1]; exact (Below.refl _ _).alloc (Nat.le_refl _) _
  have hrow : Hid (w1.heap[w.heap.size]? = some (.cells #[.int .i64 0, .int .i64 0] 56 (0, 0))) := by rw [hw1]; exact heap_alloc_new w _
  rw [← hw1]
  clear hw1
  go_loopw [5] (fun s5 wr => ∃ k : Nat, s5 = .int .i64 k ∧ k ≤ C.length ∧ ∃ x : Ext w1, wr = x.val ∧ Hid (chk C m C = chk C m (C.drop k))) (fun s5 _ => C.length - (intOf s5).toNat)
  case atStart => exact ⟨0, rfl, Nat.zero_le _, Ext.here w1, rfl, rfl⟩
  case round =>
    obtain ⟨k, rfl, hk, x, rfl, hch⟩ := hrel
    by_cases hlt : k < C.length
    · obtain ⟨b, off, hA, hb, hcell⟩ := HS.out k hlt
      have hlt' : (k : Int) < (C.length : Int) := by omega
      have hmem := List.getElem_mem hlt
      have hat := chk_at hlt hch.out
      have honly := hide (fun (W : World) (hb : Below w.heap.size w W) => Lies.only (c := c) (HS.out.below hb) hlt HL.out.1)
      obtain ⟨cl, hcl⟩ : ∃ cl, cl = C[k] := ⟨_, rfl⟩
      rw [← hcl] at hcell hmem hat honly
      have hyw : Hid (∀ z : Ext w1, Below w.heap.size w z.val) := fun z => hB1.out.trans (z.below.mono (by omega))
      have hrgs : Hid (∀ z : Ext w1, z.val.rangeAt b (off + k * 7) cl.cells) := fun z j u h => ((World.cell?_of_block ((hyw.out z).block _ hb))).trans (hcell j u h)
      have hrg := hide (hrgs.out x)
      have c6 : ∀ z : Ext w1, z.val.cell? ⟨b, off + k * 7 + 6, none⟩ = some (.int .i64 cl.pos) := fun z => hrgs.out z 6 _ rfl
      have HAt := hide hat
      have HM := hide hmem
      have hlt9 := hide hlt
      subst hA
      clear hcell hcl hmem hat hlt hch
      obtain ⟨e, he⟩ : ∃ e, clsT cl m = e := ⟨_, rfl⟩
      have Hc1 := hide (fun W => Hc.out W cl)
      rw [he] at Hc1
      have HE := hide he
      clear he
      go_upto_region 5 with (first | (refine wpList_load_mid rfl 45 (.tmp 17) rfl b (off + k * 7) rfl cl.cells _ hrg.out Try.underlying45 rfl (by rw [Cl.cells_len]; kernel_rfl) ?_) | (go_at_call 18; refine ((Hc1.out _).over x).mono ?_; rintro _ _ ⟨y, _, rfl, rfl⟩))
      have hrw : y.val.heap[w.heap.size]? = some (.cells #[.int .i64 0, .int .i64 0] 56 (0, 0)) := (y.below.block _ (by omega)).trans hrow.out
      have hrw9 := hide hrw
      clear hrg
      rcases Bool.eq_false_or_eq_true (e != 0) with he0 | he0
      · have hres : Hid (r = (e, cl.pos)) := by
          have h1 : clsT cl m ≠ 0 := by rw [HE.out]; simpa using he0
          show _ = _
          rw [HR.out, HAt.out]
          have h2 : chkC C m cl = (e, cl.pos) := by unfold chkC; rw [if_pos h1, HE.out]
          rw [h2, if_pos (by simpa using he0)]
        obtain ⟨g0, f0⟩ := row_cell (cs := [.int .i64 0, .int .i64 0]) hrw (j := 0) rfl
        obtain ⟨g1, f1⟩ := row_cell (cs := [.int .i64 0, .int .i64 0]) hrw (j := 1) rfl
        clear hrw
        obtain ⟨q0, q1, q2⟩ := fault_end hB1.out hsz1 y hrw9.out e cl.pos
        have q29 := hide q2
        clear q2
        go_wp2_with fail
        refine bodyPost_ret (v := .agg #[.int .i64 e, .int .i64 cl.pos]) ?_ ?_ ?_
        · simp [results, Try.f29, go_sem, q0, q1]
        · rfl
        · exact ⟨by rw [hres.out], q29.out⟩
      · clear hrw
        have he1 : Hid (e = 0) := by show e = 0; simpa using he0
        have hk1 : (k : Int) + 1 ≤ c := by have := hlt9.out; have := HL.out.1; omega
        have hTy := HT.out y.val (hyw.out y) (some ⟨b, off + k * 7, none⟩) (c - k) cl HM.out (by
          have h := honly.out y.val (hyw.out y)
          rw [if_neg (by omega)] at h
          have e2 : (some ⟨b, off, none⟩ : Option Addr).map (·.add (k * 7)) = some ⟨b, off + k * 7, none⟩ := by
            by_cases h0 : k * 7 = 0 <;> simp [Addr.add, h0]
          rw [e2] at h
          exact h) (by omega)
        obtain ⟨N, hN⟩ : ∃ N, N = rnP [cl] := ⟨_, rfl⟩
        rw [← hN] at hTy
        have HN := hide hN
        have HTy := hide (hTy.over y)
        clear hTy hN
        go_upto_region 8 with (go_at_call 45; refine HTy.out.mono ?_; clear HTy; rintro _ _ ⟨z0, A9, c9, hz0, rfl, rfl, h1, h2, hL9, _⟩)
        have HL9 := hide hL9
        have hn63 : N.length ≤ 9223372036854775807 := by unfold maxLen at h2; omega
        clear hL9 h1 h2 hz0
        go_wp2_with fail
        have he9 := hide he0
        clear he0
        go_loopw [6, 8] (fun s6 s8 wr => ∃ j : Nat, s8 = .int .i64 j ∧ j ≤ N.length ∧ ∃ z : Ext w1, wr = z.val ∧ Hid (Lies z.val 15 Nt.cells A9 N) ∧ Hid (chkN C m N = chkN C m (N.drop j))) (fun _ s8 _ => N.length - (intOf s8).toNat)
        case atStart => exact ⟨0, rfl, Nat.zero_le _, z0, rfl, HL9, rfl⟩
        case round =>
          obtain ⟨j, rfl, hj, z, rfl, hLz, hcj⟩ := hrel
          by_cases hltj : j < N.length
          · obtain ⟨nb, noff, hA8, hnb, hnc⟩ := hLz.out j hltj
            have hltj' : (j : Int) < (N.length : Int) := by omega
            have hatj := chkN_at hltj hcj.out
            obtain ⟨nt, hnt⟩ : ∃ nt, nt = N[j] := ⟨_, rfl⟩
            rw [← hnt] at hnc hatj
            have hrt : Hid (z.val.rangeAt nb (noff + j * 15 + 3) nt.ty.cells) := fun i u h => by
              have h5 := hnc (3 + i) u (by
                rw [Nat.add_comm]
                show (Value.int .i64 nt.c :: .int .i64 nt.m :: .int .i64 nt.v :: (nt.ty.cells ++ [.int .i64 nt.p]))[i + 3]? = some u
                rw [List.getElem?_cons_succ, List.getElem?_cons_succ, List.getElem?_cons_succ, List.getElem?_append_left (List.getElem?_eq_some_iff.1 h).1]
                exact h)
              rw [Nat.add_assoc]
              exact h5
            have hp : Hid (z.val.cell? ⟨nb, noff + j * 15 + 14, none⟩ = some (.int .i64 nt.p)) := hnc 14 _ rfl
            have HAj := hide hatj
            have hltj9 := hide hltj
            obtain ⟨et, het⟩ : ∃ et, typT C nt.ty m = et := ⟨_, rfl⟩
            have Hl1 : Hid (Gives Try.prog 20 #[.slice (some ⟨b, off, none⟩) C.length c, .agg nt.ty.cells.toArray, .int .i64 m] z.val (.int .i64 et)) := by show Gives _ _ _ _ _; rw [← het]; exact Hl.out z.val (hyw.out z) nt.ty
            have HEt := hide het
            have hnb9 := hide hnb
            subst hA8
            clear hnc hnt hatj hltj hcj het hnb
            go_upto_region 12 with (first | (refine wpList_load_mid rfl 35 (.tmp 46) rfl nb (noff + j * 15 + 3) rfl nt.ty.cells _ hrt.out Try.underlying35 rfl (by rw [Ty.cells_len]; kernel_rfl) ?_) | (go_at_call 20; refine (Hl1.out.over z).mono ?_; rintro _ _ ⟨y2, ⟨y', hy'⟩, rfl, rfl⟩))
            have c14 : y2.val.cell? ⟨nb, noff + j * 15 + 14, none⟩ = some (.int .i64 nt.p) := by rw [← hy', y'.cell hnb9.out]; exact hp.out
            have hLy : Hid (Lies y2.val 15 Nt.cells (some ⟨nb, noff, none⟩) N) := by show Lies _ _ _ _ _; rw [← hy']; exact hLz.out.ext y'
            have hrw : y2.val.heap[w.heap.size]? = some (.cells #[.int .i64 0, .int .i64 0] 56 (0, 0)) := (y2.below.block _ (by omega)).trans hrow.out
            have hrw8 := hide hrw
            clear hy' hLz hrt Hl1 hp
            rcases Bool.eq_false_or_eq_true (et != 0) with hx0 | hx0
            · have hres : Hid (r = (et, nt.p)) := by
                have h1 : typT C nt.ty m ≠ 0 := by rw [HEt.out]; simpa using hx0
                have h2 : chkC C m cl = (et, nt.p) := by
                  unfold chkC
                  rw [HE.out, he1.out, if_neg (by simp), ← HN.out, HAj.out, if_pos h1, HEt.out]
                show _ = _
                rw [HR.out, HAt.out, h2, if_pos (by simpa using hx0)]
              obtain ⟨g0, f0⟩ := row_cell (cs := [.int .i64 0, .int .i64 0]) hrw (j := 0) rfl
              obtain ⟨g1, f1⟩ := row_cell (cs := [.int .i64 0, .int .i64 0]) hrw (j := 1) rfl
              obtain ⟨q0, q1, q2⟩ := fault_end hB1.out hsz1 y2 hrw8.out et nt.p
              have q29 := hide q2
              clear q2 hrw
              go_wp2_with fail
              refine bodyPost_ret (v := .agg #[.int .i64 et, .int .i64 nt.p]) ?_ ?_ ?_
              · simp [results, Try.f29, go_sem, q0, q1]
              · rfl
              · exact ⟨by rw [hres.out], q29.out⟩
            · clear hrw
              have hnx : Hid (chkN C m N = chkN C m (N.drop (j + 1))) := by
                show _ = _
                rw [HAj.out, if_neg (by rw [HEt.out]; simpa using hx0)]
              go_wp2_with fail
              go_roundw
              case rel => exact ⟨j + 1, by go_num, Nat.succ_le_of_lt hltj9.out, y2, rfl, hLy, hnx⟩
              case measure => have := hltj9.out; simp [intOf]; omega
          · obtain rfl : j = N.length := Nat.le_antisymm hj (Nat.le_of_not_lt hltj)
            have hltj' : ¬ (N.length : Int) < (N.length : Int) := by omega
            have hnx : Hid (chk C m C = chk C m (C.drop (k + 1))) := by
              show _ = _
              have h1 : chkN C m N = (0, 0) := by
                have := hcj.out
                rwa [List.drop_length] at this
              have h2 : chkC C m cl = (0, 0) := by
                unfold chkC
                rw [HE.out, he1.out, if_neg (by simp), ← HN.out, h1]
              rw [HAt.out, h2, if_neg (by simp)]
            clear hcj
            go_wp2_with fail
            go_roundw
            case rel => exact ⟨k + 1, by go_num, Nat.succ_le_of_lt hlt9.out, z, rfl, hnx⟩
            case measure => have := hlt9.out; simp [intOf]; omega
    · obtain rfl : k = C.length := Nat.le_antisymm hk (Nat.le_of_not_lt hlt)
      have hlt' : ¬ (C.length : Int) < (C.length : Int) := by omega
      have hres : Hid (r = (0, 0)) := by
        show _ = _
        rw [HR.out, hch.out, List.drop_length]
        rfl
      have hrw : x.val.heap[w.heap.size]? = some (.cells #[.int .i64 0, .int .i64 0] 56 (0, 0)) := (x.below.block _ (by omega)).trans hrow.out
      obtain ⟨g0, f0⟩ := row_cell (cs := [.int .i64 0, .int .i64 0]) hrw (j := 0) rfl
      obtain ⟨g1, f1⟩ := row_cell (cs := [.int .i64 0, .int .i64 0]) hrw (j := 1) rfl
      obtain ⟨q0, q1, q2⟩ := fault_end hB1.out hsz1 x hrw 0 0
      have q29 := hide q2
      clear q2 hrw hch
      go_wp2_with fail
      refine bodyPost_ret (v := .agg #[.int .i64 0, .int .i64 0]) ?_ ?_ ?_
      · simp [results, Try.f29, go_sem, q0, q1]
      · rfl
      · exact ⟨by rw [hres.out], q29.out⟩
end Go.Proofs.Ytfebpmaaaiaccaa
