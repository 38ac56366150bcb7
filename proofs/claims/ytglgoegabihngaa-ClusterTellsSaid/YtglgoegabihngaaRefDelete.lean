/- The walk of demesneref37.Delete. -/
import Derived.Test.YtglgoegabihngaaDelete
set_option linter.unusedSimpArgs false
set_option linter.unusedVariables false
namespace Go.Proofs.Grow
open Go.RowKit
def outK (l : List Ce) (o : Int) (k : Nat) : List Ce := (l.zipIdx.take k).map (delF l o)
def nK (l : List Ce) (o : Int) (k : Nat) : Nat := ((l.zipIdx.take k).filter (delB l o)).length
theorem zip_take {l : List Ce} {k : Nat} (h : k < l.length) : l.zipIdx.take (k + 1) = l.zipIdx.take k ++ [(l[k], k)] := by
  rw [List.take_succ_eq_append_getElem (by simpa using h)]; simp
theorem outK_succ {l : List Ce} {o : Int} {k : Nat} (h : k < l.length) : outK l o (k + 1) = outK l o k ++ [delF l o (l[k], k)] := by
  unfold outK; rw [zip_take h, List.map_append]; rfl
theorem nK_succ {l : List Ce} {o : Int} {k : Nat} (h : k < l.length) : nK l o (k + 1) = nK l o k + if delB l o (l[k], k) then 1 else 0 := by
  unfold nK; rw [zip_take h, List.filter_append, List.length_append, List.filter_cons]
  split <;> rfl
theorem outK_len {l : List Ce} {o : Int} {k : Nat} (h : k ≤ l.length) : (outK l o k).length = k := by simp [outK]; omega
theorem nK_le (l : List Ce) (o : Int) (k : Nat) : nK l o k ≤ l.length := by
  unfold nK
  refine Nat.le_trans (List.length_filter_le _ _) ?_
  simp; omega
theorem outK_all (l : List Ce) (o : Int) : outK l o l.length = dels l o := by
  unfold outK; rw [List.take_of_length_le (by simp), delF_all]
theorem nK_all (l : List Ce) (o : Int) : nK l o l.length = delN l o := by
  unfold nK; rw [List.take_of_length_le (by simp), delB_all]
end Go.Proofs.Grow
namespace Go.Proofs.Ytglgoegabihngaa
open Go.RowKit Go.Proofs.Grow

set_option maxHeartbeats 4000000 in
set_option maxRecDepth 100000 in
theorem refDelete_any (w : World) (A : Option Addr) (c : Nat) (l : List Ce) (o : Int) (hl : l.length ≤ 100000000) (hs : Lies w 7 Ce.cells A l) : GivesOwnN Try.prog 23 #[.slice A l.length c, .int .i64 o] w (dels l o) (delN l o) := by
  unfold GivesOwnN
  obtain ⟨i0, z0, hi, hz0, hz1, hz2, hzs⟩ := info_row infoCe
  have HI := hide (fun (x : Ext w) (k : Int) => refInside_any x.val A c l k o (by omega) (hs.ext x))
  have HS := hide hs
  have HE := hide (outK_all l o)
  have HN := hide (nK_all l o)
  clear hs
  go_enter Try.func23, Try.ntmps23
  go_wp2_with fail
  go_loopw [6, 7, 8] (fun v s7 s8 wr => ∃ k : Nat, k ≤ l.length ∧ s8 = .int .i64 k ∧ s7 = .int .i64 (nK l o k) ∧ ∃ x : Ext w, wr = x.val ∧ Hid (Grow.Own x.val w.heap.size 47 7 Ce.cells v (outK l o k))) (fun _ _ s8 _ => l.length - (intOf s8).toNat)
  case atStart => exact ⟨0, Nat.zero_le _, rfl, rfl, Ext.here w, rfl, (show Grow.Own _ _ _ _ _ _ _ by simpa [outK] using Grow.Own.nil)⟩
  case round =>
    obtain ⟨k, hk, rfl, rfl, x, rfl, hown⟩ := hrel
    obtain ⟨A', c', rfl, _, _, _⟩ := hown.out.lies Ce.cells_len
    have hlen : (outK l o k).length = k := outK_len hk
    have hnk := nK_le l o k
    rw [hlen] at hown ⊢
    by_cases hlt : k < l.length
    · obtain ⟨b, off, rfl, hb, hcell⟩ := HS.out k hlt
      have hlt' : (k : Int) < (l.length : Int) := by omega
      have HT := hide (outK_succ (o := o) hlt)
      have HTN := hide (nK_succ (o := o) hlt)
      obtain ⟨e, he⟩ : ∃ e, e = l[k] := ⟨_, rfl⟩
      rw [← he] at hcell HT HTN
      have hrange : Hid (x.val.rangeAt b (off + k * 7) e.cells) := fun j u h => (x.cell hb).trans (hcell j u h)
      have hone := hide (Ce.cells_one e)
      have HK := hide hlt
      have Hlen := hide hlen
      obtain ⟨n, hn⟩ : ∃ n, n = nK l o k := ⟨_, rfl⟩
      rw [← hn] at hnk HTN ⊢
      clear hcell he hlt hlen hn
      go_upto_region 7 with (first | (refine wpList_load_mid rfl 47 (.tmp 18) rfl b (off + k * 7) rfl e.cells _ hrange.out Try.underlying47 rfl (by rw [Ce.cells_len]; kernel_rfl) ?_) | (refine wpList_store_new rfl 47 (.tmp 9) (.tmp 19) rfl _ _ _ _ rfl rfl rfl (by rw [List.size_toArray, Ce.cells_len]; kernel_rfl) rfl (fun u hu => hone.out u (by simpa using hu)) ?_))
      obtain ⟨g, hg⟩ : ∃ g, g = x.val.heap.size := ⟨_, rfl⟩
      obtain ⟨x1, hx1⟩ : ∃ x1 : Ext w, x.val.alloc (.cells e.cells.toArray 47) = x1.val := ⟨⟨_, x.below.alloc (x.le (Nat.le_refl _)) _⟩, rfl⟩
      have hrow : x1.val.heap[g]? = some (.cells e.cells.toArray 47 (0, 0)) := by
        rw [← hx1, hg]; exact heap_alloc_new _ _
      have hown1 : Hid (Grow.Own x1.val w.heap.size 47 7 Ce.cells (.slice A' k c') (outK l o k)) := by
        show Grow.Own _ _ _ _ _ _ _
        rw [← hx1]; exact hown.out.alloc _
      have hne : Hid ((Value.slice A' k c').ownBlock ≠ some g) := fun e => by have := (hown.out.from_ _ e).2; omega
      have hgw : w.heap.size ≤ g := by have := x.below.size; omega
      have hg1 := row_lt hrow
      have HR := hide (fun y : Ext x1.val => (y.below.block g hg1).trans hrow)
      rw [← hg, hx1]
      clear hx1 hg hown hrange hone hrow
      -- the tail, whatever the box holds
      have HApp : Hid (∀ (y : Ext w) (e' : Ce), Grow.Own y.val w.heap.size 47 7 Ce.cells (.slice A' k c') (outK l o k) → y.val.heap[g]? = some (.cells e'.cells.toArray 47 (0, 0)) → True) := fun _ _ _ _ => trivial
      by_cases ho : o = 0
      · have ho' : (o != 0) = false := by rw [ho]; rfl
        have HB : Hid (delB l o (e, k) = false) := by show _ = _; unfold delB; rw [ho']; rfl
        have HT2 : Hid (outK l o (k + 1) = outK l o k ++ [e]) := by show _ = _; rw [HT.out]; unfold delF; rw [HB.out]; rfl
        have HTN2 : Hid (nK l o (k + 1) = n) := by show _ = _; rw [HTN.out, HB.out]; rfl
        have hr4 := hide (HR.out (Ext.here _))
        clear ho HT HTN
        go_wp2_with (first | (refine wpList_load_row rfl 47 (.tmp 9) rfl g rfl 47 e.cells.toArray (0, 0) _ hr4.out Try.underlying47 rfl (by rw [List.size_toArray, Ce.cells_len]; kernel_rfl) ?_) | (refine wpList_lit_one rfl 22 47 (.tmp 38) rfl _ rfl i0 z0 7 Try.underlying22 hi hz0 hz1 (by rw [List.size_toArray, Ce.cells_len]) (by omega) (by omega) ?_) | (at_builtin; refine wpList_append_list (w1 := w) _ rfl (.tmp 37) (.tmp 39) 22 rfl 47 i0 z0 7 80 Try.underlying22 hi hz0 hz1 hz2 hzs (by omega) Ce.cells_len Ce.cells_one (x1.below.alloc (x1.le (Nat.le_refl _)) _) _ (outK l o k) rfl (hown1.out.alloc _) _ _ _ [e] rfl rfl (Lies.one _ e _ rfl) (by have := Hlen.out; simp [maxLen]; omega) (by have := Hlen.out; simp; omega) ?_; intro v' z hown2 hgr hat; have HO2 := hide hown2; clear hown2 hgr hat))
        go_roundw
        case rel => exact ⟨k + 1, HK.out, by go_num, by rw [HTN2.out], z, rfl, by show Grow.Own _ _ _ _ _ _ _; rw [HT2.out]; exact HO2.out⟩
        case measure => have := HK.out; simp [intOf]; omega
      · have ho' : (o != 0) = true := bne_iff_ne.2 ho
        have HQ := hide (HI.out x1 ((k : Int) + 1))
        obtain ⟨q, hq⟩ : ∃ q, inB l ((k : Int) + 1) o = q := ⟨_, rfl⟩
        rw [hq] at HQ
        have HB : Hid (delB l o (e, k) = (q && !e.dead)) := by show _ = _; unfold delB goes; rw [ho', hq]; rfl
        clear ho hq
        cases hqd : (q && !e.dead)
        · have HB2 := hide (HB.out.trans hqd)
          have HT2 : Hid (outK l o (k + 1) = outK l o k ++ [e]) := by show _ = _; rw [HT.out]; unfold delF; rw [HB2.out]; rfl
          have HTN2 : Hid (nK l o (k + 1) = n) := by show _ = _; rw [HTN.out, HB2.out]; rfl
          have hqd2 : q = false ∨ (q = true ∧ e.dead = true) := by cases q <;> simp_all
          clear hqd HT HTN HB
          rcases hqd2 with rfl | ⟨rfl, hd⟩
          all_goals
            first | have HD := hide hd; clear hd | have HD := hide trivial
            go_wp2_with (first | (go_at_call 13; refine (HQ.out.over (Ext.here x1.val)).mono ?_; rintro _ _ ⟨y, hy, rfl, rfl⟩; have hr4 := hide (HR.out y); have hown3 := hide (hown1.out.into hy); (first | (have a6 : y.val.cell? ⟨g, 6, none⟩ = some (.bool true) := (row_cell (HR.out y) (j := 6) (u := .bool true) (by rw [← HD.out]; rfl)).1) | skip); obtain ⟨yy, hyy⟩ : ∃ yy : Ext w, y.val = yy.val := ⟨x1.step y.below, rfl⟩; rw [hyy] at hr4 hown3; (first | rw [hyy] at a6 | skip); rw [hyy]; clear hyy) | (refine wpList_load_row rfl 47 (.tmp 9) rfl g rfl 47 e.cells.toArray (0, 0) _ hr4.out Try.underlying47 rfl (by rw [List.size_toArray, Ce.cells_len]; kernel_rfl) ?_) | (refine wpList_lit_one rfl 22 47 (.tmp 38) rfl _ rfl i0 z0 7 Try.underlying22 hi hz0 hz1 (by rw [List.size_toArray, Ce.cells_len]) (by omega) (by omega) ?_) | (at_builtin; refine wpList_append_list (w1 := w) _ rfl (.tmp 37) (.tmp 39) 22 rfl 47 i0 z0 7 80 Try.underlying22 hi hz0 hz1 hz2 hzs (by omega) Ce.cells_len Ce.cells_one (yy.below.alloc (yy.le (Nat.le_refl _)) _) _ (outK l o k) rfl (hown3.out.alloc _) _ _ _ [e] rfl rfl (Lies.one _ e _ rfl) (by have := Hlen.out; simp [maxLen]; omega) (by have := Hlen.out; simp; omega) ?_; intro v' z hown2 hgr hat; have HO2 := hide hown2; clear hown2 hgr hat))
            go_roundw
            case rel => exact ⟨k + 1, HK.out, by go_num, by rw [HTN2.out], z, rfl, by show Grow.Own _ _ _ _ _ _ _; rw [HT2.out]; exact HO2.out⟩
            case measure => have := HK.out; simp [intOf]; omega
        · have HB2 := hide (HB.out.trans hqd)
          have HT2 : Hid (outK l o (k + 1) = outK l o k ++ [kill e]) := by show _ = _; rw [HT.out]; unfold delF; rw [HB2.out]; rfl
          have HTN2 : Hid (nK l o (k + 1) = n + 1) := by show _ = _; rw [HTN.out, HB2.out]; rfl
          obtain ⟨rfl, hd⟩ : q = true ∧ e.dead = false := by cases q <;> simp_all
          have HD := hide hd
          clear hqd HT HTN HB hd
          go_upto_region 8 with (go_at_call 13; refine (HQ.out.over (Ext.here x1.val)).mono ?_; rintro _ _ ⟨y, hy, rfl, rfl⟩; have hr4 := hide (HR.out y); have hown3 := hide (hown1.out.into hy); have a6 := (row_cell (HR.out y) (j := 6) (u := .bool false) (by rw [← HD.out]; rfl)); obtain ⟨yy, hyy⟩ : ∃ yy : Ext w, y.val = yy.val := ⟨x1.step y.below, rfl⟩; rw [hyy] at hr4 hown3 a6; obtain ⟨a6, f6⟩ := a6; rw [hyy]; clear hyy)
          go_upto_region 9 with fail
          obtain ⟨y2, hy2⟩ : ∃ y2 : Ext w, yy.val.setCell ⟨g, 6, none⟩ (.bool true) = y2.val := ⟨⟨_, yy.below.setCell (p := ⟨g, 6, none⟩) hgw _⟩, rfl⟩
          have hO4 : Hid (Grow.Own y2.val w.heap.size 47 7 Ce.cells (.slice A' k c') (outK l o k)) := by
            show Grow.Own _ _ _ _ _ _ _
            rw [← hy2]; exact own_store2 hown3.out hne.out _
          have hR4 : Hid (y2.val.heap[g]? = some (.cells (kill e).cells.toArray 47 (0, 0))) := by
            show _ = _
            rw [← hy2, row_store hr4.out]; rfl
          rw [hy2]
          clear hy2 a6 f6 hr4 hown3
          go_wp2_with (first | (refine wpList_load_row rfl 47 (.tmp 9) rfl g rfl 47 (kill e).cells.toArray (0, 0) _ hR4.out Try.underlying47 rfl (by rw [List.size_toArray, Ce.cells_len]; kernel_rfl) ?_) | (refine wpList_lit_one rfl 22 47 (.tmp 38) rfl _ rfl i0 z0 7 Try.underlying22 hi hz0 hz1 (by rw [List.size_toArray, Ce.cells_len]) (by omega) (by omega) ?_) | (at_builtin; refine wpList_append_list (w1 := w) _ rfl (.tmp 37) (.tmp 39) 22 rfl 47 i0 z0 7 80 Try.underlying22 hi hz0 hz1 hz2 hzs (by omega) Ce.cells_len Ce.cells_one (y2.below.alloc (y2.le (Nat.le_refl _)) _) _ (outK l o k) rfl (hO4.out.alloc _) _ _ _ [kill e] rfl rfl (Lies.one _ (kill e) _ rfl) (by have := Hlen.out; simp [maxLen]; omega) (by have := Hlen.out; simp; omega) ?_; intro v' z hown2 hgr hat; have HO2 := hide hown2; clear hown2 hgr hat))
          go_roundw
          case rel => exact ⟨k + 1, HK.out, by go_num, by rw [HTN2.out]; go_num, z, rfl, by show Grow.Own _ _ _ _ _ _ _; rw [HT2.out]; exact HO2.out⟩
          case measure => have := HK.out; simp [intOf]; omega
    · obtain rfl : k = l.length := by omega
      have hlt' : ¬ (l.length : Int) < (l.length : Int) := by omega
      rw [HE.out] at hown
      rw [HN.out]
      clear HE HN
      go_wp2_with fail
      go_ret2
      exact ⟨x, .slice A' l.length c', rfl, rfl, hown.out⟩
end Go.Proofs.Ytglgoegabihngaa
