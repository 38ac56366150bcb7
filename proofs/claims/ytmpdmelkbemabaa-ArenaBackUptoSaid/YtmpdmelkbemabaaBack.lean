/- The walk of the law ArenaBack. -/
import Derived.Test.YtmpdmelkbemabaaBack2
import Derived.Laws.CopyOwn
set_option linter.unusedSimpArgs false
set_option linter.unusedVariables false
namespace Go.Proofs.Grow
open Go.RowKit
mutual
theorem wt_fw_st : ∀ s : St, s.wt ≤ s.fw
  | .mk k x y name ty e aA ac args bA bc body eA ec els pos => by
    have h1 := wt_fw_sts body
    have h2 := wt_fw_sts els
    rw [St.wt, St.fw]
    omega
theorem wt_fw_sts : ∀ l : List St, wtAll l ≤ stFw l
  | [] => by simp [wtAll, stFw]
  | s :: l => by
    have h1 := wt_fw_st s
    have h2 := wt_fw_sts l
    rw [wtAll, stFw]
    omega
end
theorem sum_le {α : Type} (f g : α → Nat) (h : ∀ a, f a ≤ g a) (l : List α) : (l.map f).sum ≤ (l.map g).sum := by
  induction l with
  | nil => simp
  | cons a l ih => rw [List.map_cons, List.map_cons, List.sum_cons, List.sum_cons]; have := h a; omega
theorem Me.wt_fw (m : Me) : m.wt ≤ m.fw := by
  have := wt_fw_sts m.body
  unfold Me.wt Me.fw
  omega
theorem Cl.wt_fw (c : Cl) : c.wt ≤ c.fw := by
  have := sum_le Me.wt Me.fw Me.wt_fw c.methods
  unfold Cl.wt Cl.fw
  omega
end Go.Proofs.Grow
namespace Go.Proofs.Ytmpdmelkbemabaa
open Go.RowKit Go.Proofs.Grow

theorem note_ty (x : Sl) : x.note.ty = x.ty := rfl
/-- The types in a program's notes are its slots'. -/
theorem rnP_ty {W : World} {C : List Cl} (hin : ∀ cl ∈ C, ClIn W cl) (hwt : (C.map Cl.wt).sum ≤ 1048576) : (rnP C).map Nt.ty = ownL C ∧ (slP C).length = (rnP C).length := by
  have hm : ∀ cl ∈ C, ∀ m ∈ cl.methods, m.params.length + m.locals.length ≤ maxLen := fun cl hcl m hm => by
    have h1 := wt_me hm
    have h2 := wt_mem hcl
    unfold Me.wt at h1
    unfold maxLen
    omega
  have hn := slP_note C (fun cl h => Nat.le_trans (hin cl h).fc (hin cl h).fm) hm
  refine ⟨?_, ?_⟩
  · rw [← hn, List.map_map]; rfl
  · rw [← hn, List.length_map]

set_option maxHeartbeats 40000000 in
set_option maxRecDepth 100000 in
theorem lawBack_any (w : World) (A : Option Addr) (c : Nat) (C : List Cl) (hlc : C.length ≤ c) (hcm : c ≤ maxLen) (hs : Lies w 7 Cl.cells A C) (hin : ∀ cl ∈ C, ClIn w cl) (hfw : (C.map Cl.fw).sum ≤ 1048576)
    (AL : Option Addr) (cL : Nat) (l : List Ty) (hl : Lies w 11 Ty.cells AL l) (hlm : l.length ≤ maxLen) (hT : TysOk l) (hTC : TysOk (ownL C)) :
    Gives Try.prog 4 #[.slice A C.length c, .slice AL l.length cL] w (.bool true) := by
  refine Gives.mk ?_
  have HH := hide (heavy_any w A c C hs hlc hcm hin)
  have hwt : (C.map Cl.wt).sum ≤ 1048576 := Nat.le_trans (sum_le _ _ Cl.wt_fw C) hfw
  obtain ⟨hTy, hTl⟩ := rnP_ty hin hwt
  have hTlen : (rnP C).length ≤ 1048576 := Nat.le_trans (rnP_len C) hwt
  have HIN := hide hin
  have HS := hide hs
  have HLL := hide hl
  have HTO := hide (Go.Proofs.Ytmpdmelkbemabaa.TysOk.oth hTC hT)
  have HTC := hide hTC
  have HFW := hide hfw
  have HWT := hide hwt
  have H1 : Hid (∀ W, Below w.heap.size w W → GivesNew Try.prog 7 #[.slice A C.length c] W 15 Nt.cells (rnP C)) := fun W hW => types_w W A c C (fun cl hcl => by
    obtain ⟨x, rfl⟩ := Ext.of hW
    exact (HIN.out cl hcl).ext x) (HS.out.below hW) hlc hcm HWT.out
  unfold GivesNew at H1
  obtain ⟨T, hT9⟩ : ∃ T, T = rnP C := ⟨_, rfl⟩
  rw [← hT9] at H1 hTlen hTl hTy
  have HTY := hide hTy
  have HTN := hide hTl
  clear hin hs hl hT hTC hfw hwt hTy hTl hT9
  go_enter Try.func4, Try.ntmps4
  go_upto_region 3 with (go_at_call 5; refine (HH.out.over (Ext.here w)).mono ?_; rintro _ _ ⟨y, u, hy, rfl, rfl⟩; cases u)
  rotate_left
  · refine ((awake12_any y.val).over y).mono ?_
    rintro _ _ ⟨y2, hy2, rfl, rfl⟩
    go_wp2_with fail
    go_ret
    exact ⟨rfl, y2.below⟩
  have hB0 : Hid (Below w.heap.size w y.val) := y.below
  generalize y.val = w0 at hB0 ⊢
  clear HH hy y
  go_upto_region 5 with (go_at_call 7; ((with_reducible refine (H1.out _ hB0.out).mono ?_); rintro _ _ ⟨y1, A1, c1, rfl, rfl, k1, k2, k3, k4⟩; have hL1 := hide k3; have hB1 := hide (hB0.out.trans (y1.below.mono hB0.out.size)); clear k1 k2 k3 k4))
  generalize y1.val = w1 at hL1 hB1 ⊢
  clear hB0 y1 w0 H1
  have hLl : Hid (Lies w1 11 Ty.cells AL l) := HLL.out.below hB1.out
  obtain ⟨i0, z0, hi0, hz0, hz1, hz2, hzs⟩ := info_row infoTyB
  go_wp2_with fail
  go_loopw [6, 7, 8] (fun u v i wr => ∃ n : Nat, i = .int .i64 n ∧ n ≤ T.length ∧ ∃ x : Ext w1, wr = x.val ∧ Hid (Grow.Own x.val w1.heap.size 37 11 Ty.cells u ((ownL C).take n)) ∧ Hid (Grow.Own x.val w1.heap.size 37 11 Ty.cells v ((othL C l).take n)) ∧ Apart2 u v) (fun _ _ i _ => T.length - (intOf i).toNat)
  case atStart => exact ⟨0, rfl, Nat.zero_le _, Ext.here w1, rfl, (show Grow.Own _ _ _ _ _ _ _ by rw [List.take_zero]; exact Own.nil), (show Grow.Own _ _ _ _ _ _ _ by rw [List.take_zero]; exact Own.nil), fun g hg => by cases hg⟩
  case round =>
    obtain ⟨n, rfl, hn2, x, rfl, hOu, hOv, hAp⟩ := hrel
    by_cases hlt : n < T.length
    · obtain ⟨b, off, hA1, hb, hcell⟩ := hL1.out n hlt
      have hlt' : (n : Int) < (T.length : Int) := by omega
      obtain ⟨e, he⟩ : ∃ e, e = T[n] := ⟨_, rfl⟩
      rw [← he] at hcell
      have hto : (ownL C)[n]? = some e.ty := by rw [← HTY.out, he]; simp [hlt]
      have htt : (othL C l)[n]? = some (oth l n e.ty) := by unfold othL; rw [List.getElem?_mapIdx, hto]; rfl
      have hT1 : Hid ((ownL C).take (n + 1) = (ownL C).take n ++ [e.ty]) := by show _ = _; rw [List.take_add_one, hto]; rfl
      have hT2 : Hid ((othL C l).take (n + 1) = (othL C l).take n ++ [oth l n e.ty]) := by show _ = _; rw [List.take_add_one, htt]; rfl
      have hn1 : ((ownL C).take n).length ≤ 1048576 := Nat.le_trans (List.length_take_le _ _) (by omega)
      have hn3 : ((othL C l).take n).length ≤ 1048576 := Nat.le_trans (List.length_take_le _ _) (by omega)
      obtain ⟨P1, hP1⟩ : ∃ P, P = (ownL C).take n := ⟨_, rfl⟩
      obtain ⟨P2, hP2⟩ : ∃ P, P = (othL C l).take n := ⟨_, rfl⟩
      rw [← hP1] at hOu hT1 hn1
      rw [← hP2] at hOv hT2 hn3
      obtain ⟨t, ht⟩ : ∃ t, t = e.ty := ⟨_, rfl⟩
      rw [← ht] at hT1 hT2
      have hr : x.val.rangeAt b (off + n * 15 + 3) t.cells := by
        intro j u hu
        have h := hcell (3 + j) u (by
          rw [ht] at hu
          unfold Nt.cells
          have h1 : j < e.ty.cells.length := (List.getElem?_eq_some_iff.1 hu).1
          rw [show 3 + j = j + 3 by omega]
          simp only [List.getElem?_cons_succ]
          rw [List.getElem?_append_left h1]
          exact hu)
        rw [← Nat.add_assoc] at h
        exact (x.cell hb).trans h
      have HR := hide hr
      subst hA1
      clear hcell he hto htt hP1 hP2 ht hr
      have hlt9 := hide hlt
      have HKW : Hid (wrap64 ((n : Int) + 1) = ((n + 1 : Nat) : Int)) := by
        show wrap64 _ = _
        unfold wrap64
        omega
      clear hlt
      go_upto_region 9 with (first | (refine wpList_load_mid rfl 37 (.tmp 34) rfl b (off + n * 15 + 3) rfl t.cells _ HR.out Try.underlying37 rfl (by rw [Ty.cells_len]; kernel_rfl) ?_) | (refine wpList_store_new rfl 37 (.tmp 9) (.tmp 35) rfl _ _ t.cells.toArray _ rfl rfl rfl (by rw [List.size_toArray, Ty.cells_len]; kernel_rfl) rfl (by simpa using Ty.cells_one t) ?_))
      obtain ⟨g9, hg9⟩ : ∃ g, g = x.val.heap.size := ⟨_, rfl⟩
      obtain ⟨Z, hZ⟩ : ∃ Z : Ext w1, Z.val = x.val.alloc (.cells t.cells.toArray 37) := ⟨⟨_, x.below.alloc x.below.size _⟩, rfl⟩
      have hr9 : Hid (Z.val.heap[g9]? = some (.cells t.cells.toArray 37 (0, 0))) := by show _ = _; rw [hZ, hg9]; exact heap_alloc_new _ _
      have hU9 : Hid (∀ g, u6.ownBlock = some g → g < g9) := fun g h => by rw [hg9]; exact (hOu.out.from_ g h).2
      have hV9 : Hid (∀ g, u7.ownBlock = some g → g < g9) := fun g h => by rw [hg9]; exact (hOv.out.from_ g h).2
      have hW9 : Hid (w1.heap.size ≤ g9) := by show _ ≤ _; rw [hg9]; exact x.below.size
      have hs9 : Hid (g9 < Z.val.heap.size) := by show _ < _; rw [hZ, hg9]; simp
      have hU : Hid (Grow.Own Z.val w1.heap.size 37 11 Ty.cells u6 P1) := by show Grow.Own _ _ _ _ _ _ _; rw [hZ]; exact hOu.out.alloc _
      have hV : Hid (Grow.Own Z.val w1.heap.size 37 11 Ty.cells u7 P2) := by show Grow.Own _ _ _ _ _ _ _; rw [hZ]; exact hOv.out.alloc _
      rw [← hZ, ← hg9]
      clear hOu hOv hZ hg9 HR x
      have hm1 : P1.length + 1 ≤ maxLen ∧ (P1.length + 1) * 96 ≤ 140737488355328 := by unfold maxLen; omega
      have hm2 : P2.length + 1 ≤ maxLen ∧ (P2.length + 1) * 96 ≤ 140737488355328 := by unfold maxLen; omega
      have hm1' := hide hm1
      have hm2' := hide hm2
      clear hm1 hm2
      go_upto_region 10 with (first | (refine wpList_load_row rfl 37 (.tmp 9) rfl g9 rfl 37 t.cells.toArray (0, 0) _ hr9.out Try.underlying37 rfl (by rw [List.size_toArray, Ty.cells_len]; kernel_rfl) ?_) | (refine wpList_lit_one rfl 51 37 (.tmp 37) rfl t.cells.toArray rfl i0 z0 11 Try.underlying51 hi0 hz0 hz1 (by rw [List.size_toArray, Ty.cells_len]) (by decide) (by decide) ?_) | (at_builtin; refine wpList_append_list (w1 := w1) _ rfl (.tmp 36) (.tmp 38) 51 rfl 37 i0 z0 11 96 Try.underlying51 hi0 hz0 hz1 hz2 hzs (by decide) Ty.cells_len Ty.cells_one (Z.below.alloc Z.below.size _) u6 P1 rfl (hU.out.alloc _) _ 1 1 [t] rfl rfl (Lies.one Z.val t _ rfl) hm1'.out.1 hm1'.out.2 ?_; intro v' y2 hown' hgr hat; have hU2 := hide hown'; have hG2 := hide hgr; have hA2 := hide hat; clear hown' hgr hat))
      have hA2b : v'.ownBlock = u6.ownBlock ∨ v'.ownBlock = some (Z.val.heap.size + 1) := by
        have := hA2.out
        simpa using this
      have hr2 : Hid (y2.val.heap[g9]? = some (.cells t.cells.toArray 37 (0, 0))) := by
        show _ = _
        rw [hG2.out.block g9 (by have := hs9.out; simp; omega) (fun e => by have := hU9.out g9 e.symm; omega)]
        exact (Below.heap_alloc _ _ g9 hs9.out).trans hr9.out
      have hV2 : Hid (Grow.Own y2.val w1.heap.size 37 11 Ty.cells u7 P2) := (hV.out.alloc _).kept' hG2.out fun g hg e => hAp g e hg
      have hAp2 : Apart2 v' u7 := hAp.grow hA2b fun g hg => by have := hV9.out g hg; have := hs9.out; omega
      have hU9b : Hid (∀ g, v'.ownBlock = some g → g ≠ g9) := fun g hg e => by
        rcases hA2b with h | h
        · rw [h] at hg; have := hU9.out g hg; omega
        · rw [h] at hg
          have := hs9.out
          have e2 : Z.val.heap.size + 1 = g := by simpa using hg
          omega
      have hs2 : Hid (g9 < y2.val.heap.size) := row_lt hr2.out
      clear hr9 hU hV hG2 hA2 hA2b hAp hs9 hU9 hm1'
      have hl2 := hide (hLl.out.ext y2)
      by_cases hll : n < l.length
      · have hll' : (n : Int) < (l.length : Int) := by omega
        obtain ⟨bl, ol, rfl, hbl, hcl⟩ := hLl.out n hll
        obtain ⟨q, hq⟩ : ∃ q, q = l[n] := ⟨_, rfl⟩
        rw [← hq] at hcl
        have hoth : oth l n t = if q.k == 2 then q else t := by unfold oth; rw [List.getElem?_eq_getElem hll, ← hq]
        have c0 : y2.val.cell? ⟨bl, ol + n * 11, none⟩ = some (.int .i64 q.k) := (y2.cell hbl).trans (hcl 0 _ rfl)
        have hrq : Hid (y2.val.rangeAt bl (ol + n * 11) q.cells) := fun j u h => (y2.cell hbl).trans (hcl j u h)
        have hbl2 : bl < y2.val.heap.size := y2.lt hbl
        obtain ⟨qk, hqk⟩ : ∃ z, z = q.k := ⟨_, rfl⟩
        rw [← hqk] at c0 hoth
        clear hcl hq hll
        by_cases hk : qk = 2
        · subst hk
          have ho2 : oth l n t = q := hoth
          clear hoth hqk
          rw [← ho2] at hrq
          have Z3ex : ∃ Z3 : Ext w1, Z3.val = y2.val.setRow g9 (oth l n t).cells.toArray := ⟨⟨_, below_setRow y2.below hW9.out _⟩, rfl⟩
          obtain ⟨Z3, hZ3⟩ := Z3ex
          have hrZ : Hid (Z3.val.heap[g9]? = some (.cells (oth l n t).cells.toArray 37 (0, 0))) := by show _ = _; rw [hZ3]; exact setRow_heap _ _ _ _ _ _ hr2.out
          have hU3 : Hid (Grow.Own Z3.val w1.heap.size 37 11 Ty.cells v' (P1 ++ [t])) := hU2.out.keep fun g hg => by rw [hZ3]; exact setRow_other _ _ _ _ (hU9b.out g hg)
          have hV3 : Hid (Grow.Own Z3.val w1.heap.size 37 11 Ty.cells u7 P2) := hV2.out.keep fun g hg => by rw [hZ3]; exact setRow_other _ _ _ _ (by have := hV9.out g hg; omega)
          go_upto_region 12 with (first | (refine wpList_load_mid rfl 37 (.tmp 54) rfl bl (ol + n * 11) rfl (oth l n t).cells _ hrq.out Try.underlying37 rfl (by rw [Ty.cells_len]; kernel_rfl) ?_) | (refine wpList_store_row rfl 37 (.tmp 9) (.tmp 55) rfl g9 (oth l n t).cells.toArray rfl rfl 37 _ hr2.out (by rw [List.size_toArray, Ty.cells_len]; kernel_rfl) (by rw [List.size_toArray, List.size_toArray, Ty.cells_len, Ty.cells_len]) (by simpa using Ty.cells_one (oth l n t)) ?_))
          rw [← hZ3]
          clear hZ3 hrq hr2 hU2 hV2 c0 ho2 hl2
          have hUs : Hid (∀ g, v'.ownBlock = some g → g < Z3.val.heap.size) := fun g h => (hU3.out.from_ g h).2
          go_upto_region 7 with (first | (refine wpList_load_row rfl 37 (.tmp 9) rfl g9 rfl 37 (oth l n t).cells.toArray (0, 0) _ hrZ.out Try.underlying37 rfl (by rw [List.size_toArray, Ty.cells_len]; kernel_rfl) ?_) | (refine wpList_lit_one rfl 51 37 (.tmp 57) rfl (oth l n t).cells.toArray rfl i0 z0 11 Try.underlying51 hi0 hz0 hz1 (by rw [List.size_toArray, Ty.cells_len]) (by decide) (by decide) ?_) | (at_builtin; refine wpList_append_list (w1 := w1) _ rfl (.tmp 56) (.tmp 58) 51 rfl 37 i0 z0 11 96 Try.underlying51 hi0 hz0 hz1 hz2 hzs (by decide) Ty.cells_len Ty.cells_one (Z3.below.alloc Z3.below.size _) u7 P2 rfl (hV3.out.alloc _) _ 1 1 [oth l n t] rfl rfl (Lies.one Z3.val (oth l n t) _ rfl) hm2'.out.1 hm2'.out.2 ?_; intro v'' y4 hown' hgr hat; have hV4 := hide hown'; have hG4 := hide hgr; have hA4 := hide hat; clear hown' hgr hat))
          have hA4b : v''.ownBlock = u7.ownBlock ∨ v''.ownBlock = some (Z3.val.heap.size + 1) := by
            have := hA4.out
            simpa using this
          have hU4 : Hid (Grow.Own y4.val w1.heap.size 37 11 Ty.cells v' ((ownL C).take (n + 1))) := by
            show Grow.Own _ _ _ _ _ _ _
            rw [hT1.out]
            exact (hU3.out.alloc _).kept' hG4.out fun g hg e => hAp2 g hg e
          have hV5 : Hid (Grow.Own y4.val w1.heap.size 37 11 Ty.cells v'' ((othL C l).take (n + 1))) := by
            show Grow.Own _ _ _ _ _ _ _
            rw [hT2.out]
            exact hV4.out
          have hAp4 : Apart2 v' v'' := (hAp2.symm.grow hA4b fun g hg => by have := hUs.out g hg; omega).symm
          clear hA4b hA4 hG4 hV4 hUs hU3 hV3
          go_wp2_with fail
          go_roundw
          case rel => exact ⟨n + 1, by first | rfl | rw [HKW.out], Nat.succ_le_of_lt hlt9.out, y4, rfl, hU4, hV5, hAp4⟩
          case measure =>
            first | rw [HKW.out, intOf_int, intOf_int, Int.toNat_natCast, Int.toNat_natCast] | rw [intOf_int, intOf_int]
            have := hlt9.out
            omega
        · have ho2 : oth l n t = t := by rw [hoth, if_neg (by simpa using hk)]
          clear hoth hqk hrq
          rw [ho2] at hT2
          rw [← ho2] at hr2 hT2
          have hrZ := hr2
          have hU3 := hU2
          have hV3 := hV2
          clear hr2 hU2 hV2 hl2 hs2
          go_upto_region 12 with fail
          clear c0
          have hUs : Hid (∀ g, v'.ownBlock = some g → g < y2.val.heap.size) := fun g h => (hU3.out.from_ g h).2
          go_upto_region 7 with (first | (refine wpList_load_row rfl 37 (.tmp 9) rfl g9 rfl 37 (oth l n t).cells.toArray (0, 0) _ hrZ.out Try.underlying37 rfl (by rw [List.size_toArray, Ty.cells_len]; kernel_rfl) ?_) | (refine wpList_lit_one rfl 51 37 (.tmp 57) rfl (oth l n t).cells.toArray rfl i0 z0 11 Try.underlying51 hi0 hz0 hz1 (by rw [List.size_toArray, Ty.cells_len]) (by decide) (by decide) ?_) | (at_builtin; refine wpList_append_list (w1 := w1) _ rfl (.tmp 56) (.tmp 58) 51 rfl 37 i0 z0 11 96 Try.underlying51 hi0 hz0 hz1 hz2 hzs (by decide) Ty.cells_len Ty.cells_one (y2.below.alloc y2.below.size _) u7 P2 rfl (hV3.out.alloc _) _ 1 1 [oth l n t] rfl rfl (Lies.one y2.val (oth l n t) _ rfl) hm2'.out.1 hm2'.out.2 ?_; intro v'' y4 hown' hgr hat; have hV4 := hide hown'; have hG4 := hide hgr; have hA4 := hide hat; clear hown' hgr hat))
          have hA4b : v''.ownBlock = u7.ownBlock ∨ v''.ownBlock = some (y2.val.heap.size + 1) := by
            have := hA4.out
            simpa using this
          have hU4 : Hid (Grow.Own y4.val w1.heap.size 37 11 Ty.cells v' ((ownL C).take (n + 1))) := by
            show Grow.Own _ _ _ _ _ _ _
            rw [hT1.out]
            exact (hU3.out.alloc _).kept' hG4.out fun g hg e => hAp2 g hg e
          have hV5 : Hid (Grow.Own y4.val w1.heap.size 37 11 Ty.cells v'' ((othL C l).take (n + 1))) := by
            show Grow.Own _ _ _ _ _ _ _
            rw [hT2.out]
            exact hV4.out
          have hAp4 : Apart2 v' v'' := (hAp2.symm.grow hA4b fun g hg => by have := hUs.out g hg; omega).symm
          clear hA4b hA4 hG4 hV4 hUs hU3 hV3
          go_wp2_with fail
          go_roundw
          case rel => exact ⟨n + 1, by first | rfl | rw [HKW.out], Nat.succ_le_of_lt hlt9.out, y4, rfl, hU4, hV5, hAp4⟩
          case measure =>
            first | rw [HKW.out, intOf_int, intOf_int, Int.toNat_natCast, Int.toNat_natCast] | rw [intOf_int, intOf_int]
            have := hlt9.out
            omega
      · have ho2 : oth l n t = t := by unfold oth; rw [List.getElem?_eq_none (by omega)]
        have hll' : ¬ (n : Int) < (l.length : Int) := by omega
        rw [← ho2] at hr2
        have hrZ := hr2
        have hU3 := hU2
        have hV3 := hV2
        clear hr2 hU2 hV2 hl2 hs2
        go_upto_region 12 with fail
        have hUs : Hid (∀ g, v'.ownBlock = some g → g < y2.val.heap.size) := fun g h => (hU3.out.from_ g h).2
        go_upto_region 7 with (first | (refine wpList_load_row rfl 37 (.tmp 9) rfl g9 rfl 37 (oth l n t).cells.toArray (0, 0) _ hrZ.out Try.underlying37 rfl (by rw [List.size_toArray, Ty.cells_len]; kernel_rfl) ?_) | (refine wpList_lit_one rfl 51 37 (.tmp 57) rfl (oth l n t).cells.toArray rfl i0 z0 11 Try.underlying51 hi0 hz0 hz1 (by rw [List.size_toArray, Ty.cells_len]) (by decide) (by decide) ?_) | (at_builtin; refine wpList_append_list (w1 := w1) _ rfl (.tmp 56) (.tmp 58) 51 rfl 37 i0 z0 11 96 Try.underlying51 hi0 hz0 hz1 hz2 hzs (by decide) Ty.cells_len Ty.cells_one (y2.below.alloc y2.below.size _) u7 P2 rfl (hV3.out.alloc _) _ 1 1 [oth l n t] rfl rfl (Lies.one y2.val (oth l n t) _ rfl) hm2'.out.1 hm2'.out.2 ?_; intro v'' y4 hown' hgr hat; have hV4 := hide hown'; have hG4 := hide hgr; have hA4 := hide hat; clear hown' hgr hat))
        have hA4b : v''.ownBlock = u7.ownBlock ∨ v''.ownBlock = some (y2.val.heap.size + 1) := by
          have := hA4.out
          simpa using this
        have hU4 : Hid (Grow.Own y4.val w1.heap.size 37 11 Ty.cells v' ((ownL C).take (n + 1))) := by
          show Grow.Own _ _ _ _ _ _ _
          rw [hT1.out]
          exact (hU3.out.alloc _).kept' hG4.out fun g hg e => hAp2 g hg e
        have hV5 : Hid (Grow.Own y4.val w1.heap.size 37 11 Ty.cells v'' ((othL C l).take (n + 1))) := by
          show Grow.Own _ _ _ _ _ _ _
          rw [hT2.out]
          exact hV4.out
        have hAp4 : Apart2 v' v'' := (hAp2.symm.grow hA4b fun g hg => by have := hUs.out g hg; omega).symm
        clear hA4b hA4 hG4 hV4 hUs hU3 hV3
        go_wp2_with fail
        go_roundw
        case rel => exact ⟨n + 1, by first | rfl | rw [HKW.out], Nat.succ_le_of_lt hlt9.out, y4, rfl, hU4, hV5, hAp4⟩
        case measure =>
          first | rw [HKW.out, intOf_int, intOf_int, Int.toNat_natCast, Int.toNat_natCast] | rw [intOf_int, intOf_int]
          have := hlt9.out
          omega
    · obtain rfl : n = T.length := by omega
      have hlt' : ¬ (T.length : Int) < (T.length : Int) := by omega
      have hLn : Hid ((ownL C).length = T.length) := by show _ = _; rw [ownL_len]; exact HTN.out
      have hLm : Hid ((othL C l).length = T.length) := by show _ = _; rw [othL_len]; exact HTN.out
      have o1 := hOu.out
      have o2 := hOv.out
      rw [← hLn.out, List.take_length] at o1
      rw [← hLm.out, List.take_length] at o2
      obtain ⟨A2, c2, rfl, q1, q2, q3⟩ := o1.lies Ty.cells_len
      obtain ⟨A3, c3, rfl, q4, q5, q6⟩ := o2.lies Ty.cells_len
      have hP1 := hide q3
      have hP2 := hide q6
      have hB2 : Hid (Below w.heap.size w x.val) := hB1.out.trans (x.below.mono hB1.out.size)
      have hc2 := hide (And.intro q1 q2)
      have ho1 := hide o1
      clear q1 q2 q3 q4 q5 q6 o1 o2 hOu hOv hAp hn2 hL1 hLl
      have hN : C.length ≤ 1048576 := Nat.le_trans (sum_len Cl.fw (fun c => by unfold Cl.fw; omega) C) HFW.out
      have hF : Hid (∀ cl ∈ C, cl.fw ≤ 1048576) := fun cl h => Nat.le_trans (sum_has Cl.fw h) HFW.out
      have hnum : Hid (nCls C ≤ 1000000000) := by show _ ≤ _; rw [← slP_len, HTN.out]; omega
      have inW : Hid (∀ W, Below w.heap.size w W → Lies W 7 Cl.cells A C ∧ ∀ cl ∈ C, ClIn W cl) := fun W hW => ⟨HS.out.below hW, fun cl hcl => by
        obtain ⟨x, rfl⟩ := Ext.of hW
        exact (HIN.out cl hcl).ext x⟩
      have hN9 := hide hN
      have S1 : Hid (∀ W, Below w.heap.size w W → Lies W 11 Ty.cells A2 (ownL C) → Calls Try.prog 12 #[.slice A C.length c, .slice A2 (ownL C).length c2] W fun e w' => ∃ (y : Ext W) (D : List Cl) (A' : Option Addr), e = .returned (.tuple #[.slice A' D.length D.length, .bool true]) ∧ w' = y.val ∧ SetYes C (ownL C) D A' y.val) := fun W hW h =>
        set_yes W A c C A2 c2 (ownL C) (inW.out W hW).1 (inW.out W hW).2 hN9.out hF.out h (by rw [hLn.out]; omega) HTC.out hnum.out (ok_own C)
      have S2 : Hid (∀ W, Below w.heap.size w W → Lies W 11 Ty.cells A3 (othL C l) → Calls Try.prog 12 #[.slice A C.length c, .slice A3 (othL C l).length c3] W fun e w' => ∃ (y : Ext W) (D : List Cl) (A' : Option Addr), e = .returned (.tuple #[.slice A' D.length D.length, .bool true]) ∧ w' = y.val ∧ SetYes C (othL C l) D A' y.val) := fun W hW h =>
        set_yes W A c C A3 c3 (othL C l) (inW.out W hW).1 (inW.out W hW).2 hN9.out hF.out h (by rw [hLm.out]; omega) HTO.out hnum.out (ok_oth C l)
      generalize x.val = w2 at hP1 hP2 hB2 ho1 ⊢
      clear x hN
      go_upto_region 14 with (go_at_call 12; ((with_reducible refine (S1.out _ hB2.out hP1.out).mono ?_); rintro _ _ ⟨y, D, A4, rfl, rfl, hY⟩))
      have hY1 := hide hY
      have hB3 : Hid (Below w.heap.size w y.val) := hB2.out.trans (y.below.mono hB2.out.size)
      have hP1b := hide (hP1.out.ext y)
      have hP2b := hide (hP2.out.ext y)
      clear hY hP1 hP2 S1
      go_upto_region 15 with (go_at_call 12; ((with_reducible refine (S2.out _ hB3.out hP2b.out).mono ?_); rintro _ _ ⟨y2, R, A5, rfl, rfl, hY⟩))
      have hR1 := hide hY
      have hB4 : Hid (Below w.heap.size w y2.val) := hB3.out.trans (y2.below.mono hB3.out.size)
      have hY2 : Hid (SetYes C (ownL C) D A4 y2.val) := ⟨hY1.out.1, hY1.out.2.1.ext y2, fun c h => (hY1.out.2.2 c h).ext y2⟩
      have hP1c := hide (hP1b.out.ext y2)
      have hP2c := hide (hP2b.out.ext y2)
      have ho1c := hide ((ho1.out.ext y).ext y2)
      generalize y2.val = w3 at hR1 hB4 hY2 hP1c hP2c ho1c ⊢
      clear hY hY1 hB3 hB2 hP1b hP2b ho1 S2 y2
      have SL : Hid (Gives Try.prog 13 #[.slice A C.length c, .slice A4 D.length D.length, .bool true] w3 (.bool true)) := by
        obtain ⟨C', hst, hD⟩ := hY2.out.1
        exact Like_any w3 C D (by rw [hD, set_own hst]) A A4 c D.length (inW.out w3 hB4.out).1 hY2.out.2.1 (inW.out w3 hB4.out).2 hY2.out.2.2 (Nat.le_trans hlc hcm)
      unfold Gives at SL
      go_upto_region 17 with (go_at_call 13; ((with_reducible refine SL.out.mono ?_); rintro _ _ ⟨y3, rfl, rfl⟩))
      have hB5 : Hid (Below w.heap.size w y3.val) := hB4.out.trans (y3.below.mono hB4.out.size)
      have hR2 : Hid (SetYes C (othL C l) R A5 y3.val) := ⟨hR1.out.1, hR1.out.2.1.ext y3, fun c h => (hR1.out.2.2 c h).ext y3⟩
      have hP1d := hide (hP1c.out.ext y3)
      have hP2d := hide (hP2c.out.ext y3)
      generalize y3.val = w4 at hB5 hR2 hP1d hP2d ⊢
      clear hR1 hB4 hY2 hP1c hP2c ho1c SL y3 w3
      have hRw : Hid ((R.map Cl.wt).sum ≤ 1048576) := by
        obtain ⟨C', hst, hD⟩ := hR2.out.1
        show _ ≤ _
        rw [hD, wt_same hst]
        exact HWT.out
      have hRl : Hid (R.length ≤ maxLen) := by
        obtain ⟨C', hst, hD⟩ := hR2.out.1
        show _ ≤ _
        rw [hD, setCls_len, ← map_len hst]
        exact Nat.le_trans hlc hcm
      have hMt : Hid ((rnP R).map Nt.ty = othL C l) := by
        show _ = _
        rw [(rnP_ty hR2.out.2.2 hRw.out).1]
        obtain ⟨C', hst, hD⟩ := hR2.out.1
        rw [hD]
        exact set_told hst (ok_oth C l)
      have H2 : Hid (GivesNew Try.prog 7 #[.slice A5 R.length R.length] w4 15 Nt.cells (rnP R)) := types_w w4 A5 R.length R hR2.out.2.2 hR2.out.2.1 (Nat.le_refl _) hRl.out hRw.out
      unfold GivesNew at H2
      obtain ⟨M, hM⟩ : ∃ M, Hid (M = rnP R) := ⟨_, rfl⟩
      rw [← hM.out] at H2 hMt
      have hMl : Hid (M.length = T.length) := by show _ = _; rw [← hLm.out, ← hMt.out, List.length_map]
      go_upto_region 18 with (go_at_call 7; ((with_reducible refine H2.out.mono ?_); rintro _ _ ⟨y4, A6, c6, rfl, rfl, k1, k2, k3, k4⟩; have hLM := hide k3; clear k1 k2 k3 k4))
      have hB6 : Hid (Below w.heap.size w y4.val) := hB5.out.trans (y4.below.mono hB5.out.size)
      have hR3 : Hid (SetYes C (othL C l) R A5 y4.val) := ⟨hR2.out.1, hR2.out.2.1.ext y4, fun c h => (hR2.out.2.2 c h).ext y4⟩
      have hP1e := hide (hP1d.out.ext y4)
      have hP2e := hide (hP2d.out.ext y4)
      generalize y4.val = w5 at hB6 hR3 hP1e hP2e hLM ⊢
      clear hR2 hB5 hP1d hP2d y4 H2 w4
      go_wp2_with fail
      go_loopw [15, 16] (fun k i wr => ∃ n : Nat, k = .int .i64 n ∧ i = .int .i64 n ∧ n ≤ T.length ∧ ∃ x : Ext w5, wr = x.val) (fun _ i _ => T.length - (intOf i).toNat)
      case atStart => exact ⟨0, rfl, rfl, Nat.zero_le _, Ext.here w5, rfl⟩
      case round =>
        obtain ⟨n, rfl, rfl, hn2, x, rfl⟩ := hrel
        by_cases hlt : n < T.length
        · have hq1 : n < M.length := by rw [hMl.out]; exact hlt
          have hq2 : n < (othL C l).length := by rw [hLm.out]; exact hlt
          obtain ⟨b, off, hA6, hb, hcA⟩ := hLM.out n hq1
          obtain ⟨b3, off3, hA3, hb3, hcB⟩ := hP2e.out n hq2
          have hlM : (n : Int) < (M.length : Int) := by omega
          have hlL : (n : Int) < ((othL C l).length : Int) := by omega
          obtain ⟨t, ht⟩ : ∃ t, t = (othL C l)[n] := ⟨_, rfl⟩
          have hte : M[n].ty = t := by
            have := congrArg (fun l => l[n]?) hMt.out
            simp [hq1, hq2] at this
            rw [this, ht]
          rw [← ht] at hcB
          have hrA : Hid (∀ W, (∃ y : Ext x.val, W = y.val) → W.rangeAt b (off + n * 15 + 3) t.cells) := by
            rintro W ⟨y, rfl⟩ j u hu
            have h := hcA (3 + j) u (by
              rw [← hte] at hu
              unfold Nt.cells
              have h1 : j < M[n].ty.cells.length := (List.getElem?_eq_some_iff.1 hu).1
              rw [show 3 + j = j + 3 by omega]
              simp only [List.getElem?_cons_succ]
              rw [List.getElem?_append_left h1]
              exact hu)
            rw [← Nat.add_assoc] at h
            exact (y.cell (x.lt hb)).trans ((x.cell hb).trans h)
          have hrB : Hid (∀ W, (∃ y : Ext x.val, W = y.val) → W.rangeAt b3 (off3 + n * 11) t.cells) := by
            rintro W ⟨y, rfl⟩ j u hu
            exact (y.cell (x.lt hb3)).trans ((x.cell hb3).trans (hcB j u hu))
          have HKW : Hid (wrap64 ((n : Int) + 1) = ((n + 1 : Nat) : Int)) := by
            show wrap64 _ = _
            unfold wrap64
            omega
          have hlt9 := hide hlt
          have HQ := fun W : World => eqTyZ W t
          subst hA6
          subst hA3
          clear hcA hcB ht hte hq1 hq2 hlt
          go_wp2_with fail
          refine wp_region_ext (by kernel_rfl) (by kernel_rfl) ?_
          repeat (first | (refine qload_mid rfl 37 (.tmp 101) rfl b (off + n * 15 + 3) rfl t.cells _ hrA.out Try.underlying37 rfl (by rw [Ty.cells_len]; kernel_rfl) ?_; try simp only [Act.put, List.setIfInBounds_toArray, List.set_cons_zero, List.set_cons_succ]) | (refine qload_mid rfl 37 (.tmp 105) rfl b3 (off3 + n * 11) rfl t.cells _ hrB.out Try.underlying37 rfl (by rw [Ty.cells_len]; kernel_rfl) ?_; try simp only [Act.put, List.setIfInBounds_toArray, List.set_cons_zero, List.set_cons_succ]) | go_big_quiet_step (fail))
          refine wpQuiet_nil ?_
          intro _ hw'
          obtain ⟨y, hw''⟩ := hw'
          subst hw''
          obtain ⟨z, hz⟩ := x.over y
          rw [hz]
          clear HQ
          go_wp2_with fail
          go_roundw
          case rel => exact ⟨n + 1, by first | rfl | rw [HKW.out], by first | rfl | rw [HKW.out], Nat.succ_le_of_lt hlt9.out, z, rfl⟩
          case measure =>
            first | rw [HKW.out, intOf_int, intOf_int, Int.toNat_natCast, Int.toNat_natCast] | rw [intOf_int, intOf_int]
            have := hlt9.out
            omega
        · obtain rfl : n = T.length := by omega
          have hlM : ¬ (T.length : Int) < (M.length : Int) := by have := hMl.out; omega
          have hB7 : Hid (Below w.heap.size w x.val) := hB6.out.trans (x.below.mono hB6.out.size)
          have hR4 : Hid (SetYes C (othL C l) R A5 x.val) := ⟨hR3.out.1, hR3.out.2.1.ext x, fun c h => (hR3.out.2.2 c h).ext x⟩
          have hP1f := hide (hP1e.out.ext x)
          generalize x.val = w6 at hB7 hR4 hP1f ⊢
          clear hR3 hB6 hP1e hP2e x hLM
          have hm1 : Hid (0 + (ownL C).length ≤ maxLen ∧ (0 + (ownL C).length) * 96 ≤ 140737488355328) := by show _ ∧ _; rw [hLn.out]; unfold maxLen; omega
          have hm2 : Hid ((ownL C).length + 1 ≤ maxLen ∧ ((ownL C).length + 1) * 96 ≤ 140737488355328) := by show _ ∧ _; rw [hLn.out]; unfold maxLen; omega
          go_upto_region 25 with (first | (refine wpList_lit_one rfl 51 37 (.tmp 113) rfl (⟨0, ⟨#[]⟩, 0, ⟨0, 0⟩, ⟨0, 0⟩, ⟨0, 0⟩, ⟨0, 0⟩⟩ : Ty).cells.toArray rfl i0 z0 11 Try.underlying51 hi0 hz0 hz1 (by rw [List.size_toArray, Ty.cells_len]) (by decide) (by decide) ?_) | (at_builtin; refine wpList_append_list (w1 := w6) _ rfl (.tmp 110) (.tmp 111) 51 rfl 37 i0 z0 11 96 Try.underlying51 hi0 hz0 hz1 hz2 hzs (by decide) Ty.cells_len Ty.cells_one ((Below.refl _ _).alloc (Nat.le_refl _) _) (.slice (some ⟨w6.heap.size, 0, none⟩) 0 0) [] rfl (Own.empty w6) A2 (ownL C).length c2 (ownL C) rfl rfl (hP1f.out.alloc _) hm1.out.1 hm1.out.2 ?_; intro v7 y7 hown' hgr hat; have hO7 := hide hown'; clear hown' hgr hat) | (at_builtin; refine wpList_append_list (w1 := w6) _ rfl (.tmp 112) (.tmp 114) 51 rfl 37 i0 z0 11 96 Try.underlying51 hi0 hz0 hz1 hz2 hzs (by decide) Ty.cells_len Ty.cells_one (y7.below.alloc y7.below.size _) v7 (ownL C) rfl (hO7.out.alloc _) _ 1 1 [(⟨0, ⟨#[]⟩, 0, ⟨0, 0⟩, ⟨0, 0⟩, ⟨0, 0⟩, ⟨0, 0⟩⟩ : Ty)] rfl rfl (Lies.one y7.val (⟨0, ⟨#[]⟩, 0, ⟨0, 0⟩, ⟨0, 0⟩, ⟨0, 0⟩, ⟨0, 0⟩⟩ : Ty) _ rfl) hm2.out.1 hm2.out.2 ?_; intro v8 y8 hown' hgr hat; have hO8 := hide hown'; clear hown' hgr hat))
          obtain ⟨L8, hL8⟩ : ∃ L8, Hid (L8 = ownL C ++ [(⟨0, ⟨#[]⟩, 0, ⟨0, 0⟩, ⟨0, 0⟩, ⟨0, 0⟩, ⟨0, 0⟩⟩ : Ty)]) := ⟨_, rfl⟩
          have hO9 := hO8.out
          rw [← hL8.out] at hO9
          obtain ⟨A8, c8, rfl, q1, q2, q3⟩ := hO9.lies Ty.cells_len
          have hB8 : Hid (Below w.heap.size w y8.val) := hB7.out.trans (y8.below.mono hB7.out.size)
          have hR5 : Hid (SetYes C (othL C l) R A5 y8.val) := ⟨hR4.out.1, hR4.out.2.1.ext y8, fun c h => (hR4.out.2.2 c h).ext y8⟩
          have S3 : Hid (Calls Try.prog 12 #[.slice A C.length c, .slice A8 L8.length c8] y8.val fun e w' => ∃ (x : Ext y8.val), e = .returned (.tuple #[.slice none 0 0, .bool false]) ∧ w' = x.val) :=
            set_no y8.val A c C A8 c8 L8 (inW.out _ hB8.out).1 (inW.out _ hB8.out).2 hN9.out hF.out q3 (by rw [hL8.out, List.length_append, hLn.out]; simp; omega) (by rw [hL8.out]; exact Go.Proofs.Ytmpdmelkbemabaa.TysOk.longer HTC.out) hnum.out (by rw [hL8.out]; exact no_longer C _)
          clear hO9 hO8 q1 q2 q3 hB7 hR4 hP1f hm1 hm2 hO7
          go_upto_region 26 with (go_at_call 12; ((with_reducible refine S3.out.mono ?_); rintro _ _ ⟨y9, rfl, rfl⟩))
          have hB9 : Hid (Below w.heap.size w y9.val) := hB8.out.trans (y9.below.mono hB8.out.size)
          have hR6 : Hid (SetYes C (othL C l) R A5 y9.val) := ⟨hR5.out.1, hR5.out.2.1.ext y9, fun c h => (hR5.out.2.2 c h).ext y9⟩
          generalize y9.val = w7 at hB9 hR6 ⊢
          have K1 : Hid (GivesNew Try.prog 9 #[.slice A5 R.length R.length] w7 26 Ln.cells (lnP R)) := stmts_w w7 A5 R.length R hR6.out.2.2 hR6.out.2.1 (Nat.le_refl _) hRl.out hRw.out
          have K2 : Hid (∀ W, Below w.heap.size w W → GivesNew Try.prog 9 #[.slice A C.length c] W 26 Ln.cells (lnP C)) := fun W hW => stmts_w W A c C (inW.out W hW).2 (inW.out W hW).1 hlc hcm HWT.out
          have hln : Hid ((lnP R).length = (lnP C).length) := by
            obtain ⟨C', hst, hD⟩ := hR6.out.1
            show _ = _
            rw [hD, lnP_same hst]
          unfold GivesNew at K1 K2
          obtain ⟨N1, hN1⟩ : ∃ N, Hid (N = (lnP R).length) := ⟨_, rfl⟩
          rw [hln.out] at K1
          obtain ⟨N2, hN2⟩ : ∃ N, Hid (N = (lnP C).length) := ⟨_, rfl⟩
          rw [← hN2.out] at K1 K2
          have heq : ((othL C l).length : Int) = (T.length : Int) := by rw [hLm.out]
          go_wp2_with (first | (go_at_call 9; first | ((with_reducible refine K1.out.mono ?_); rintro _ _ ⟨z1, B1, b1, rfl, rfl, k1, k2, k3, k4⟩; have hBa := hide (hB9.out.trans (z1.below.mono hB9.out.size)); clear k1 k2 k3 k4) | ((with_reducible refine (K2.out _ hBa.out).mono ?_); rintro _ _ ⟨z2, B2, b2, rfl, rfl, k1, k2, k3, k4⟩; have hBb := hide (hBa.out.trans (z2.below.mono hBa.out.size)); clear k1 k2 k3 k4)) | (go_at_call 6; refine (awake12_any _).mono ?_; rintro _ _ ⟨z3, rfl, rfl⟩; have hBc := hide (hBb.out.trans (z3.below.mono hBb.out.size))))
          go_ret
          exact ⟨rfl, hBc.out⟩
end Go.Proofs.Ytmpdmelkbemabaa
