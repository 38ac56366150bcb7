/- The loop of demesneref12.Types over a class's fields. -/
import Derived.Test.YtmpdmelkbemabaaRtL5
set_option linter.unusedSimpArgs false
set_option linter.unusedVariables false
namespace Go.Proofs.Ytmpdmelkbemabaa
open Go.RowKit Go.Proofs.Grow
set_option maxHeartbeats 0 in
set_option maxRecDepth 1000000 in
theorem rt_l2 (w : World) (k b off ll c : Nat) (hk : (k : Int) < (ll : Int)) (F : List Va) (fA : Option Addr) (fc : Nat) (T : List Nt) (i0 : TypeInfo) (z0 : Value) (hi0 : Try.prog.info? 40 = some i0) (hz0 : i0.zero = some z0) (hz1 : i0.size = 15) (hz2 : i0.bytes = 128) (hzs : z0.cells.size = 15) (hF63 : F.length ≤ 9223372036854775807) (hl63 : ll ≤ 9223372036854775807) (hLen : Hid (T.length + F.length ≤ 1000000000000)) (hb : b < w.heap.size)
    (hp : Hid (∀ y : Ext w, y.val.cell? ⟨b, off + k * 7 + 4, none⟩ = some (.slice fA F.length fc))) (HF : Hid (Lies w 13 Va.cells fA F)) (x : Ext w) (v0 : Value)
    (hO : Hid (Grow.Own x.val w.heap.size 40 15 Nt.cells v0 (T))) (q1 q2 q6 q7 q8 q9 q10 q11 q12 q13 q14 q15 q16 q17 q18 q19 q20 q21 q22 q23 q24 q25 q26 q27 q28 q29 q30 q31 q32 q33 q34 q35 q36 q37 q38 q39 q40 q41 q42 q43 q44 q45 q46 q47 q48 q49 q50 q51 q52 q53 q54 q55 q56 q57 q58 q59 q60 q61 q62 q63 q64 q65 q66 q67 q68 q69 q70 q71 q72 q73 q74 q75 q76 q77 q78 q79 q80 q81 q82 q83 q84 q85 q86 q87 q88 q89 q90 q91 q92 q93 q94 q95 q96 q97 q98 q99 q100 q101 q102 q103 q104 q105 q106 q107 q108 q109 q110 q111 q112 q113 q114 q115 q116 q117 q118 q119 q120 q121 q122 q123 q124 q125 q126 q127 q128 q129 q130 q131 q132 q133 q134 q135 q136 : Value) (Q : Exit → Act → World → Prop)
    (hexit : ∀ (r3 r5 r6 r19 r20 r21 r22 r23 r24 r25 r26 r27 r28 r29 r30 r31 r32 r33 r34 r35 r36 r37 r38 r39 r40 r41 r42 r43 r44 r45 r46 : Value) (x' : Ext w), Hid (Grow.Own x'.val w.heap.size 40 15 Nt.cells r3 (T ++ rnV k (-1) F)) → Q (.exit 2) ⟨List.toArray ((Value.slice (some ⟨b, off, none⟩) ll c) :: q1 :: q2 :: (r3) :: (Value.int .i64 k) :: (r5) :: (r6) :: q7 :: q8 :: q9 :: q10 :: q11 :: q12 :: q13 :: q14 :: q15 :: q16 :: q17 :: q18 :: (r19) :: (r20) :: (r21) :: (r22) :: (r23) :: (r24) :: (r25) :: (r26) :: (r27) :: (r28) :: (r29) :: (r30) :: (r31) :: (r32) :: (r33) :: (r34) :: (r35) :: (r36) :: (r37) :: (r38) :: (r39) :: (r40) :: (r41) :: (r42) :: (r43) :: (r44) :: (r45) :: (r46) :: q47 :: q48 :: q49 :: q50 :: q51 :: q52 :: q53 :: q54 :: q55 :: q56 :: q57 :: q58 :: q59 :: q60 :: q61 :: q62 :: q63 :: q64 :: q65 :: q66 :: q67 :: q68 :: q69 :: q70 :: q71 :: q72 :: q73 :: q74 :: q75 :: q76 :: q77 :: q78 :: q79 :: q80 :: q81 :: q82 :: q83 :: q84 :: q85 :: q86 :: q87 :: q88 :: q89 :: q90 :: q91 :: q92 :: q93 :: q94 :: q95 :: q96 :: q97 :: q98 :: q99 :: q100 :: q101 :: q102 :: q103 :: q104 :: q105 :: q106 :: q107 :: q108 :: q109 :: q110 :: q111 :: q112 :: q113 :: q114 :: q115 :: q116 :: q117 :: q118 :: q119 :: q120 :: q121 :: q122 :: q123 :: q124 :: q125 :: q126 :: q127 :: q128 :: q129 :: q130 :: q131 :: q132 :: q133 :: q134 :: q135 :: q136 :: []), []⟩ x'.val) : Code.wp Try.prog (Code.loop (rtLoop 1)) Q ⟨List.toArray ((Value.slice (some ⟨b, off, none⟩) ll c) :: q1 :: q2 :: (v0) :: (Value.int .i64 k) :: (Value.int .i64 0) :: q6 :: q7 :: q8 :: q9 :: q10 :: q11 :: q12 :: q13 :: q14 :: q15 :: q16 :: q17 :: q18 :: q19 :: q20 :: q21 :: q22 :: q23 :: q24 :: q25 :: q26 :: q27 :: q28 :: q29 :: q30 :: q31 :: q32 :: q33 :: q34 :: q35 :: q36 :: q37 :: q38 :: q39 :: q40 :: q41 :: q42 :: q43 :: q44 :: q45 :: q46 :: q47 :: q48 :: q49 :: q50 :: q51 :: q52 :: q53 :: q54 :: q55 :: q56 :: q57 :: q58 :: q59 :: q60 :: q61 :: q62 :: q63 :: q64 :: q65 :: q66 :: q67 :: q68 :: q69 :: q70 :: q71 :: q72 :: q73 :: q74 :: q75 :: q76 :: q77 :: q78 :: q79 :: q80 :: q81 :: q82 :: q83 :: q84 :: q85 :: q86 :: q87 :: q88 :: q89 :: q90 :: q91 :: q92 :: q93 :: q94 :: q95 :: q96 :: q97 :: q98 :: q99 :: q100 :: q101 :: q102 :: q103 :: q104 :: q105 :: q106 :: q107 :: q108 :: q109 :: q110 :: q111 :: q112 :: q113 :: q114 :: q115 :: q116 :: q117 :: q118 :: q119 :: q120 :: q121 :: q122 :: q123 :: q124 :: q125 :: q126 :: q127 :: q128 :: q129 :: q130 :: q131 :: q132 :: q133 :: q134 :: q135 :: q136 :: []), []⟩ x.val := by
  conv => arg 2; arg 1; whnf
  go_loopw [3, 5] (fun s3 s5 wr => ∃ j : Nat, s5 = .int .i64 j ∧ j ≤ F.length ∧ ∃ y : Ext w, wr = y.val ∧ Hid (Grow.Own y.val w.heap.size 40 15 Nt.cells s3 (T ++ rnV k (-1) (F.take j)))) (fun _ s5 _ => F.length - (intOf s5).toNat)
  case atStart => exact ⟨0, rfl, Nat.zero_le _, x, rfl, (show Grow.Own _ _ _ _ _ _ _ by simpa [rnV] using hO.out)⟩
  case round =>
    obtain ⟨j, rfl, hj, y, rfl, hown⟩ := hrel
    clear hO
    by_cases hlt : j < F.length
    · obtain ⟨fb, foff, hfA, hfb, hfc⟩ := HF.out j hlt
      have hlt' : (j : Int) < (F.length : Int) := by omega
      have HTj := rnV_take k (-1) F j hlt
      obtain ⟨va, hva⟩ : ∃ va, va = F[j] := ⟨_, rfl⟩
      rw [← hva] at HTj hfc
      have hrg : Hid (y.val.rangeAt fb (foff + j * 13) va.cells) := fun i u h => (y.cell hfb).trans (hfc i u h)
      have hb1 : Hid ((T ++ rnV k (-1) (F.take j)).length + [Nt.mk k (-1) j va.ty va.pos].length ≤ maxLen ∧ ((T ++ rnV k (-1) (F.take j)).length + [Nt.mk k (-1) j va.ty va.pos].length) * 128 ≤ 140737488355328) := by
        have := hLen.out
        show _ ∧ _
        simp only [List.length_append, rnV, List.length_mapIdx, List.length_take, List.length_cons, List.length_nil]
        unfold maxLen
        omega
      have hlt9 := hide hlt
      have HTj9 := hide HTj
      subst hfA
      have p4 : y.val.cell? ⟨b, off + k * 7 + 4, none⟩ = some (.slice (some ⟨fb, foff, none⟩) F.length fc) := hp.out y
      clear hfc hva hlt HTj
      go_upto_region 9 with (first | (refine wpList_load_mid rfl 79 (.tmp 35) rfl fb (foff + j * 13) rfl va.cells _ hrg.out Try.underlying79 rfl (by rw [Va.cells_len]; kernel_rfl) ?_) | (refine wpList_store_new rfl 79 (.tmp 6) (.tmp 36) rfl _ _ _ _ rfl rfl rfl (by rw [List.size_toArray, Va.cells_len]; kernel_rfl) (by simp [Va.cells_len]) (fun u hu => Va.cells_one va u (by simpa using hu)) ?_))
      obtain ⟨Bv, hBv⟩ : ∃ B, B = y.val.heap.size := ⟨_, rfl⟩
      obtain ⟨Z, hZ⟩ : ∃ Z, Z = y.val.alloc (.cells va.cells.toArray 79) := ⟨_, rfl⟩
      have hrZ : Z.heap[Bv]? = some (.cells va.cells.toArray 79 (0, 0)) := by rw [hZ, hBv]; exact heap_alloc_new _ _
      have c12 : Z.cell? ⟨Bv, 12, none⟩ = some (.int .i64 va.pos) := (row_cell hrZ (j := 12) rfl).1
      have hrt : Hid (Z.rangeAt Bv 1 va.ty.cells) := range_of_row hrZ 1 _ fun i u h => by
        rw [List.getElem?_toArray, Nat.add_comm]
        show (Value.string va.name :: (va.ty.cells ++ [.int .i64 va.pos]))[i + 1]? = some u
        rw [List.getElem?_cons_succ, List.getElem?_append_left (List.getElem?_eq_some_iff.1 h).1]
        exact h
      have hbZ : Hid (Below w.heap.size w Z) := by show Below _ _ _; rw [hZ]; exact y.below.alloc (y.le (Nat.le_refl _)) _
      have hoZ : Hid (Grow.Own Z w.heap.size 40 15 Nt.cells u3 (T ++ rnV k (-1) (F.take j))) := by show Grow.Own _ _ _ _ _ _ _; rw [hZ]; exact hown.out.alloc _
      rw [← hZ, ← hBv]
      clear hZ hBv hrZ hown hrg p4
      go_wp2_with (first | (refine wpList_load_mid rfl 37 (.tmp 40) rfl Bv 1 rfl va.ty.cells _ hrt.out Try.underlying37 rfl (by rw [Ty.cells_len]; kernel_rfl) ?_) | (refine wpList_buildV rfl 40 [(0, .tmp 38), (1, .const (.int .i64 (-1))), (2, .tmp 39), (3, .tmp 41), (4, .tmp 43)] rfl [(0, .int .i64 k), (1, .int .i64 (-1)), (2, .int .i64 j), (3, .agg va.ty.cells.toArray), (4, .int .i64 va.pos)] (by kernel_rfl) _ (built_nt k (-1) j va.ty va.pos) ?_) | (refine wpList_lit_one rfl 27 40 (.tmp 44) rfl (Nt.mk k (-1) j va.ty va.pos).cells.toArray rfl i0 z0 15 Try.underlying27 hi0 hz0 hz1 (by rw [List.size_toArray, Nt.cells_len]) (by decide) (by decide) ?_) | (at_builtin; refine wpList_append_list (w1 := w) _ rfl (.tmp 37) (.tmp 45) 27 rfl 40 i0 z0 15 128 Try.underlying27 hi0 hz0 hz1 hz2 hzs (by decide) Nt.cells_len Nt.cells_one (hbZ.out.alloc hbZ.out.size _) _ (T ++ rnV k (-1) (F.take j)) rfl (hoZ.out.alloc _) _ 1 1 [Nt.mk k (-1) j va.ty va.pos] rfl rfl (Lies.one Z (Nt.mk k (-1) j va.ty va.pos) _ rfl) hb1.out.1 hb1.out.2 ?_; intro v' y2 hown' hgr hat))
      have hny : Hid (Grow.Own y2.val w.heap.size 40 15 Nt.cells v' (T ++ rnV k (-1) (F.take (j + 1)))) := by show Grow.Own _ _ _ _ _ _ _; rw [HTj9.out, ← List.append_assoc]; exact hown'
      clear hown' hgr hat
      go_roundw
      case rel => exact ⟨j + 1, by go_num, Nat.succ_le_of_lt hlt9.out, y2, rfl, hny⟩
      case measure => have := hlt9.out; simp [intOf]; omega
    · obtain rfl : j = F.length := Nat.le_antisymm hj (Nat.le_of_not_lt hlt)
      have hlt' : ¬ (F.length : Int) < (F.length : Int) := by omega
      have hO9 : Hid (Grow.Own y.val w.heap.size 40 15 Nt.cells u3 (T ++ rnV k (-1) F)) := by have := hown.out; rw [List.take_length] at this; exact this
      have p4 : y.val.cell? ⟨b, off + k * 7 + 4, none⟩ = some (.slice fA F.length fc) := hp.out y
      clear hown
      go_wp2_with fail
end Go.Proofs.Ytmpdmelkbemabaa
