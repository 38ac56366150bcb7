/- The walk of demesneref12.Types. -/
import Derived.Test.YtmpdmelkbemabaaRtL2
set_option linter.unusedSimpArgs false
set_option linter.unusedVariables false
namespace Go.Proofs.Grow
open Go.RowKit
theorem rnMs_prefix (c : Int) (l : List Me) (k : Nat) : rnMs c (l.take k) <+: rnMs c l := by
  have h : rnMs c l = rnMs c (l.take k ++ l.drop k) := by rw [List.take_append_drop]
  rw [h]
  unfold rnMs
  rw [List.mapIdx_append, List.flatten_append]
  exact List.prefix_append _ _
end Go.Proofs.Grow
namespace Go.Proofs.Ytmpdmelkbemabaa
open Go.RowKit Go.Proofs.Grow
set_option maxHeartbeats 0 in
set_option maxRecDepth 1000000 in
theorem rt_l3 (w : World) (k b off ll c : Nat) (hk : (k : Int) < (ll : Int)) (M : List Me) (meA : Option Addr) (mec : Nat) (T : List Nt) (i0 : TypeInfo) (z0 : Value) (hi0 : Try.prog.info? 40 = some i0) (hz0 : i0.zero = some z0) (hz1 : i0.size = 15) (hz2 : i0.bytes = 128) (hzs : z0.cells.size = 15) (hM63 : M.length ≤ 9223372036854775807) (hl63 : ll ≤ 9223372036854775807) (hLen : Hid (T.length + (rnMs k M).length ≤ 1000000000000)) (hb : b < w.heap.size)
    (hp : Hid (∀ y : Ext w, y.val.cell? ⟨b, off + k * 7 + 5, none⟩ = some (.slice meA M.length mec))) (HM : Hid (Lies w 17 Me.cells meA M)) (HI : Hid (∀ m ∈ M, MeIn w m)) (HB : Hid (∀ m ∈ M, (liAll m.body 0 (bkA m.bA) (ofA m.bA)).length ≤ 400000000000)) (x : Ext w) (v0 : Value)
    (hO : Hid (Grow.Own x.val w.heap.size 40 15 Nt.cells v0 (T))) (q1 q2 q5 q6 q8 q9 q10 q11 q12 q13 q14 q15 q16 q17 q18 q19 q20 q21 q22 q23 q24 q25 q26 q27 q28 q29 q30 q31 q32 q33 q34 q35 q36 q37 q38 q39 q40 q41 q42 q43 q44 q45 q46 q47 q48 q49 q50 q51 q52 q53 q54 q55 q56 q57 q58 q59 q60 q61 q62 q63 q64 q65 q66 q67 q68 q69 q70 q71 q72 q73 q74 q75 q76 q77 q78 q79 q80 q81 q82 q83 q84 q85 q86 q87 q88 q89 q90 q91 q92 q93 q94 q95 q96 q97 q98 q99 q100 q101 q102 q103 q104 q105 q106 q107 q108 q109 q110 q111 q112 q113 q114 q115 q116 q117 q118 q119 q120 q121 q122 q123 q124 q125 q126 q127 q128 q129 q130 q131 q132 q133 q134 q135 q136 : Value) (Q : Exit → Act → World → Prop) (hpan : ∀ c (a : Act) (d : Nat) v w, Q (.panic c) (a.put (some d) v) w → Q (.panic c) a w)
    (hexit : ∀ (r3 r7 r8 r9 r10 r11 r12 r47 r48 r49 r50 r51 r52 r53 r54 r55 r56 r57 r58 r59 r60 r61 r62 r63 r64 r65 r66 r67 r68 r69 r70 r71 r72 r73 r74 r75 r76 r77 r78 r79 r80 r81 r82 r83 r84 r85 r86 r87 r88 r89 r90 r91 r92 r93 r94 r95 r96 r97 r98 r99 r100 r101 r102 r103 r104 r105 r106 r107 r108 r109 r110 r111 r112 r113 r114 r115 r116 r117 r118 r119 r120 r121 r122 r123 r124 r125 r126 r127 r128 r129 r130 r131 r132 r133 r134 r135 : Value) (x' : Ext w), Hid (Grow.Own x'.val w.heap.size 40 15 Nt.cells r3 (T ++ rnMs k M)) → Q (.exit 4) ⟨List.toArray ((Value.slice (some ⟨b, off, none⟩) ll c) :: q1 :: q2 :: (r3) :: (Value.int .i64 k) :: q5 :: q6 :: (r7) :: (r8) :: (r9) :: (r10) :: (r11) :: (r12) :: q13 :: q14 :: q15 :: q16 :: q17 :: q18 :: q19 :: q20 :: q21 :: q22 :: q23 :: q24 :: q25 :: q26 :: q27 :: q28 :: q29 :: q30 :: q31 :: q32 :: q33 :: q34 :: q35 :: q36 :: q37 :: q38 :: q39 :: q40 :: q41 :: q42 :: q43 :: q44 :: q45 :: q46 :: (r47) :: (r48) :: (r49) :: (r50) :: (r51) :: (r52) :: (r53) :: (r54) :: (r55) :: (r56) :: (r57) :: (r58) :: (r59) :: (r60) :: (r61) :: (r62) :: (r63) :: (r64) :: (r65) :: (r66) :: (r67) :: (r68) :: (r69) :: (r70) :: (r71) :: (r72) :: (r73) :: (r74) :: (r75) :: (r76) :: (r77) :: (r78) :: (r79) :: (r80) :: (r81) :: (r82) :: (r83) :: (r84) :: (r85) :: (r86) :: (r87) :: (r88) :: (r89) :: (r90) :: (r91) :: (r92) :: (r93) :: (r94) :: (r95) :: (r96) :: (r97) :: (r98) :: (r99) :: (r100) :: (r101) :: (r102) :: (r103) :: (r104) :: (r105) :: (r106) :: (r107) :: (r108) :: (r109) :: (r110) :: (r111) :: (r112) :: (r113) :: (r114) :: (r115) :: (r116) :: (r117) :: (r118) :: (r119) :: (r120) :: (r121) :: (r122) :: (r123) :: (r124) :: (r125) :: (r126) :: (r127) :: (r128) :: (r129) :: (r130) :: (r131) :: (r132) :: (r133) :: (r134) :: (r135) :: q136 :: []), []⟩ x'.val) : Code.wp Try.prog (Code.loop (rtLoop 2)) Q ⟨List.toArray ((Value.slice (some ⟨b, off, none⟩) ll c) :: q1 :: q2 :: (v0) :: (Value.int .i64 k) :: q5 :: q6 :: (Value.int .i64 0) :: q8 :: q9 :: q10 :: q11 :: q12 :: q13 :: q14 :: q15 :: q16 :: q17 :: q18 :: q19 :: q20 :: q21 :: q22 :: q23 :: q24 :: q25 :: q26 :: q27 :: q28 :: q29 :: q30 :: q31 :: q32 :: q33 :: q34 :: q35 :: q36 :: q37 :: q38 :: q39 :: q40 :: q41 :: q42 :: q43 :: q44 :: q45 :: q46 :: q47 :: q48 :: q49 :: q50 :: q51 :: q52 :: q53 :: q54 :: q55 :: q56 :: q57 :: q58 :: q59 :: q60 :: q61 :: q62 :: q63 :: q64 :: q65 :: q66 :: q67 :: q68 :: q69 :: q70 :: q71 :: q72 :: q73 :: q74 :: q75 :: q76 :: q77 :: q78 :: q79 :: q80 :: q81 :: q82 :: q83 :: q84 :: q85 :: q86 :: q87 :: q88 :: q89 :: q90 :: q91 :: q92 :: q93 :: q94 :: q95 :: q96 :: q97 :: q98 :: q99 :: q100 :: q101 :: q102 :: q103 :: q104 :: q105 :: q106 :: q107 :: q108 :: q109 :: q110 :: q111 :: q112 :: q113 :: q114 :: q115 :: q116 :: q117 :: q118 :: q119 :: q120 :: q121 :: q122 :: q123 :: q124 :: q125 :: q126 :: q127 :: q128 :: q129 :: q130 :: q131 :: q132 :: q133 :: q134 :: q135 :: q136 :: []), []⟩ x.val := by
  conv => arg 2; arg 1; whnf
  go_loopw [3, 7] (fun s3 s7 wr => ∃ j : Nat, s7 = .int .i64 j ∧ j ≤ M.length ∧ ∃ y : Ext w, wr = y.val ∧ Hid (Grow.Own y.val w.heap.size 40 15 Nt.cells s3 (T ++ rnMs k (M.take j)))) (fun _ s7 _ => M.length - (intOf s7).toNat)
  case atStart => exact ⟨0, rfl, Nat.zero_le _, x, rfl, (show Grow.Own _ _ _ _ _ _ _ by simpa [rnMs] using hO.out)⟩
  case round =>
    obtain ⟨j, rfl, hj, y, rfl, hown⟩ := hrel
    clear hO
    by_cases hlt : j < M.length
    · obtain ⟨mb, moff, hmA, hmb, hmc⟩ := HM.out j hlt
      have hlt' : (j : Int) < (M.length : Int) := by omega
      have HTj := rnMs_take k M j hlt
      have hpl := (rnMs_prefix k M (j + 1)).length_le
      have hmem := List.getElem_mem hlt
      obtain ⟨m, hm⟩ : ∃ m, m = M[j] := ⟨_, rfl⟩
      rw [← hm] at HTj hmc hmem
      have hIn := hide (HI.out m hmem)
      have hBm := hide (HB.out m hmem)
      have hrg : Hid (y.val.rangeAt mb (moff + j * 17) m.cells) := fun i u h => (y.cell hmb).trans (hmc i u h)
      obtain ⟨T1, hT1⟩ : ∃ T1, T1 = T ++ rnMs k (M.take j) := ⟨_, rfl⟩
      rw [← hT1] at hown
      obtain ⟨V, hV⟩ : ∃ V, V = m.params ++ m.locals := ⟨_, rfl⟩
      obtain ⟨S, hS⟩ : ∃ S, S = bodyLn m := ⟨_, rfl⟩
      have HTn : Hid (T ++ rnMs k (M.take (j + 1)) = T1 ++ [Nt.mk k j (-1) m.ret m.pos] ++ rnV k j V ++ rnB k j S) := by
        show _ = _
        rw [HTj, hT1, hV, hS]
        simp [rnMe]
      have HLen : Hid (T1.length + 1 + V.length + (rnB k j S).length ≤ 1000000000000) := by
        have h := congrArg List.length HTn.out
        have h2 := hLen.out
        simp only [List.length_append, List.length_cons, List.length_nil, rnV, List.length_mapIdx] at h
        show _ ≤ _
        omega
      have HSl : Hid (S.length ≤ 400000000000) := by
        have := hBm.out
        show _ ≤ _
        rw [hS, bodyLn, List.length_map]
        exact this
      have HV := hide hV
      have HS := hide hS
      have hlt9 := hide hlt
      subst hmA
      have p5 : y.val.cell? ⟨b, off + k * 7 + 5, none⟩ = some (.slice (some ⟨mb, moff, none⟩) M.length mec) := hp.out y
      clear hmc hm hlt HTj hpl hmem hT1 hV hS
      go_upto_region 14 with (first | (refine wpList_load_mid rfl 63 (.tmp 63) rfl mb (moff + j * 17) rfl m.cells _ hrg.out Try.underlying63 rfl (by rw [Me.cells_len]; kernel_rfl) ?_) | (refine wpList_store_new rfl 63 (.tmp 8) (.tmp 64) rfl _ _ _ _ rfl rfl rfl (by rw [List.size_toArray, Me.cells_len]; kernel_rfl) (by simp [Me.cells_len]) (fun u hu => Me.cells_one m u (by simpa using hu)) ?_))
      obtain ⟨Bm, hBm2⟩ : ∃ B, B = y.val.heap.size := ⟨_, rfl⟩
      obtain ⟨Z, hZ⟩ : ∃ Z : Ext w, y.val.alloc (.cells m.cells.toArray 63) = Z.val := Ext.of (y.below.alloc (y.le (Nat.le_refl _)) _)
      have hrZ : Z.val.heap[Bm]? = some (.cells m.cells.toArray 63 (0, 0)) := by rw [← hZ, hBm2]; exact heap_alloc_new _ _
      have c16 : Z.val.cell? ⟨Bm, 16, none⟩ = some (.int .i64 m.pos) := (row_cell hrZ (j := 16) rfl).1
      have hrt : Hid (Z.val.rangeAt Bm 2 m.ret.cells) := range_of_row hrZ 2 _ fun i u h => by
        rw [List.getElem?_toArray, Nat.add_comm]
        show (Value.string m.name :: .bool m.pure :: (m.ret.cells ++ _))[i + 2]? = some u
        rw [List.getElem?_cons_succ, List.getElem?_cons_succ, List.getElem?_append_left (List.getElem?_eq_some_iff.1 h).1]
        exact h
      have hoZ : Hid (Grow.Own Z.val w.heap.size 40 15 Nt.cells u3 T1) := by show Grow.Own _ _ _ _ _ _ _; rw [← hZ]; exact hown.out.alloc _
      have HrZ := hide hrZ
      rw [hZ, ← hBm2]
      clear hZ hBm2 hrZ hown hrg p5
      have hb1 : Hid (T1.length + [Nt.mk k j (-1) m.ret m.pos].length ≤ maxLen ∧ (T1.length + [Nt.mk k j (-1) m.ret m.pos].length) * 128 ≤ 140737488355328) := by
        have := HLen.out
        show _ ∧ _
        simp only [List.length_cons, List.length_nil]
        unfold maxLen
        omega
      go_upto_region 15 with (first | (refine wpList_load_mid rfl 37 (.tmp 68) rfl Bm 2 rfl m.ret.cells _ hrt.out Try.underlying37 rfl (by rw [Ty.cells_len]; kernel_rfl) ?_) | (refine wpList_buildV rfl 40 [(0, .tmp 66), (1, .tmp 67), (2, .const (.int .i64 (-1))), (3, .tmp 69), (4, .tmp 71)] rfl [(0, .int .i64 k), (1, .int .i64 j), (2, .int .i64 (-1)), (3, .agg m.ret.cells.toArray), (4, .int .i64 m.pos)] (by kernel_rfl) _ (built_nt k j (-1) m.ret m.pos) ?_) | (refine wpList_lit_one rfl 27 40 (.tmp 72) rfl (Nt.mk k j (-1) m.ret m.pos).cells.toArray rfl i0 z0 15 Try.underlying27 hi0 hz0 hz1 (by rw [List.size_toArray, Nt.cells_len]) (by decide) (by decide) ?_) | (at_builtin; refine wpList_append_list (w1 := w) _ rfl (.tmp 65) (.tmp 73) 27 rfl 40 i0 z0 15 128 Try.underlying27 hi0 hz0 hz1 hz2 hzs (by decide) Nt.cells_len Nt.cells_one (Z.below.alloc Z.below.size _) u3 T1 rfl (hoZ.out.alloc _) _ 1 1 [Nt.mk k j (-1) m.ret m.pos] rfl rfl (Lies.one Z.val (Nt.mk k j (-1) m.ret m.pos) _ rfl) hb1.out.1 hb1.out.2 ?_; intro v' y2 hown' hgr hat))
      have hrow2 : Hid (y2.val.heap[Bm]? = some (.cells m.cells.toArray 63 (0, 0))) := (hgr.block _ (Nat.lt_of_lt_of_le (row_lt HrZ.out) (by simp)) (own_ne hoZ.out HrZ.out (by decide))).trans ((Below.heap_alloc _ _ _ (row_lt HrZ.out)).trans HrZ.out)
      have hown2 := hide hown'
      have HVars := refVars_any m y2.val (hIn.out.ext y2) (by have := HLen.out; have h2 := HV.out; rw [h2, List.length_append] at this; omega)
      unfold GivesOwn at HVars
      rw [← HV.out] at HVars
      have HVars := hide HVars
      clear hown' hgr hat hoZ HrZ hrt c16 hb1
      go_upto_region 16 with (first | (refine wpList_load_row rfl 63 (.tmp 8) rfl Bm rfl 63 m.cells.toArray (0, 0) _ hrow2.out Try.underlying63 rfl (by rw [List.size_toArray, Me.cells_len]; kernel_rfl) ?_) | (go_at_call 19; refine HVars.out.mono ?_; clear HVars; rintro _ _ ⟨x3, vv, rfl, rfl, hov⟩))
      obtain ⟨vA, vc, rfl, hv1, hv2, _⟩ := hov.lies Va.cells_len
      obtain ⟨y3, hy3⟩ : ∃ y3 : Ext w, x3.val = y3.val := ⟨y2.step x3.below, rfl⟩
      have hV3 : Hid (Grow.Own y3.val w.heap.size 79 13 Va.cells (.slice vA V.length vc) V) := by show Grow.Own _ _ _ _ _ _ _; rw [← hy3]; exact hov.weaken y2.below.size
      have hM3 : Hid (y3.val.heap[Bm]? = some (.cells m.cells.toArray 63 (0, 0))) := by show _ = _; rw [← hy3]; exact (x3.below.block _ (row_lt hrow2.out)).trans hrow2.out
      have hO3 : Hid (Grow.Own y3.val w.heap.size 40 15 Nt.cells v' (T1 ++ [Nt.mk k j (-1) m.ret m.pos])) := by show Grow.Own _ _ _ _ _ _ _; rw [← hy3]; exact hown2.out.ext x3
      rw [hy3]
      have hL3 : Hid ((T1 ++ [Nt.mk k j (-1) m.ret m.pos]).length + V.length ≤ 1000000000000) := by have := HLen.out; show _ ≤ _; simp only [List.length_append, List.length_cons, List.length_nil]; omega
      have hV63 : V.length ≤ 9223372036854775807 := by unfold maxLen at hv2; omega
      clear hv1 hv2 hov hy3 hown2 hrow2
      go_wp2_with fail
      refine rt_l4 w k j Bm m.cells.toArray V vA vc (T1 ++ [Nt.mk k j (-1) m.ret m.pos]) i0 z0 hi0 hz0 hz1 hz2 hzs hV63 hL3 y3 v' hO3 hV3 hM3 _ _ _ _ _ _ _ _ _ _ _ _ _ _ _ _ _ _ _ _ _ _ _ _ _ _ _ _ _ _ _ _ _ _ _ _ _ _ _ _ _ _ _ _ _ _ _ _ _ _ _ _ _ _ _ _ _ _ _ _ _ _ _ _ _ _ _ _ _ _ _ _ _ _ _ _ _ _ _ _ _ _ _ _ _ _ _ _ _ _ _ _ _ _ _ _ _ _ _ _ _ _ _ _ _ _ _ _ _ _ _ _ _ _ _ _ _ _ _ _ _ _ _ _ _ _ _ _ _ _ _ _ _ (fun _ _ _ _ _ h => hpan _ _ _ _ _ h) ?_
      intro r3 r10 r77 r78 r79 r80 r81 r82 r83 r84 r85 r86 r87 r88 r89 r90 r91 r92 r93 r94 r95 r96 r97 r98 r99 x4 hO4 hM4
      have c15 : x4.val.cell? ⟨Bm, 15, none⟩ = some (.slice m.bA m.body.length m.bc) := (row_cell hM4.out (j := 15) rfl).1
      have HLi := lines_ok m.body x4.val m.bA m.bc (Ln.mk 0 0 0 St.zero) (hIn.out.ext x4).stmts (hIn.out.ext x4).body (hIn.out.ext x4).bc (hIn.out.ext x4).bm hBm.out
      unfold GivesOwn at HLi
      have e9 : (liAll m.body (Ln.mk 0 0 0 St.zero).d (bkA m.bA) (ofA m.bA)).map (Li.ln (Ln.mk 0 0 0 St.zero).c (Ln.mk 0 0 0 St.zero).m) = S := by rw [HS.out]; rfl
      rw [e9] at HLi
      have HLi := hide HLi
      clear hO3 hV3 hM3 hL3 e9
      go_upto_region 21 with (first | (refine wpList_buildV rfl 49 [] rfl [] rfl _ built_ln ?_) | (go_at_call 20; refine HLi.out.mono ?_; clear HLi; rintro _ _ ⟨x5, vl, rfl, rfl, hol⟩))
      obtain ⟨lA, lc, rfl, hv1, hv2, _⟩ := hol.lies Ln.cells_len
      obtain ⟨y5, hy5⟩ : ∃ y5 : Ext w, x5.val = y5.val := ⟨x4.step x5.below, rfl⟩
      have hV5 : Hid (Grow.Own y5.val w.heap.size 49 26 Ln.cells (.slice lA S.length lc) S) := by show Grow.Own _ _ _ _ _ _ _; rw [← hy5]; exact hol.weaken x4.below.size
      have hM5 : Hid (y5.val.heap[Bm]? = some (.cells m.cells.toArray 63 (0, 0))) := by show _ = _; rw [← hy5]; exact (x5.below.block _ (row_lt hM4.out)).trans hM4.out
      have hO5 : Hid (Grow.Own y5.val w.heap.size 40 15 Nt.cells r3 (T1 ++ [Nt.mk k j (-1) m.ret m.pos] ++ rnV k j V)) := by show Grow.Own _ _ _ _ _ _ _; rw [← hy5]; exact hO4.out.ext x5
      rw [hy5]
      have hL5 : Hid ((T1 ++ [Nt.mk k j (-1) m.ret m.pos] ++ rnV k j V).length + (rnB k j S).length ≤ 1000000000000) := by have := HLen.out; show _ ≤ _; simp only [List.length_append, List.length_cons, List.length_nil, rnV, List.length_mapIdx]; omega
      have hS63 : S.length ≤ 9223372036854775807 := by unfold maxLen at hv2; omega
      clear hv1 hv2 hol hy5 hO4 hM4 c15
      go_wp2_with fail
      refine rt_l5 w k j Bm m.cells.toArray S lA lc (T1 ++ [Nt.mk k j (-1) m.ret m.pos] ++ rnV k j V) i0 z0 hi0 hz0 hz1 hz2 hzs hS63 hL5 y5 r3 hO5 hV5 hM5 _ _ _ _ _ _ _ _ _ _ _ _ _ _ _ _ _ _ _ _ _ _ _ _ _ _ _ _ _ _ _ _ _ _ _ _ _ _ _ _ _ _ _ _ _ _ _ _ _ _ _ _ _ _ _ _ _ _ _ _ _ _ _ _ _ _ _ _ _ _ _ _ _ _ _ _ _ _ _ _ _ _ _ _ _ _ _ _ _ _ _ _ _ _ _ _ _ _ _ _ _ _ _ _ _ _ _ _ _ _ _ _ _ _ _ _ _ _ _ _ _ _ _ _ _ _ _ _ _ _ _ _ _ (fun _ _ _ _ _ h => hpan _ _ _ _ _ h) ?_
      intro z3 z12 z104 z105 z106 z107 z108 z109 z110 z111 z112 z113 z114 z115 z116 z117 z118 z119 z120 z121 z122 z123 z124 z125 z126 z127 z128 z129 z130 z131 z132 z133 z134 z135 x6 hO6 hM6
      have hO9 : Hid (Grow.Own x6.val w.heap.size 40 15 Nt.cells z3 (T ++ rnMs k (M.take (j + 1)))) := by show Grow.Own _ _ _ _ _ _ _; rw [HTn.out]; exact hO6.out
      go_wp2_with fail
      go_roundw
      case rel => exact ⟨j + 1, by go_num, Nat.succ_le_of_lt hlt9.out, x6, rfl, hO9⟩
      case measure => have := hlt9.out; simp [intOf]; omega
    · obtain rfl : j = M.length := Nat.le_antisymm hj (Nat.le_of_not_lt hlt)
      have hlt' : ¬ (M.length : Int) < (M.length : Int) := by omega
      have hO9 : Hid (Grow.Own y.val w.heap.size 40 15 Nt.cells u3 (T ++ rnMs k M)) := by have := hown.out; rw [List.take_length] at this; exact this
      have p5 : y.val.cell? ⟨b, off + k * 7 + 5, none⟩ = some (.slice meA M.length mec) := hp.out y
      clear hown
      go_wp2_with fail
end Go.Proofs.Ytmpdmelkbemabaa
set_option linter.unusedSimpArgs false
set_option linter.unusedVariables false
namespace Go.Proofs.Grow
open Go.RowKit
theorem rnP_prefix (l : List Cl) (k : Nat) : rnP (l.take k) <+: rnP l := by
  have h : rnP l = rnP (l.take k ++ l.drop k) := by rw [List.take_append_drop]
  rw [h]
  unfold rnP
  rw [List.mapIdx_append, List.flatten_append]
  exact List.prefix_append _ _
end Go.Proofs.Grow
namespace Go.Proofs.Ytmpdmelkbemabaa
open Go.RowKit Go.Proofs.Grow
set_option maxHeartbeats 0 in
set_option maxRecDepth 1000000 in
theorem refTypes_any (w : World) (A : Option Addr) (c : Nat) (l : List Cl) (hl63 : l.length ≤ 9223372036854775807) (hs : Lies w 7 Cl.cells A l) (hin : ∀ cl ∈ l, ClIn w cl) (hn : (rnP l).length ≤ 1000000000000)
    (hb : ∀ cl ∈ l, ∀ m ∈ cl.methods, (liAll m.body 0 (bkA m.bA) (ofA m.bA)).length ≤ 400000000000) :
    GivesOwn Try.prog 8 #[.slice A l.length c] w 40 15 Nt.cells (rnP l) := by
  unfold GivesOwn
  obtain ⟨i0, z0, hi0, hz0, hz1, hz2, hzs⟩ := info_row infoRn
  have HS := hide hs
  have HI := hide hin
  have HN := hide hn
  have HB := hide hb
  clear hs hin hn hb
  go_enter Try.func8, Try.ntmps8
  go_wp2_with fail
  go_loopw [3, 4] (fun v s4 wr => ∃ k : Nat, s4 = .int .i64 k ∧ k ≤ l.length ∧ ∃ x : Ext w, wr = x.val ∧ Hid (Grow.Own x.val w.heap.size 40 15 Nt.cells v (rnP (l.take k)))) (fun _ s4 _ => l.length - (intOf s4).toNat)
  case atStart => exact ⟨0, rfl, Nat.zero_le _, Ext.here w, rfl, (show Grow.Own _ _ _ _ _ _ _ by simpa [rnP] using Own.nil)⟩
  case round =>
    obtain ⟨k, rfl, hk, x, rfl, hown⟩ := hrel
    by_cases hlt : k < l.length
    · obtain ⟨b, off, hA, hb, hcell⟩ := HS.out k hlt
      have hlt' : (k : Int) < (l.length : Int) := by omega
      have hmem := List.getElem_mem hlt
      have HT := rnP_take l k hlt
      have hpl := (rnP_prefix l (k + 1)).length_le
      obtain ⟨cl, hcl⟩ : ∃ cl, cl = l[k] := ⟨_, rfl⟩
      rw [← hcl] at hcell hmem HT
      have hIn := hide (HI.out cl hmem)
      have HBm := hide (HB.out cl hmem)
      have HLen : Hid ((rnP (l.take k)).length + cl.fields.length + (rnMs k cl.methods).length ≤ 1000000000000) := by
        rw [HT] at hpl
        have := HN.out
        unfold rnC at hpl
        simp only [List.length_append, rnV, List.length_mapIdx] at hpl
        show _ ≤ _
        omega
      have HT9 := hide HT
      have hlt9 := hide hlt
      obtain ⟨T, hT⟩ : ∃ T, T = rnP (l.take k) := ⟨_, rfl⟩
      rw [← hT] at hown HLen HT9
      obtain ⟨F, hF⟩ : ∃ F, F = cl.fields := ⟨_, rfl⟩
      obtain ⟨M, hM⟩ : ∃ M, M = cl.methods := ⟨_, rfl⟩
      have HF : Hid (Lies w 13 Va.cells cl.fA F) := by show Lies _ _ _ _ _; rw [hF]; exact hIn.out.fields
      have HM : Hid (Lies w 17 Me.cells cl.mA M) := by show Lies _ _ _ _ _; rw [hM]; exact hIn.out.methods
      have HMI : Hid (∀ m ∈ M, MeIn w m) := by show ∀ m ∈ M, _; rw [hM]; exact hIn.out.each
      have HMB : Hid (∀ m ∈ M, (liAll m.body 0 (bkA m.bA) (ofA m.bA)).length ≤ 400000000000) := by show ∀ m ∈ M, _; rw [hM]; exact HBm.out
      have hF63 : F.length ≤ 9223372036854775807 := by rw [hF]; have h1 := hIn.out.fc; have h2 := hIn.out.fm; unfold maxLen at h2; omega
      have hM63 : M.length ≤ 9223372036854775807 := by rw [hM]; have h1 := hIn.out.mc; have h2 := hIn.out.mm; unfold maxLen at h2; omega
      rw [← hF, ← hM] at HLen
      have p4 : Hid (∀ y : Ext w, y.val.cell? ⟨b, off + k * 7 + 4, none⟩ = some (.slice cl.fA F.length cl.fc)) := fun y => by rw [y.cell hb, hF]; exact hcell 4 _ rfl
      have p5 : Hid (∀ y : Ext w, y.val.cell? ⟨b, off + k * 7 + 5, none⟩ = some (.slice cl.mA M.length cl.mc)) := fun y => by rw [y.cell hb, hM]; exact hcell 5 _ rfl
      have HTn : Hid (rnP (l.take (k + 1)) = T ++ rnV k (-1) F ++ rnMs k M) := by show _ = _; rw [HT9.out, hF, hM, rnC, List.append_assoc]
      subst hA
      have hL2 : Hid (T.length + F.length ≤ 1000000000000) := by have := HLen.out; show _ ≤ _; omega
      have hL3 : Hid ((T ++ rnV k (-1) F).length + (rnMs k M).length ≤ 1000000000000) := by have := HLen.out; show _ ≤ _; simp only [List.length_append, rnV, List.length_mapIdx]; omega
      clear hcell hcl hmem HT hpl hlt hT hF hM
      go_wp2_with fail
      refine rt_l2 w k b off l.length c hlt' F cl.fA cl.fc T i0 z0 hi0 hz0 hz1 hz2 hzs hF63 hl63 hL2 hb p4 HF x _ hown _ _ _ _ _ _ _ _ _ _ _ _ _ _ _ _ _ _ _ _ _ _ _ _ _ _ _ _ _ _ _ _ _ _ _ _ _ _ _ _ _ _ _ _ _ _ _ _ _ _ _ _ _ _ _ _ _ _ _ _ _ _ _ _ _ _ _ _ _ _ _ _ _ _ _ _ _ _ _ _ _ _ _ _ _ _ _ _ _ _ _ _ _ _ _ _ _ _ _ _ _ _ _ _ _ _ _ _ _ _ _ _ _ _ _ _ _ _ _ _ _ _ _ _ _ _ _ _ _ _ _ _ _ _ ?_
      intro r3 r5 r6 r19 r20 r21 r22 r23 r24 r25 r26 r27 r28 r29 r30 r31 r32 r33 r34 r35 r36 r37 r38 r39 r40 r41 r42 r43 r44 r45 r46 x2 hO2
      go_wp2_with fail
      refine rt_l3 w k b off l.length c hlt' M cl.mA cl.mc (T ++ rnV k (-1) F) i0 z0 hi0 hz0 hz1 hz2 hzs hM63 hl63 hL3 hb p5 HM HMI HMB x2 r3 hO2 _ _ _ _ _ _ _ _ _ _ _ _ _ _ _ _ _ _ _ _ _ _ _ _ _ _ _ _ _ _ _ _ _ _ _ _ _ _ _ _ _ _ _ _ _ _ _ _ _ _ _ _ _ _ _ _ _ _ _ _ _ _ _ _ _ _ _ _ _ _ _ _ _ _ _ _ _ _ _ _ _ _ _ _ _ _ _ _ _ _ _ _ _ _ _ _ _ _ _ _ _ _ _ _ _ _ _ _ _ _ _ _ _ _ _ _ _ _ _ _ _ _ _ _ _ _ _ _ _ _ _ _ _ _ (fun _ _ _ _ _ h => h) ?_
      intro z3 z7 z8 z9 z10 z11 z12 z47 z48 z49 z50 z51 z52 z53 z54 z55 z56 z57 z58 z59 z60 z61 z62 z63 z64 z65 z66 z67 z68 z69 z70 z71 z72 z73 z74 z75 z76 z77 z78 z79 z80 z81 z82 z83 z84 z85 z86 z87 z88 z89 z90 z91 z92 z93 z94 z95 z96 z97 z98 z99 z100 z101 z102 z103 z104 z105 z106 z107 z108 z109 z110 z111 z112 z113 z114 z115 z116 z117 z118 z119 z120 z121 z122 z123 z124 z125 z126 z127 z128 z129 z130 z131 z132 z133 z134 z135 x3 hO3
      have hO9 : Hid (Grow.Own x3.val w.heap.size 40 15 Nt.cells z3 (rnP (l.take (k + 1)))) := by show Grow.Own _ _ _ _ _ _ _; rw [HTn.out]; exact hO3.out
      go_wp2_with fail
      go_roundw
      case rel => exact ⟨k + 1, by go_num, Nat.succ_le_of_lt hlt9.out, x3, rfl, hO9⟩
      case measure => have := hlt9.out; simp [intOf]; omega
    · obtain rfl : k = l.length := Nat.le_antisymm hk (Nat.le_of_not_lt hlt)
      have hlt' : ¬ (l.length : Int) < (l.length : Int) := by omega
      have hO9 : Hid (Grow.Own x.val w.heap.size 40 15 Nt.cells u3 (rnP l)) := by have := hown.out; rw [List.take_length] at this; exact this
      clear hown
      go_wp2_with fail
      go_ret
      exact ⟨x, _, rfl, rfl, hO9.out⟩
end Go.Proofs.Ytmpdmelkbemabaa
