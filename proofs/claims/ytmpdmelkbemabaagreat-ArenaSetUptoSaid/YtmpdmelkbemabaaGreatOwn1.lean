/- The loops of arena.own over variables. -/
import Derived.Test.YtmpdmelkbemabaaGreatOwnLib
import Derived.Test.YtmpdmelkbemabaaGreatStmts
set_option linter.unusedSimpArgs false
set_option linter.unusedVariables false
namespace Go.Proofs.YtmpdmelkbemabaaGreat
open Go.RowKit Go.Proofs.Grow
attribute [local go_sem] Oper.semAt_some
noncomputable def ownLoop (i : Nat) : Code := (((Tryz.f15.body.map loopsIn).getD [])[i]?).getD .skip
noncomputable def ownRange (i : Nat) : Code := (((Tryz.f15.body.map rangesIn).getD [])[i]?).getD .skip

set_option maxHeartbeats 0 in
set_option maxRecDepth 1000000 in
theorem own_l6 (n : Nat) (w : World) (hi : Nat) (rs : List Rw) (hsep : Hid (rs.Pairwise Rw.apart)) (hrng : Hid (∀ r ∈ rs, w.heap.size ≤ r.b ∧ r.b < hi)) (D0 : Nat → Nat → Prop) (X0 : World) (hB : Hid (Below w.heap.size w X0)) (hM : Hid (Mask altA rs D0 X0)) (bm om Bw : Nat) (m m' : Me) (hm : Hid ((⟨bm, om, .me m'⟩ : Rw) ∈ rs)) (hv : Hid (∀ r ∈ rwVas m'.pA m'.params, r ∈ rs)) (hadr : Hid (AdrOk m'.pA m'.params)) (he : Hid (m'.params = m.params)) (hL : Hid (Lies w 13 Va.cells m.pA m.params)) (hlen : m.params.length ≤ 1048576)
    (hBw : Hid (X0.heap[Bw]? = some (.cells m.cells.toArray 43 (0, 0)))) (hhi : hi ≤ Bw) (hlo : w.heap.size ≤ hi) (q0 q1 q2 q3 q4 q5 q6 q9 q10 q11 q12 q13 q14 q15 q16 q17 q18 q19 q20 q21 q22 q23 q24 q25 q26 q27 q28 q29 q30 q31 q32 q33 q34 q35 q36 q37 q38 q39 q40 q41 q42 q43 q44 q45 q46 q47 q48 q49 q50 q51 q52 q53 q54 q55 q56 q57 q58 q59 q60 q61 q62 q63 q64 q65 q66 q67 q68 q69 q70 q71 q72 q73 q74 q75 q76 q77 q78 q79 q80 q81 q82 q83 q84 q85 q86 q87 q88 q89 q90 q91 q94 q95 q96 q97 q98 q99 q100 q101 q102 q103 q104 q105 q106 q107 q108 q109 q110 q111 q112 q113 q114 q115 q116 q117 q118 q119 q120 q121 q122 q123 q124 q125 q126 q127 q128 q129 q130 q131 q132 q133 q134 q135 q136 q137 q138 q139 q140 q141 q142 q143 q144 q145 q146 q147 q148 q149 q150 q151 q152 q153 q154 q155 q156 q157 q158 q159 : Value) (ds : List Deferred) (Q : Exit → Act → World → Prop) (hpan : ∀ c (a : Act) (d : Nat) v w, Q (.panic c) (a.put (some d) v) w → Q (.panic c) a w)
    (hexit : ∀ (r9 r93 r94 r95 r96 r97 r98 r99 r100 r101 r102 r103 r104 r105 r106 r107 r108 r109 : Value) (Y : World) (D : Nat → Nat → Prop), Hid (KeepsBut (Cpy w.heap.size hi) X0 Y ∧ Mask altA rs D Y ∧ (∀ b f, D0 b f → D b f) ∧ Cov D (rwVas m'.pA m'.params)) → Q (.exit 6) ⟨List.toArray (q0 :: q1 :: q2 :: q3 :: q4 :: q5 :: q6 :: (Value.pointer (some ⟨bm, om, none⟩)) :: (Value.pointer (some ⟨Bw, 0, none⟩)) :: (r9) :: q10 :: q11 :: q12 :: q13 :: q14 :: q15 :: q16 :: q17 :: q18 :: q19 :: q20 :: q21 :: q22 :: q23 :: q24 :: q25 :: q26 :: q27 :: q28 :: q29 :: q30 :: q31 :: q32 :: q33 :: q34 :: q35 :: q36 :: q37 :: q38 :: q39 :: q40 :: q41 :: q42 :: q43 :: q44 :: q45 :: q46 :: q47 :: q48 :: q49 :: q50 :: q51 :: q52 :: q53 :: q54 :: q55 :: q56 :: q57 :: q58 :: q59 :: q60 :: q61 :: q62 :: q63 :: q64 :: q65 :: q66 :: q67 :: q68 :: q69 :: q70 :: q71 :: q72 :: q73 :: q74 :: q75 :: q76 :: q77 :: q78 :: q79 :: q80 :: q81 :: q82 :: q83 :: q84 :: q85 :: q86 :: q87 :: q88 :: q89 :: q90 :: q91 :: (Value.int .i64 m.params.length) :: (r93) :: (r94) :: (r95) :: (r96) :: (r97) :: (r98) :: (r99) :: (r100) :: (r101) :: (r102) :: (r103) :: (r104) :: (r105) :: (r106) :: (r107) :: (r108) :: (r109) :: q110 :: q111 :: q112 :: q113 :: q114 :: q115 :: q116 :: q117 :: q118 :: q119 :: q120 :: q121 :: q122 :: q123 :: q124 :: q125 :: q126 :: q127 :: q128 :: q129 :: q130 :: q131 :: q132 :: q133 :: q134 :: q135 :: q136 :: q137 :: q138 :: q139 :: q140 :: q141 :: q142 :: q143 :: q144 :: q145 :: q146 :: q147 :: q148 :: q149 :: q150 :: q151 :: q152 :: q153 :: q154 :: q155 :: q156 :: q157 :: q158 :: q159 :: []), ds⟩ Y) : Code.wpIn Fence.wide n Tryz.prog (Code.loop (ownLoop 3)) Q ⟨List.toArray (q0 :: q1 :: q2 :: q3 :: q4 :: q5 :: q6 :: (Value.pointer (some ⟨bm, om, none⟩)) :: (Value.pointer (some ⟨Bw, 0, none⟩)) :: q9 :: q10 :: q11 :: q12 :: q13 :: q14 :: q15 :: q16 :: q17 :: q18 :: q19 :: q20 :: q21 :: q22 :: q23 :: q24 :: q25 :: q26 :: q27 :: q28 :: q29 :: q30 :: q31 :: q32 :: q33 :: q34 :: q35 :: q36 :: q37 :: q38 :: q39 :: q40 :: q41 :: q42 :: q43 :: q44 :: q45 :: q46 :: q47 :: q48 :: q49 :: q50 :: q51 :: q52 :: q53 :: q54 :: q55 :: q56 :: q57 :: q58 :: q59 :: q60 :: q61 :: q62 :: q63 :: q64 :: q65 :: q66 :: q67 :: q68 :: q69 :: q70 :: q71 :: q72 :: q73 :: q74 :: q75 :: q76 :: q77 :: q78 :: q79 :: q80 :: q81 :: q82 :: q83 :: q84 :: q85 :: q86 :: q87 :: q88 :: q89 :: q90 :: q91 :: (Value.int .i64 m.params.length) :: (Value.int .i64 0) :: q94 :: q95 :: q96 :: q97 :: q98 :: q99 :: q100 :: q101 :: q102 :: q103 :: q104 :: q105 :: q106 :: q107 :: q108 :: q109 :: q110 :: q111 :: q112 :: q113 :: q114 :: q115 :: q116 :: q117 :: q118 :: q119 :: q120 :: q121 :: q122 :: q123 :: q124 :: q125 :: q126 :: q127 :: q128 :: q129 :: q130 :: q131 :: q132 :: q133 :: q134 :: q135 :: q136 :: q137 :: q138 :: q139 :: q140 :: q141 :: q142 :: q143 :: q144 :: q145 :: q146 :: q147 :: q148 :: q149 :: q150 :: q151 :: q152 :: q153 :: q154 :: q155 :: q156 :: q157 :: q158 :: q159 :: []), ds⟩ X0 := by
  conv => arg 4; arg 1; whnf
  gi_loopw [9, 93] (fun s9 s93 wr => ∃ (j : Nat) (D : Nat → Nat → Prop), s93 = .int .i64 j ∧ j ≤ m.params.length ∧ Hid (KeepsBut (Cpy w.heap.size hi) X0 wr ∧ Mask altA rs D wr ∧ (∀ b f, D0 b f → D b f) ∧ ∀ i, i < j → D (bkA m'.pA) (ofA m'.pA + i * 13))) (fun _ s93 _ => m.params.length - (intOf s93).toNat)
  case atStart => exact ⟨0, D0, rfl, Nat.zero_le _, KeepsBut.refl _ _, hM.out, fun _ _ h => h, fun i h => by omega⟩
  case round =>
    obtain ⟨j, D, rfl, hj, hI⟩ := hrel
    by_cases hlt : j < m.params.length
    · obtain ⟨b, off, hA, hb, hcell⟩ := hL.out j hlt
      have hlt' : (j : Int) < (m.params.length : Int) := by omega
      have hl' : m'.params.length = m.params.length := by rw [he.out]
      have hltm : j < m'.params.length := by omega
      obtain ⟨b', o', hA'⟩ := hadr.out (by omega)
      have hrow0 := hv.out _ (rowsAt_get (b := bkA m'.pA) (off := ofA m'.pA) (size := 13) (l := m'.params.map .va) j (by simpa using hltm))
      simp only [List.getElem_map, hA', bkA, ofA] at hrow0
      obtain ⟨v, hve⟩ : ∃ v, v = m'.params[j] := ⟨_, rfl⟩
      have hvm : v = m.params[j] := by rw [hve]; simp only [he.out]
      rw [← hve] at hrow0
      rw [← hvm] at hcell
      have hmsk := hI.out.2.1
      have hkp := hI.out.1
      have hbel : Below w.heap.size w wr := hB.out.trans (Cpy.below hkp hB.out.size)
      have c1 : wr.cell? ⟨bm, om + 13, none⟩ = some (.slice (some ⟨b', o', none⟩) m.params.length m'.pc) := hmsk.cell hm.out 13 _ (fun p => by show some (Value.slice m'.pA m'.params.length m'.pc) = _; rw [hA', hl'])
      have hrw : wr.heap[Bw]? = some (.cells m.cells.toArray 43 (0, 0)) := (hkp.block _ (row_lt hBw.out) (fun h => by have := h.2; omega)).trans hBw.out
      have c2 : wr.cell? ⟨Bw, 13, none⟩ = some (.slice (some ⟨b, off, none⟩) m.params.length m.pc) := (cell_of_row _ _ _ _ _ _ hrw).trans (by rw [← hA]; rfl)
      have c3 : wr.cell? ⟨b, off + j * 13 + 12, none⟩ = some (.int .i64 v.pos) := (World.cell?_of_block (hbel.block b hb)).trans (hcell 12 _ rfl)
      have l1 : bm < wr.heap.size := World.block_lt_of_cell? _ _ c1
      have l2 : Bw < wr.heap.size := World.block_lt_of_cell? _ _ c2
      have l3 : b < wr.heap.size := World.block_lt_of_cell? _ _ c3
      obtain ⟨⟨u, c4⟩, f4⟩ := hmsk.free hrow0 12 (show 12 < 13 by decide)
      have hrow := hide hrow0
      have hlt9 := hide hlt
      have hA9 := hide hA'
      obtain ⟨ps, hps⟩ : ∃ p, p = v.pos := ⟨_, rfl⟩
      rw [← hps] at c3
      have hps9 := hide hps
      let S : World → Prop := fun X => KeepsBut (fun _ => False) wr X
      have hS1 : ∀ X, S X → X.cell? ⟨bm, om + 13, none⟩ = some (.slice (some ⟨b', o', none⟩) m.params.length m'.pc) := fun X h => (h.cell (a := ⟨bm, om + 13, none⟩) l1 id).trans c1
      have hS2 : ∀ X, S X → X.cell? ⟨Bw, 13, none⟩ = some (.slice (some ⟨b, off, none⟩) m.params.length m.pc) := fun X h => (h.cell (a := ⟨Bw, 13, none⟩) l2 id).trans c2
      have hS3 : ∀ X, S X → X.cell? ⟨b, off + j * 13 + 12, none⟩ = some (.int .i64 ps) := fun X h => (h.cell (a := ⟨b, off + j * 13 + 12, none⟩) l3 id).trans c3
      have hS : S wr.drew := KeepsBut.drew wr
      clear hcell hve hvm hA hA' hrow0 hmsk hkp hbel c1 hrw c2 c3 hlt hltm hl' hps l1 l2 l3
      gi_wp2
      refine wpIn_region_tillL S 13 (by kernel_rfl) ?_
      simp only [List.size_toArray, List.length_cons, List.length_nil, Nat.reduceAdd]
      refine TillL.take (i := 0) (v := ?_) (fun _ => trivial) rfl (by kernel_rfl) (fun _ _ _ h => hpan _ _ _ _ _ h) hS ?_ rfl ?_
      rotate_left
      · intro X hSX
        skip
        go_simp
        all_goals with_reducible rfl
      try simp only [Act.put, List.getElem_toArray, List.getElem_cons_succ, List.getElem_cons_zero, List.setIfInBounds_toArray, List.set_cons_zero, List.set_cons_succ]
      refine TillL.take (i := 1) (v := ?_) (fun _ => trivial) rfl (by kernel_rfl) (fun _ _ _ h => hpan _ _ _ _ _ h) hS ?_ rfl ?_
      rotate_left
      · intro X hSX
        skip
        go_simp
        all_goals with_reducible rfl
      try simp only [Act.put, List.getElem_toArray, List.getElem_cons_succ, List.getElem_cons_zero, List.setIfInBounds_toArray, List.set_cons_zero, List.set_cons_succ]
      refine TillL.take (i := 2) (v := ?_) (fun _ => trivial) rfl (by kernel_rfl) (fun _ _ _ h => hpan _ _ _ _ _ h) hS ?_ rfl ?_
      rotate_left
      · intro X hSX
        skip
        go_simp
        all_goals with_reducible rfl
      try simp only [Act.put, List.getElem_toArray, List.getElem_cons_succ, List.getElem_cons_zero, List.setIfInBounds_toArray, List.set_cons_zero, List.set_cons_succ]
      refine TillL.take (i := 3) (v := ?_) (fun _ => trivial) rfl (by kernel_rfl) (fun _ _ _ h => hpan _ _ _ _ _ h) hS ?_ rfl ?_
      rotate_left
      · intro X hSX
        have e1 := hS1 X hSX
        go_simp
        all_goals with_reducible rfl
      try simp only [Act.put, List.getElem_toArray, List.getElem_cons_succ, List.getElem_cons_zero, List.setIfInBounds_toArray, List.set_cons_zero, List.set_cons_succ]
      refine TillL.take (i := 4) (v := ?_) (fun _ => trivial) rfl (by kernel_rfl) (fun _ _ _ h => hpan _ _ _ _ _ h) hS ?_ rfl ?_
      rotate_left
      · intro X hSX
        skip
        go_simp
        all_goals with_reducible rfl
      try simp only [Act.put, List.getElem_toArray, List.getElem_cons_succ, List.getElem_cons_zero, List.setIfInBounds_toArray, List.set_cons_zero, List.set_cons_succ]
      refine TillL.take (i := 5) (v := ?_) (fun _ => trivial) rfl (by kernel_rfl) (fun _ _ _ h => hpan _ _ _ _ _ h) hS ?_ rfl ?_
      rotate_left
      · intro X hSX
        skip
        go_simp
        all_goals with_reducible rfl
      try simp only [Act.put, List.getElem_toArray, List.getElem_cons_succ, List.getElem_cons_zero, List.setIfInBounds_toArray, List.set_cons_zero, List.set_cons_succ]
      refine TillL.take (i := 6) (v := ?_) (fun _ => trivial) rfl (by kernel_rfl) (fun _ _ _ h => hpan _ _ _ _ _ h) hS ?_ rfl ?_
      rotate_left
      · intro X hSX
        have e2 := hS2 X hSX
        go_simp
        all_goals with_reducible rfl
      try simp only [Act.put, List.getElem_toArray, List.getElem_cons_succ, List.getElem_cons_zero, List.setIfInBounds_toArray, List.set_cons_zero, List.set_cons_succ]
      refine TillL.take (i := 7) (v := ?_) (fun _ => trivial) rfl (by kernel_rfl) (fun _ _ _ h => hpan _ _ _ _ _ h) hS ?_ rfl ?_
      rotate_left
      · intro X hSX
        skip
        go_simp
        all_goals with_reducible rfl
      try simp only [Act.put, List.getElem_toArray, List.getElem_cons_succ, List.getElem_cons_zero, List.setIfInBounds_toArray, List.set_cons_zero, List.set_cons_succ]
      refine TillL.take (i := 8) (v := ?_) (fun _ => trivial) rfl (by kernel_rfl) (fun _ _ _ h => hpan _ _ _ _ _ h) hS ?_ rfl ?_
      rotate_left
      · intro X hSX
        skip
        go_simp
        all_goals with_reducible rfl
      try simp only [Act.put, List.getElem_toArray, List.getElem_cons_succ, List.getElem_cons_zero, List.setIfInBounds_toArray, List.set_cons_zero, List.set_cons_succ]
      refine TillL.take (i := 9) (v := ?_) (fun _ => trivial) rfl (by kernel_rfl) (fun _ _ _ h => hpan _ _ _ _ _ h) hS ?_ rfl ?_
      rotate_left
      · intro X hSX
        skip
        go_simp
        all_goals with_reducible rfl
      try simp only [Act.put, List.getElem_toArray, List.getElem_cons_succ, List.getElem_cons_zero, List.setIfInBounds_toArray, List.set_cons_zero, List.set_cons_succ]
      refine TillL.take (i := 10) (v := ?_) (fun _ => trivial) rfl (by kernel_rfl) (fun _ _ _ h => hpan _ _ _ _ _ h) hS ?_ rfl ?_
      rotate_left
      · intro X hSX
        have e3 := hS3 X hSX
        go_simp
        all_goals with_reducible rfl
      try simp only [Act.put, List.getElem_toArray, List.getElem_cons_succ, List.getElem_cons_zero, List.setIfInBounds_toArray, List.set_cons_zero, List.set_cons_succ]
      refine TillL.one (i := 11) rfl (by kernel_rfl) rfl ?_
      intro K hK
      go_simp
      refine hK _ _ (fun _ => hS) ?_
      clear hK K
      try simp only [Act.put, List.getElem_toArray, List.getElem_cons_succ, List.getElem_cons_zero, List.setIfInBounds_toArray, List.set_cons_zero, List.set_cons_succ]
      refine TillL.take (i := 12) (v := ?_) (fun _ => trivial) rfl (by kernel_rfl) (fun _ _ _ h => hpan _ _ _ _ _ h) hS ?_ rfl ?_
      rotate_left
      · intro X hSX
        skip
        go_simp
        all_goals with_reducible rfl
      try simp only [Act.put, List.getElem_toArray, List.getElem_cons_succ, List.getElem_cons_zero, List.setIfInBounds_toArray, List.set_cons_zero, List.set_cons_succ]
      have c4d : wr.drew.cell? ⟨b', o' + j * 13 + 12, none⟩ = some u := c4
      have f4d : wr.drew.frozen? ⟨b', o' + j * 13 + 12, none⟩ = false := f4
      refine TillL.one (i := 13) rfl (by kernel_rfl) rfl ?_
      intro K hK
      go_simp
      refine hK _ _ (fun h => absurd rfl h) ?_
      clear hK K
      refine TillL.done (by kernel_rfl) ?_ _
      have hM2 := Mask.va (X := wr.drew) (D := D) hI.out.2.1 hsep.out hrow.out
      have hk2 : KeepsBut (Cpy w.heap.size hi) wr (wr.drew.setCell ⟨b', o' + j * 13 + 12, none⟩ (.int .i64 ps)) := (KeepsBut.drew wr).trans' (KeepsBut.setCell _ _ _ (hrng.out _ hrow.out))
      rw [← hps9.out] at hM2
      have hI2 : Hid (KeepsBut (Cpy w.heap.size hi) X0 (wr.drew.setCell ⟨b', o' + j * 13 + 12, none⟩ (.int .i64 ps)) ∧ Mask altA rs (fun b f => D b f ∨ (b = b' ∧ f = o' + j * 13)) (wr.drew.setCell ⟨b', o' + j * 13 + 12, none⟩ (.int .i64 ps)) ∧ (∀ b f, D0 b f → (D b f ∨ (b = b' ∧ f = o' + j * 13))) ∧ ∀ i, i < j + 1 → (D (bkA m'.pA) (ofA m'.pA + i * 13) ∨ (bkA m'.pA = b' ∧ ofA m'.pA + i * 13 = o' + j * 13))) := by
        refine ⟨hI.out.1.trans' hk2, hM2, fun b f h => .inl (hI.out.2.2.1 b f h), fun i hi => ?_⟩
        rcases Nat.lt_or_ge i j with h | h
        · exact .inl (hI.out.2.2.2 i h)
        · obtain rfl : i = j := by omega
          exact .inr (by rw [hA9.out]; exact ⟨rfl, rfl⟩)
      clear hI hM2 hk2 c4d f4d c4 f4 hS1 hS2 hS3 hS S hrow hps9
      gi_wp2
      go_roundw
      case rel => exact ⟨j + 1, _, by go_num, hlt9.out, hI2⟩
      case measure => have := hlt9.out; simp [intOf]; omega
    · obtain rfl : j = m.params.length := by omega
      have hlt' : ¬ (m.params.length : Int) < (m.params.length : Int) := by omega
      have hF : Hid (KeepsBut (Cpy w.heap.size hi) X0 wr ∧ Mask altA rs D wr ∧ (∀ b f, D0 b f → D b f) ∧ Cov D (rwVas m'.pA m'.params)) := by
        obtain ⟨h1, h2, h3, h4⟩ := hI.out
        refine ⟨h1, h2, h3, fun r hr => .inr ?_⟩
        obtain ⟨i, hi, rfl⟩ := rowsAt_mem hr
        exact h4 i (by simpa [he.out] using hi)
      clear hI
      gi_wp2
      exact hexit _ _ _ _ _ _ _ _ _ _ _ _ _ _ _ _ _ _ wr D hF

set_option maxHeartbeats 0 in
set_option maxRecDepth 1000000 in
theorem own_l8 (n : Nat) (w : World) (hi : Nat) (rs : List Rw) (hsep : Hid (rs.Pairwise Rw.apart)) (hrng : Hid (∀ r ∈ rs, w.heap.size ≤ r.b ∧ r.b < hi)) (D0 : Nat → Nat → Prop) (X0 : World) (hB : Hid (Below w.heap.size w X0)) (hM : Hid (Mask altA rs D0 X0)) (bm om Bw : Nat) (m m' : Me) (hm : Hid ((⟨bm, om, .me m'⟩ : Rw) ∈ rs)) (hv : Hid (∀ r ∈ rwVas m'.lA m'.locals, r ∈ rs)) (hadr : Hid (AdrOk m'.lA m'.locals)) (he : Hid (m'.locals = m.locals)) (hL : Hid (Lies w 13 Va.cells m.lA m.locals)) (hlen : m.locals.length ≤ 1048576)
    (hBw : Hid (X0.heap[Bw]? = some (.cells m.cells.toArray 43 (0, 0)))) (hhi : hi ≤ Bw) (hlo : w.heap.size ≤ hi) (q0 q1 q2 q3 q4 q5 q6 q9 q10 q11 q12 q13 q14 q15 q16 q17 q18 q19 q20 q21 q22 q23 q24 q25 q26 q27 q28 q29 q30 q31 q32 q33 q34 q35 q36 q37 q38 q39 q40 q41 q42 q43 q44 q45 q46 q47 q48 q49 q50 q51 q52 q53 q54 q55 q56 q57 q58 q59 q60 q61 q62 q63 q64 q65 q66 q67 q68 q69 q70 q71 q72 q73 q74 q75 q76 q77 q78 q79 q80 q81 q82 q83 q84 q85 q86 q87 q88 q89 q90 q91 q92 q93 q94 q95 q96 q97 q98 q99 q100 q101 q102 q103 q104 q105 q106 q107 q108 q109 q110 q111 q112 q113 q116 q117 q118 q119 q120 q121 q122 q123 q124 q125 q126 q127 q128 q129 q130 q131 q132 q133 q134 q135 q136 q137 q138 q139 q140 q141 q142 q143 q144 q145 q146 q147 q148 q149 q150 q151 q152 q153 q154 q155 q156 q157 q158 q159 : Value) (ds : List Deferred) (Q : Exit → Act → World → Prop) (hpan : ∀ c (a : Act) (d : Nat) v w, Q (.panic c) (a.put (some d) v) w → Q (.panic c) a w)
    (hexit : ∀ (r10 r115 r116 r117 r118 r119 r120 r121 r122 r123 r124 r125 r126 r127 r128 r129 r130 r131 : Value) (Y : World) (D : Nat → Nat → Prop), Hid (KeepsBut (Cpy w.heap.size hi) X0 Y ∧ Mask altA rs D Y ∧ (∀ b f, D0 b f → D b f) ∧ Cov D (rwVas m'.lA m'.locals)) → Q (.exit 8) ⟨List.toArray (q0 :: q1 :: q2 :: q3 :: q4 :: q5 :: q6 :: (Value.pointer (some ⟨bm, om, none⟩)) :: (Value.pointer (some ⟨Bw, 0, none⟩)) :: q9 :: (r10) :: q11 :: q12 :: q13 :: q14 :: q15 :: q16 :: q17 :: q18 :: q19 :: q20 :: q21 :: q22 :: q23 :: q24 :: q25 :: q26 :: q27 :: q28 :: q29 :: q30 :: q31 :: q32 :: q33 :: q34 :: q35 :: q36 :: q37 :: q38 :: q39 :: q40 :: q41 :: q42 :: q43 :: q44 :: q45 :: q46 :: q47 :: q48 :: q49 :: q50 :: q51 :: q52 :: q53 :: q54 :: q55 :: q56 :: q57 :: q58 :: q59 :: q60 :: q61 :: q62 :: q63 :: q64 :: q65 :: q66 :: q67 :: q68 :: q69 :: q70 :: q71 :: q72 :: q73 :: q74 :: q75 :: q76 :: q77 :: q78 :: q79 :: q80 :: q81 :: q82 :: q83 :: q84 :: q85 :: q86 :: q87 :: q88 :: q89 :: q90 :: q91 :: q92 :: q93 :: q94 :: q95 :: q96 :: q97 :: q98 :: q99 :: q100 :: q101 :: q102 :: q103 :: q104 :: q105 :: q106 :: q107 :: q108 :: q109 :: q110 :: q111 :: q112 :: q113 :: (Value.int .i64 m.locals.length) :: (r115) :: (r116) :: (r117) :: (r118) :: (r119) :: (r120) :: (r121) :: (r122) :: (r123) :: (r124) :: (r125) :: (r126) :: (r127) :: (r128) :: (r129) :: (r130) :: (r131) :: q132 :: q133 :: q134 :: q135 :: q136 :: q137 :: q138 :: q139 :: q140 :: q141 :: q142 :: q143 :: q144 :: q145 :: q146 :: q147 :: q148 :: q149 :: q150 :: q151 :: q152 :: q153 :: q154 :: q155 :: q156 :: q157 :: q158 :: q159 :: []), ds⟩ Y) : Code.wpIn Fence.wide n Tryz.prog (Code.loop (ownLoop 4)) Q ⟨List.toArray (q0 :: q1 :: q2 :: q3 :: q4 :: q5 :: q6 :: (Value.pointer (some ⟨bm, om, none⟩)) :: (Value.pointer (some ⟨Bw, 0, none⟩)) :: q9 :: q10 :: q11 :: q12 :: q13 :: q14 :: q15 :: q16 :: q17 :: q18 :: q19 :: q20 :: q21 :: q22 :: q23 :: q24 :: q25 :: q26 :: q27 :: q28 :: q29 :: q30 :: q31 :: q32 :: q33 :: q34 :: q35 :: q36 :: q37 :: q38 :: q39 :: q40 :: q41 :: q42 :: q43 :: q44 :: q45 :: q46 :: q47 :: q48 :: q49 :: q50 :: q51 :: q52 :: q53 :: q54 :: q55 :: q56 :: q57 :: q58 :: q59 :: q60 :: q61 :: q62 :: q63 :: q64 :: q65 :: q66 :: q67 :: q68 :: q69 :: q70 :: q71 :: q72 :: q73 :: q74 :: q75 :: q76 :: q77 :: q78 :: q79 :: q80 :: q81 :: q82 :: q83 :: q84 :: q85 :: q86 :: q87 :: q88 :: q89 :: q90 :: q91 :: q92 :: q93 :: q94 :: q95 :: q96 :: q97 :: q98 :: q99 :: q100 :: q101 :: q102 :: q103 :: q104 :: q105 :: q106 :: q107 :: q108 :: q109 :: q110 :: q111 :: q112 :: q113 :: (Value.int .i64 m.locals.length) :: (Value.int .i64 0) :: q116 :: q117 :: q118 :: q119 :: q120 :: q121 :: q122 :: q123 :: q124 :: q125 :: q126 :: q127 :: q128 :: q129 :: q130 :: q131 :: q132 :: q133 :: q134 :: q135 :: q136 :: q137 :: q138 :: q139 :: q140 :: q141 :: q142 :: q143 :: q144 :: q145 :: q146 :: q147 :: q148 :: q149 :: q150 :: q151 :: q152 :: q153 :: q154 :: q155 :: q156 :: q157 :: q158 :: q159 :: []), ds⟩ X0 := by
  conv => arg 4; arg 1; whnf
  gi_loopw [10, 115] (fun s9 s93 wr => ∃ (j : Nat) (D : Nat → Nat → Prop), s93 = .int .i64 j ∧ j ≤ m.locals.length ∧ Hid (KeepsBut (Cpy w.heap.size hi) X0 wr ∧ Mask altA rs D wr ∧ (∀ b f, D0 b f → D b f) ∧ ∀ i, i < j → D (bkA m'.lA) (ofA m'.lA + i * 13))) (fun _ s93 _ => m.locals.length - (intOf s93).toNat)
  case atStart => exact ⟨0, D0, rfl, Nat.zero_le _, KeepsBut.refl _ _, hM.out, fun _ _ h => h, fun i h => by omega⟩
  case round =>
    obtain ⟨j, D, rfl, hj, hI⟩ := hrel
    by_cases hlt : j < m.locals.length
    · obtain ⟨b, off, hA, hb, hcell⟩ := hL.out j hlt
      have hlt' : (j : Int) < (m.locals.length : Int) := by omega
      have hl' : m'.locals.length = m.locals.length := by rw [he.out]
      have hltm : j < m'.locals.length := by omega
      obtain ⟨b', o', hA'⟩ := hadr.out (by omega)
      have hrow0 := hv.out _ (rowsAt_get (b := bkA m'.lA) (off := ofA m'.lA) (size := 13) (l := m'.locals.map .va) j (by simpa using hltm))
      simp only [List.getElem_map, hA', bkA, ofA] at hrow0
      obtain ⟨v, hve⟩ : ∃ v, v = m'.locals[j] := ⟨_, rfl⟩
      have hvm : v = m.locals[j] := by rw [hve]; simp only [he.out]
      rw [← hve] at hrow0
      rw [← hvm] at hcell
      have hmsk := hI.out.2.1
      have hkp := hI.out.1
      have hbel : Below w.heap.size w wr := hB.out.trans (Cpy.below hkp hB.out.size)
      have c1 : wr.cell? ⟨bm, om + 14, none⟩ = some (.slice (some ⟨b', o', none⟩) m.locals.length m'.lc) := hmsk.cell hm.out 14 _ (fun p => by show some (Value.slice m'.lA m'.locals.length m'.lc) = _; rw [hA', hl'])
      have hrw : wr.heap[Bw]? = some (.cells m.cells.toArray 43 (0, 0)) := (hkp.block _ (row_lt hBw.out) (fun h => by have := h.2; omega)).trans hBw.out
      have c2 : wr.cell? ⟨Bw, 14, none⟩ = some (.slice (some ⟨b, off, none⟩) m.locals.length m.lc) := (cell_of_row _ _ _ _ _ _ hrw).trans (by rw [← hA]; rfl)
      have c3 : wr.cell? ⟨b, off + j * 13 + 12, none⟩ = some (.int .i64 v.pos) := (World.cell?_of_block (hbel.block b hb)).trans (hcell 12 _ rfl)
      have l1 : bm < wr.heap.size := World.block_lt_of_cell? _ _ c1
      have l2 : Bw < wr.heap.size := World.block_lt_of_cell? _ _ c2
      have l3 : b < wr.heap.size := World.block_lt_of_cell? _ _ c3
      obtain ⟨⟨u, c4⟩, f4⟩ := hmsk.free hrow0 12 (show 12 < 13 by decide)
      have hrow := hide hrow0
      have hlt9 := hide hlt
      have hA9 := hide hA'
      obtain ⟨ps, hps⟩ : ∃ p, p = v.pos := ⟨_, rfl⟩
      rw [← hps] at c3
      have hps9 := hide hps
      let S : World → Prop := fun X => KeepsBut (fun _ => False) wr X
      have hS1 : ∀ X, S X → X.cell? ⟨bm, om + 14, none⟩ = some (.slice (some ⟨b', o', none⟩) m.locals.length m'.lc) := fun X h => (h.cell (a := ⟨bm, om + 14, none⟩) l1 id).trans c1
      have hS2 : ∀ X, S X → X.cell? ⟨Bw, 14, none⟩ = some (.slice (some ⟨b, off, none⟩) m.locals.length m.lc) := fun X h => (h.cell (a := ⟨Bw, 14, none⟩) l2 id).trans c2
      have hS3 : ∀ X, S X → X.cell? ⟨b, off + j * 13 + 12, none⟩ = some (.int .i64 ps) := fun X h => (h.cell (a := ⟨b, off + j * 13 + 12, none⟩) l3 id).trans c3
      have hS : S wr.drew := KeepsBut.drew wr
      clear hcell hve hvm hA hA' hrow0 hmsk hkp hbel c1 hrw c2 c3 hlt hltm hl' hps l1 l2 l3
      gi_wp2
      refine wpIn_region_tillL S 13 (by kernel_rfl) ?_
      simp only [List.size_toArray, List.length_cons, List.length_nil, Nat.reduceAdd]
      refine TillL.take (i := 0) (v := ?_) (fun _ => trivial) rfl (by kernel_rfl) (fun _ _ _ h => hpan _ _ _ _ _ h) hS ?_ rfl ?_
      rotate_left
      · intro X hSX
        skip
        go_simp
        all_goals with_reducible rfl
      try simp only [Act.put, List.getElem_toArray, List.getElem_cons_succ, List.getElem_cons_zero, List.setIfInBounds_toArray, List.set_cons_zero, List.set_cons_succ]
      refine TillL.take (i := 1) (v := ?_) (fun _ => trivial) rfl (by kernel_rfl) (fun _ _ _ h => hpan _ _ _ _ _ h) hS ?_ rfl ?_
      rotate_left
      · intro X hSX
        skip
        go_simp
        all_goals with_reducible rfl
      try simp only [Act.put, List.getElem_toArray, List.getElem_cons_succ, List.getElem_cons_zero, List.setIfInBounds_toArray, List.set_cons_zero, List.set_cons_succ]
      refine TillL.take (i := 2) (v := ?_) (fun _ => trivial) rfl (by kernel_rfl) (fun _ _ _ h => hpan _ _ _ _ _ h) hS ?_ rfl ?_
      rotate_left
      · intro X hSX
        skip
        go_simp
        all_goals with_reducible rfl
      try simp only [Act.put, List.getElem_toArray, List.getElem_cons_succ, List.getElem_cons_zero, List.setIfInBounds_toArray, List.set_cons_zero, List.set_cons_succ]
      refine TillL.take (i := 3) (v := ?_) (fun _ => trivial) rfl (by kernel_rfl) (fun _ _ _ h => hpan _ _ _ _ _ h) hS ?_ rfl ?_
      rotate_left
      · intro X hSX
        have e1 := hS1 X hSX
        go_simp
        all_goals with_reducible rfl
      try simp only [Act.put, List.getElem_toArray, List.getElem_cons_succ, List.getElem_cons_zero, List.setIfInBounds_toArray, List.set_cons_zero, List.set_cons_succ]
      refine TillL.take (i := 4) (v := ?_) (fun _ => trivial) rfl (by kernel_rfl) (fun _ _ _ h => hpan _ _ _ _ _ h) hS ?_ rfl ?_
      rotate_left
      · intro X hSX
        skip
        go_simp
        all_goals with_reducible rfl
      try simp only [Act.put, List.getElem_toArray, List.getElem_cons_succ, List.getElem_cons_zero, List.setIfInBounds_toArray, List.set_cons_zero, List.set_cons_succ]
      refine TillL.take (i := 5) (v := ?_) (fun _ => trivial) rfl (by kernel_rfl) (fun _ _ _ h => hpan _ _ _ _ _ h) hS ?_ rfl ?_
      rotate_left
      · intro X hSX
        skip
        go_simp
        all_goals with_reducible rfl
      try simp only [Act.put, List.getElem_toArray, List.getElem_cons_succ, List.getElem_cons_zero, List.setIfInBounds_toArray, List.set_cons_zero, List.set_cons_succ]
      refine TillL.take (i := 6) (v := ?_) (fun _ => trivial) rfl (by kernel_rfl) (fun _ _ _ h => hpan _ _ _ _ _ h) hS ?_ rfl ?_
      rotate_left
      · intro X hSX
        have e2 := hS2 X hSX
        go_simp
        all_goals with_reducible rfl
      try simp only [Act.put, List.getElem_toArray, List.getElem_cons_succ, List.getElem_cons_zero, List.setIfInBounds_toArray, List.set_cons_zero, List.set_cons_succ]
      refine TillL.take (i := 7) (v := ?_) (fun _ => trivial) rfl (by kernel_rfl) (fun _ _ _ h => hpan _ _ _ _ _ h) hS ?_ rfl ?_
      rotate_left
      · intro X hSX
        skip
        go_simp
        all_goals with_reducible rfl
      try simp only [Act.put, List.getElem_toArray, List.getElem_cons_succ, List.getElem_cons_zero, List.setIfInBounds_toArray, List.set_cons_zero, List.set_cons_succ]
      refine TillL.take (i := 8) (v := ?_) (fun _ => trivial) rfl (by kernel_rfl) (fun _ _ _ h => hpan _ _ _ _ _ h) hS ?_ rfl ?_
      rotate_left
      · intro X hSX
        skip
        go_simp
        all_goals with_reducible rfl
      try simp only [Act.put, List.getElem_toArray, List.getElem_cons_succ, List.getElem_cons_zero, List.setIfInBounds_toArray, List.set_cons_zero, List.set_cons_succ]
      refine TillL.take (i := 9) (v := ?_) (fun _ => trivial) rfl (by kernel_rfl) (fun _ _ _ h => hpan _ _ _ _ _ h) hS ?_ rfl ?_
      rotate_left
      · intro X hSX
        skip
        go_simp
        all_goals with_reducible rfl
      try simp only [Act.put, List.getElem_toArray, List.getElem_cons_succ, List.getElem_cons_zero, List.setIfInBounds_toArray, List.set_cons_zero, List.set_cons_succ]
      refine TillL.take (i := 10) (v := ?_) (fun _ => trivial) rfl (by kernel_rfl) (fun _ _ _ h => hpan _ _ _ _ _ h) hS ?_ rfl ?_
      rotate_left
      · intro X hSX
        have e3 := hS3 X hSX
        go_simp
        all_goals with_reducible rfl
      try simp only [Act.put, List.getElem_toArray, List.getElem_cons_succ, List.getElem_cons_zero, List.setIfInBounds_toArray, List.set_cons_zero, List.set_cons_succ]
      refine TillL.one (i := 11) rfl (by kernel_rfl) rfl ?_
      intro K hK
      go_simp
      refine hK _ _ (fun _ => hS) ?_
      clear hK K
      try simp only [Act.put, List.getElem_toArray, List.getElem_cons_succ, List.getElem_cons_zero, List.setIfInBounds_toArray, List.set_cons_zero, List.set_cons_succ]
      refine TillL.take (i := 12) (v := ?_) (fun _ => trivial) rfl (by kernel_rfl) (fun _ _ _ h => hpan _ _ _ _ _ h) hS ?_ rfl ?_
      rotate_left
      · intro X hSX
        skip
        go_simp
        all_goals with_reducible rfl
      try simp only [Act.put, List.getElem_toArray, List.getElem_cons_succ, List.getElem_cons_zero, List.setIfInBounds_toArray, List.set_cons_zero, List.set_cons_succ]
      have c4d : wr.drew.cell? ⟨b', o' + j * 13 + 12, none⟩ = some u := c4
      have f4d : wr.drew.frozen? ⟨b', o' + j * 13 + 12, none⟩ = false := f4
      refine TillL.one (i := 13) rfl (by kernel_rfl) rfl ?_
      intro K hK
      go_simp
      refine hK _ _ (fun h => absurd rfl h) ?_
      clear hK K
      refine TillL.done (by kernel_rfl) ?_ _
      have hM2 := Mask.va (X := wr.drew) (D := D) hI.out.2.1 hsep.out hrow.out
      have hk2 : KeepsBut (Cpy w.heap.size hi) wr (wr.drew.setCell ⟨b', o' + j * 13 + 12, none⟩ (.int .i64 ps)) := (KeepsBut.drew wr).trans' (KeepsBut.setCell _ _ _ (hrng.out _ hrow.out))
      rw [← hps9.out] at hM2
      have hI2 : Hid (KeepsBut (Cpy w.heap.size hi) X0 (wr.drew.setCell ⟨b', o' + j * 13 + 12, none⟩ (.int .i64 ps)) ∧ Mask altA rs (fun b f => D b f ∨ (b = b' ∧ f = o' + j * 13)) (wr.drew.setCell ⟨b', o' + j * 13 + 12, none⟩ (.int .i64 ps)) ∧ (∀ b f, D0 b f → (D b f ∨ (b = b' ∧ f = o' + j * 13))) ∧ ∀ i, i < j + 1 → (D (bkA m'.lA) (ofA m'.lA + i * 13) ∨ (bkA m'.lA = b' ∧ ofA m'.lA + i * 13 = o' + j * 13))) := by
        refine ⟨hI.out.1.trans' hk2, hM2, fun b f h => .inl (hI.out.2.2.1 b f h), fun i hi => ?_⟩
        rcases Nat.lt_or_ge i j with h | h
        · exact .inl (hI.out.2.2.2 i h)
        · obtain rfl : i = j := by omega
          exact .inr (by rw [hA9.out]; exact ⟨rfl, rfl⟩)
      clear hI hM2 hk2 c4d f4d c4 f4 hS1 hS2 hS3 hS S hrow hps9
      gi_wp2
      go_roundw
      case rel => exact ⟨j + 1, _, by go_num, hlt9.out, hI2⟩
      case measure => have := hlt9.out; simp [intOf]; omega
    · obtain rfl : j = m.locals.length := by omega
      have hlt' : ¬ (m.locals.length : Int) < (m.locals.length : Int) := by omega
      have hF : Hid (KeepsBut (Cpy w.heap.size hi) X0 wr ∧ Mask altA rs D wr ∧ (∀ b f, D0 b f → D b f) ∧ Cov D (rwVas m'.lA m'.locals)) := by
        obtain ⟨h1, h2, h3, h4⟩ := hI.out
        refine ⟨h1, h2, h3, fun r hr => .inr ?_⟩
        obtain ⟨i, hi, rfl⟩ := rowsAt_mem hr
        exact h4 i (by simpa [he.out] using hi)
      clear hI
      gi_wp2
      exact hexit _ _ _ _ _ _ _ _ _ _ _ _ _ _ _ _ _ _ wr D hF

set_option maxHeartbeats 0 in
set_option maxRecDepth 1000000 in
theorem own_l2 (n : Nat) (w : World) (hi : Nat) (rs : List Rw) (hsep : Hid (rs.Pairwise Rw.apart)) (hrng : Hid (∀ r ∈ rs, w.heap.size ≤ r.b ∧ r.b < hi)) (D0 : Nat → Nat → Prop) (X0 : World) (hB : Hid (Below w.heap.size w X0)) (hM : Hid (Mask altA rs D0 X0)) (b0 off0 N c i : Nat) (hiN : i < N) (hN : N ≤ 1048576) (cl c' : Cl) (hm : Hid ((⟨w.heap.size, i * 7, .cl c'⟩ : Rw) ∈ rs)) (hv : Hid (∀ r ∈ rwVas c'.fA c'.fields, r ∈ rs)) (hadr : Hid (AdrOk c'.fA c'.fields)) (he : Hid (c'.fields = cl.fields)) (hL : Hid (Lies w 13 Va.cells cl.fA cl.fields)) (hlen : cl.fields.length ≤ 1048576)
    (hb0 : b0 < w.heap.size) (hor : Hid (w.rangeAt b0 (off0 + i * 7) cl.cells)) (hlo : w.heap.size ≤ hi) (q1 q2 q5 q6 q7 q8 q9 q10 q11 q12 q13 q14 q15 q16 q17 q18 q19 q20 q21 q22 q23 q24 q25 q26 q27 q28 q29 q30 q31 q32 q33 q34 q35 q36 q39 q40 q41 q42 q43 q44 q45 q46 q47 q48 q49 q50 q51 q52 q53 q54 q55 q56 q57 q58 q59 q60 q61 q62 q63 q64 q65 q66 q67 q68 q69 q70 q71 q72 q73 q74 q75 q76 q77 q78 q79 q80 q81 q82 q83 q84 q85 q86 q87 q88 q89 q90 q91 q92 q93 q94 q95 q96 q97 q98 q99 q100 q101 q102 q103 q104 q105 q106 q107 q108 q109 q110 q111 q112 q113 q114 q115 q116 q117 q118 q119 q120 q121 q122 q123 q124 q125 q126 q127 q128 q129 q130 q131 q132 q133 q134 q135 q136 q137 q138 q139 q140 q141 q142 q143 q144 q145 q146 q147 q148 q149 q150 q151 q152 q153 q154 q155 q156 q157 q158 q159 : Value) (ds : List Deferred) (Q : Exit → Act → World → Prop) (hpan : ∀ c (a : Act) (d : Nat) v w, Q (.panic c) (a.put (some d) v) w → Q (.panic c) a w)
    (hexit : ∀ (r5 r38 r39 r40 r41 r42 r43 r44 r45 r46 r47 r48 r49 r50 r51 r52 r53 r54 r55 r56 r57 r58 : Value) (Y : World) (D : Nat → Nat → Prop), Hid (KeepsBut (Cpy w.heap.size hi) X0 Y ∧ Mask altA rs D Y ∧ (∀ b f, D0 b f → D b f) ∧ Cov D (rwVas c'.fA c'.fields)) → Q (.exit 2) ⟨List.toArray ((Value.slice (some ⟨b0, off0, none⟩) N c) :: q1 :: q2 :: (Value.slice (some ⟨w.heap.size, 0, none⟩) N N) :: (Value.int .i64 i) :: (r5) :: q6 :: q7 :: q8 :: q9 :: q10 :: q11 :: q12 :: q13 :: q14 :: q15 :: q16 :: q17 :: q18 :: q19 :: q20 :: q21 :: q22 :: q23 :: q24 :: q25 :: q26 :: q27 :: q28 :: q29 :: q30 :: q31 :: q32 :: q33 :: q34 :: q35 :: q36 :: (Value.int .i64 cl.fields.length) :: (r38) :: (r39) :: (r40) :: (r41) :: (r42) :: (r43) :: (r44) :: (r45) :: (r46) :: (r47) :: (r48) :: (r49) :: (r50) :: (r51) :: (r52) :: (r53) :: (r54) :: (r55) :: (r56) :: (r57) :: (r58) :: q59 :: q60 :: q61 :: q62 :: q63 :: q64 :: q65 :: q66 :: q67 :: q68 :: q69 :: q70 :: q71 :: q72 :: q73 :: q74 :: q75 :: q76 :: q77 :: q78 :: q79 :: q80 :: q81 :: q82 :: q83 :: q84 :: q85 :: q86 :: q87 :: q88 :: q89 :: q90 :: q91 :: q92 :: q93 :: q94 :: q95 :: q96 :: q97 :: q98 :: q99 :: q100 :: q101 :: q102 :: q103 :: q104 :: q105 :: q106 :: q107 :: q108 :: q109 :: q110 :: q111 :: q112 :: q113 :: q114 :: q115 :: q116 :: q117 :: q118 :: q119 :: q120 :: q121 :: q122 :: q123 :: q124 :: q125 :: q126 :: q127 :: q128 :: q129 :: q130 :: q131 :: q132 :: q133 :: q134 :: q135 :: q136 :: q137 :: q138 :: q139 :: q140 :: q141 :: q142 :: q143 :: q144 :: q145 :: q146 :: q147 :: q148 :: q149 :: q150 :: q151 :: q152 :: q153 :: q154 :: q155 :: q156 :: q157 :: q158 :: q159 :: []), ds⟩ Y) : Code.wpIn Fence.wide n Tryz.prog (Code.loop (ownLoop 1)) Q ⟨List.toArray ((Value.slice (some ⟨b0, off0, none⟩) N c) :: q1 :: q2 :: (Value.slice (some ⟨w.heap.size, 0, none⟩) N N) :: (Value.int .i64 i) :: q5 :: q6 :: q7 :: q8 :: q9 :: q10 :: q11 :: q12 :: q13 :: q14 :: q15 :: q16 :: q17 :: q18 :: q19 :: q20 :: q21 :: q22 :: q23 :: q24 :: q25 :: q26 :: q27 :: q28 :: q29 :: q30 :: q31 :: q32 :: q33 :: q34 :: q35 :: q36 :: (Value.int .i64 cl.fields.length) :: (Value.int .i64 0) :: q39 :: q40 :: q41 :: q42 :: q43 :: q44 :: q45 :: q46 :: q47 :: q48 :: q49 :: q50 :: q51 :: q52 :: q53 :: q54 :: q55 :: q56 :: q57 :: q58 :: q59 :: q60 :: q61 :: q62 :: q63 :: q64 :: q65 :: q66 :: q67 :: q68 :: q69 :: q70 :: q71 :: q72 :: q73 :: q74 :: q75 :: q76 :: q77 :: q78 :: q79 :: q80 :: q81 :: q82 :: q83 :: q84 :: q85 :: q86 :: q87 :: q88 :: q89 :: q90 :: q91 :: q92 :: q93 :: q94 :: q95 :: q96 :: q97 :: q98 :: q99 :: q100 :: q101 :: q102 :: q103 :: q104 :: q105 :: q106 :: q107 :: q108 :: q109 :: q110 :: q111 :: q112 :: q113 :: q114 :: q115 :: q116 :: q117 :: q118 :: q119 :: q120 :: q121 :: q122 :: q123 :: q124 :: q125 :: q126 :: q127 :: q128 :: q129 :: q130 :: q131 :: q132 :: q133 :: q134 :: q135 :: q136 :: q137 :: q138 :: q139 :: q140 :: q141 :: q142 :: q143 :: q144 :: q145 :: q146 :: q147 :: q148 :: q149 :: q150 :: q151 :: q152 :: q153 :: q154 :: q155 :: q156 :: q157 :: q158 :: q159 :: []), ds⟩ X0 := by
  have hiN' : (i : Int) < (N : Int) := by omega
  conv => arg 4; arg 1; whnf
  gi_loopw [5, 38] (fun s5 s38 wr => ∃ (j : Nat) (D : Nat → Nat → Prop), s38 = .int .i64 j ∧ j ≤ cl.fields.length ∧ Hid (KeepsBut (Cpy w.heap.size hi) X0 wr ∧ Mask altA rs D wr ∧ (∀ b f, D0 b f → D b f) ∧ ∀ i, i < j → D (bkA c'.fA) (ofA c'.fA + i * 13))) (fun _ s38 _ => cl.fields.length - (intOf s38).toNat)
  case atStart => exact ⟨0, D0, rfl, Nat.zero_le _, KeepsBut.refl _ _, hM.out, fun _ _ h => h, fun i h => by omega⟩
  case round =>
    obtain ⟨j, D, rfl, hj, hI⟩ := hrel
    by_cases hlt : j < cl.fields.length
    · obtain ⟨b, off, hA, hb, hcell⟩ := hL.out j hlt
      have hlt' : (j : Int) < (cl.fields.length : Int) := by omega
      have hl' : c'.fields.length = cl.fields.length := by rw [he.out]
      have hltm : j < c'.fields.length := by omega
      obtain ⟨b', o', hA'⟩ := hadr.out (by omega)
      have hrow0 := hv.out _ (rowsAt_get (b := bkA c'.fA) (off := ofA c'.fA) (size := 13) (l := c'.fields.map .va) j (by simpa using hltm))
      simp only [List.getElem_map, hA', bkA, ofA] at hrow0
      obtain ⟨v, hve⟩ : ∃ v, v = c'.fields[j] := ⟨_, rfl⟩
      have hvm : v = cl.fields[j] := by rw [hve]; simp only [he.out]
      rw [← hve] at hrow0
      rw [← hvm] at hcell
      have hmsk := hI.out.2.1
      have hkp := hI.out.1
      have hbel : Below w.heap.size w wr := hB.out.trans (Cpy.below hkp hB.out.size)
      have c1 : wr.cell? ⟨w.heap.size, i * 7 + 4, none⟩ = some (.slice (some ⟨b', o', none⟩) cl.fields.length c'.fc) := hmsk.cell hm.out 4 _ (fun p => by show some (Value.slice c'.fA c'.fields.length c'.fc) = _; rw [hA', hl'])
      have c2 : wr.cell? ⟨b0, off0 + i * 7 + 4, none⟩ = some (.slice (some ⟨b, off, none⟩) cl.fields.length cl.fc) := (World.cell?_of_block (hbel.block b0 hb0)).trans (hor.out 4 _ (by rw [← hA]; rfl))
      have c3 : wr.cell? ⟨b, off + j * 13 + 12, none⟩ = some (.int .i64 v.pos) := (World.cell?_of_block (hbel.block b hb)).trans (hcell 12 _ rfl)
      have l1 : w.heap.size < wr.heap.size := World.block_lt_of_cell? _ _ c1
      have l2 : b0 < wr.heap.size := World.block_lt_of_cell? _ _ c2
      have l3 : b < wr.heap.size := World.block_lt_of_cell? _ _ c3
      obtain ⟨⟨u, c4⟩, f4⟩ := hmsk.free hrow0 12 (show 12 < 13 by decide)
      have hrow := hide hrow0
      have hlt9 := hide hlt
      have hA9 := hide hA'
      obtain ⟨ps, hps⟩ : ∃ p, p = v.pos := ⟨_, rfl⟩
      rw [← hps] at c3
      have hps9 := hide hps
      let S : World → Prop := fun X => KeepsBut (fun _ => False) wr X
      have hS1 : ∀ X, S X → X.cell? ⟨w.heap.size, i * 7 + 4, none⟩ = some (.slice (some ⟨b', o', none⟩) cl.fields.length c'.fc) := fun X h => (h.cell (a := ⟨w.heap.size, i * 7 + 4, none⟩) l1 id).trans c1
      have hS2 : ∀ X, S X → X.cell? ⟨b0, off0 + i * 7 + 4, none⟩ = some (.slice (some ⟨b, off, none⟩) cl.fields.length cl.fc) := fun X h => (h.cell (a := ⟨b0, off0 + i * 7 + 4, none⟩) l2 id).trans c2
      have hS3 : ∀ X, S X → X.cell? ⟨b, off + j * 13 + 12, none⟩ = some (.int .i64 ps) := fun X h => (h.cell (a := ⟨b, off + j * 13 + 12, none⟩) l3 id).trans c3
      have hS : S wr.drew := KeepsBut.drew wr
      clear hcell hve hvm hA hA' hrow0 hmsk hkp hbel c1 c2 c3 hlt hltm hl' hps l1 l2 l3
      gi_wp2
      refine wpIn_region_tillL S 17 (by kernel_rfl) ?_
      simp only [List.size_toArray, List.length_cons, List.length_nil, Nat.reduceAdd]
      refine TillL.take (i := 0) (v := ?_) (fun _ => trivial) rfl (by kernel_rfl) (fun _ _ _ h => hpan _ _ _ _ _ h) hS ?_ rfl ?_
      rotate_left
      · intro X hSX
        skip
        go_simp
        all_goals with_reducible rfl
      try simp only [Act.put, List.getElem_toArray, List.getElem_cons_succ, List.getElem_cons_zero, List.setIfInBounds_toArray, List.set_cons_zero, List.set_cons_succ]
      refine TillL.take (i := 1) (v := ?_) (fun _ => trivial) rfl (by kernel_rfl) (fun _ _ _ h => hpan _ _ _ _ _ h) hS ?_ rfl ?_
      rotate_left
      · intro X hSX
        skip
        go_simp
        all_goals with_reducible rfl
      try simp only [Act.put, List.getElem_toArray, List.getElem_cons_succ, List.getElem_cons_zero, List.setIfInBounds_toArray, List.set_cons_zero, List.set_cons_succ]
      refine TillL.take (i := 2) (v := ?_) (fun _ => trivial) rfl (by kernel_rfl) (fun _ _ _ h => hpan _ _ _ _ _ h) hS ?_ rfl ?_
      rotate_left
      · intro X hSX
        skip
        go_simp
        all_goals with_reducible rfl
      try simp only [Act.put, List.getElem_toArray, List.getElem_cons_succ, List.getElem_cons_zero, List.setIfInBounds_toArray, List.set_cons_zero, List.set_cons_succ]
      refine TillL.take (i := 3) (v := ?_) (fun _ => trivial) rfl (by kernel_rfl) (fun _ _ _ h => hpan _ _ _ _ _ h) hS ?_ rfl ?_
      rotate_left
      · intro X hSX
        skip
        go_simp
        all_goals with_reducible rfl
      try simp only [Act.put, List.getElem_toArray, List.getElem_cons_succ, List.getElem_cons_zero, List.setIfInBounds_toArray, List.set_cons_zero, List.set_cons_succ]
      refine TillL.take (i := 4) (v := ?_) (fun _ => trivial) rfl (by kernel_rfl) (fun _ _ _ h => hpan _ _ _ _ _ h) hS ?_ rfl ?_
      rotate_left
      · intro X hSX
        have e1 := hS1 X hSX
        go_simp
        all_goals with_reducible rfl
      try simp only [Act.put, List.getElem_toArray, List.getElem_cons_succ, List.getElem_cons_zero, List.setIfInBounds_toArray, List.set_cons_zero, List.set_cons_succ]
      refine TillL.take (i := 5) (v := ?_) (fun _ => trivial) rfl (by kernel_rfl) (fun _ _ _ h => hpan _ _ _ _ _ h) hS ?_ rfl ?_
      rotate_left
      · intro X hSX
        skip
        go_simp
        all_goals with_reducible rfl
      try simp only [Act.put, List.getElem_toArray, List.getElem_cons_succ, List.getElem_cons_zero, List.setIfInBounds_toArray, List.set_cons_zero, List.set_cons_succ]
      refine TillL.take (i := 6) (v := ?_) (fun _ => trivial) rfl (by kernel_rfl) (fun _ _ _ h => hpan _ _ _ _ _ h) hS ?_ rfl ?_
      rotate_left
      · intro X hSX
        skip
        go_simp
        all_goals with_reducible rfl
      try simp only [Act.put, List.getElem_toArray, List.getElem_cons_succ, List.getElem_cons_zero, List.setIfInBounds_toArray, List.set_cons_zero, List.set_cons_succ]
      refine TillL.take (i := 7) (v := ?_) (fun _ => trivial) rfl (by kernel_rfl) (fun _ _ _ h => hpan _ _ _ _ _ h) hS ?_ rfl ?_
      rotate_left
      · intro X hSX
        skip
        go_simp
        all_goals with_reducible rfl
      try simp only [Act.put, List.getElem_toArray, List.getElem_cons_succ, List.getElem_cons_zero, List.setIfInBounds_toArray, List.set_cons_zero, List.set_cons_succ]
      refine TillL.take (i := 8) (v := ?_) (fun _ => trivial) rfl (by kernel_rfl) (fun _ _ _ h => hpan _ _ _ _ _ h) hS ?_ rfl ?_
      rotate_left
      · intro X hSX
        skip
        go_simp
        all_goals with_reducible rfl
      try simp only [Act.put, List.getElem_toArray, List.getElem_cons_succ, List.getElem_cons_zero, List.setIfInBounds_toArray, List.set_cons_zero, List.set_cons_succ]
      refine TillL.take (i := 9) (v := ?_) (fun _ => trivial) rfl (by kernel_rfl) (fun _ _ _ h => hpan _ _ _ _ _ h) hS ?_ rfl ?_
      rotate_left
      · intro X hSX
        skip
        go_simp
        all_goals with_reducible rfl
      try simp only [Act.put, List.getElem_toArray, List.getElem_cons_succ, List.getElem_cons_zero, List.setIfInBounds_toArray, List.set_cons_zero, List.set_cons_succ]
      refine TillL.take (i := 10) (v := ?_) (fun _ => trivial) rfl (by kernel_rfl) (fun _ _ _ h => hpan _ _ _ _ _ h) hS ?_ rfl ?_
      rotate_left
      · intro X hSX
        have e2 := hS2 X hSX
        go_simp
        all_goals with_reducible rfl
      try simp only [Act.put, List.getElem_toArray, List.getElem_cons_succ, List.getElem_cons_zero, List.setIfInBounds_toArray, List.set_cons_zero, List.set_cons_succ]
      refine TillL.take (i := 11) (v := ?_) (fun _ => trivial) rfl (by kernel_rfl) (fun _ _ _ h => hpan _ _ _ _ _ h) hS ?_ rfl ?_
      rotate_left
      · intro X hSX
        skip
        go_simp
        all_goals with_reducible rfl
      try simp only [Act.put, List.getElem_toArray, List.getElem_cons_succ, List.getElem_cons_zero, List.setIfInBounds_toArray, List.set_cons_zero, List.set_cons_succ]
      refine TillL.take (i := 12) (v := ?_) (fun _ => trivial) rfl (by kernel_rfl) (fun _ _ _ h => hpan _ _ _ _ _ h) hS ?_ rfl ?_
      rotate_left
      · intro X hSX
        skip
        go_simp
        all_goals with_reducible rfl
      try simp only [Act.put, List.getElem_toArray, List.getElem_cons_succ, List.getElem_cons_zero, List.setIfInBounds_toArray, List.set_cons_zero, List.set_cons_succ]
      refine TillL.take (i := 13) (v := ?_) (fun _ => trivial) rfl (by kernel_rfl) (fun _ _ _ h => hpan _ _ _ _ _ h) hS ?_ rfl ?_
      rotate_left
      · intro X hSX
        skip
        go_simp
        all_goals with_reducible rfl
      try simp only [Act.put, List.getElem_toArray, List.getElem_cons_succ, List.getElem_cons_zero, List.setIfInBounds_toArray, List.set_cons_zero, List.set_cons_succ]
      refine TillL.take (i := 14) (v := ?_) (fun _ => trivial) rfl (by kernel_rfl) (fun _ _ _ h => hpan _ _ _ _ _ h) hS ?_ rfl ?_
      rotate_left
      · intro X hSX
        have e3 := hS3 X hSX
        go_simp
        all_goals with_reducible rfl
      try simp only [Act.put, List.getElem_toArray, List.getElem_cons_succ, List.getElem_cons_zero, List.setIfInBounds_toArray, List.set_cons_zero, List.set_cons_succ]
      refine TillL.one (i := 15) rfl (by kernel_rfl) rfl ?_
      intro K hK
      go_simp
      refine hK _ _ (fun _ => hS) ?_
      clear hK K
      try simp only [Act.put, List.getElem_toArray, List.getElem_cons_succ, List.getElem_cons_zero, List.setIfInBounds_toArray, List.set_cons_zero, List.set_cons_succ]
      refine TillL.take (i := 16) (v := ?_) (fun _ => trivial) rfl (by kernel_rfl) (fun _ _ _ h => hpan _ _ _ _ _ h) hS ?_ rfl ?_
      rotate_left
      · intro X hSX
        skip
        go_simp
        all_goals with_reducible rfl
      try simp only [Act.put, List.getElem_toArray, List.getElem_cons_succ, List.getElem_cons_zero, List.setIfInBounds_toArray, List.set_cons_zero, List.set_cons_succ]
      have c4d : wr.drew.cell? ⟨b', o' + j * 13 + 12, none⟩ = some u := c4
      have f4d : wr.drew.frozen? ⟨b', o' + j * 13 + 12, none⟩ = false := f4
      refine TillL.one (i := 17) rfl (by kernel_rfl) rfl ?_
      intro K hK
      go_simp
      refine hK _ _ (fun h => absurd rfl h) ?_
      clear hK K
      refine TillL.done (by kernel_rfl) ?_ _
      have hM2 := Mask.va (X := wr.drew) (D := D) hI.out.2.1 hsep.out hrow.out
      have hk2 : KeepsBut (Cpy w.heap.size hi) wr (wr.drew.setCell ⟨b', o' + j * 13 + 12, none⟩ (.int .i64 ps)) := (KeepsBut.drew wr).trans' (KeepsBut.setCell _ _ _ (hrng.out _ hrow.out))
      rw [← hps9.out] at hM2
      have hI2 : Hid (KeepsBut (Cpy w.heap.size hi) X0 (wr.drew.setCell ⟨b', o' + j * 13 + 12, none⟩ (.int .i64 ps)) ∧ Mask altA rs (fun b f => D b f ∨ (b = b' ∧ f = o' + j * 13)) (wr.drew.setCell ⟨b', o' + j * 13 + 12, none⟩ (.int .i64 ps)) ∧ (∀ b f, D0 b f → (D b f ∨ (b = b' ∧ f = o' + j * 13))) ∧ ∀ i, i < j + 1 → (D (bkA c'.fA) (ofA c'.fA + i * 13) ∨ (bkA c'.fA = b' ∧ ofA c'.fA + i * 13 = o' + j * 13))) := by
        refine ⟨hI.out.1.trans' hk2, hM2, fun b f h => .inl (hI.out.2.2.1 b f h), fun i hi => ?_⟩
        rcases Nat.lt_or_ge i j with h | h
        · exact .inl (hI.out.2.2.2 i h)
        · obtain rfl : i = j := by omega
          exact .inr (by rw [hA9.out]; exact ⟨rfl, rfl⟩)
      clear hI hM2 hk2 c4d f4d c4 f4 hS1 hS2 hS3 hS S hrow hps9
      gi_wp2
      go_roundw
      case rel => exact ⟨j + 1, _, by go_num, hlt9.out, hI2⟩
      case measure => have := hlt9.out; simp [intOf]; omega
    · obtain rfl : j = cl.fields.length := by omega
      have hlt' : ¬ (cl.fields.length : Int) < (cl.fields.length : Int) := by omega
      have hF : Hid (KeepsBut (Cpy w.heap.size hi) X0 wr ∧ Mask altA rs D wr ∧ (∀ b f, D0 b f → D b f) ∧ Cov D (rwVas c'.fA c'.fields)) := by
        obtain ⟨h1, h2, h3, h4⟩ := hI.out
        refine ⟨h1, h2, h3, fun r hr => .inr ?_⟩
        obtain ⟨i, hi, rfl⟩ := rowsAt_mem hr
        exact h4 i (by simpa [he.out] using hi)
      clear hI
      gi_wp2
      exact hexit _ _ _ _ _ _ _ _ _ _ _ _ _ _ _ _ _ _ _ _ _ _ wr D hF
end Go.Proofs.YtmpdmelkbemabaaGreat
