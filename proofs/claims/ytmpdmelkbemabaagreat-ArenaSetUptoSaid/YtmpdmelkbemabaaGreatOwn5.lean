/- arena.own: a program of its own, with all its places. -/
import Derived.Test.YtmpdmelkbemabaaGreatOwn2
import Derived.Sort.CutIn
set_option linter.unusedSimpArgs false
set_option linter.unusedVariables false
namespace Go.Proofs.YtmpdmelkbemabaaGreat
open Go.RowKit Go.Proofs.Grow
attribute [local go_sem] Oper.semAt_some

/-- Between two rounds: the places that are left, in the box Ba; the rows laid so far. -/
structure InP (lo hi Ba : Nat) (rs : List Rw) (D0 : Nat → Nat → Prop) (ats : List Int) (Wr : World) (s : List Li) (X : World) (D : Nat → Nat → Prop) (A : Option Addr) (k c : Nat) : Prop where
  box : X.heap[Ba]? = some (.cells #[.slice A k c] 98 (0, 0))
  len : k = (ats.drop s.length).length
  cap : k ≤ c
  lies : Lies X 1 encP A (ats.drop s.length)
  away : ∀ ad, A = some ad → ad.block < Wr.heap.size ∧ hi ≤ ad.block ∧ ad.block ≠ Ba
  mask : Mask altA rs D X
  more : ∀ b f, D0 b f → D b f
  done : ∀ x ∈ s, D x.b x.off
  keep : KeepsBut (fun j => j = Ba ∨ Cpy lo hi j) Wr X
def InQ (lo hi Ba : Nat) (rs : List Rw) (D0 : Nat → Nat → Prop) (ats : List Int) (Wr : World) (s : List Li) (O : Nat → Prop) (X : World) : Prop := (O = fun j => j = Ba ∨ Cpy lo hi j) ∧ ∃ D A k c, InP lo hi Ba rs D0 ats Wr s X D A k c
section
variable {lo hi Ba : Nat} {rs : List Rw} {D0 : Nat → Nat → Prop} {ats : List Int} {Wr X Y : World} {s : List Li} {O : Nat → Prop}
theorem InQ.turn (h : InQ lo hi Ba rs D0 ats Wr s O X) (hrng : ∀ r ∈ rs, lo ≤ r.b ∧ r.b < hi) (t : Turns Wr.heap.size O X Y) : InQ lo hi Ba rs D0 ats Wr s O Y := by
  obtain ⟨rfl, D, A, k, c, h⟩ := h
  refine ⟨rfl, D, A, k, c, (t.own (.inl rfl) (row_lt h.box)).trans h.box, h.len, h.cap, fun i hi => ?_, h.away, h.mask.blocks fun r hr => t.own (.inr (hrng r hr)) (h.mask.lt hr), h.more, h.done, h.keep.trans t fun j hj => .inr hj.1⟩
  obtain ⟨b, off, hA, hb, hc⟩ := h.lies i hi
  have hb2 := (h.away _ hA).1
  exact ⟨b, off, hA, Nat.lt_of_lt_of_le hb t.size, fun j v hv => (World.cell?_of_block (a := ⟨b, off + i * 1 + j, none⟩) (t.low hb2 hb)).trans (hc j v hv)⟩
theorem InQ.there (h : InQ lo hi Ba rs D0 ats Wr s O X) (hhi : hi ≤ Wr.heap.size) : ∀ j, O j → j < X.heap.size := by
  obtain ⟨rfl, D, A, k, c, h⟩ := h
  rintro j (rfl | hj)
  · exact row_lt h.box
  · have := h.keep.size
    have := hj.2
    omega
end
theorem drop_at {α : Type} : ∀ (p : List α) (y : α) (r : List α), (p ++ y :: r).drop p.length = y :: r ∧ (p ++ y :: r).drop (p.length + 1) = r
  | [], y, r => ⟨rfl, rfl⟩
  | a :: p, y, r => drop_at p y r
theorem liAll_pre {l : List St} {d : Int} {b off : Nat} {s : List Li} {x : Li} (h : s ++ [x] <+: liAll l d b off) : ((liAll l d b off).map fun y => y.s.pos).drop s.length = x.s.pos :: ((liAll l d b off).map fun y => y.s.pos).drop (s.length + 1) := by
  obtain ⟨r, hr⟩ := h
  have e : (liAll l d b off).map (fun y => y.s.pos) = s.map (fun y => y.s.pos) ++ x.s.pos :: r.map (fun y => y.s.pos) := by rw [← hr]; simp
  have hl : s.length = (s.map (fun y => y.s.pos)).length := by simp
  rw [e, hl, (drop_at _ _ _).1, (drop_at _ _ _).2]

set_option maxHeartbeats 0 in
set_option maxRecDepth 1000000 in
theorem own_r2 (n : Nat) (w Wr : World) (hi : Nat) (rs : List Rw) (hsep : Hid (rs.Pairwise Rw.apart)) (hrng : Hid (∀ r ∈ rs, w.heap.size ≤ r.b ∧ r.b < hi)) (D0 : Nat → Nat → Prop) (B Ba : Nat) (m : Me) (p : Int) (hM : Hid (Mask altA rs D0 Wr)) (hv : Hid (∀ r ∈ rwSts m.bA m.body, r ∈ rs)) (hms : Hid (MeS m))
    (A0 : Option Addr) (c0 : Nat) (hba : Hid (Wr.heap[Ba]? = some (.cells #[.slice A0 (liAll m.body 0 (bkA m.bA) (ofA m.bA)).length c0] 98 (0, 0)))) (hc0 : (liAll m.body 0 (bkA m.bA) (ofA m.bA)).length ≤ c0) (hat : Hid (Lies Wr 1 encP A0 ((liAll m.body 0 (bkA m.bA) (ofA m.bA)).map fun x => x.s.pos))) (haw : Hid (∀ ad, A0 = some ad → ad.block < Wr.heap.size ∧ hi ≤ ad.block ∧ ad.block ≠ Ba)) (hlen : Hid ((liAll m.body 0 (bkA m.bA) (ofA m.bA)).length ≤ 1048576))
    (hbb : Hid (Wr.heap[B]? = some (.cells ({ m with pos := p } : Me).cells.toArray 43 (0, 0)))) (hne : B ≠ Ba) (hhb : hi ≤ B) (hha : hi ≤ Ba) (hhw : hi ≤ Wr.heap.size) (q0 q1 q2 q3 q4 q5 q6 q7 q8 q9 q10 q12 q13 q14 q15 q16 q17 q18 q19 q20 q21 q22 q23 q24 q25 q26 q27 q28 q29 q30 q31 q32 q33 q34 q35 q36 q37 q38 q39 q40 q41 q42 q43 q44 q45 q46 q47 q48 q49 q50 q51 q52 q53 q54 q55 q56 q57 q58 q59 q60 q61 q62 q63 q64 q65 q66 q67 q68 q69 q70 q71 q72 q73 q74 q75 q76 q77 q78 q79 q80 q81 q82 q83 q84 q85 q86 q87 q88 q89 q90 q91 q92 q93 q94 q95 q96 q97 q98 q99 q100 q101 q102 q103 q104 q105 q106 q107 q108 q109 q110 q111 q112 q113 q114 q115 q116 q117 q118 q119 q120 q121 q122 q123 q124 q125 q126 q127 q128 q129 q130 q131 q132 q133 q134 q135 q136 q137 q138 q139 q140 q141 q142 q143 q144 q145 q147 q148 q149 q150 q151 q152 q153 q154 q155 q156 q157 q158 q159 : Value) (ds : List Deferred) (Q : Exit → Act → World → Prop)
    (hexit : ∀ (E : Nat) (V : World) (D : Nat → Nat → Prop), Hid (KeepsBut (fun j => j = Ba ∨ Cpy w.heap.size hi j) Wr V ∧ Mask altA rs D V ∧ (∀ b f, D0 b f → D b f) ∧ Cov D (rwSts m.bA m.body) ∧ Wr.heap.size ≤ E ∧ V.heap[E]? = some (.deferred (some []))) → Q .normal ⟨List.toArray (q0 :: q1 :: q2 :: q3 :: q4 :: q5 :: q6 :: q7 :: q8 :: q9 :: q10 :: (Value.pointer (some ⟨Ba, 0, none⟩)) :: q12 :: q13 :: q14 :: q15 :: q16 :: q17 :: q18 :: q19 :: q20 :: q21 :: q22 :: q23 :: q24 :: q25 :: q26 :: q27 :: q28 :: q29 :: q30 :: q31 :: q32 :: q33 :: q34 :: q35 :: q36 :: q37 :: q38 :: q39 :: q40 :: q41 :: q42 :: q43 :: q44 :: q45 :: q46 :: q47 :: q48 :: q49 :: q50 :: q51 :: q52 :: q53 :: q54 :: q55 :: q56 :: q57 :: q58 :: q59 :: q60 :: q61 :: q62 :: q63 :: q64 :: q65 :: q66 :: q67 :: q68 :: q69 :: q70 :: q71 :: q72 :: q73 :: q74 :: q75 :: q76 :: q77 :: q78 :: q79 :: q80 :: q81 :: q82 :: q83 :: q84 :: q85 :: q86 :: q87 :: q88 :: q89 :: q90 :: q91 :: q92 :: q93 :: q94 :: q95 :: q96 :: q97 :: q98 :: q99 :: q100 :: q101 :: q102 :: q103 :: q104 :: q105 :: q106 :: q107 :: q108 :: q109 :: q110 :: q111 :: q112 :: q113 :: q114 :: q115 :: q116 :: q117 :: q118 :: q119 :: q120 :: q121 :: q122 :: q123 :: q124 :: q125 :: q126 :: q127 :: q128 :: q129 :: q130 :: q131 :: q132 :: q133 :: q134 :: q135 :: q136 :: q137 :: q138 :: q139 :: q140 :: q141 :: q142 :: q143 :: q144 :: q145 :: (Value.func (.func 44) #[] #[.pointer (some ⟨B, 0, none⟩)]) :: q147 :: q148 :: q149 :: q150 :: q151 :: q152 :: q153 :: q154 :: q155 :: q156 :: q157 :: q158 :: q159 :: []), { target := .collected E, args := #[] } :: ds⟩ V) :
    Code.wpIn Fence.wide n Tryz.prog (ownRange 1) Q ⟨List.toArray (q0 :: q1 :: q2 :: q3 :: q4 :: q5 :: q6 :: q7 :: q8 :: q9 :: q10 :: (Value.pointer (some ⟨Ba, 0, none⟩)) :: q12 :: q13 :: q14 :: q15 :: q16 :: q17 :: q18 :: q19 :: q20 :: q21 :: q22 :: q23 :: q24 :: q25 :: q26 :: q27 :: q28 :: q29 :: q30 :: q31 :: q32 :: q33 :: q34 :: q35 :: q36 :: q37 :: q38 :: q39 :: q40 :: q41 :: q42 :: q43 :: q44 :: q45 :: q46 :: q47 :: q48 :: q49 :: q50 :: q51 :: q52 :: q53 :: q54 :: q55 :: q56 :: q57 :: q58 :: q59 :: q60 :: q61 :: q62 :: q63 :: q64 :: q65 :: q66 :: q67 :: q68 :: q69 :: q70 :: q71 :: q72 :: q73 :: q74 :: q75 :: q76 :: q77 :: q78 :: q79 :: q80 :: q81 :: q82 :: q83 :: q84 :: q85 :: q86 :: q87 :: q88 :: q89 :: q90 :: q91 :: q92 :: q93 :: q94 :: q95 :: q96 :: q97 :: q98 :: q99 :: q100 :: q101 :: q102 :: q103 :: q104 :: q105 :: q106 :: q107 :: q108 :: q109 :: q110 :: q111 :: q112 :: q113 :: q114 :: q115 :: q116 :: q117 :: q118 :: q119 :: q120 :: q121 :: q122 :: q123 :: q124 :: q125 :: q126 :: q127 :: q128 :: q129 :: q130 :: q131 :: q132 :: q133 :: q134 :: q135 :: q136 :: q137 :: q138 :: q139 :: q140 :: q141 :: q142 :: q143 :: q144 :: q145 :: (Value.func (.func 44) #[] #[.pointer (some ⟨B, 0, none⟩)]) :: q147 :: q148 :: q149 :: q150 :: q151 :: q152 :: q153 :: q154 :: q155 :: q156 :: q157 :: q158 :: q159 :: []), ds⟩ Wr := by
  conv => arg 4; whnf
  obtain ⟨ats, hats⟩ : ∃ ats, ats = (liAll m.body 0 (bkA m.bA) (ofA m.bA)).map fun x => x.s.pos := ⟨_, rfl⟩
  have hI0 : Hid (InQ w.heap.size hi Ba rs D0 ats Wr [] (fun j => j = Ba ∨ Cpy w.heap.size hi j) Wr) := by
    refine ⟨rfl, D0, A0, _, c0, hba.out, by rw [hats]; simp, hc0, by rw [hats]; exact hat.out, haw.out, hM.out, fun _ _ h => h, fun x h => (by cases h), KeepsBut.refl _ _⟩
  have hats9 := hide hats
  refine wpIn_rangeR (gf := 44) (lb := #[.pointer (some ⟨B, 0, none⟩)]) rfl (enters_of Tryz.func44 (by kernel_rfl) rfl) (bodyI_push B m.bA m.bc m.body) (fun _ => rfl)
    (fun j => j = Ba ∨ Cpy w.heap.size hi j) (fun s O Y => InQ w.heap.size hi Ba rs D0 ats Wr s O Y) (fun _ _ _ _ => False) ?hIT (fun _ _ _ _ _ h _ => h) ?hIO ?hIR (fun _ _ _ _ h => h.elim) hI0.out ?hround ?hdone (fun _ _ _ _ _ _ _ _ _ _ h _ => h.elim)
  case hIT => exact fun s O X Y h t => h.turn hrng.out t
  case hIO => exact fun s O X h => h.there hhw
  case hIR =>
    rintro s O Y ⟨rfl, D, A, k, c, h⟩
    refine ⟨RdI.of_mask h.mask _ _ hms.out.body (Nat.le_trans hms.out.bc hms.out.bm) hms.out.stmts hv.out, ?_⟩
    exact (World.cell?_of_block (h.keep.block B (row_lt hbb.out) (fun h => h.elim hne (fun h => by have := h.2; omega)))).trans (row_cell hbb.out (j := 15) rfl).1
  case hround =>
    rintro m1 l1 s x O Y hl0 hlY hnl hI hpre
    have hrow : Hid ((⟨x.b, x.off, .st x.s⟩ : Rw) ∈ rs) := hv.out _ (liAll_rows _ _ _ _ x (hpre.subset (by simp)))
    have hnext : Hid (ats.drop s.length = x.s.pos :: ats.drop (s.length + 1)) := by show _ = _; rw [hats9.out]; exact liAll_pre hpre
    unfold Li.args
    gi_wp2
    refine ⟨O, SubO.refl _ _, KeepsBut.refl _ _, fun Z => InQ w.heap.size hi Ba rs D0 ats Wr s O Z, fun _ _ h t => h.turn hrng.out t, hI, ?_⟩
    clear hI hl0 hlY hnl Y
    rintro m2 l2 Y hl2 hlY hnl ⟨hO, D, A, k, c, hP⟩
    have hO9 := hide hO
    have hP9 := hide hP
    obtain ⟨k', rfl⟩ : ∃ k', k = k' + 1 := by
      have := hP.len
      rw [hnext.out, List.length_cons] at this
      exact ⟨_, this⟩
    have hl := hP.lies
    rw [hnext.out] at hl
    obtain ⟨g, o, rfl, hg, hcell⟩ := hl 0 (by simp)
    have e0 : Y.cell? ⟨g, o, none⟩ = some (.int .i64 x.s.pos) := by simpa using hcell 0 _ rfl
    obtain ⟨ps, hps⟩ : ∃ p, p = x.s.pos := ⟨_, rfl⟩
    rw [← hps] at e0
    have hps9 := hide hps
    have hcap := hP.cap
    have hk1 : (1 : Int) ≤ (k' : Int) + 1 := by omega
    obtain ⟨a1, a2, a3⟩ := hP.away _ rfl
    have hbx : Y.cell? ⟨Ba, 0, none⟩ = some (.slice (some ⟨g, o, none⟩) (k' + 1) c) := (row_cell (cs := [.slice (some ⟨g, o, none⟩) (k' + 1) c]) hP.box (j := 0) rfl).1
    obtain ⟨⟨u, c4⟩, f4⟩ := hP.mask.free hrow.out 22 (show 22 < x.s.cells.length by rw [St.cells_len]; decide)
    let S : World → Prop := fun Z => KeepsBut (Cpy w.heap.size hi) Y Z
    have hgl : g < Y.heap.size := hg
    have hSc : ∀ Z, S Z → Z.cell? ⟨Ba, 0, none⟩ = some (.slice (some ⟨g, o, none⟩) (k' + 1) c) ∧ Z.cell? ⟨g, o, none⟩ = some (.int .i64 ps) := fun Z h =>
      ⟨(h.cell (a := ⟨Ba, 0, none⟩) (row_lt hP.box) (fun h => by have := h.2; simp only at this; omega)).trans hbx, (h.cell (a := ⟨g, o, none⟩) hgl (fun h => by have := h.2; simp only at this a2; omega)).trans e0⟩
    have hS : S Y.drew := KeepsBut.drew Y
    clear hO hP hl hcell e0 hbx hl2 hlY hnl hps hg a1 a2 a3
    gi_wp2
    refine wpIn_region_tillL S 9 (by kernel_rfl) ?_
    simp only [List.size_toArray, List.length_cons, List.length_nil, Nat.reduceAdd]
    refine TillL.take (i := 0) (v := ?_) (fun _ => trivial) rfl (by kernel_rfl) (fun _ _ _ h => h) hS ?_ rfl ?_
    rotate_left
    · intro X hSX
      skip
      go_simp
      all_goals with_reducible rfl
    try simp only [Act.put, List.getElem_toArray, List.getElem_cons_succ, List.getElem_cons_zero, List.setIfInBounds_toArray, List.set_cons_zero, List.set_cons_succ]
    refine TillL.take (i := 1) (v := ?_) (fun _ => trivial) rfl (by kernel_rfl) (fun _ _ _ h => h) hS ?_ rfl ?_
    rotate_left
    · intro X hSX
      obtain ⟨e0, e1⟩ := hSc X hSX
      go_simp
      all_goals with_reducible rfl
    try simp only [Act.put, List.getElem_toArray, List.getElem_cons_succ, List.getElem_cons_zero, List.setIfInBounds_toArray, List.set_cons_zero, List.set_cons_succ]
    refine TillL.take (i := 2) (v := ?_) (fun _ => trivial) rfl (by kernel_rfl) (fun _ _ _ h => h) hS ?_ rfl ?_
    rotate_left
    · intro X hSX
      skip
      go_simp
      all_goals with_reducible rfl
    try simp only [Act.put, List.getElem_toArray, List.getElem_cons_succ, List.getElem_cons_zero, List.setIfInBounds_toArray, List.set_cons_zero, List.set_cons_succ]
    refine TillL.take (i := 3) (v := ?_) (fun _ => trivial) rfl (by kernel_rfl) (fun _ _ _ h => h) hS ?_ rfl ?_
    rotate_left
    · intro X hSX
      obtain ⟨e0, e1⟩ := hSc X hSX
      go_simp
      all_goals with_reducible rfl
    try simp only [Act.put, List.getElem_toArray, List.getElem_cons_succ, List.getElem_cons_zero, List.setIfInBounds_toArray, List.set_cons_zero, List.set_cons_succ]
    refine TillL.take (i := 4) (v := ?_) (fun _ => trivial) rfl (by kernel_rfl) (fun _ _ _ h => h) hS ?_ rfl ?_
    rotate_left
    · intro X hSX
      obtain ⟨e0, e1⟩ := hSc X hSX
      go_simp
      all_goals with_reducible rfl
    try simp only [Act.put, List.getElem_toArray, List.getElem_cons_succ, List.getElem_cons_zero, List.setIfInBounds_toArray, List.set_cons_zero, List.set_cons_succ]
    refine TillL.take (i := 5) (v := ?_) (fun _ => trivial) rfl (by kernel_rfl) (fun _ _ _ h => h) hS ?_ rfl ?_
    rotate_left
    · intro X hSX
      skip
      go_simp
      all_goals with_reducible rfl
    try simp only [Act.put, List.getElem_toArray, List.getElem_cons_succ, List.getElem_cons_zero, List.setIfInBounds_toArray, List.set_cons_zero, List.set_cons_succ]
    obtain ⟨nA, hnA⟩ : ∃ nA, nA = (if c = 1 then some (⟨g, o, none⟩ : Addr) else some ⟨g, o + 1, none⟩) := ⟨_, rfl⟩
    rw [← hnA]
    have hnA9 := hide hnA
    clear hnA
    refine TillL.take (i := 6) (v := ?_) (fun _ => trivial) rfl (by kernel_rfl) (fun _ _ _ h => h) hS ?_ rfl ?_
    rotate_left
    · intro X hSX
      skip
      go_simp
      all_goals with_reducible rfl
    try simp only [Act.put, List.getElem_toArray, List.getElem_cons_succ, List.getElem_cons_zero, List.setIfInBounds_toArray, List.set_cons_zero, List.set_cons_succ]
    refine TillL.take (i := 7) (v := ?_) (fun _ => trivial) rfl (by kernel_rfl) (fun _ _ _ h => h) hS ?_ rfl ?_
    rotate_left
    · intro X hSX
      skip
      go_simp
      all_goals with_reducible rfl
    try simp only [Act.put, List.getElem_toArray, List.getElem_cons_succ, List.getElem_cons_zero, List.setIfInBounds_toArray, List.set_cons_zero, List.set_cons_succ]
    have hPd := hP9
    have hMd := Mask.st hPd.out.mask hsep.out hrow.out
    rw [← hps9.out] at hMd
    obtain ⟨W1, hW1⟩ : ∃ W1, W1 = (Y.setCell ⟨x.b, x.off + 22, none⟩ (.int .i64 ps)).drew := ⟨_, rfl⟩
    have hcx : Cpy w.heap.size hi x.b := hrng.out _ hrow.out
    have hk1' : KeepsBut (Cpy w.heap.size hi) Y W1 := by rw [hW1]; exact (KeepsBut.setCell (O := Cpy w.heap.size hi) Y ⟨x.b, x.off + 22, none⟩ _ hcx).trans' (KeepsBut.drew _)
    have hS1 : S W1 := hk1'
    have hM1 : Hid (Mask altA rs (fun b f => D b f ∨ (b = x.b ∧ f = x.off)) W1) := by show Mask _ _ _ _; rw [hW1]; exact hMd
    have hk19 := hide hk1'
    have hbox1 : W1.heap[Ba]? = some (.cells #[.slice (some ⟨g, o, none⟩) (k' + 1) c] 98 (0, 0)) := (hk1'.block Ba (row_lt hPd.out.box) (fun h => by have := h.2; omega)).trans hPd.out.box
    have hb19 := hide hbox1
    obtain ⟨c5, f5⟩ := row_cell (cs := [.slice (some ⟨g, o, none⟩) (k' + 1) c]) hbox1 (j := 0) rfl
    refine TillL.one (i := 8) rfl (by kernel_rfl) rfl ?_
    intro K hK
    go_simp
    rw [← hW1]
    refine hK _ _ (fun _ => hS1) ?_
    clear hK K hMd hW1 hbox1 hk1'
    try simp only [Act.put, List.getElem_toArray, List.getElem_cons_succ, List.getElem_cons_zero, List.setIfInBounds_toArray, List.set_cons_zero, List.set_cons_succ]
    refine TillL.one (i := 9) rfl (by kernel_rfl) rfl ?_
    intro K hK
    go_simp
    refine hK _ _ (fun h => absurd rfl h) ?_
    clear hK K
    refine TillL.done (by kernel_rfl) ?_ _
    gi_wp2
    have hO0 : O Ba ∧ ∀ j, Cpy w.heap.size hi j → O j := by rw [hO9.out]; exact ⟨.inl rfl, fun j h => .inr h⟩
    obtain ⟨V, hV⟩ : ∃ V, V = W1.setCell ⟨Ba, 0, none⟩ (.slice nA k' (c - 1)) := ⟨_, rfl⟩
    rw [← hV]
    have hkV : KeepsBut (fun j => j = Ba) W1 V := by rw [hV]; exact KeepsBut.setCell _ _ _ rfl
    have hKO : KeepsBut O Y V := (hk19.out.mono fun j _ h => hO0.2 j h).trans' (hkV.mono fun j _ h => by have : j = Ba := h; rw [this]; exact hO0.1)
    have hnb : ∀ r ∈ rs, r.b ≠ Ba := fun r hr e => by have := (hrng.out r hr).2; omega
    refine ⟨O, SubO.refl _ _, hKO, hO9.out, _, _, k', c - 1, ⟨by rw [hV]; exact row_store hb19.out 0 _, ?_, by omega, ?_, ?_, hM1.out.blocks fun r hr => hkV.block _ (hM1.out.lt hr) (hnb r hr), fun b f h => .inl (hPd.out.more b f h), ?_, ?_⟩⟩
    · have := hPd.out.len
      rw [hnext.out, List.length_cons] at this
      have e2 : (s ++ [x]).length = s.length + 1 := by simp
      rw [e2]
      omega
    · have hl := hPd.out.lies
      rw [hnext.out] at hl
      have hcut := hl.cut (k := 1) (c := c) (by simp) (by have := hPd.out.len; rw [hnext.out] at this; omega)
      have e1 : (x.s.pos :: ats.drop (s.length + 1)).drop 1 = ats.drop (s ++ [x]).length := by simp
      rw [e1] at hcut
      intro i hi
      obtain ⟨b, off, hA, hb, hc⟩ := hcut i hi
      have hgb : b = g := by
        by_cases hc1 : c = 1
        · rw [if_pos hc1] at hA; cases hA; rfl
        · rw [if_neg hc1] at hA; simp [Addr.add] at hA; exact hA.1.symm
      obtain ⟨a1, a2, a3⟩ := hPd.out.away _ rfl
      simp only at a1 a2 a3
      have hbk : V.heap[b]? = Y.heap[b]? := by
        rw [hgb]
        have hg1 : g < W1.heap.size := Nat.lt_of_lt_of_le hgl hS1.size
        exact (hkV.block g hg1 a3).trans (hS1.block g hgl (fun h => by have := h.2; omega))
      refine ⟨b, off, ?_, Nat.lt_of_lt_of_le hb hKO.size, fun j v hv => (World.cell?_of_block (a := ⟨b, off + i * 1 + j, none⟩) hbk).trans (hc j v hv)⟩
      rw [← hA, hnA9.out]
      simp [Addr.add]
    · intro ad had
      rw [hnA9.out] at had
      obtain ⟨a1, a2, a3⟩ := hPd.out.away _ rfl
      by_cases hc1 : c = 1
      · rw [if_pos hc1] at had; cases had; exact ⟨a1, a2, a3⟩
      · rw [if_neg hc1] at had; cases had; exact ⟨a1, a2, a3⟩
    · intro y hy
      rcases List.mem_append.1 hy with hy | hy
      · exact .inl (hPd.out.done y hy)
      · rw [List.mem_singleton.1 hy]; exact .inr ⟨rfl, rfl⟩
    · have h1 : KeepsBut (fun j => j = Ba ∨ Cpy w.heap.size hi j) Wr W1 := hPd.out.keep.trans' (hk19.out.mono fun j _ h => .inr h)
      exact h1.trans' (hkV.mono fun j _ h => .inl h)
  case hdone =>
    rintro O E V hE hnE _ _ ⟨rfl, D, A, k, c, h⟩ hKE
    exact hexit E V D ⟨h.keep, h.mask, h.more, covAll m.body 0 (bkA m.bA) (ofA m.bA) h.done, hE, hKE⟩
end Go.Proofs.YtmpdmelkbemabaaGreat
set_option linter.unusedSimpArgs false
set_option linter.unusedVariables false
namespace Go.Proofs.YtmpdmelkbemabaaGreat
open Go.RowKit Go.Proofs.Grow
attribute [local go_sem] Oper.semAt_some

/-- Where arena.own stands: the marks of its ranges, the rows that are laid. -/
structure OwnSt (w : World) (hi : Nat) (rs : List Rw) (Ds : List Nat) (D : Nat → Nat → Prop) (X : World) : Prop where
  below : Below w.heap.size w X
  top : hi ≤ X.heap.size
  mask : Mask altA rs D X
  nd : Ds.Nodup
  mark : ∀ E ∈ Ds, hi ≤ E ∧ X.heap[E]? = some (.deferred (some []))
/-- A step that turns the copy and new blocks alone. -/
theorem OwnSt.step {w X Y : World} {hi : Nat} {rs : List Rw} {Ds : List Nat} {D D' : Nat → Nat → Prop} (h : OwnSt w hi rs Ds D X) (hk : KeepsBut (Cpy w.heap.size hi) X Y) (hM : Mask altA rs D' Y) : OwnSt w hi rs Ds D' Y :=
  ⟨h.below.trans (Cpy.below hk h.below.size), Nat.le_trans h.top hk.size, hM, h.nd, fun E hE => ⟨(h.mark E hE).1, (hk.block E (row_lt (h.mark E hE).2) (fun e => by have := (h.mark E hE).1; have := e.2; omega)).trans (h.mark E hE).2⟩⟩
theorem OwnSt.add {w X : World} {hi : Nat} {rs : List Rw} {Ds : List Nat} {D : Nat → Nat → Prop} (h : OwnSt w hi rs Ds D X) {E : Nat} (hE : E ∉ Ds) (hh : hi ≤ E) (hX : X.heap[E]? = some (.deferred (some []))) : OwnSt w hi rs (E :: Ds) D X :=
  ⟨h.below, h.top, h.mask, List.nodup_cons.2 ⟨hE, h.nd⟩, fun F hF => by
    rcases List.mem_cons.1 hF with rfl | hF
    · exact ⟨hh, hX⟩
    · exact h.mark F hF⟩
theorem rwMes_take {A : Option Addr} {l : List Me} {D : Nat → Nat → Prop} {k : Nat} (hk : k < l.length) (h : Cov D (rowsAt (bkA A) (ofA A) 17 ((l.take k).map .me) ++ (l.take k).flatMap subMe)) (h1 : D (bkA A) (ofA A + k * 17)) (h2 : Cov D (subMe l[k])) :
    Cov D (rowsAt (bkA A) (ofA A) 17 ((l.take (k + 1)).map .me) ++ (l.take (k + 1)).flatMap subMe) := by
  rw [List.take_succ_eq_append_getElem hk, List.map_append, List.flatMap_append]
  intro r hr
  rcases List.mem_append.1 hr with hr | hr
  · obtain ⟨i, hi, rfl⟩ := rowsAt_mem hr
    have hi' : i < k + 1 := by simp at hi; omega
    rcases Nat.lt_or_ge i k with hik | hik
    · have hik2 : i < ((l.take k).map Nd.me).length := by simp; omega
      have e : ((l.take k).map Nd.me ++ List.map Nd.me [l[k]])[i] = ((l.take k).map Nd.me)[i] := List.getElem_append_left hik2
      rw [e]
      exact h _ (List.mem_append_left _ (rowsAt_get i hik2))
    · obtain rfl : i = k := by omega
      exact .inr h1
  · rcases List.mem_append.1 hr with hr | hr
    · exact h r (List.mem_append_right _ hr)
    · exact h2 r (by simpa using hr)
/-- The same, if other blocks turn that no mark and no row lies in. -/
theorem OwnSt.turn {w X Y : World} {hi : Nat} {rs : List Rw} {Ds : List Nat} {D D' : Nat → Nat → Prop} {O : Nat → Prop} (h : OwnSt w hi rs Ds D X) (hk : KeepsBut O X Y) (hl : ∀ j, O j → w.heap.size ≤ j) (ho : ∀ E ∈ Ds, ¬ O E) (hM : Mask altA rs D' Y) : OwnSt w hi rs Ds D' Y :=
  ⟨h.below.trans (hk.below hl h.below.size), Nat.le_trans h.top hk.size, hM, h.nd, fun E hE => ⟨(h.mark E hE).1, (hk.block E (row_lt (h.mark E hE).2) (ho E hE)).trans (h.mark E hE).2⟩⟩
mutual
theorem posOne_len : ∀ s : St, (posOne s).length ≤ s.fw
  | .mk k x y name ty e aA ac args bA bc body eA ec els pos => by
    have h1 := posAll_len body
    have h2 := posAll_len els
    rw [posOne, St.fw, List.length_cons, List.length_append]
    omega
theorem posAll_len : ∀ l : List St, (posAll l).length ≤ stFw l
  | [] => by simp [posAll]
  | s :: l => by
    have h1 := posOne_len s
    have h2 := posAll_len l
    rw [posAll, stFw, List.length_append]
    omega
end
theorem leP_len (l : List St) : (posAll l).length = (liAll l 0 0 0).length := by rw [← liAll_pos l 0 0 0, List.length_map]

/-- A frame's slots, one by one. -/
theorem frame_lit (l : List Value) (h : l.length = 160) : ∃ q : Nat → Value, l = (q 0 :: q 1 :: q 2 :: q 3 :: q 4 :: q 5 :: q 6 :: q 7 :: q 8 :: q 9 :: q 10 :: q 11 :: q 12 :: q 13 :: q 14 :: q 15 :: q 16 :: q 17 :: q 18 :: q 19 :: q 20 :: q 21 :: q 22 :: q 23 :: q 24 :: q 25 :: q 26 :: q 27 :: q 28 :: q 29 :: q 30 :: q 31 :: q 32 :: q 33 :: q 34 :: q 35 :: q 36 :: q 37 :: q 38 :: q 39 :: q 40 :: q 41 :: q 42 :: q 43 :: q 44 :: q 45 :: q 46 :: q 47 :: q 48 :: q 49 :: q 50 :: q 51 :: q 52 :: q 53 :: q 54 :: q 55 :: q 56 :: q 57 :: q 58 :: q 59 :: q 60 :: q 61 :: q 62 :: q 63 :: q 64 :: q 65 :: q 66 :: q 67 :: q 68 :: q 69 :: q 70 :: q 71 :: q 72 :: q 73 :: q 74 :: q 75 :: q 76 :: q 77 :: q 78 :: q 79 :: q 80 :: q 81 :: q 82 :: q 83 :: q 84 :: q 85 :: q 86 :: q 87 :: q 88 :: q 89 :: q 90 :: q 91 :: q 92 :: q 93 :: q 94 :: q 95 :: q 96 :: q 97 :: q 98 :: q 99 :: q 100 :: q 101 :: q 102 :: q 103 :: q 104 :: q 105 :: q 106 :: q 107 :: q 108 :: q 109 :: q 110 :: q 111 :: q 112 :: q 113 :: q 114 :: q 115 :: q 116 :: q 117 :: q 118 :: q 119 :: q 120 :: q 121 :: q 122 :: q 123 :: q 124 :: q 125 :: q 126 :: q 127 :: q 128 :: q 129 :: q 130 :: q 131 :: q 132 :: q 133 :: q 134 :: q 135 :: q 136 :: q 137 :: q 138 :: q 139 :: q 140 :: q 141 :: q 142 :: q 143 :: q 144 :: q 145 :: q 146 :: q 147 :: q 148 :: q 149 :: q 150 :: q 151 :: q 152 :: q 153 :: q 154 :: q 155 :: q 156 :: q 157 :: q 158 :: q 159 :: []) ∧ ∀ j v, l[j]? = some v → q j = v := by
  refine ⟨fun j => l.getD j undef, ?_, fun j v hv => by show l.getD j undef = v; rw [List.getD_eq_getElem?_getD, hv]; rfl⟩
  have e : l = (List.range 160).map fun j => l.getD j undef := by
    refine List.ext_getElem (by simp [h]) fun j h1 h2 => ?_
    simp [h1]
  exact e

set_option maxHeartbeats 0 in
set_option maxRecDepth 1000000 in
theorem own_l4 (n : Nat) (w : World) (hi : Nat) (rs : List Rw) (hsep : Hid (rs.Pairwise Rw.apart)) (hrng : Hid (∀ r ∈ rs, w.heap.size ≤ r.b ∧ r.b < hi)) (D0 : Nat → Nat → Prop) (X0 : World) (Ds0 : List Nat) (hO : Hid (OwnSt w hi rs Ds0 D0 X0)) (b0 off0 N c i : Nat) (hiN : i < N) (hN : N ≤ 1048576) (cl c' : Cl) (hm : Hid ((⟨w.heap.size, i * 7, .cl c'⟩ : Rw) ∈ rs)) (hv : Hid (∀ r ∈ rwMes c'.mA c'.methods, r ∈ rs)) (hcs : Hid (ClS c')) (he : Hid (c'.methods.map stMe = cl.methods.map stMe)) (hin : Hid (ClIn w cl)) (hfw : Hid (cl.fw ≤ 1048576))
    (hb0 : b0 < w.heap.size) (hor : Hid (w.rangeAt b0 (off0 + i * 7) cl.cells)) (hlo : w.heap.size ≤ hi) (v19 v20 : Value) (l : List Value) (hl : l.length = 160) (h0 : l[0]? = some (.slice (some ⟨b0, off0, none⟩) N c)) (h3 : l[3]? = some (.slice (some ⟨w.heap.size, 0, none⟩) N N)) (h4 : l[4]? = some (.int .i64 i)) (h19 : l[19]? = some v19) (h20 : l[20]? = some v20) (h64 : l[64]? = some (.int .i64 cl.methods.length)) (h65 : l[65]? = some (.int .i64 0)) (Q : Exit → Act → World → Prop) (hpan : ∀ c (a : Act) (d : Nat) v w, Q (.panic c) (a.put (some d) v) w → Q (.panic c) a w)
    (hexit : ∀ (l : List Value) (Y : World) (D : Nat → Nat → Prop) (Ds : List Nat), l.length = 160 → l[0]? = some (.slice (some ⟨b0, off0, none⟩) N c) → l[3]? = some (.slice (some ⟨w.heap.size, 0, none⟩) N N) → l[19]? = some v19 → l[20]? = some v20 → Hid (OwnSt w hi rs Ds D Y ∧ (∀ b f, D0 b f → D b f) ∧ Cov D (rwMes c'.mA c'.methods)) → Q (.exit 4) ⟨l.toArray, Marks Ds⟩ Y) : Code.wpIn Fence.wide n Tryz.prog (Code.loop (ownLoop 2)) Q ⟨l.toArray, Marks Ds0⟩ X0 := by
  have hiN' : (i : Int) < (N : Int) := by omega
  have hlen : cl.methods.length ≤ 1048576 := by have h1 := hfw.out; unfold Cl.fw at h1; have := sum_len Me.fw Me.fw_pos cl.methods; omega
  conv => arg 4; arg 1; whnf
  obtain ⟨I2, HI2⟩ : ∃ I2 : Act → World → Prop, Hid (∀ a X, I2 a X ↔ ∃ (l : List Value) (k : Nat) (Ds : List Nat) (D : Nat → Nat → Prop), a = ⟨l.toArray, Marks Ds⟩ ∧ l.length = 160 ∧ l[0]? = some (.slice (some ⟨b0, off0, none⟩) N c) ∧ l[3]? = some (.slice (some ⟨w.heap.size, 0, none⟩) N N) ∧ l[4]? = some (.int .i64 i) ∧ l[19]? = some v19 ∧ l[20]? = some v20 ∧ l[64]? = some (.int .i64 cl.methods.length) ∧ l[65]? = some (.int .i64 k) ∧ k ≤ cl.methods.length ∧ Hid (OwnSt w hi rs Ds D X ∧ (∀ b f, D0 b f → D b f) ∧ Cov D (rowsAt (bkA c'.mA) (ofA c'.mA) 17 ((c'.methods.take k).map .me) ++ (c'.methods.take k).flatMap subMe))) := ⟨_, fun _ _ => Iff.rfl⟩
  refine wpIn_loop I2 (fun a _ => cl.methods.length - (intOf (a.tmps.getD 65 undef)).toNat) ?atStart ?round
  case atStart => exact (HI2.out _ _).2 ⟨l, 0, Ds0, D0, rfl, hl, h0, h3, h4, h19, h20, h64, h65, Nat.zero_le _, hO.out, fun _ _ h => h, fun r hr => by simp [rowsAt] at hr⟩
  case round =>
    clear hl h0 h3 h4 h19 h20 h64 h65 hO
    intro a X hrel
    obtain ⟨l, k, Ds, D, rfl, hl, h0, h3, h4, h19, h20, h64, h65, hk, hI⟩ := (HI2.out _ _).1 hrel
    clear hrel
    obtain ⟨q, rfl, hq⟩ := frame_lit l hl
    have e0 := hq 0 _ h0
    have e3 := hq 3 _ h3
    have e4 := hq 4 _ h4
    have e19 := hq 19 _ h19
    have e20 := hq 20 _ h20
    have e64 := hq 64 _ h64
    have e65 := hq 65 _ h65
    clear hq h0 h3 h4 h19 h20 h64 h65 hl
    simp only [e0, e3, e4, e19, e20, e64, e65]
    clear e0 e3 e4 e19 e20 e64 e65
    by_cases hlt : k < cl.methods.length
    · obtain ⟨b2, off2, hA2, hb2, hcell2⟩ := hin.out.methods k hlt
      have hlt' : (k : Int) < (cl.methods.length : Int) := by omega
      have hle := congrArg List.length he.out
      simp only [List.length_map] at hle
      have hltm : k < c'.methods.length := by omega
      obtain ⟨bm, om, hAm⟩ := hcs.out.methods (by omega)
      have hrow0 := hv.out _ (List.mem_append_left _ (rowsAt_get (b := bkA c'.mA) (off := ofA c'.mA) (size := 17) (l := c'.methods.map .me) k (by simpa using hltm)))
      simp only [List.getElem_map, hAm, bkA, ofA] at hrow0
      have hst : stMe c'.methods[k] = stMe cl.methods[k] := by
        have h := congrArg (fun l => l[k]?) he.out
        simp only [List.getElem?_map, List.getElem?_eq_getElem hltm, List.getElem?_eq_getElem hlt, Option.map_some, Option.some.injEq] at h
        exact h
      have hMS := hcs.out.each _ (List.getElem_mem hltm)
      have hMI := hin.out.each _ (List.getElem_mem hlt)
      have hfm : cl.methods[k].fw ≤ 1048576 := by have h1 := hfw.out; unfold Cl.fw at h1; have := sum_has Me.fw (List.getElem_mem hlt); omega
      have hsub : ∀ r ∈ subMe c'.methods[k], r ∈ rs := fun r hr => hv.out r (List.mem_append_right _ (List.mem_flatMap.2 ⟨_, List.getElem_mem hltm, hr⟩))
      have hcov : ∀ D', Cov D' (rowsAt (bkA c'.mA) (ofA c'.mA) 17 ((c'.methods.take k).map .me) ++ (c'.methods.take k).flatMap subMe) → D' bm (om + k * 17) → Cov D' (subMe c'.methods[k]) → Cov D' (rowsAt (bkA c'.mA) (ofA c'.mA) 17 ((c'.methods.take (k + 1)).map .me) ++ (c'.methods.take (k + 1)).flatMap subMe) := fun D' h1 h2 h3 => rwMes_take hltm h1 (by rw [hAm]; exact h2) h3
      obtain ⟨m', hm'⟩ : ∃ m', m' = c'.methods[k] := ⟨_, rfl⟩
      obtain ⟨m, hme⟩ : ∃ m, m = cl.methods[k] := ⟨_, rfl⟩
      rw [← hm'] at hrow0 hst hMS hsub hcov
      rw [← hme] at hcell2 hst hMI hfm
      have hrow := hide hrow0
      have HMS := hide hMS
      have HMI := hide hMI
      have HFM := hide hfm
      have hsub9 := hide hsub
      have hcov9 := hide hcov
      have hlt9 := hide hlt
      have hpar : Hid (m'.params = m.params ∧ m'.locals = m.locals ∧ m'.pos = m.pos ∧ stSts m'.body = stSts m.body) := by
        unfold stMe at hst
        simp only [Me.mk.injEq] at hst
        obtain ⟨_, _, _, _, _, h1, _, _, h2, _, _, h3, h4⟩ := hst
        exact ⟨h1, h2, h4, h3⟩
      have hmsk := hI.out.1.mask
      have hbel := hI.out.1.below
      have c1 : X.cell? ⟨w.heap.size, i * 7 + 5, none⟩ = some (.slice (some ⟨bm, om, none⟩) cl.methods.length c'.mc) := hmsk.cell hm.out 5 _ (fun p => by show some (Value.slice c'.mA c'.methods.length c'.mc) = _; rw [hAm, hle])
      have c2 : X.cell? ⟨b0, off0 + i * 7 + 5, none⟩ = some (.slice (some ⟨b2, off2, none⟩) cl.methods.length cl.mc) := (World.cell?_of_block (hbel.block b0 hb0)).trans (hor.out 5 _ (by rw [← hA2]; rfl))
      have hr2 : X.rangeAt b2 (off2 + k * 17) m.cells := fun j v h => (World.cell?_of_block (hbel.block b2 hb2)).trans (hcell2 j v h)
      have l1 : w.heap.size < X.heap.size := World.block_lt_of_cell? _ _ c1
      have l2 : b0 < X.heap.size := World.block_lt_of_cell? _ _ c2
      have l3 : b2 < X.heap.size := Nat.lt_of_lt_of_le hb2 hbel.size
      let S : World → Prop := fun Z => KeepsBut (fun _ => False) X Z
      have hS1 : ∀ Z, S Z → Z.cell? ⟨w.heap.size, i * 7 + 5, none⟩ = some (.slice (some ⟨bm, om, none⟩) cl.methods.length c'.mc) := fun Z h => (h.cell (a := ⟨w.heap.size, i * 7 + 5, none⟩) l1 id).trans c1
      have hS2 : ∀ Z, S Z → Z.cell? ⟨b0, off0 + i * 7 + 5, none⟩ = some (.slice (some ⟨b2, off2, none⟩) cl.methods.length cl.mc) := fun Z h => (h.cell (a := ⟨b0, off0 + i * 7 + 5, none⟩) l2 id).trans c2
      have hS3 : ∀ Z, S Z → Z.rangeAt b2 (off2 + k * 17) m.cells := fun Z h j v hj => (h.cell (a := ⟨b2, off2 + k * 17 + j, none⟩) l3 id).trans (hr2 j v hj)
      have hS : S X.drew := KeepsBut.drew X
      clear hcell2 hle hltm hAm hrow0 hst hMS hMI hfm hsub hcov hm' hme hmsk hbel c1 c2 hr2 l1 l2 l3 hlt hA2
      gi_wp2
      refine wpIn_region_tillL S 17 (by kernel_rfl) ?_
      simp only [List.size_toArray, List.length_cons, List.length_nil, Nat.reduceAdd]
      refine TillL.take (i := 0) (v := ?_) (fun _ => trivial) rfl (by kernel_rfl) (fun _ _ _ h => hpan _ _ _ _ _ h) hS ?_ rfl ?_
      rotate_left
      · intro X hSX
        skip
        go_simp
        all_goals with_reducible rfl
      try simp only [Act.put, List.getElem_toArray, List.getElem_cons_succ, List.getElem_cons_zero, List.setIfInBounds_toArray, List.set_cons_zero, List.set_cons_succ]
      refine TillL.take (i := 1) (v := ?_) (fun _ => trivial) rfl (by kernel_rfl) (fun _ _ _ h => hpan _ _ _ _ _ h) hS ?_ rfl ?_
      rotate_left
      · intro X hSX
        skip
        go_simp
        all_goals with_reducible rfl
      try simp only [Act.put, List.getElem_toArray, List.getElem_cons_succ, List.getElem_cons_zero, List.setIfInBounds_toArray, List.set_cons_zero, List.set_cons_succ]
      refine TillL.take (i := 2) (v := ?_) (fun _ => trivial) rfl (by kernel_rfl) (fun _ _ _ h => hpan _ _ _ _ _ h) hS ?_ rfl ?_
      rotate_left
      · intro X hSX
        skip
        go_simp
        all_goals with_reducible rfl
      try simp only [Act.put, List.getElem_toArray, List.getElem_cons_succ, List.getElem_cons_zero, List.setIfInBounds_toArray, List.set_cons_zero, List.set_cons_succ]
      refine TillL.take (i := 3) (v := ?_) (fun _ => trivial) rfl (by kernel_rfl) (fun _ _ _ h => hpan _ _ _ _ _ h) hS ?_ rfl ?_
      rotate_left
      · intro X hSX
        skip
        go_simp
        all_goals with_reducible rfl
      try simp only [Act.put, List.getElem_toArray, List.getElem_cons_succ, List.getElem_cons_zero, List.setIfInBounds_toArray, List.set_cons_zero, List.set_cons_succ]
      refine TillL.take (i := 4) (v := ?_) (fun _ => trivial) rfl (by kernel_rfl) (fun _ _ _ h => hpan _ _ _ _ _ h) hS ?_ rfl ?_
      rotate_left
      · intro X hSX
        have e1 := hS1 X hSX
        go_simp
        all_goals with_reducible rfl
      try simp only [Act.put, List.getElem_toArray, List.getElem_cons_succ, List.getElem_cons_zero, List.setIfInBounds_toArray, List.set_cons_zero, List.set_cons_succ]
      refine TillL.take (i := 5) (v := ?_) (fun _ => trivial) rfl (by kernel_rfl) (fun _ _ _ h => hpan _ _ _ _ _ h) hS ?_ rfl ?_
      rotate_left
      · intro X hSX
        skip
        go_simp
        all_goals with_reducible rfl
      try simp only [Act.put, List.getElem_toArray, List.getElem_cons_succ, List.getElem_cons_zero, List.setIfInBounds_toArray, List.set_cons_zero, List.set_cons_succ]
      refine TillL.take (i := 6) (v := ?_) (fun _ => trivial) rfl (by kernel_rfl) (fun _ _ _ h => hpan _ _ _ _ _ h) hS ?_ rfl ?_
      rotate_left
      · intro X hSX
        skip
        go_simp
        all_goals with_reducible rfl
      try simp only [Act.put, List.getElem_toArray, List.getElem_cons_succ, List.getElem_cons_zero, List.setIfInBounds_toArray, List.set_cons_zero, List.set_cons_succ]
      refine TillL.take (i := 7) (v := ?_) (fun _ => trivial) rfl (by kernel_rfl) (fun _ _ _ h => hpan _ _ _ _ _ h) hS ?_ rfl ?_
      rotate_left
      · intro X hSX
        skip
        go_simp
        all_goals with_reducible rfl
      try simp only [Act.put, List.getElem_toArray, List.getElem_cons_succ, List.getElem_cons_zero, List.setIfInBounds_toArray, List.set_cons_zero, List.set_cons_succ]
      refine TillL.take (i := 8) (v := ?_) (fun _ => trivial) rfl (by kernel_rfl) (fun _ _ _ h => hpan _ _ _ _ _ h) hS ?_ rfl ?_
      rotate_left
      · intro X hSX
        skip
        go_simp
        all_goals with_reducible rfl
      try simp only [Act.put, List.getElem_toArray, List.getElem_cons_succ, List.getElem_cons_zero, List.setIfInBounds_toArray, List.set_cons_zero, List.set_cons_succ]
      refine TillL.take (i := 9) (v := ?_) (fun _ => trivial) rfl (by kernel_rfl) (fun _ _ _ h => hpan _ _ _ _ _ h) hS ?_ rfl ?_
      rotate_left
      · intro X hSX
        skip
        go_simp
        all_goals with_reducible rfl
      try simp only [Act.put, List.getElem_toArray, List.getElem_cons_succ, List.getElem_cons_zero, List.setIfInBounds_toArray, List.set_cons_zero, List.set_cons_succ]
      refine TillL.take (i := 10) (v := ?_) (fun _ => trivial) rfl (by kernel_rfl) (fun _ _ _ h => hpan _ _ _ _ _ h) hS ?_ rfl ?_
      rotate_left
      · intro X hSX
        skip
        go_simp
        all_goals with_reducible rfl
      try simp only [Act.put, List.getElem_toArray, List.getElem_cons_succ, List.getElem_cons_zero, List.setIfInBounds_toArray, List.set_cons_zero, List.set_cons_succ]
      refine TillL.take (i := 11) (v := ?_) (fun _ => trivial) rfl (by kernel_rfl) (fun _ _ _ h => hpan _ _ _ _ _ h) hS ?_ rfl ?_
      rotate_left
      · intro X hSX
        have e2 := hS2 X hSX
        go_simp
        all_goals with_reducible rfl
      try simp only [Act.put, List.getElem_toArray, List.getElem_cons_succ, List.getElem_cons_zero, List.setIfInBounds_toArray, List.set_cons_zero, List.set_cons_succ]
      refine TillL.take (i := 12) (v := ?_) (fun _ => trivial) rfl (by kernel_rfl) (fun _ _ _ h => hpan _ _ _ _ _ h) hS ?_ rfl ?_
      rotate_left
      · intro X hSX
        skip
        go_simp
        all_goals with_reducible rfl
      try simp only [Act.put, List.getElem_toArray, List.getElem_cons_succ, List.getElem_cons_zero, List.setIfInBounds_toArray, List.set_cons_zero, List.set_cons_succ]
      refine TillL.take (i := 13) (v := ?_) (fun _ => trivial) rfl (by kernel_rfl) (fun _ _ _ h => hpan _ _ _ _ _ h) hS ?_ rfl ?_
      rotate_left
      · intro X hSX
        skip
        go_simp
        all_goals with_reducible rfl
      try simp only [Act.put, List.getElem_toArray, List.getElem_cons_succ, List.getElem_cons_zero, List.setIfInBounds_toArray, List.set_cons_zero, List.set_cons_succ]
      refine TillL.take (i := 14) (v := .agg m.cells.toArray) (fun _ => trivial) rfl (by kernel_rfl) (fun _ _ _ h => hpan _ _ _ _ _ h) hS (fun X hX => run_load_mid rfl rfl (hS3 X hX) Tryz.underlying43 rfl (by rw [Me.cells_len]; kernel_rfl)) rfl ?_
      try simp only [Act.put, List.getElem_toArray, List.getElem_cons_succ, List.getElem_cons_zero, List.setIfInBounds_toArray, List.set_cons_zero, List.set_cons_succ]
      obtain ⟨Bw, hBw⟩ : ∃ Bw, Bw = X.heap.size := ⟨_, rfl⟩
      obtain ⟨W1, hW1⟩ : ∃ W1, W1 = (X.alloc (.cells noMe.cells.toArray 43)).drew := ⟨_, rfl⟩
      have hrW : W1.heap[Bw]? = some (.cells noMe.cells.toArray 43 (0, 0)) := by rw [hW1, hBw]; exact heap_alloc_new X _
      have hbW : Below X.heap.size X W1 := by rw [hW1]; exact ((Below.refl _ _).alloc (Nat.le_refl _) _).drew
      have hS1' : S W1 := KeepsBut.of_below hbW
      refine TillL.one (i := 15) rfl (by kernel_rfl) rfl ?_
      intro K hK
      go_simp
      change K _ ((X.alloc (.cells noMe.cells.toArray 43)).drew)
      rw [← hW1, ← hBw]
      refine hK _ _ (fun _ => hS1') ?_
      have hW19 := hide hW1
      have hBw9 := hide hBw
      clear hK K hS hW1 hBw
      have hS := hS1'
      try simp only [Act.put, List.getElem_toArray, List.getElem_cons_succ, List.getElem_cons_zero, List.setIfInBounds_toArray, List.set_cons_zero, List.set_cons_succ]
      refine TillL.one (i := 16) rfl (by kernel_rfl) rfl ?_
      intro K hK
      go_simp
      refine hK _ _ (fun _ => hS) ?_
      clear hK K
      try simp only [Act.put, List.getElem_toArray, List.getElem_cons_succ, List.getElem_cons_zero, List.setIfInBounds_toArray, List.set_cons_zero, List.set_cons_succ]
      have hth : W1.there Bw 0 m.cells.toArray.size := there_of_row hrW 0 _ (by rw [List.size_toArray, List.size_toArray, Me.cells_len, Me.cells_len]; decide)
      obtain ⟨X1, hX1⟩ : ∃ X1, X1 = W1.setCells Bw 0 m.cells.toArray.toList := ⟨_, rfl⟩
      have hr1 : Hid (X1.heap[Bw]? = some (.cells m.cells.toArray 43 (0, 0))) := by show _ = _; rw [hX1]; exact row_fill hrW (by rw [List.size_toArray, List.size_toArray, Me.cells_len, Me.cells_len])
      have hbx1 : Hid (Below X.heap.size X X1) := by show Below _ _ _; rw [hX1]; exact hbW.trans (setCells_below (Nat.le_of_eq hBw9.out.symm) _ _ _)
      refine TillL.one (i := 17) rfl (by kernel_rfl) rfl ?_
      intro K hK
      refine opIn_store_mid (fun _ => trivial) 43 (.tmp 8) (.tmp 82) rfl Bw 0 m.cells.toArray rfl rfl hth (by rw [List.size_toArray, Me.cells_len]; kernel_rfl) (all_oneCell_toArray m.cells_one) ?_
      rw [← hX1]
      refine hK _ _ (fun h => absurd rfl h) ?_
      clear hK K hS hX1 hW19 hrW hbW hS1' hth hS1 hS2 hS3 W1
      try simp only [Act.put, List.getElem_toArray, List.getElem_cons_succ, List.getElem_cons_zero, List.setIfInBounds_toArray, List.set_cons_zero, List.set_cons_succ]
      refine TillL.done (by kernel_rfl) ?_ _
      clear S
      have hhb : hi ≤ Bw := by rw [hBw9.out]; exact hI.out.1.top
      have hO1 := hide (hI.out.1.step (KeepsBut.of_below hbx1.out) (hI.out.1.mask.below hbx1.out fun r hr => hI.out.1.mask.lt hr))
      have hD := hide hI.out.2.1
      have hC := hide hI.out.2.2
      have hsz1 : Hid (X.heap.size ≤ X1.heap.size) := hbx1.out.size
      have hbX : Hid (KeepsBut (Cpy w.heap.size hi) X X1) := KeepsBut.of_below hbx1.out
      clear hI hbx1
      obtain ⟨ps, hps⟩ : ∃ ps, ps = m.pos := ⟨_, rfl⟩
      have d1 : X1.cell? ⟨Bw, 16, none⟩ = some (.int .i64 ps) := (cell_of_row _ _ _ _ _ _ hr1.out).trans (by rw [hps]; rfl)
      obtain ⟨⟨u2, d2⟩, d3⟩ := hO1.out.mask.free hrow.out 16 (show 16 < 17 by decide)
      have hM2 := Mask.me hO1.out.mask hsep.out hrow.out
      rw [hpar.out.2.2.1, ← hps] at hM2
      obtain ⟨X2, hX2⟩ : ∃ X2, X2 = X1.setCell ⟨bm, om + k * 17 + 16, none⟩ (.int .i64 ps) := ⟨_, rfl⟩
      have hk2 : KeepsBut (Cpy w.heap.size hi) X1 X2 := by rw [hX2]; exact KeepsBut.setCell _ _ _ (hrng.out _ hrow.out)
      rw [← hX2] at hM2
      have hO2 := hide (hO1.out.step hk2 hM2)
      have hr2 : Hid (X2.heap[Bw]? = some (.cells m.cells.toArray 43 (0, 0))) := (hk2.block _ (row_lt hr1.out) (fun h => by have := h.2; omega)).trans hr1.out
      have hbX2 : Hid (KeepsBut (Cpy w.heap.size hi) X X2) := hbX.out.trans' hk2
      have hX29 := hide hX2
      clear hM2 hk2 hX2 hps
      gi_upto_region 16 with fail
      rw [← hX29.out]
      have hX2s : Hid (X.heap.size ≤ X2.heap.size) := hbX2.out.size
      clear d1 d2 d3 hO1 hr1 hsz1 hbX hX29 u2
      have d1 : X2.cell? ⟨bm, om + k * 17 + 13, none⟩ = some (.slice m'.pA m.params.length m'.pc) := hO2.out.mask.cell hrow.out 13 _ (fun p => by rw [← hpar.out.1]; rfl)
      have hvp : Hid (∀ r ∈ rwVas m'.pA m'.params, r ∈ rs) := fun r hr => hsub9.out r (by unfold subMe; exact List.mem_append_left _ hr)
      have hvl : Hid (∀ r ∈ rwVas m'.lA m'.locals, r ∈ rs) := fun r hr => hsub9.out r (by unfold subMe; exact List.mem_append_right _ (List.mem_append_left _ hr))
      have hvb : Hid (∀ r ∈ rwSts m'.bA m'.body, r ∈ rs) := fun r hr => hsub9.out r (by unfold subMe; exact List.mem_append_right _ (List.mem_append_right _ hr))
      have hnum : m.params.length ≤ 1048576 ∧ m.locals.length ≤ 1048576 ∧ m.body.length ≤ 1048576 := by have h1 := HFM.out; unfold Me.fw at h1; have := stFw_len m.body; omega
      obtain ⟨hn1, hn2, hn3⟩ := hnum
      gi_wp2
      refine own_l6 n w hi rs hsep hrng _ X2 (hide hO2.out.below) (hide hO2.out.mask) bm (om + k * 17) Bw m m' hrow hvp (hide HMS.out.params) (hide hpar.out.1) (hide HMI.out.params) hn1 hr2 hhb hlo _ _ _ _ _ _ _ _ _ _ _ _ _ _ _ _ _ _ _ _ _ _ _ _ _ _ _ _ _ _ _ _ _ _ _ _ _ _ _ _ _ _ _ _ _ _ _ _ _ _ _ _ _ _ _ _ _ _ _ _ _ _ _ _ _ _ _ _ _ _ _ _ _ _ _ _ _ _ _ _ _ _ _ _ _ _ _ _ _ _ _ _ _ _ _ _ _ _ _ _ _ _ _ _ _ _ _ _ _ _ _ _ _ _ _ _ _ _ _ _ _ _ _ _ _ _ _ _ _ _ _ _ _ _ _ _ _ _ _ _ _ _ _ _ _ _ _ _ _ _ _ _ _ _ _ _ _ _ (fun _ _ _ _ _ h => hpan _ _ _ _ _ h) ?_
      intro r9 r93 r94 r95 r96 r97 r98 r99 r100 r101 r102 r103 r104 r105 r106 r107 r108 r109 Y3 D3 h3
      have hO3 := hide (hO2.out.step h3.out.1 h3.out.2.1)
      have hr3 : Hid (Y3.heap[Bw]? = some (.cells m.cells.toArray 43 (0, 0))) := (h3.out.1.block _ (row_lt hr2.out) (fun h => by have := h.2; omega)).trans hr2.out
      have hbX3 : Hid (KeepsBut (Cpy w.heap.size hi) X Y3) := hbX2.out.trans' h3.out.1
      have hD3 := hide h3.out.2.2.1
      have hC3 := hide h3.out.2.2.2
      clear d1 hO2 hr2 hbX2 hX2s h3
      gi_upto_region 21 with fail
      have d1 : Y3.cell? ⟨bm, om + k * 17 + 14, none⟩ = some (.slice m'.lA m.locals.length m'.lc) := hO3.out.mask.cell hrow.out 14 _ (fun p => by rw [← hpar.out.2.1]; rfl)
      gi_wp2
      refine own_l8 n w hi rs hsep hrng _ Y3 (hide hO3.out.below) (hide hO3.out.mask) bm (om + k * 17) Bw m m' hrow hvl (hide HMS.out.locals) (hide hpar.out.2.1) (hide HMI.out.locals) hn2 hr3 hhb hlo _ _ _ _ _ _ _ _ _ _ _ _ _ _ _ _ _ _ _ _ _ _ _ _ _ _ _ _ _ _ _ _ _ _ _ _ _ _ _ _ _ _ _ _ _ _ _ _ _ _ _ _ _ _ _ _ _ _ _ _ _ _ _ _ _ _ _ _ _ _ _ _ _ _ _ _ _ _ _ _ _ _ _ _ _ _ _ _ _ _ _ _ _ _ _ _ _ _ _ _ _ _ _ _ _ _ _ _ _ _ _ _ _ _ _ _ _ _ _ _ _ _ _ _ _ _ _ _ _ _ _ _ _ _ _ _ _ _ _ _ _ _ _ _ _ _ _ _ _ _ _ _ _ _ _ _ _ _ (fun _ _ _ _ _ h => hpan _ _ _ _ _ h) ?_
      intro s10 s115 s116 s117 s118 s119 s120 s121 s122 s123 s124 s125 s126 s127 s128 s129 s130 s131 Y4 D4 h4
      have hO4 := hide (hO3.out.step h4.out.1 h4.out.2.1)
      have hr4 : Hid (Y4.heap[Bw]? = some (.cells m.cells.toArray 43 (0, 0))) := (h4.out.1.block _ (row_lt hr3.out) (fun h => by have := h.2; omega)).trans hr3.out
      have hD4 : Hid (∀ b f, (D b f ∨ (b = bm ∧ f = om + k * 17)) → D4 b f) := fun b f h => h4.out.2.2.1 b f (hD3.out b f h)
      have hC4 : Hid (Cov D4 (rwVas m'.pA m'.params) ∧ Cov D4 (rwVas m'.lA m'.locals)) := ⟨hC3.out.mono h4.out.2.2.1, h4.out.2.2.2⟩
      clear d1 hO3 hr3 hbX3 hD3 hC3 h4
      gi_upto_region 27 with fail
      obtain ⟨Ba, hBa⟩ : ∃ Ba, Ba = Y4.heap.size := ⟨_, rfl⟩
      obtain ⟨W5, hW5⟩ : ∃ W5, W5 = Y4.alloc (.cells #[.slice none 0 0] 98) := ⟨_, rfl⟩
      have hba5 : Hid (W5.heap[Ba]? = some (.cells #[.slice none 0 0] 98 (0, 0))) := by show _ = _; rw [hW5, hBa]; exact heap_alloc_new _ _
      have hb5 : Below Y4.heap.size Y4 W5 := by rw [hW5]; exact (Below.refl _ _).alloc (Nat.le_refl _) _
      have hr5 : Hid (W5.rangeAt Bw 0 m.cells) := fun j u h => by
        have h1 := (hb5.block _ (row_lt hr4.out)).trans hr4.out
        exact (row_cell h1 (j := 0 + j) (by rw [Nat.zero_add]; exact h)).1
      have hO5 := hide (hO4.out.step (KeepsBut.of_below hb5) (hO4.out.mask.below hb5 fun r hr => hO4.out.mask.lt hr))
      have hBB : Hid (Bw < Ba ∧ (∀ E ∈ Ds, E < Ba)) := ⟨by rw [hBa]; exact row_lt hr4.out, fun E hE => by rw [hBa]; exact row_lt (hO4.out.mark E hE).2⟩
      rw [← hW5, ← hBa]
      clear hW5 hBa hb5 hO4 hr4
      gi_wp2_with (refine wpListIn_load_mid (fun _ => trivial) rfl 43 (.tmp 8) rfl Bw 0 rfl m.cells _ hr5.out Tryz.underlying43 rfl (by rw [Me.cells_len]; kernel_rfl) ?_)
      refine ⟨trivial, fun h => (by simp [Fence.wide] at h), ?_⟩
      refine (callsIn_wide.2 (body_seq m _)).mono ?_
      rintro _ _ ⟨rfl, rfl⟩
      obtain ⟨W6, hW6⟩ : ∃ W6, W6 = W5.alloc (.cells m.cells.toArray 43) := ⟨_, rfl⟩
      obtain ⟨B1, hB1⟩ : ∃ B1, B1 = W5.heap.size := ⟨_, rfl⟩
      have hb6 : Below W5.heap.size W5 W6 := by rw [hW6]; exact (Below.refl _ _).alloc (Nat.le_refl _) _
      have hbb6 : Hid (W6.heap[B1]? = some (.cells m.cells.toArray 43 (0, 0))) := by show _ = _; rw [hW6, hB1]; exact heap_alloc_new _ _
      have hba6 : Hid (W6.heap[Ba]? = some (.cells #[.slice none 0 0] 98 (0, 0))) := (hb6.block _ (row_lt hba5.out)).trans hba5.out
      have hO6 := hide (hO5.out.step (KeepsBut.of_below hb6) (hO5.out.mask.below hb6 fun r hr => hO5.out.mask.lt hr))
      have hne1 : B1 ≠ Ba := by have := row_lt hba5.out; omega
      have hhB : Hid (hi ≤ Ba) := by have h1 := hBB.out.1; show _ ≤ _; omega
      have hwa : w.heap.size ≤ Ba := by have h1 := hhB.out; omega
      have hlen1 : Hid ((liAll m.body 0 (bkA m.bA) (ofA m.bA)).length ≤ 1048576) := by
        have h1 := congrArg List.length (liAll_pos m.body 0 (bkA m.bA) (ofA m.bA))
        rw [List.length_map] at h1
        have h2 := posAll_len m.body
        have h3 := HFM.out
        unfold Me.fw at h3
        show _ ≤ _
        omega
      rw [← hW6, ← hB1]
      clear hW6 hB1 hb6 hba5 hO5 hr5
      gi_wp2
      refine own_r1 n w W6 B1 Ba m (hide hO6.out.below) HMI hlen1 hba6 hbb6 hne1 hwa _ _ _ _ _ _ _ _ _ _ _ _ _ _ _ _ _ _ _ _ _ _ _ _ _ _ _ _ _ _ _ _ _ _ _ _ _ _ _ _ _ _ _ _ _ _ _ _ _ _ _ _ _ _ _ _ _ _ _ _ _ _ _ _ _ _ _ _ _ _ _ _ _ _ _ _ _ _ _ _ _ _ _ _ _ _ _ _ _ _ _ _ _ _ _ _ _ _ _ _ _ _ _ _ _ _ _ _ _ _ _ _ _ _ _ _ _ _ _ _ _ _ _ _ _ _ _ _ _ _ _ _ _ _ _ _ _ _ _ _ _ _ _ _ _ _ _ _ _ _ _ _ _ _ _ _ _ _ _ _ ?_
      intro v E1 V1 h1
      have hEq : (liAll m'.body 0 (bkA m'.bA) (ofA m'.bA)).map (fun x => x.s.pos) = (liAll m.body 0 (bkA m.bA) (ofA m.bA)).map (fun x => x.s.pos) := liAll_same hpar.out.2.2.2 _ _ _ _ _ _
      have hO7 := hide ((hO6.out.turn h1.out.1 (fun j hj => by have : j = Ba := hj; omega) (fun E hE e => by have : E = Ba := e; have := hBB.out.2 E hE; omega) (hO6.out.mask.blocks fun r hr => h1.out.1.block _ (hO6.out.mask.lt hr) (fun e => by have h5 : r.b = Ba := e; have := (hrng.out r hr).2; have := hhB.out; omega))).add (E := E1) (fun hE => by have := row_lt hba6.out; have := hBB.out.2 _ hE; have := h1.out.2.2.2.1; omega) (by have := hO6.out.top; have := h1.out.2.2.2.1; omega) h1.out.2.2.2.2.2)
      have hown1 := h1.out.2.2.1
      rw [← hEq] at hown1
      have hfr1 := hown1.from_
      obtain ⟨A0, c0, rfl, g1, g2, g3⟩ := hown1.lies encP_len
      rw [List.length_map] at g1
      have hlenm : (liAll m'.body 0 (bkA m'.bA) (ofA m'.bA)).length = (liAll m.body 0 (bkA m.bA) (ofA m.bA)).length := by have := congrArg List.length hEq; simpa using this
      have hba7 := h1.out.2.1
      rw [List.length_map] at hba7
      have hE1 : Hid (E1 < V1.heap.size ∧ W6.heap.size ≤ E1) := ⟨row_lt h1.out.2.2.2.2.2, h1.out.2.2.2.1⟩
      have hV1s : W6.heap.size ≤ V1.heap.size := h1.out.1.size
      have hba6l := row_lt hba6.out
      obtain ⟨p, hmp⟩ : ∃ p : Int, V1.rangeAt bm (om + k * 17) ({ m' with pos := p } : Me).cells := by
        obtain ⟨_, cs, _, ⟨p, hp⟩, hr, _⟩ := hO7.out.mask _ hrow.out
        subst hp
        exact ⟨p, hr⟩
      have hmp9 := hide hmp
      have HG := hide (And.intro g1 (And.intro g3 hba7))
      have hfr9 : Hid (∀ ad, A0 = some ad → ad.block < V1.heap.size ∧ hi ≤ ad.block ∧ ad.block ≠ Ba) := fun ad e => by
        have h5 := hfr1 ad.block (by rw [e]; rfl)
        have h6 := hO6.out.top
        omega
      have hlen2 : Hid ((liAll m'.body 0 (bkA m'.bA) (ofA m'.bA)).length ≤ 1048576) := by show _ ≤ _; rw [hlenm]; exact hlen1.out
      clear h1 hEq hown1 hfr1 g1 g2 g3 hlenm hba7 hmp hbb6
      gi_wp2_with (refine wpListIn_load_mid (fun _ => trivial) rfl 43 (.tmp 144) rfl bm (om + k * 17) rfl ({ m' with pos := p } : Me).cells _ hmp9.out Tryz.underlying43 rfl (by rw [Me.cells_len]; kernel_rfl) ?_)
      refine ⟨trivial, fun h => (by simp [Fence.wide] at h), ?_⟩
      refine (callsIn_wide.2 (body_seq ({ m' with pos := p } : Me) _)).mono ?_
      rintro _ _ ⟨rfl, rfl⟩
      obtain ⟨W8, hW8⟩ : ∃ W8, W8 = V1.alloc (.cells ({ m' with pos := p } : Me).cells.toArray 43) := ⟨_, rfl⟩
      obtain ⟨B2, hB2⟩ : ∃ B2, B2 = V1.heap.size := ⟨_, rfl⟩
      have hb8 : Below V1.heap.size V1 W8 := by rw [hW8]; exact (Below.refl _ _).alloc (Nat.le_refl _) _
      have hbb8 : Hid (W8.heap[B2]? = some (.cells ({ m' with pos := p } : Me).cells.toArray 43 (0, 0))) := by show _ = _; rw [hW8, hB2]; exact heap_alloc_new _ _
      have hba8 : Hid (W8.heap[Ba]? = some (.cells #[.slice A0 (liAll m'.body 0 (bkA m'.bA) (ofA m'.bA)).length c0] 98 (0, 0))) := (hb8.block _ (row_lt HG.out.2.2)).trans HG.out.2.2
      have hO8 := hide (hO7.out.step (KeepsBut.of_below hb8) (hO7.out.mask.below hb8 fun r hr => hO7.out.mask.lt hr))
      have hL8 : Hid (Lies W8 1 encP A0 ((liAll m'.body 0 (bkA m'.bA) (ofA m'.bA)).map fun x => x.s.pos)) := HG.out.2.1.below hb8
      have hfr8 : Hid (∀ ad, A0 = some ad → ad.block < W8.heap.size ∧ hi ≤ ad.block ∧ ad.block ≠ Ba) := fun ad e => ⟨Nat.lt_of_lt_of_le (hfr9.out ad e).1 hb8.size, (hfr9.out ad e).2⟩
      have hne2 : B2 ≠ Ba := by have := row_lt HG.out.2.2; omega
      have hhb2 : hi ≤ B2 := by rw [hB2]; exact hO7.out.top
      have hhw8 := hO8.out.top
      have hE8 : Hid (E1 < W8.heap.size) := Nat.lt_of_lt_of_le hE1.out.1 hb8.size
      rw [← hW8, ← hB2]
      clear hW8 hB2 hb8 hmp9 hfr9 hO7
      gi_wp2
      refine own_r2 n w W8 hi rs hsep hrng D4 B2 Ba m' p (hide hO8.out.mask) hvb HMS A0 c0 hba8 HG.out.1 hL8 hfr8 hlen2 hbb8 hne2 hhb2 hhB.out hhw8 _ _ _ _ _ _ _ _ _ _ _ _ _ _ _ _ _ _ _ _ _ _ _ _ _ _ _ _ _ _ _ _ _ _ _ _ _ _ _ _ _ _ _ _ _ _ _ _ _ _ _ _ _ _ _ _ _ _ _ _ _ _ _ _ _ _ _ _ _ _ _ _ _ _ _ _ _ _ _ _ _ _ _ _ _ _ _ _ _ _ _ _ _ _ _ _ _ _ _ _ _ _ _ _ _ _ _ _ _ _ _ _ _ _ _ _ _ _ _ _ _ _ _ _ _ _ _ _ _ _ _ _ _ _ _ _ _ _ _ _ _ _ _ _ _ _ _ _ _ _ _ _ _ _ _ _ _ _ _ _ ?_
      intro E2 V3 D5 h5
      have hO9 : Hid (OwnSt w hi rs (E2 :: E1 :: Ds) D5 V3) := by
        have hE2 := h5.out.2.2.2.2.1
        refine (hO8.out.turn h5.out.1 (fun j hj => hj.elim (fun e => by omega) (fun h => h.1)) (fun E hE e => ?_) h5.out.2.1).add (fun hE => ?_) (by omega) h5.out.2.2.2.2.2
        · rcases e with e | e
          · rcases List.mem_cons.1 hE with rfl | hE
            · have := hE1.out.2; omega
            · have := hBB.out.2 E hE; omega
          · have := (hO8.out.mark E hE).1
            have := e.2
            omega
        · have := row_lt (hO8.out.mark E2 hE).2
          omega
      have hF : Hid ((∀ b f, D0 b f → D5 b f) ∧ Cov D5 (rowsAt (bkA c'.mA) (ofA c'.mA) 17 ((c'.methods.take (k + 1)).map .me) ++ (c'.methods.take (k + 1)).flatMap subMe)) := by
        have h45 := h5.out.2.2.1
        have hd : ∀ b f, D b f → D5 b f := fun b f h => h45 b f (hD4.out b f (.inl h))
        refine ⟨fun b f h => hd b f (hD.out b f h), hcov9.out D5 (hC.out.mono hd) (h45 _ _ (hD4.out _ _ (.inr ⟨rfl, rfl⟩))) ?_⟩
        unfold subMe
        exact (hC4.out.1.mono h45).append ((hC4.out.2.mono h45).append h5.out.2.2.2.1)
      clear h5 hO8 hba8 hL8 hfr8 hbb8 hhw8 hE8 hba6
      gi_wp2
      refine ⟨(HI2.out _ _).2 ⟨_, k + 1, E2 :: E1 :: Ds, D5, rfl, rfl, rfl, rfl, rfl, rfl, rfl, rfl, rfl, hlt9.out, hO9.out, hF.out⟩, ?_⟩
      have := hlt9.out
      show cl.methods.length - (intOf (.int .i64 _)).toNat < cl.methods.length - (intOf (.int .i64 _)).toNat
      rw [intOf_int, intOf_int]
      omega
    · obtain rfl : k = cl.methods.length := by omega
      have hlt' : ¬ (cl.methods.length : Int) < (cl.methods.length : Int) := by omega
      have hF : Hid (OwnSt w hi rs Ds D X ∧ (∀ b f, D0 b f → D b f) ∧ Cov D (rwMes c'.mA c'.methods)) := by
        obtain ⟨h1, h2, h3⟩ := hI.out
        have hle := congrArg List.length he.out
        simp only [List.length_map] at hle
        rw [← hle, List.take_length] at h3
        exact ⟨h1, h2, h3⟩
      clear hI
      gi_wp2
      exact hexit _ X D Ds rfl rfl rfl rfl rfl hF
end Go.Proofs.YtmpdmelkbemabaaGreat
set_option linter.unusedSimpArgs false
set_option linter.unusedVariables false
namespace Go.Proofs.YtmpdmelkbemabaaGreat
open Go.RowKit Go.Proofs.Grow
attribute [local go_sem] Oper.semAt_some

/-- All rows hold, and may be written. -/
def Exact (rs : List Rw) (X : World) : Prop := ∀ r ∈ rs, X.there r.b r.off r.len ∧ X.rangeAt r.b r.off r.x.cells
theorem Cov.exact {D : Nat → Nat → Prop} {rs : List Rw} {X : World} (h : Cov D rs) (hM : Mask altA rs D X) : Exact rs X := fun r hr => ⟨(hM r hr).1, (h.holds hM r hr).2⟩
/-- A program of its own. -/
def Owned (C : List Cl) (n0 : Nat) (X : World) : Prop := ∃ (C' : List Cl) (hi : Nat), C'.map stCl = C.map stCl ∧ (∀ c ∈ C', ClS c) ∧ (rwCls (some ⟨n0, 0, none⟩) C').Pairwise Rw.apart ∧ (∀ r ∈ rwCls (some ⟨n0, 0, none⟩) C', n0 ≤ r.b ∧ r.b < hi) ∧ hi ≤ X.heap.size ∧ Exact (rwCls (some ⟨n0, 0, none⟩) C') X
theorem Cov.strs {D : Nat → Nat → Prop} (l : List ByteArray) (b off : Nat) : Cov D (rowsAt b off 1 (l.map .str)) := fun r hr => by
  obtain ⟨i, hi, rfl⟩ := rowsAt_mem hr
  exact .inl (by simp [Nd.fixed])
theorem Cov.ows {D : Nat → Nat → Prop} (l : List Ow) (b off : Nat) : Cov D (rowsAt b off 2 (l.map .ow)) := fun r hr => by
  obtain ⟨i, hi, rfl⟩ := rowsAt_mem hr
  exact .inl (by simp [Nd.fixed])
theorem rwCls_take {b off : Nat} {l : List Cl} {D : Nat → Nat → Prop} {k : Nat} (hk : k < l.length) (h : Cov D (rowsAt b off 7 ((l.take k).map .cl) ++ (l.take k).flatMap subCl)) (h1 : D b (off + k * 7)) (h2 : Cov D (subCl l[k])) :
    Cov D (rowsAt b off 7 ((l.take (k + 1)).map .cl) ++ (l.take (k + 1)).flatMap subCl) := by
  rw [List.take_succ_eq_append_getElem hk, List.map_append, List.flatMap_append]
  intro r hr
  rcases List.mem_append.1 hr with hr | hr
  · obtain ⟨i, hi, rfl⟩ := rowsAt_mem hr
    have hi' : i < k + 1 := by simp at hi; omega
    rcases Nat.lt_or_ge i k with hik | hik
    · have hik2 : i < ((l.take k).map Nd.cl).length := by simp; omega
      have e : ((l.take k).map Nd.cl ++ List.map Nd.cl [l[k]])[i] = ((l.take k).map Nd.cl)[i] := List.getElem_append_left hik2
      rw [e]
      exact h _ (List.mem_append_left _ (rowsAt_get i hik2))
    · obtain rfl : i = k := by omega
      exact .inr h1
  · rcases List.mem_append.1 hr with hr | hr
    · exact h r (List.mem_append_right _ hr)
    · exact h2 r (by simpa using hr)

set_option maxHeartbeats 0 in
set_option maxRecDepth 1000000 in
theorem own_any (w : World) (A : Option Addr) (c : Nat) (C : List Cl) (hl : Lies w 7 Cl.cells A C) (hin : ∀ cl ∈ C, ClIn w cl) (hN : C.length ≤ 1048576) (hfw : ∀ cl ∈ C, cl.fw ≤ 1048576) :
    Calls Tryz.prog 15 #[.slice A C.length c] w fun e w' => e = .returned (.slice (some ⟨w.heap.size, 0, none⟩) C.length C.length) ∧ ∃ x : Ext w, w' = x.val ∧ Owned C w.heap.size x.val := by
  have hbare := bare_any A c C w hl hin hN hfw
  unfold GivesBare at hbare
  have HBA := hide hbare
  have HL := hide hl
  have HI := hide hin
  have HFW := hide hfw
  clear hbare hl hin hfw
  refine (callsIn_wide (n := 8)).1 ?_
  refine callsIn_of_wp_marksN Tryz.func15 rfl trivial ?_ rfl
  simp only [Tryz.ntmps15, List.size_toArray, List.length_cons, List.length_nil, Nat.reduceAdd, Nat.reduceSub, Array.replicate_succ, Array.replicate_zero, List.push_toArray, List.append_toArray, List.nil_append, List.cons_append]
  gi_wp2
  refine ⟨trivial, ?_⟩
  refine (callsIn_wide.2 HBA.out).mono ?_
  rintro _ _ ⟨rfl, x, rfl, hb⟩
  obtain ⟨C', hi, q1, q2, q3, q4⟩ := hb.cls
  have HC := hide (And.intro q1 (And.intro q2 q3))
  have HR := hide q4
  obtain ⟨rs, hrs⟩ : ∃ rs, rs = rwCls (some ⟨w.heap.size, 0, none⟩) C' := ⟨_, rfl⟩
  have HRS := hide hrs
  have hsep : Hid (rs.Pairwise Rw.apart) := by show List.Pairwise _ _; rw [hrs]; exact q4.sep
  have hrng : Hid (∀ r ∈ rs, w.heap.size ≤ r.b ∧ r.b < hi) := by show ∀ r ∈ rs, _; rw [hrs]; exact q4.rng
  have hlo : w.heap.size ≤ hi := q4.le
  have hO0 : Hid (OwnSt w hi rs [] (fun _ _ => False) x.val) := ⟨x.below, q4.top, by rw [hrs]; exact q4.mask, List.nodup_nil, fun E h => (by cases h)⟩
  clear hb q1 q2 q3 q4 hrs HBA
  gi_wp2
  obtain ⟨I1, HI1⟩ : ∃ I1 : Act → World → Prop, Hid (∀ a X, I1 a X ↔ ∃ (l : List Value) (k : Nat) (Ds : List Nat) (D : Nat → Nat → Prop), a = ⟨l.toArray, Marks Ds⟩ ∧ l.length = 160 ∧ l[0]? = some (.slice A C.length c) ∧ l[3]? = some (.slice (some ⟨w.heap.size, 0, none⟩) C.length C.length) ∧ l[19]? = some (.int .i64 C.length) ∧ l[20]? = some (.int .i64 k) ∧ k ≤ C.length ∧ Hid (OwnSt w hi rs Ds D X ∧ Cov D (rowsAt w.heap.size 0 7 ((C'.take k).map .cl) ++ (C'.take k).flatMap subCl))) := ⟨_, fun _ _ => Iff.rfl⟩
  refine wpIn_loop I1 (fun a _ => C.length - (intOf (a.tmps.getD 20 undef)).toNat) ?atStart ?round
  case atStart => exact (HI1.out _ _).2 ⟨_, 0, [], _, rfl, rfl, rfl, rfl, rfl, rfl, Nat.zero_le _, hO0.out, fun r hr => by simp [rowsAt] at hr⟩
  case round =>
    clear hO0
    intro a X hrel
    obtain ⟨l, k, Ds, D, rfl, hl, h0, h3, h19, h20, hk, hI⟩ := (HI1.out _ _).1 hrel
    clear hrel
    obtain ⟨q, rfl, hq⟩ := frame_lit l hl
    have e0 := hq 0 _ h0
    have e3 := hq 3 _ h3
    have e19 := hq 19 _ h19
    have e20 := hq 20 _ h20
    clear hq h0 h3 h19 h20 hl
    simp only [e0, e3, e19, e20]
    clear e0 e3 e19 e20
    by_cases hlt : k < C.length
    · obtain ⟨b0, off0, hA, hb0, hcell⟩ := HL.out k hlt
      have hlt' : (k : Int) < (C.length : Int) := by omega
      have hltm : k < C'.length := by rw [HC.out.1]; exact hlt
      have hrow0 : (⟨w.heap.size, k * 7, .cl C'[k]⟩ : Rw) ∈ rs := by
        rw [HRS.out]
        have := rowsAt_get (b := w.heap.size) (off := 0) (size := 7) (l := C'.map .cl) k (by simpa using hltm)
        simp only [List.getElem_map, Nat.zero_add] at this
        exact List.mem_append_left _ this
      have hst : stCl C'[k] = stCl C[k] := by
        have h := congrArg (fun l => l[k]?) HC.out.2.1
        simp only [List.getElem?_map, List.getElem?_eq_getElem hltm, List.getElem?_eq_getElem hlt, Option.map_some, Option.some.injEq] at h
        exact h
      have hCS := HC.out.2.2 _ (List.getElem_mem hltm)
      have hCI := HI.out _ (List.getElem_mem hlt)
      have hfc := HFW.out _ (List.getElem_mem hlt)
      have hsub : ∀ r ∈ subCl C'[k], r ∈ rs := fun r hr => by rw [HRS.out]; exact List.mem_append_right _ (List.mem_flatMap.2 ⟨_, List.getElem_mem hltm, hr⟩)
      have hcov : ∀ D', Cov D' (rowsAt w.heap.size 0 7 ((C'.take k).map .cl) ++ (C'.take k).flatMap subCl) → D' w.heap.size (k * 7) → Cov D' (subCl C'[k]) → Cov D' (rowsAt w.heap.size 0 7 ((C'.take (k + 1)).map .cl) ++ (C'.take (k + 1)).flatMap subCl) := fun D' h1 h2 h3 => rwCls_take hltm h1 (by rw [Nat.zero_add]; exact h2) h3
      obtain ⟨c', hc'⟩ : ∃ c', c' = C'[k] := ⟨_, rfl⟩
      obtain ⟨cl, hcl⟩ : ∃ cl, cl = C[k] := ⟨_, rfl⟩
      rw [← hc'] at hrow0 hst hCS hsub hcov
      rw [← hcl] at hcell hst hCI hfc
      have hrow := hide hrow0
      have HCS := hide hCS
      have HCI := hide hCI
      have HFC := hide hfc
      have hsub9 := hide hsub
      have hcov9 := hide hcov
      have hlt9 := hide hlt
      have hpar : Hid (c'.fields = cl.fields ∧ c'.pos = cl.pos ∧ c'.methods.map stMe = cl.methods.map stMe) := by
        unfold stCl at hst
        simp only [Cl.mk.injEq] at hst
        obtain ⟨_, _, _, _, _, _, _, _, _, _, h1, _, _, h2, h3⟩ := hst
        exact ⟨h1, h3, h2⟩
      have hor : Hid (w.rangeAt b0 (off0 + k * 7) cl.cells) := hcell
      subst hA
      clear hcell hltm hrow0 hst hCS hCI hfc hsub hcov hc' hcl hlt
      obtain ⟨ps, hps⟩ : ∃ ps, ps = cl.pos := ⟨_, rfl⟩
      have d1 : X.cell? ⟨b0, off0 + k * 7 + 6, none⟩ = some (.int .i64 ps) := (World.cell?_of_block (hI.out.1.below.block b0 hb0)).trans (hor.out 6 _ (by rw [hps]; rfl))
      obtain ⟨⟨u2, d2⟩, d3⟩ := hI.out.1.mask.free hrow.out 6 (show 6 < 7 by decide)
      have hM2 := Mask.cl hI.out.1.mask hsep.out hrow.out
      rw [hpar.out.2.1, ← hps] at hM2
      obtain ⟨X2, hX2⟩ : ∃ X2, X2 = X.setCell ⟨w.heap.size, k * 7 + 6, none⟩ (.int .i64 ps) := ⟨_, rfl⟩
      have hk2 : KeepsBut (Cpy w.heap.size hi) X X2 := by rw [hX2]; exact KeepsBut.setCell _ _ _ (hrng.out _ hrow.out)
      rw [← hX2] at hM2
      have hO2 := hide (hI.out.1.step hk2 hM2)
      have hC2 := hide hI.out.2
      have hX29 := hide hX2
      clear hM2 hk2 hX2 hps hI
      gi_upto_region 6 with fail
      rw [← hX29.out]
      clear d1 d2 d3 hX29 u2
      have hl' : Hid (c'.fields.length = cl.fields.length ∧ c'.methods.length = cl.methods.length) := ⟨by rw [hpar.out.1], by have := congrArg List.length hpar.out.2.2; simpa using this⟩
      have d1 : X2.cell? ⟨w.heap.size, k * 7 + 4, none⟩ = some (.slice c'.fA cl.fields.length c'.fc) := hO2.out.mask.cell hrow.out 4 _ (fun p => by rw [← hl'.out.1]; rfl)
      have hvf : Hid (∀ r ∈ rwVas c'.fA c'.fields, r ∈ rs) := fun r hr => hsub9.out r (by unfold subCl; exact List.mem_append_right _ (List.mem_append_right _ (List.mem_append_left _ hr)))
      have hvm : Hid (∀ r ∈ rwMes c'.mA c'.methods, r ∈ rs) := fun r hr => hsub9.out r (by unfold subCl; exact List.mem_append_right _ (List.mem_append_right _ (List.mem_append_right _ hr)))
      have hnum : cl.fields.length ≤ 1048576 ∧ cl.methods.length ≤ 1048576 := by have h1 := HFC.out; unfold Cl.fw at h1; have := sum_len Me.fw Me.fw_pos cl.methods; omega
      obtain ⟨hn1, hn2⟩ := hnum
      gi_wp2
      refine own_l2 8 w hi rs hsep hrng _ X2 (hide hO2.out.below) (hide hO2.out.mask) b0 off0 C.length c k hlt9.out hN cl c' hrow hvf (hide HCS.out.fields) (hide hpar.out.1) (hide HCI.out.fields) hn1 hb0 hor hlo _ _ _ _ _ _ _ _ _ _ _ _ _ _ _ _ _ _ _ _ _ _ _ _ _ _ _ _ _ _ _ _ _ _ _ _ _ _ _ _ _ _ _ _ _ _ _ _ _ _ _ _ _ _ _ _ _ _ _ _ _ _ _ _ _ _ _ _ _ _ _ _ _ _ _ _ _ _ _ _ _ _ _ _ _ _ _ _ _ _ _ _ _ _ _ _ _ _ _ _ _ _ _ _ _ _ _ _ _ _ _ _ _ _ _ _ _ _ _ _ _ _ _ _ _ _ _ _ _ _ _ _ _ _ _ _ _ _ _ _ _ _ _ _ _ _ _ _ _ _ _ _ _ _ _ _ _ (fun _ _ _ _ _ h => h) ?_
      intro r5 r38 r39 r40 r41 r42 r43 r44 r45 r46 r47 r48 r49 r50 r51 r52 r53 r54 r55 r56 r57 r58 Y3 D3 h3
      have hO3 := hide (hO2.out.step h3.out.1 h3.out.2.1)
      have hD3 := hide h3.out.2.2.1
      have hC3 := hide h3.out.2.2.2
      clear d1 hO2 h3
      gi_upto_region 11 with fail
      have d1 : Y3.cell? ⟨w.heap.size, k * 7 + 5, none⟩ = some (.slice c'.mA cl.methods.length c'.mc) := hO3.out.mask.cell hrow.out 5 _ (fun p => by rw [← hl'.out.2]; rfl)
      gi_wp2
      refine own_l4 8 w hi rs hsep hrng _ Y3 Ds hO3 b0 off0 C.length c k hlt9.out hN cl c' hrow hvm HCS (hide hpar.out.2.2) HCI HFC hb0 hor hlo (.int .i64 C.length) (.int .i64 k) _ rfl rfl rfl rfl rfl rfl rfl rfl _ (fun _ _ _ _ _ h => h) ?_
      intro l Y4 D4 Ds4 hl h0 h3 h19 h20 h4
      obtain ⟨q4, rfl, hq⟩ := frame_lit l hl
      have e0 := hq 0 _ h0
      have e3 := hq 3 _ h3
      have e19 := hq 19 _ h19
      have e20 := hq 20 _ h20
      clear hq h0 h3 h19 h20 hl d1
      simp only [e0, e3, e19, e20]
      clear e0 e3 e19 e20
      have hO4 := hide h4.out.1
      have hF : Hid (Cov D4 (rowsAt w.heap.size 0 7 ((C'.take (k + 1)).map .cl) ++ (C'.take (k + 1)).flatMap subCl)) := by
        have h34 := h4.out.2.1
        have hd : ∀ b f, (D b f ∨ (b = w.heap.size ∧ f = k * 7)) → D4 b f := fun b f h => h34 b f (hD3.out b f h)
        refine hcov9.out D4 (hC2.out.mono fun b f h => hd b f (.inl h)) (hd _ _ (.inr ⟨rfl, rfl⟩)) ?_
        unfold subCl
        exact (Cov.strs _ _ _).append ((Cov.ows _ _ _).append ((hC3.out.mono h34).append h4.out.2.2))
      clear h4
      gi_wp2
      refine ⟨(HI1.out _ _).2 ⟨_, k + 1, Ds4, D4, rfl, rfl, rfl, rfl, rfl, rfl, hlt9.out, hO4.out, hF.out⟩, ?_⟩
      have := hlt9.out
      show C.length - (intOf (.int .i64 _)).toNat < C.length - (intOf (.int .i64 _)).toNat
      rw [intOf_int, intOf_int]
      omega
    · obtain rfl : k = C.length := by omega
      have hlt' : ¬ (C.length : Int) < (C.length : Int) := by omega
      have hOX := hI.out.1
      have hcv := hI.out.2
      rw [← HC.out.1, List.take_length] at hcv
      have HG := hide (And.intro hOX hcv)
      clear hI hOX hcv
      gi_wp2
      refine leaves_marks Ds X HG.out.1.nd (fun E hE => (HG.out.1.mark E hE).2) fun Z hZ => ?_
      have hnm : ∀ j, j ∈ Ds → hi ≤ j := fun j hj => (HG.out.1.mark j hj).1
      have hbZ : Below w.heap.size w Z := HG.out.1.below.trans (hZ.below (fun j hj => Nat.le_trans hlo (hnm j hj)) HG.out.1.below.size)
      have hmZ : Mask altA rs D Z := HG.out.1.mask.blocks fun r hr => hZ.block _ (HG.out.1.mask.lt hr) (fun h => by have := hnm _ h; have := (hrng.out r hr).2; omega)
      refine ⟨_, results_tmp rfl _ _ _, ?_⟩
      refine ⟨rfl, ⟨Z, hbZ⟩, rfl, C', hi, HC.out.2.1, HC.out.2.2, HRS.out ▸ hsep.out, HRS.out ▸ hrng.out, Nat.le_trans HG.out.1.top hZ.size, ?_⟩
      rw [HRS.out] at hmZ
      exact Cov.exact HG.out.2 hmZ
end Go.Proofs.YtmpdmelkbemabaaGreat
