/- The loop of demesnelaw34.CodeWays. -/
import Derived.Test.YtlgnjbocdmbeiaaWalk
import Derived.Test.YtlgnjbocdmbeiaaLawHeavy
import Derived.Test.YtlgnjbocdmbeiaaAwake
import Derived.Test.YtlgnjbocdmbeiaaQLoad
set_option linter.unusedSimpArgs false
set_option linter.unusedVariables false
namespace Go.Proofs.Ytlgnjbocdmbeiaa
open Go.RowKit Go.Proofs.Grow

noncomputable def cwLoop (n : Nat) : Code := (((Try.f5.body.map loops).getD [])[n]?).getD .skip

/-- Where the loop stands. -/
def Stands (w6 : World) (L : List Ins) (R : Wy) (k j : Nat) (ts : List Bool) (vA : Option Addr) (vc : Nat) (W : World) : Prop :=
  k ≤ R.met.length ∧ Path L j ts (R.met.drop k) R.back ∧ Lies w6 1 encB vA ts ∧ ts.length ≤ vc ∧ vc ≤ maxLen ∧ W.heap[w6.heap.size]? = some (.cells #[.slice vA ts.length vc, .slice none 0 0, .bool false] 52 (0, 0))

theorem Path.lt {L : List Ins} {p : Nat} {ts : List Bool} {m : List Int} {b : Bool} (h : Path L p ts m b) : p < L.length := by cases h <;> assumption
theorem Path.inv {L : List Ins} {p : Nat} {ts : List Bool} {m : List Int} {b : Bool} (h : Path L p ts m b) (hp : p < L.length) : (L[p].k = 4 ∧ p + 1 = L.length ∧ m = [] ∧ b = false) ∨ (L[p].k = 1 ∧ L[p].s.k = 11 ∧ m = [11] ∧ b = true) ∨
    (∃ (q : Nat) (m' : List Int), L[p].k = 1 ∧ L[p].s.k ≠ 11 ∧ next L (p + 1 : Nat) = q ∧ m = L[p].s.k :: m' ∧ Path L q ts m' b) ∨ (∃ (q : Nat) (m' : List Int) (t : Bool), L[p].k = 2 ∧ ts.headD false = t ∧ (if t then next L (p + 1 : Nat) else next L L[p].go) = q ∧ m = L[p].s.k :: m' ∧ Path L q ts.tail m' b) := by
  cases h with
  | fin h hk he => exact .inl ⟨hk, he, rfl, rfl⟩
  | ret h hk hs => exact .inr (.inl ⟨hk, hs, rfl, rfl⟩)
  | go h hk hs hn r => exact .inr (.inr (.inl ⟨_, _, hk, hs, hn, rfl, r⟩))
  | yes h hk ht hn r => exact .inr (.inr (.inr ⟨_, _, true, hk, ht, hn, rfl, r⟩))
  | no h hk ht hn r => exact .inr (.inr (.inr ⟨_, _, false, hk, ht, hn, rfl, r⟩))
theorem drop_cons {l : List Int} {k : Nat} {a : Int} {m : List Int} (h : l.drop k = a :: m) : ∃ hk : k < l.length, l[k] = a ∧ l.drop (k + 1) = m := by
  have hk : k < l.length := by
    rcases Nat.lt_or_ge k l.length with h' | h'
    · exact h'
    · rw [List.drop_of_length_le h'] at h; cases h
  rw [List.drop_eq_getElem_cons hk] at h
  injection h with h1 h2
  exact ⟨hk, h1, h2⟩
/-- What is read of a step. -/
theorem ins_at (I : Ins) {t : St} (h : I.s = bare t) : I.cells[0]? = some (.int .i64 I.k) ∧ I.cells[1]? = some (.int .i64 I.s.k) ∧ I.cells[21]? = some (.slice none 0 0) ∧ I.cells[22]? = some (.slice none 0 0) ∧ I.cells[24]? = some (.int .i64 I.go) := by
  obtain ⟨k, s, g⟩ := I
  subst h
  obtain ⟨k, x, y, name, ⟨tk, tc, tn, ⟨k0, n0⟩, ⟨k1, n1⟩, ⟨k2, n2⟩, ⟨k3, n3⟩⟩, ⟨ek, en, ename, eA, ec, kids⟩, aA, ac, args, bA, bc, body, lA, lc, els, pos⟩ := t
  exact ⟨rfl, rfl, rfl, rfl, rfl⟩

set_option maxHeartbeats 0 in
set_option maxRecDepth 1000000 in
theorem cw_loop (w6 : World) (L : List Ins) (M : Nat) (HM : Hid (M = L.length)) (hM63 : M ≤ 400000000000) (cA : Option Addr) (cc : Nat) (hcc : M ≤ cc) (hL : Hid (Lies w6 25 Ins.cells cA L)) (hbare : Hid (∀ I ∈ L, ∃ t, I.s = bare t)) (b5 : Nat) (tA : Option Addr) (tc : Nat) (mA : Option Addr) (mc : Nat) (R : Wy)
    (hrow5 : Hid (w6.heap[b5]? = some (.cells (wyRow tA tc mA mc R) 52 (0, 0)))) (hmet : Hid (Lies w6 1 encI mA R.met)) (hmb : R.met.length ≤ 1000000000000) (j0 : Nat) (ts0 : List Bool) (vA0 : Option Addr) (vc0 : Nat) (z : Ext w6) (hst : Hid (Stands w6 L R 0 j0 ts0 vA0 vc0 z.val)) (q0 q1 q2 q3 q4 q10 q11 q12 q13 q14 q15 q16 q17 q18 q19 q20 q21 q22 q23 q24 q25 q26 q27 q28 q29 q30 q31 q32 q33 q34 q35 q36 q37 q38 q39 q40 q41 q42 q43 q44 q45 q46 q47 q48 q49 q50 q51 q52 q53 q54 q55 q56 q57 q58 q59 q60 q61 q62 q63 q64 q65 q66 q67 q68 q69 q70 q71 q72 q73 q74 q75 q76 q77 q78 q79 q80 q81 q82 q83 q84 q85 q86 q87 q88 q89 q90 q91 q92 q93 q94 q95 q96 q97 q98 q99 q100 q101 q102 q103 q104 q105 q106 q107 q108 q109 q110 q111 q112 q113 q114 q115 q116 q117 q118 q119 q120 q121 q122 q123 q124 q125 q126 q127 q128 q129 q130 q131 q132 q133 q134 q135 q136 q137 q138 q139 q140 q141 q142 q143 q144 q145 q146 q147 q148 q149 q150 q151 q152 q153 q154 q155 q156 q157 : Value) (Q : Exit → Act → World → Prop)
    (hexit : ∀ (r4 r10 r30 r31 r32 r33 r34 r35 r36 r37 r38 r39 r40 r41 r42 r43 r44 r45 r46 r47 r48 r49 r50 r51 r52 r53 r54 r55 r56 r57 r58 r59 r60 r61 r62 r63 r64 r65 r66 r67 r68 r69 r70 r71 r72 r73 r74 r75 r76 r77 r78 r79 r80 r81 r82 r83 r84 r85 r86 r87 r88 r89 r90 r91 r92 r93 r94 r95 r96 r97 r98 r99 r100 r101 r102 r103 r104 r105 r106 r107 r108 r109 r110 r111 r112 r113 r114 r115 r116 r117 r118 r119 r120 r121 r122 r123 r124 r125 r126 r127 r128 r129 r130 r131 r132 r133 r134 r135 r136 r137 : Value) (j : Nat) (z' : Ext w6), R.back = false → j + 1 = M → Q (.exit 0) ⟨List.toArray (q0 :: q1 :: q2 :: q3 :: (r4) :: (Value.pointer (some ⟨b5, 0, none⟩)) :: (Value.slice cA M cc) :: (Value.pointer (some ⟨w6.heap.size, 0, none⟩)) :: (Value.int .i64 j) :: (Value.int .i64 R.met.length) :: (r10) :: q11 :: q12 :: q13 :: q14 :: q15 :: q16 :: q17 :: q18 :: q19 :: q20 :: q21 :: q22 :: q23 :: q24 :: q25 :: q26 :: q27 :: q28 :: q29 :: (r30) :: (r31) :: (r32) :: (r33) :: (r34) :: (r35) :: (r36) :: (r37) :: (r38) :: (r39) :: (r40) :: (r41) :: (r42) :: (r43) :: (r44) :: (r45) :: (r46) :: (r47) :: (r48) :: (r49) :: (r50) :: (r51) :: (r52) :: (r53) :: (r54) :: (r55) :: (r56) :: (r57) :: (r58) :: (r59) :: (r60) :: (r61) :: (r62) :: (r63) :: (r64) :: (r65) :: (r66) :: (r67) :: (r68) :: (r69) :: (r70) :: (r71) :: (r72) :: (r73) :: (r74) :: (r75) :: (r76) :: (r77) :: (r78) :: (r79) :: (r80) :: (r81) :: (r82) :: (r83) :: (r84) :: (r85) :: (r86) :: (r87) :: (r88) :: (r89) :: (r90) :: (r91) :: (r92) :: (r93) :: (r94) :: (r95) :: (r96) :: (r97) :: (r98) :: (r99) :: (r100) :: (r101) :: (r102) :: (r103) :: (r104) :: (r105) :: (r106) :: (r107) :: (r108) :: (r109) :: (r110) :: (r111) :: (r112) :: (r113) :: (r114) :: (r115) :: (r116) :: (r117) :: (r118) :: (r119) :: (r120) :: (r121) :: (r122) :: (r123) :: (r124) :: (r125) :: (r126) :: (r127) :: (r128) :: (r129) :: (r130) :: (r131) :: (r132) :: (r133) :: (r134) :: (r135) :: (r136) :: (r137) :: q138 :: q139 :: q140 :: q141 :: q142 :: q143 :: q144 :: q145 :: q146 :: q147 :: q148 :: q149 :: q150 :: q151 :: q152 :: q153 :: q154 :: q155 :: q156 :: q157 :: []), []⟩ z'.val)
    (hret : ∀ (r8 r9 r10 r30 r31 r32 r33 r34 r35 r36 r37 r38 r39 r40 r41 r42 r43 r44 r45 r46 r47 r48 r49 r50 r51 r52 r53 r54 r55 r56 r57 r58 r59 r60 r61 r62 r63 r64 r65 r66 r67 r68 r69 r70 r71 r72 r73 r74 r75 r76 r77 r78 r79 r80 r81 r82 r83 r84 r85 r86 r87 r88 r89 r90 r91 r92 r93 r94 r95 r96 r97 r98 r99 r100 r101 r102 r103 r104 r105 r106 r107 r108 r109 r110 r111 r112 r113 r114 r115 r116 r117 r118 r119 r120 r121 r122 r123 r124 r125 r126 r127 r128 r129 r130 r131 r132 r133 r134 r135 r136 r137 : Value) (z' : Ext w6), Q .ret ⟨List.toArray (q0 :: q1 :: q2 :: q3 :: (Value.bool true) :: (Value.pointer (some ⟨b5, 0, none⟩)) :: (Value.slice cA M cc) :: (Value.pointer (some ⟨w6.heap.size, 0, none⟩)) :: (r8) :: (r9) :: (r10) :: q11 :: q12 :: q13 :: q14 :: q15 :: q16 :: q17 :: q18 :: q19 :: q20 :: q21 :: q22 :: q23 :: q24 :: q25 :: q26 :: q27 :: q28 :: q29 :: (r30) :: (r31) :: (r32) :: (r33) :: (r34) :: (r35) :: (r36) :: (r37) :: (r38) :: (r39) :: (r40) :: (r41) :: (r42) :: (r43) :: (r44) :: (r45) :: (r46) :: (r47) :: (r48) :: (r49) :: (r50) :: (r51) :: (r52) :: (r53) :: (r54) :: (r55) :: (r56) :: (r57) :: (r58) :: (r59) :: (r60) :: (r61) :: (r62) :: (r63) :: (r64) :: (r65) :: (r66) :: (r67) :: (r68) :: (r69) :: (r70) :: (r71) :: (r72) :: (r73) :: (r74) :: (r75) :: (r76) :: (r77) :: (r78) :: (r79) :: (r80) :: (r81) :: (r82) :: (r83) :: (r84) :: (r85) :: (r86) :: (r87) :: (r88) :: (r89) :: (r90) :: (r91) :: (r92) :: (r93) :: (r94) :: (r95) :: (r96) :: (r97) :: (r98) :: (r99) :: (r100) :: (r101) :: (r102) :: (r103) :: (r104) :: (r105) :: (r106) :: (r107) :: (r108) :: (r109) :: (r110) :: (r111) :: (r112) :: (r113) :: (r114) :: (r115) :: (r116) :: (r117) :: (r118) :: (r119) :: (r120) :: (r121) :: (r122) :: (r123) :: (r124) :: (r125) :: (r126) :: (r127) :: (r128) :: (r129) :: (r130) :: (r131) :: (r132) :: (r133) :: (r134) :: (r135) :: (r136) :: (r137) :: q138 :: q139 :: q140 :: q141 :: q142 :: q143 :: q144 :: q145 :: q146 :: q147 :: q148 :: q149 :: q150 :: q151 :: q152 :: q153 :: q154 :: q155 :: q156 :: q157 :: []), []⟩ z'.val) : Code.wp Try.prog (Code.loop (cwLoop 0)) Q ⟨List.toArray (q0 :: q1 :: q2 :: q3 :: q4 :: (Value.pointer (some ⟨b5, 0, none⟩)) :: (Value.slice cA M cc) :: (Value.pointer (some ⟨w6.heap.size, 0, none⟩)) :: (Value.int .i64 j0) :: (Value.int .i64 0) :: q10 :: q11 :: q12 :: q13 :: q14 :: q15 :: q16 :: q17 :: q18 :: q19 :: q20 :: q21 :: q22 :: q23 :: q24 :: q25 :: q26 :: q27 :: q28 :: q29 :: q30 :: q31 :: q32 :: q33 :: q34 :: q35 :: q36 :: q37 :: q38 :: q39 :: q40 :: q41 :: q42 :: q43 :: q44 :: q45 :: q46 :: q47 :: q48 :: q49 :: q50 :: q51 :: q52 :: q53 :: q54 :: q55 :: q56 :: q57 :: q58 :: q59 :: q60 :: q61 :: q62 :: q63 :: q64 :: q65 :: q66 :: q67 :: q68 :: q69 :: q70 :: q71 :: q72 :: q73 :: q74 :: q75 :: q76 :: q77 :: q78 :: q79 :: q80 :: q81 :: q82 :: q83 :: q84 :: q85 :: q86 :: q87 :: q88 :: q89 :: q90 :: q91 :: q92 :: q93 :: q94 :: q95 :: q96 :: q97 :: q98 :: q99 :: q100 :: q101 :: q102 :: q103 :: q104 :: q105 :: q106 :: q107 :: q108 :: q109 :: q110 :: q111 :: q112 :: q113 :: q114 :: q115 :: q116 :: q117 :: q118 :: q119 :: q120 :: q121 :: q122 :: q123 :: q124 :: q125 :: q126 :: q127 :: q128 :: q129 :: q130 :: q131 :: q132 :: q133 :: q134 :: q135 :: q136 :: q137 :: q138 :: q139 :: q140 :: q141 :: q142 :: q143 :: q144 :: q145 :: q146 :: q147 :: q148 :: q149 :: q150 :: q151 :: q152 :: q153 :: q154 :: q155 :: q156 :: q157 :: []), []⟩ z.val := by
  conv => arg 2; arg 1; whnf
  have HE := hide hexit
  have HRt := hide hret
  clear hexit hret
  go_loopw [8, 9] (fun s8 s9 wr => ∃ (k j : Nat) (ts : List Bool) (vA : Option Addr) (vc : Nat) (y : Ext w6), s8 = .int .i64 j ∧ s9 = .int .i64 k ∧ wr = y.val ∧ Hid (Stands w6 L R k j ts vA vc y.val)) (fun _ s9 _ => R.met.length + 1 - (intOf s9).toNat)
  case atStart => exact ⟨0, j0, ts0, vA0, vc0, z, rfl, rfl, rfl, hst⟩
  case round =>
    obtain ⟨k, j, ts, vA, vc, y, rfl, rfl, rfl, hst⟩ := hrel
    have e5 : ∀ u : Ext w6, u.val.cell? ⟨b5, 1, none⟩ = some (.slice mA R.met.length mc) := fun u => (row_cell (cs := [_, _, _]) ((u.below.block _ (row_lt hrow5.out)).trans hrow5.out) (j := 1) rfl).1
    obtain ⟨h1, h2, h3, h4, h5, h6⟩ := hst.out
    have hk : (k : Int) ≤ (R.met.length : Int) := by omega
    have hj : j < L.length := h2.lt
    have hjM : (j : Int) < (M : Int) := by rw [HM.out]; omega
    obtain ⟨b, off, hcA, hb, hcell⟩ := hL.out j hj
    obtain ⟨t, ht⟩ := hbare.out _ (List.getElem_mem hj)
    obtain ⟨i0, i1, i21, i22, i24⟩ := ins_at _ ht
    subst hcA
    have a0 : ∀ u : Ext w6, u.val.cell? ⟨b, off + j * 25, none⟩ = some (.int .i64 L[j].k) := fun u => (u.cell hb).trans (hcell 0 _ i0)
    have a1 : ∀ u : Ext w6, u.val.cell? ⟨b, off + j * 25 + 1, none⟩ = some (.int .i64 L[j].s.k) := fun u => (u.cell hb).trans (hcell 1 _ i1)
    have a21 : ∀ u : Ext w6, u.val.cell? ⟨b, off + j * 25 + 1 + 20, none⟩ = some (.slice none 0 0) := fun u => (u.cell hb).trans (hcell 21 _ i21)
    have a22 : ∀ u : Ext w6, u.val.cell? ⟨b, off + j * 25 + 1 + 21, none⟩ = some (.slice none 0 0) := fun u => (u.cell hb).trans (hcell 22 _ i22)
    have a24 : ∀ u : Ext w6, u.val.cell? ⟨b, off + j * 25 + 24, none⟩ = some (.int .i64 L[j].go) := fun u => (u.cell hb).trans (hcell 24 _ i24)
    have hrow7 := hide h6
    have hturn := hide (And.intro h3 (And.intro h4 h5))
    have hNx : Hid (∀ (u : Ext w6) (p : Int), Gives Try.prog 11 #[.slice (some ⟨b, off, none⟩) M cc, .int .i64 p] u.val (.int .i64 (next L p))) := fun u p => by
      have h := codeNext_any u.val (some ⟨b, off, none⟩) cc L p (by have := HM.out; omega) (hL.out.ext u)
      rw [← HM.out] at h
      exact h
    obtain ⟨ki, hki⟩ : ∃ x, L[j].k = x := ⟨_, rfl⟩
    obtain ⟨sk, hsk⟩ : ∃ x, L[j].s.k = x := ⟨_, rfl⟩
    obtain ⟨go, hgo⟩ : ∃ x, L[j].go = x := ⟨_, rfl⟩
    have hinv := h2.inv hj
    rw [hki, hsk, hgo] at hinv
    rw [hki] at a0
    rw [hsk] at a1
    rw [hgo] at a24
    have HK := hide (And.intro hki (And.intro hsk hgo))
    clear h1 h2 h3 h4 h5 h6 hst hcell ht i0 i1 i21 i22 i24 hki hsk hgo
    have hby : b < y.val.heap.size := y.lt hb
    have h5y : b5 < y.val.heap.size := y.lt (row_lt hrow5.out)
    have hk63 : (k : Int) ≤ 1000000000000 := by omega
    have hj63 : (j : Int) ≤ 1000000000000 := by omega
    rcases hinv with ⟨rfl, hj1, hm, hRb⟩ | ⟨rfl, rfl, hm, hRb⟩ | ⟨q, m', rfl, hs11, hq, hm, hp⟩ | ⟨q, m', t, rfl, ht, hq, hm, hp⟩
    · have hke : k = R.met.length := by
        rcases Nat.lt_or_ge k R.met.length with h' | h'
        · rw [List.drop_eq_getElem_cons h'] at hm; cases hm
        · omega
      subst hke
      have hR := hide hRb
      have hJ : Hid (j + 1 = M) := hj1.trans HM.out.symm
      clear hm hRb hj1
      go_wp2_with fail
      exact HE.out _ _ _ _ _ _ _ _ _ _ _ _ _ _ _ _ _ _ _ _ _ _ _ _ _ _ _ _ _ _ _ _ _ _ _ _ _ _ _ _ _ _ _ _ _ _ _ _ _ _ _ _ _ _ _ _ _ _ _ _ _ _ _ _ _ _ _ _ _ _ _ _ _ _ _ _ _ _ _ _ _ _ _ _ _ _ _ _ _ _ _ _ _ _ _ _ _ _ _ _ _ _ _ _ _ _ _ _ _ _ j y hR.out hJ.out
    · obtain ⟨hkl, hm1, hm2⟩ := drop_cons hm
      obtain ⟨mb, moff, hmA, hmbl, hmc⟩ := hmet.out k hkl
      have hkl' : (k : Int) < (R.met.length : Int) := by omega
      have hge1 : decide (R.met.length ≤ k) = false := by simp; omega
      have hge2 : decide ((R.met.length : Int) ≤ (k : Int)) = false := by simp; omega
      have m0 : ∀ u : Ext w6, u.val.cell? ⟨mb, moff + k, none⟩ = some (.int .i64 11) := fun u => by
        have := (u.cell hmbl).trans (hmc 0 _ rfl)
        rw [hm1] at this
        simpa using this
      subst hmA
      have hmy : mb < y.val.heap.size := y.lt hmbl
      have HM2 := hide (And.intro hm2 hkl)
      clear hm hm1 hm2 hmc hkl
      go_wp2_with fail
      refine wp_region_ext (by kernel_rfl) (by kernel_rfl) ?_
      repeat (go_big_quiet_step ((first | fail)))
      refine wpQuiet_nil ?_
      intro _ hw'
      obtain ⟨u, hw''⟩ := hw'
      subst hw''
      obtain ⟨y2, hy2⟩ : ∃ y2 : Ext w6, u.val = y2.val := ⟨y.step u.below, rfl⟩
      have hrow2 : Hid (y2.val.heap[w6.heap.size]? = some (.cells #[.slice vA ts.length vc, .slice none 0 0, .bool false] 52 (0, 0))) := by show _ = _; rw [← hy2]; exact (u.below.block _ (row_lt hrow7.out)).trans hrow7.out
      rw [hy2]
      clear hy2
      have hkE : ((k : Int) + 1 == (R.met.length : Int)) = true := by
        have h1 := HM2.out.1
        have h2 := congrArg List.length h1
        rw [List.length_drop, List.length_nil] at h2
        have := HM2.out.2
        simp
        omega
      go_wp2_with (go_at_call 7; refine ((awake_any y2.val).over y2).mono ?_; rintro _ _ ⟨y3, _, rfl, rfl⟩)
      exact HRt.out _ _ _ _ _ _ _ _ _ _ _ _ _ _ _ _ _ _ _ _ _ _ _ _ _ _ _ _ _ _ _ _ _ _ _ _ _ _ _ _ _ _ _ _ _ _ _ _ _ _ _ _ _ _ _ _ _ _ _ _ _ _ _ _ _ _ _ _ _ _ _ _ _ _ _ _ _ _ _ _ _ _ _ _ _ _ _ _ _ _ _ _ _ _ _ _ _ _ _ _ _ _ _ _ _ _ _ _ _ _ _ y3
    · obtain ⟨hkl, hm1, hm2⟩ := drop_cons hm
      obtain ⟨mb, moff, hmA, hmbl, hmc⟩ := hmet.out k hkl
      have hkl' : (k : Int) < (R.met.length : Int) := by omega
      have hge1 : decide (R.met.length ≤ k) = false := by simp; omega
      have hge2 : decide ((R.met.length : Int) ≤ (k : Int)) = false := by simp; omega
      have m0 : ∀ u : Ext w6, u.val.cell? ⟨mb, moff + k, none⟩ = some (.int .i64 sk) := fun u => by
        have := (u.cell hmbl).trans (hmc 0 _ rfl)
        rw [hm1] at this
        simpa using this
      subst hmA
      have hmy : mb < y.val.heap.size := y.lt hmbl
      have HM2 := hide (And.intro hm2 hkl)
      have k11 : (sk == 11) = false := by simpa using hs11
      have HQ := hide hq
      have HP := hide hp
      clear hs11 hq hp
      clear hm hm1 hm2 hmc hkl
      go_wp2_with fail
      refine wp_region_ext (by kernel_rfl) (by kernel_rfl) ?_
      repeat (go_big_quiet_step ((first | fail)))
      refine wpQuiet_nil ?_
      intro _ hw'
      obtain ⟨u, hw''⟩ := hw'
      subst hw''
      obtain ⟨y2, hy2⟩ : ∃ y2 : Ext w6, u.val = y2.val := ⟨y.step u.below, rfl⟩
      have hrow2 : Hid (y2.val.heap[w6.heap.size]? = some (.cells #[.slice vA ts.length vc, .slice none 0 0, .bool false] 52 (0, 0))) := by show _ = _; rw [← hy2]; exact (u.below.block _ (row_lt hrow7.out)).trans hrow7.out
      rw [hy2]
      clear hy2
      have hst2 : Hid (Stands w6 L R (k + 1) q ts vA vc y2.val) := ⟨Nat.succ_le_of_lt HM2.out.2, by rw [HM2.out.1]; exact HP.out, hturn.out.1, hturn.out.2.1, hturn.out.2.2, hrow2.out⟩
      have HNx := hide (hNx.out y2 ((j : Int) + 1))
      have HQ2 : Hid (next L ((j : Int) + 1) = q) := HQ.out
      go_wp2_with (go_at_call 11; refine (HNx.out.over y2).mono ?_; rintro _ _ ⟨y3, hy3, rfl, rfl⟩)
      have hst3 : Hid (Stands w6 L R (k + 1) q ts vA vc y3.val) := by
        obtain ⟨h1, h2, h3, h4, h5, h6⟩ := hst2.out
        obtain ⟨y', hy'⟩ := hy3
        exact ⟨h1, h2, h3, h4, h5, by rw [← hy']; exact (y'.below.block _ (row_lt h6)).trans h6⟩
      go_roundw
      case rel => exact ⟨k + 1, q, ts, vA, vc, y3, by rw [HQ2.out], by go_num, rfl, hst3⟩
      case measure => have := HM2.out.2; simp [intOf]; omega
    · obtain ⟨hkl, hm1, hm2⟩ := drop_cons hm
      obtain ⟨mb, moff, hmA, hmbl, hmc⟩ := hmet.out k hkl
      have hkl' : (k : Int) < (R.met.length : Int) := by omega
      have hge1 : decide (R.met.length ≤ k) = false := by simp; omega
      have hge2 : decide ((R.met.length : Int) ≤ (k : Int)) = false := by simp; omega
      have m0 : ∀ u : Ext w6, u.val.cell? ⟨mb, moff + k, none⟩ = some (.int .i64 sk) := fun u => by
        have := (u.cell hmbl).trans (hmc 0 _ rfl)
        rw [hm1] at this
        simpa using this
      subst hmA
      have hmy : mb < y.val.heap.size := y.lt hmbl
      have HM2 := hide (And.intro hm2 hkl)
      have HQ := hide hq
      have HP := hide hp
      have HT := hide ht
      clear hq hp ht
      clear hm hm1 hm2 hmc hkl
      go_wp2_with fail
      refine wp_region_ext (by kernel_rfl) (by kernel_rfl) ?_
      repeat (go_big_quiet_step ((first | fail)))
      refine wpQuiet_nil ?_
      intro _ hw'
      obtain ⟨u, hw''⟩ := hw'
      subst hw''
      obtain ⟨y2, hy2⟩ : ∃ y2 : Ext w6, u.val = y2.val := ⟨y.step u.below, rfl⟩
      have hrow2 : Hid (y2.val.heap[w6.heap.size]? = some (.cells #[.slice vA ts.length vc, .slice none 0 0, .bool false] 52 (0, 0))) := by show _ = _; rw [← hy2]; exact (u.below.block _ (row_lt hrow7.out)).trans hrow7.out
      rw [hy2]
      clear hy2
      have hst2 : Hid (R.met.length ≥ k + 1 ∧ Path L q ts.tail (R.met.drop (k + 1)) R.back) := ⟨Nat.succ_le_of_lt HM2.out.2, by rw [HM2.out.1]; exact HP.out⟩
      have HTu := turn_any w6 y2.val y2.below vA vc ts none 0 0 false hturn.out.1 hturn.out.2.1 hturn.out.2.2
      rw [HT.out] at HTu
      obtain ⟨T9, hT9⟩ : ∃ T9, T9 = ts.tail := ⟨_, rfl⟩
      rw [← hT9] at HTu hst2
      have HTu := hide HTu
      obtain ⟨c0, _⟩ := row_cell (cs := [_, _, _]) hrow2.out (j := 0) rfl
      obtain ⟨c1, _⟩ := row_cell (cs := [_, _, _]) hrow2.out (j := 1) rfl
      obtain ⟨c2, _⟩ := row_cell (cs := [_, _, _]) hrow2.out (j := 2) rfl
      clear hT9
      go_upto_region 17 with (first | (go_at_call 14; refine HTu.out.mono ?_; clear HTu; rintro _ _ ⟨u3, A9, c9, rfl, rfl, t1, t2, t3⟩; have hth := hide (row_there ((u3.below.block _ (row_lt hrow2.out)).trans hrow2.out) 3 (Nat.le_refl _))) | (refine wpList_store_mid rfl 52 (.tmp 7) (.tmp 125) rfl w6.heap.size 0 (#[.slice A9 T9.length c9, .slice none 0 0, .bool false]) rfl rfl hth.out (by kernel_rfl) (by simp [Value.oneCell']) ?_))
      obtain ⟨y4, hy4⟩ : ∃ y4 : Ext w6, u3.val.setCells w6.heap.size 0 (#[.slice A9 T9.length c9, .slice none 0 0, .bool false] : Array Value).toList = y4.val := Ext.of ((y2.step u3.below).below.trans ((setCells_below (Nat.le_refl w6.heap.size) _ 0 _).mono (Nat.le_refl _)))
      have hrow4 : Hid (y4.val.heap[w6.heap.size]? = some (.cells #[.slice A9 T9.length c9, .slice none 0 0, .bool false] 52 (0, 0))) := by
        show _ = _
        rw [← hy4]
        exact row_fill ((u3.below.block _ (row_lt hrow2.out)).trans hrow2.out) rfl
      rw [hy4]
      have hst4 : Hid (Stands w6 L R (k + 1) q T9 A9 c9 y4.val) := ⟨hst2.out.1, hst2.out.2, t3, t1, t2, hrow4.out⟩
      clear hy4 hth t1 t2 t3 c0 c1 c2
      cases t with
      | true =>
        have HNx := hide (hNx.out y4 ((j : Int) + 1))
        have HQ2 : Hid (next L ((j : Int) + 1) = q) := HQ.out
        go_wp2_with (go_at_call 11; refine (HNx.out.over y4).mono ?_; rintro _ _ ⟨y3, hy3, rfl, rfl⟩)
        have hst3 : Hid (Stands w6 L R (k + 1) q T9 A9 c9 y3.val) := by
          obtain ⟨h1, h2, h3, h4, h5, h6⟩ := hst4.out
          obtain ⟨y', hy'⟩ := hy3
          exact ⟨h1, h2, h3, h4, h5, by rw [← hy']; exact (y'.below.block _ (row_lt h6)).trans h6⟩
        go_roundw
        case rel => exact ⟨k + 1, q, T9, A9, c9, y3, by rw [HQ2.out], by go_num, rfl, hst3⟩
        case measure => have := HM2.out.2; simp [intOf]; omega
      | false =>
        have HNx := hide (hNx.out y4 go)
        have HQ2 : Hid (next L go = q) := HQ.out
        go_wp2_with (go_at_call 11; refine (HNx.out.over y4).mono ?_; rintro _ _ ⟨y3, hy3, rfl, rfl⟩)
        have hst3 : Hid (Stands w6 L R (k + 1) q T9 A9 c9 y3.val) := by
          obtain ⟨h1, h2, h3, h4, h5, h6⟩ := hst4.out
          obtain ⟨y', hy'⟩ := hy3
          exact ⟨h1, h2, h3, h4, h5, by rw [← hy']; exact (y'.below.block _ (row_lt h6)).trans h6⟩
        go_roundw
        case rel => exact ⟨k + 1, q, T9, A9, c9, y3, by rw [HQ2.out], by go_num, rfl, hst3⟩
        case measure => have := HM2.out.2; simp [intOf]; omega
end Go.Proofs.Ytlgnjbocdmbeiaa
