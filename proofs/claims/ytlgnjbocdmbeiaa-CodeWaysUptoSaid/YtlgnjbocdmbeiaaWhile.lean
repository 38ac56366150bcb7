/- The inner loop of demesnelaw34.walk. -/
import Derived.Test.YtlgnjbocdmbeiaaWalkSt
import Derived.Deep.CutBlock
import Derived.Deep.LoopGhost
set_option linter.unusedSimpArgs false
set_option linter.unusedVariables false
namespace Go.Proofs.Ytlgnjbocdmbeiaa
open Go.RowKit Go.Proofs.Grow

def WalkOk (n : Nat) (l : List St) : Prop := ∀ (w0 : World) (x : Ext w0) (A : Option Addr) (c : Nat) (tA : Option Addr) (tc : Nat) (mA : Option Addr) (mc : Nat) (wy : Wy), wy.turns.length ≤ n → (wayL n l wy).met.length ≤ 1000000000000 →
  (∀ s ∈ l, StIn w0 s) → Lies w0 23 St.cells A l → l.length ≤ c → c ≤ maxLen → WyAt w0 x.val tA tc mA mc wy →
  Calls Try.prog 13 #[.slice A l.length c, .agg #[.slice tA wy.turns.length tc, .slice mA wy.met.length mc, .bool wy.back]] x.val fun e w' => ∃ (y : Ext w0) (tA' : Option Addr) (tc' : Nat) (mA' : Option Addr) (mc' : Nat),
    e = .returned (.agg (wyRow tA' tc' mA' mc' (wayL n l wy))) ∧ w' = y.val ∧ WyAt w0 y.val tA' tc' mA' mc' (wayL n l wy) ∧ x.val.grownBy y.val (Value.slice mA wy.met.length mc).ownBlock ∧
    ((Value.slice mA' (wayL n l wy).met.length mc').ownBlock = (Value.slice mA wy.met.length mc).ownBlock ∨ ∃ k, (Value.slice mA' (wayL n l wy).met.length mc').ownBlock = some k ∧ x.val.heap.size ≤ k)

/-- The loops in a code, outer ones first. -/
def loops : Code → List Code
  | .loop c => c :: loops c
  | .seq a b => loops a ++ loops b
  | .block _ c => loops c
  | .scope c => loops c
  | .cond _ a b => loops a ++ loops b
  | _ => []
noncomputable def wkLoop (n : Nat) : Code := (((Try.f13.body.map loops).getD [])[n]?).getD .skip

/-- Where the loop of a while stands. -/
def WhileAt (w0 X : World) (ob : Option Nat) (n : Nat) (s : St) (R : Wy) (p : Nat) (gh : Nat) (s7 : Value) (W : World) : Prop :=
  W.heap[p]? = some (.cells s.cells.toArray 41 (0, 0)) ∧ ∃ (A : Option Addr) (c : Nat) (mA : Option Addr) (d : Nat), ((∃ m ts M, gh = m + 1 ∧ m ≤ n ∧ ts.length ≤ m ∧ wayW m 10 s.body ⟨ts, M, false⟩ = R ∧ s7 = .bool (ts.headD false) ∧ WSt w0 X W ob A c mA d ⟨ts.tail, M, false⟩) ∨
    (gh = 0 ∧ s7 = .bool true ∧ R.back = true ∧ WSt w0 X W ob A c mA d R))

set_option maxHeartbeats 0 in
set_option maxRecDepth 1000000 in
theorem wk_while (n : Nat) (s : St) (hk : Hid (s.k = 10)) (w0 X : World) (ob : Option Nat) (p : Nat) (hXp : Hid (X.heap.size + 1 < p)) (i0 : TypeInfo) (z0 : Value) (hi0 : Try.prog.info? 3 = some i0) (hz0 : i0.zero = some z0) (hz1 : i0.size = 1) (hz2 : i0.bytes = 8) (hzs : z0.cells.size = 1)
    (IH : Hid (∀ m < n, WalkOk m s.body)) (bA : Option Addr) (bc : Nat) (HBD : Hid (Lies w0 23 St.cells bA s.body ∧ s.body.length ≤ bc ∧ bc ≤ maxLen ∧ ∀ t ∈ s.body, StIn w0 t)) (E20 : Hid (s.cells[20]? = some (.slice bA s.body.length bc)))
    (R : Wy) (hRm : Hid (R.met.length ≤ 1000000000000)) (W : World) (s7 : Value) (hat : Hid (WhileAt w0 X ob n s R p (n + 1) s7 W)) (q0 q1 q2 q4 q5 q8 q9 q10 q11 q12 q13 q14 q15 q16 q17 q18 q19 q20 q21 q22 q23 q24 q25 q26 q27 q28 q29 q30 q31 q32 q33 q34 q35 q36 q37 q38 q39 q40 q41 q42 q43 q44 q45 q46 q47 q48 q49 q50 q51 q52 q53 q54 q55 q56 q57 q58 q59 q60 q61 q62 q63 q64 q65 q66 q67 q68 q69 q70 q71 q72 q73 q74 q75 q76 q77 q78 q79 q80 q81 q82 q83 q84 q85 q86 q87 q88 q89 q90 q91 q92 q93 q94 : Value) (Q : Exit → Act → World → Prop)
    (hexit : ∀ (r7 r64 r65 r66 r67 r68 r69 r70 r71 r72 r73 r74 r75 r76 r77 r78 r79 r80 r81 r82 r83 r84 r85 r86 r87 r88 r89 r90 r91 r92 r93 : Value) (y : World) (A : Option Addr) (c : Nat) (mA : Option Addr) (d : Nat), Hid (WSt w0 X y ob A c mA d R) → Q (.exit 2) ⟨List.toArray (q0 :: q1 :: q2 :: (Value.pointer (some ⟨X.heap.size, 0, none⟩)) :: q4 :: q5 :: (Value.pointer (some ⟨p, 0, none⟩)) :: (r7) :: q8 :: q9 :: q10 :: q11 :: q12 :: q13 :: q14 :: q15 :: q16 :: q17 :: q18 :: q19 :: q20 :: q21 :: q22 :: q23 :: q24 :: q25 :: q26 :: q27 :: q28 :: q29 :: q30 :: q31 :: q32 :: q33 :: q34 :: q35 :: q36 :: q37 :: q38 :: q39 :: q40 :: q41 :: q42 :: q43 :: q44 :: q45 :: q46 :: q47 :: q48 :: q49 :: q50 :: q51 :: q52 :: q53 :: q54 :: q55 :: q56 :: q57 :: q58 :: q59 :: q60 :: q61 :: q62 :: q63 :: (r64) :: (r65) :: (r66) :: (r67) :: (r68) :: (r69) :: (r70) :: (r71) :: (r72) :: (r73) :: (r74) :: (r75) :: (r76) :: (r77) :: (r78) :: (r79) :: (r80) :: (r81) :: (r82) :: (r83) :: (r84) :: (r85) :: (r86) :: (r87) :: (r88) :: (r89) :: (r90) :: (r91) :: (r92) :: (r93) :: q94 :: []), []⟩ y) : Code.wp Try.prog (Code.loop (wkLoop 1)) Q ⟨List.toArray (q0 :: q1 :: q2 :: (Value.pointer (some ⟨X.heap.size, 0, none⟩)) :: q4 :: q5 :: (Value.pointer (some ⟨p, 0, none⟩)) :: (s7) :: q8 :: q9 :: q10 :: q11 :: q12 :: q13 :: q14 :: q15 :: q16 :: q17 :: q18 :: q19 :: q20 :: q21 :: q22 :: q23 :: q24 :: q25 :: q26 :: q27 :: q28 :: q29 :: q30 :: q31 :: q32 :: q33 :: q34 :: q35 :: q36 :: q37 :: q38 :: q39 :: q40 :: q41 :: q42 :: q43 :: q44 :: q45 :: q46 :: q47 :: q48 :: q49 :: q50 :: q51 :: q52 :: q53 :: q54 :: q55 :: q56 :: q57 :: q58 :: q59 :: q60 :: q61 :: q62 :: q63 :: q64 :: q65 :: q66 :: q67 :: q68 :: q69 :: q70 :: q71 :: q72 :: q73 :: q74 :: q75 :: q76 :: q77 :: q78 :: q79 :: q80 :: q81 :: q82 :: q83 :: q84 :: q85 :: q86 :: q87 :: q88 :: q89 :: q90 :: q91 :: q92 :: q93 :: q94 :: []), []⟩ W := by
  have E0 : Hid (s.cells[0]? = some (.int .i64 10)) := by have := (st_at s).1; rw [hk.out] at this; exact this
  conv => arg 2; arg 1; whnf
  go_loopg [7] (n + 1) (fun gh s7 W => Hid (WhileAt w0 X ob n s R p gh s7 W))
  case atStart => exact hat
  case round =>
    have hrel := hide hrel
    obtain ⟨hbox, A, c, mA, d, hcase⟩ := hrel.out
    rcases hcase with ⟨m, ts, M, hgh, hmn, htm, hW, hs7, hst⟩ | ⟨hgh, hs7, hRb, hst⟩
    · have hst := hide hst
      have hbx := hide hbox
      clear hbox
      obtain ⟨t, ht⟩ : ∃ t, ts.headD false = t := ⟨_, rfl⟩
      rw [ht] at hs7
      subst hs7
      obtain ⟨T, hT⟩ : ∃ T, T = ts.tail := ⟨_, rfl⟩
      rw [← hT] at hst
      obtain ⟨c0, c1, c2⟩ := hst.out.cells
      have b0 := (row_cell hbx.out (j := 0) E0.out).1
      cases t with
      | false =>
        have hstR : Hid (WSt w0 X wr ob A c mA d R) := by
          show WSt _ _ _ _ _ _ _ _ _
          rw [← hW, wayW_no ht, ← hT]; exact hst.out
        clear ht hW hT hrel hgh hst
        go_wp2_with fail
        exact hexit _ _ _ _ _ _ _ _ _ _ _ _ _ _ _ _ _ _ _ _ _ _ _ _ _ _ _ _ _ _ _ wr A c mA d hstR
      | true =>
        have htl := head_some ht
        rw [← hT] at htl
        obtain ⟨m, rfl⟩ : ∃ j, m = j + 1 := ⟨m - 1, by omega⟩
        rw [wayW_yes ht, ← hT] at hW
        have hTm : T.length ≤ m := by omega
        obtain ⟨R1, hR1⟩ : ∃ R1, R1 = wayL m s.body ⟨T, M, false⟩ := ⟨_, rfl⟩
        have hmu := much_way m s.body ⟨T, M, false⟩ hTm
        rw [← hR1] at hmu hW
        have hR1m : R1.turns.length ≤ m := Nat.le_trans hmu.1 hTm
        have hbnd : R1.met.length ≤ R.met.length ∧ (R1.back = false → R1.met.length + 1 ≤ R.met.length) := by
          cases hb : R1.back with
          | true => rw [hb, if_pos rfl] at hW; rw [hW]; exact ⟨Nat.le_refl _, fun h => by cases h⟩
          | false =>
            rw [hb, if_neg (by simp)] at hW
            have h := (much_W m 10 s.body ⟨R1.turns, R1.met ++ [10], false⟩ hR1m).2.1
            rw [hW] at h
            simp only [List.length_append, List.length_cons, List.length_nil] at h
            exact ⟨by omega, fun _ => h⟩
        have hbelow := hst.out.below
        have HCl := hide (IH.out m (by omega) w0 ⟨wr, hst.out.below⟩ bA bc A c mA d ⟨T, M, false⟩ hTm (by rw [← hR1]; exact Nat.le_trans hbnd.1 hRm.out) HBD.out.2.2.2 HBD.out.1 HBD.out.2.1 HBD.out.2.2.1 hst.out.at_)
        rw [← hR1] at HCl
        have HBN := hide hbnd
        have HW := hide hW
        have HRM := hide hR1m
        have hmn9 := hide hmn
        have hgh9 := hide hgh
        have b20 := (row_cell hbx.out (j := 20) E20.out).1
        clear ht htl hT hW hTm hR1 hmu hR1m hbnd hbelow hrel htm hgh hmn
        go_upto_region 16 with (first | (go_at_call 13; refine HCl.out.mono ?_; clear HCl; rintro _ _ ⟨y10, A10, c10, m10, d10, rfl, rfl, at10, gr10, ob10⟩; have hwh := hst.out.whole (W' := y10.val) gr10 at10 ob10; have hbx2 := hide (hst.out.box gr10 (OneOff.setCells y10.val X.heap.size 0 (wyRow A10 c10 m10 d10 R1).toList) (Nat.lt_of_succ_lt hXp.out) hbx.out); have hth := hide hwh.1; have hst2 := hide hwh.2; clear hwh at10 gr10 ob10) | (refine wpList_store_mid rfl 52 (.tmp 3) (.tmp 78) rfl X.heap.size 0 (wyRow A10 c10 m10 d10 R1) rfl rfl hth.out (by kernel_rfl) (by simp [wyRow, Value.oneCell']) ?_))
        generalize (y10.val.setCells X.heap.size 0 (wyRow A10 c10 m10 d10 R1).toList) = W2 at hst2 hbx2 ⊢
        clear hth hst hbx c0 c1 c2 b0 b20 y10
        obtain ⟨c0, c1, c2⟩ := hst2.out.cells
        have b0 := (row_cell hbx2.out (j := 0) E0.out).1
        obtain ⟨bk, hbk⟩ : ∃ bk, R1.back = bk := ⟨_, rfl⟩
        rw [hbk] at c2
        have HBK := hide hbk
        clear hbk
        cases bk with
        | true =>
          have hfin : Hid (WhileAt w0 X ob n s R p 0 (.bool true) W2) := by
            have h := HW.out
            rw [HBK.out, if_pos rfl] at h
            refine ⟨hbx2.out, A10, c10, m10, d10, .inr ⟨rfl, rfl, by rw [← h]; exact HBK.out, by rw [← h]; exact hst2.out⟩⟩
          go_wp2_with fail
          go_roundg 0
          case measure => have := hgh9.out; omega
          case rel => exact hfin
        | false =>
          have hlen : Hid (R1.met.length + 1 ≤ 1000000000000) := Nat.le_trans (HBN.out.2 HBK.out) hRm.out
          go_upto_region 18 with (at_builtin; refine wpList_append_list (w1 := w0) _ rfl (.tmp 83) (.tmp 86) 50 rfl 3 i0 z0 1 8 Try.underlying50 hi0 hz0 hz1 hz2 hzs (by decide) encI_len encI_one (hst2.out.below.alloc hst2.out.below.size _) (.slice m10 R1.met.length d10) R1.met rfl (hst2.out.at_.met.alloc _) _ 1 1 [10] rfl rfl (Lies.one W2 10 _ rfl) (by have := hlen.out; simp [maxLen]; omega) (by have := hlen.out; simp; omega) ?_; intro v' y2 hown' hgr hat; obtain ⟨g', cap', rfl⟩ := hown'.some_; obtain ⟨hr2, hgr2⟩ := hst2.out.behind hgr; obtain ⟨d1, f1⟩ := row_cell (cs := [_, _, _]) hr2 (j := 1) rfl; have HR2 := hide (And.intro hr2 hgr2); have HO2 := hide hown'; clear hr2 hgr2 hgr hown')
          have hst5 : Hid (WSt w0 X (y2.val.setCell ⟨X.heap.size, 1, none⟩ (.slice (some ⟨g', 0, none⟩) (R1.met.length + 1) cap')) ob A10 c10 (some ⟨g', 0, none⟩) cap' ⟨R1.turns, R1.met ++ [10], R1.back⟩) :=
            hst2.out.put HR2.out.1 HR2.out.2 HO2.out (by
              rcases hat with h | h
              · exact .inl h
              · exact .inr ⟨_, h, by simp⟩)
          have hbox5 : Hid ((y2.val.setCell ⟨X.heap.size, 1, none⟩ (.slice (some ⟨g', 0, none⟩) (R1.met.length + 1) cap')).heap[p]? = some (.cells s.cells.toArray 41 (0, 0))) :=
            hst2.out.box HR2.out.2 (OneOff.setCell _ _ _ _) (Nat.lt_of_succ_lt hXp.out) hbx2.out
          generalize (y2.val.setCell ⟨X.heap.size, 1, none⟩ (.slice (some ⟨g', 0, none⟩) (R1.met.length + 1) cap')) = W5 at hst5 hbox5 ⊢
          clear hat d1 f1 HR2 HO2 hst2 hbx2 c0 c1 c2 b0
          rw [HBK.out] at hst5
          obtain ⟨M5, hM5⟩ : ∃ M5, M5 = R1.met ++ [10] := ⟨_, rfl⟩
          have hML : R1.met.length + 1 = M5.length := by rw [hM5]; simp
          have hW5 : Hid (wayW m 10 s.body ⟨R1.turns, M5, false⟩ = R) := by
            have h := HW.out
            rw [HBK.out, if_neg (by simp)] at h
            rw [hM5]; exact h
          rw [← hM5] at hst5
          rw [hML]
          clear hM5 hML hlen HBN
          obtain ⟨c0, c1, c2⟩ := hst5.out.cells
          have b0 := (row_cell hbox5.out (j := 0) E0.out).1
          have HTu := hide (turn_any w0 W5 hst5.out.below A10 c10 R1.turns (some ⟨g', 0, none⟩) M5.length cap' false hst5.out.at_.turns hst5.out.at_.tl hst5.out.at_.tm)
          obtain ⟨t5, ht5⟩ : ∃ t5, t5 = R1.turns.headD false := ⟨_, rfl⟩
          obtain ⟨T9, hT9⟩ : ∃ T9, T9 = R1.turns.tail := ⟨_, rfl⟩
          rw [← ht5, ← hT9] at HTu
          have HT := hide (And.intro ht5 hT9)
          clear ht5 hT9
          go_wp2_with (first | (go_at_call 14; refine HTu.out.mono ?_; clear HTu; rintro _ _ ⟨u, A9, c9, rfl, rfl, t1, t2, t3⟩; have hwh := hst5.out.whole (W' := u.val) (wy' := ⟨T9, M5, false⟩) (grown_below u.below) ⟨t1, t2, t3, own_keep hst5.out.at_.met fun g hg => u.below.block g (hst5.out.at_.met.from_ g hg).2⟩ (.inl rfl); have hbx9 := hide (hst5.out.box (grown_below u.below) (OneOff.setCells u.val X.heap.size 0 (wyRow A9 c9 (some ⟨g', 0, none⟩) cap' ⟨T9, M5, false⟩).toList) (Nat.lt_of_succ_lt hXp.out) hbox5.out); have hth := hide hwh.1; have hst9 := hide hwh.2; clear hwh t1 t2 t3) | (refine wpList_store_mid rfl 52 (.tmp 3) (.tmp 93) rfl X.heap.size 0 (wyRow A9 c9 (some ⟨g', 0, none⟩) cap' ⟨T9, M5, false⟩) rfl rfl hth.out (by kernel_rfl) (by simp [wyRow, Value.oneCell']) ?_))
          go_roundg (m + 1)
          case measure => have := hgh9.out; omega
          case rel =>
            have h9 : WSt w0 X (u.val.setCells X.heap.size 0 (wyRow A9 c9 (some ⟨g', 0, none⟩) cap' ⟨T9, M5, false⟩).toList) ob A9 c9 (some ⟨g', 0, none⟩) cap' ⟨R1.turns.tail, M5, false⟩ := by
              have h8 := hst9.out
              have e := HT.out.2
              subst e
              exact h8
            exact ⟨hbx9.out, A9, c9, some ⟨g', 0, none⟩, cap', .inl ⟨m, R1.turns, M5, rfl, by have := hmn9.out; omega, HRM.out, hW5.out, congrArg Value.bool HT.out.1, h9⟩⟩
    · have hst := hide hst
      have hbx := hide hbox
      have hRb := hide hRb
      obtain ⟨c0, c1, c2⟩ := hst.out.cells
      rw [hRb.out] at c2
      have b0 := (row_cell hbox (j := 0) E0.out).1
      have hgh := hide hgh
      subst hs7
      clear hbox
      go_wp2_with fail
      exact hexit _ _ _ _ _ _ _ _ _ _ _ _ _ _ _ _ _ _ _ _ _ _ _ _ _ _ _ _ _ _ _ wr A c mA d hst
end Go.Proofs.Ytlgnjbocdmbeiaa
