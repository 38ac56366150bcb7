/- The walk of demesnelaw34.CodeWays. -/
import Derived.Test.YtlgnjbocdmbeiaaWaysLoop
set_option linter.unusedSimpArgs false
set_option linter.unusedVariables false
namespace Go.Proofs.Ytlgnjbocdmbeiaa
open Go.RowKit Go.Proofs.Grow

theorem built_wy (A : Option Addr) (n c : Nat) : Try.prog.built 52 [(0, .slice A n c)] = some #[.slice A n c, .slice none 0 0, .bool false] := by kernel_rfl
theorem wpList_buildV {P : Program} {ops : Array Oper} {rest : List Oper} {o : Oper} {a : Act} {w : World} {Q : Exit → Act → World → Prop} (hg : o.guard = none) (t : TypeId) (parts : List (Nat × Operand)) (ho : o.op = .build t parts.toArray)
    (vals : List (Nat × Value)) (hv : (parts.map fun x => (x.1, a.eval x.2)) = vals) (cells : Array Value) (hf : P.built t vals = some cells) (h : wpList P ops Q rest (a.put o.dst (.agg cells)) w) : wpList P ops Q (o :: rest) a w :=
  wpList_buildL hg t parts ho cells (by rw [hv]; exact hf) h

set_option maxRecDepth 1000000 in
set_option maxHeartbeats 0 in
theorem lawWays_any (m : Me) (w : World) (hm : MeIn w m) (tA : Option Addr) (tc : Nat) (turns : List Bool) (htl : Lies w 1 encB tA turns) (htc : turns.length ≤ tc) (htm : tc ≤ maxLen) (hwt : wtAll m.body ≤ 1048576) (hN : (codeOf m.body).length < 400000000) :
    Gives Try.prog 5 #[.agg m.cells.toArray, .slice tA turns.length tc] w (.bool true) := by
  refine Gives.mk ?_
  have HM := hide hm
  have HN := hide hN
  have HT := hide (And.intro htl (And.intro htc htm))
  have HWT := hide hwt
  have ht63 : turns.length ≤ 9223372036854775807 := by unfold maxLen at htm; omega
  clear hm hN htl htc htm hwt
  by_cases h100 : turns.length ≤ 100
  · have hgt : ¬ ((100 : Int) < (turns.length : Int)) := by omega
    go_enter Try.func5, Try.ntmps5
    go_upto_region 1 with fail
    obtain ⟨w1, hw1⟩ : ∃ w1, w1 = w.alloc (.cells m.cells.toArray 30) := ⟨_, rfl⟩
    rw [← hw1]
    have hB1 : Hid (Below w.heap.size w w1) := by
      show Below _ _ _
      rw [hw1]
      exact (Below.refl _ _).alloc (Nat.le_refl _) _
    have hsz : w.heap.size < w1.heap.size := by rw [hw1]; simp
    have hblk : Hid (w1.heap[w.heap.size]? = some (.cells m.cells.toArray 30 (0, 0))) := by rw [hw1]; exact heap_alloc_new w _
    have hblkz : Hid (∀ z : Ext w1, z.val.heap[w.heap.size]? = some (.cells m.cells.toArray 30 (0, 0))) := fun z => (z.below.block _ hsz).trans hblk.out
    have hM1 := hide (HM.out.ext ⟨w1, hB1.out⟩)
    clear hw1
    go_upto_region 3 with (first | (refine wpList_load_row rfl 30 (.tmp 2) rfl w.heap.size rfl 30 m.cells.toArray (0, 0) _ hblk.out Try.underlying30 rfl (by rw [List.size_toArray, Me.cells_len]; kernel_rfl) ?_) | (go_at_call 6; refine ((lawHeavy_any m w1 hM1.out).over (Ext.here w1)).mono ?_; rintro _ _ ⟨y, u, hy, rfl, rfl⟩; cases u))
    rotate_left
    · skip
      refine ((awake_any y.val).over y).mono ?_
      rintro _ _ ⟨y2, hy2, rfl, rfl⟩
      go_wp2_with fail
      go_ret
      exact ⟨rfl, hB1.out.trans (y2.below.mono hB1.out.size)⟩
    · skip
      obtain ⟨R, hR⟩ : ∃ R, R = wayL turns.length m.body ⟨turns, [], false⟩ := ⟨_, rfl⟩
      have hRm : Hid (R.met.length ≤ 1000000000000) := by
        have h := (much_way turns.length m.body ⟨turns, [], false⟩ (Nat.le_refl _)).2.2
        rw [← hR] at h
        simp only [List.length_nil, Nat.zero_add] at h
        have h2 : wtAll m.body * (turns.length - R.turns.length + 1) ≤ 1048576 * 101 := Nat.mul_le_mul HWT.out (by omega)
        show _ ≤ _
        omega
      have hW := walk_ok turns.length m.body w1 y m.bA m.bc tA tc none 0 ⟨turns, [], false⟩ (Nat.le_refl _) (by rw [← hR]; exact hRm.out) hM1.out.stmts hM1.out.body hM1.out.bc hM1.out.bm ⟨HT.out.2.1, HT.out.2.2, HT.out.1.below hB1.out, Own.nil⟩
      rw [← hR] at hW
      have HW : Hid (Calls Try.prog 13 #[.slice m.bA m.body.length m.bc, .agg #[.slice tA turns.length tc, .slice none 0 0, .bool false]] y.val fun e w' => ∃ (y1 : Ext w1) (tA' : Option Addr) (tc' : Nat) (mA' : Option Addr) (mc' : Nat), e = .returned (.agg (wyRow tA' tc' mA' mc' R)) ∧ w' = y1.val ∧ WyAt w1 y1.val tA' tc' mA' mc' R) :=
        Calls.mono hW fun e w' ⟨y1, a1, a2, a3, a4, h1, h2, h3, _⟩ => ⟨y1, a1, a2, a3, a4, h1, h2, h3⟩
      have c15 : y.val.cell? ⟨w.heap.size, 15, none⟩ = some (.slice m.bA m.body.length m.bc) := (row_cell (hblkz.out y) (j := 15) rfl).1
      have hpath := path_code m.body turns turns.length (Nat.le_refl _)
      rw [← hR] at hpath
      clear hW hR
      go_upto_region 4 with (first | (refine wpList_buildV rfl 52 [(0, .tmp 21)] rfl [(0, .slice tA turns.length tc)] (by kernel_rfl) _ (built_wy _ _ _) ?_) | (go_at_call 13; refine HW.out.mono ?_; clear HW; rintro _ _ ⟨y1, tA1, tc1, mA1, mc1, rfl, rfl, hat⟩) | (refine wpList_store_new rfl 52 (.tmp 5) (.tmp 23) rfl _ _ (wyRow tA1 tc1 mA1 mc1 R) _ rfl rfl rfl (by kernel_rfl) rfl (by simp [wyRow, Value.oneCell']) ?_))
      obtain ⟨b5, hb5⟩ : ∃ b, b = y1.val.heap.size := ⟨_, rfl⟩
      obtain ⟨y2, hy2⟩ : ∃ y2 : Ext w1, y1.val.alloc (.cells (wyRow tA1 tc1 mA1 mc1 R) 52) = y2.val := Ext.of (y1.below.alloc (y1.le (Nat.le_refl _)) _)
      have hrow5 : Hid (y2.val.heap[b5]? = some (.cells (wyRow tA1 tc1 mA1 mc1 R) 52 (0, 0))) := by show _ = _; rw [← hy2, hb5]; exact heap_alloc_new _ _
      have hmet : Hid (Lies y2.val 1 encI mA1 R.met) := by
        show Lies _ _ _ _ _
        rw [← hy2]
        obtain ⟨A', c', he, _, _, h3⟩ := hat.met.lies encI_len
        cases he
        exact h3.alloc _
      rw [hy2, ← hb5]
      clear hy2 hb5 hat c15
      obtain ⟨q, hq, hp⟩ := hpath
      have HP := hide hp
      have HQ := hide hq
      clear hq hp
      obtain ⟨L, hL⟩ : ∃ L, L = codeOf m.body := ⟨_, rfl⟩
      obtain ⟨M, hML⟩ : ∃ M, M = L.length := ⟨_, rfl⟩
      have hOf := (codeOf_any m y2.val (hM1.out.ext y2) (by have := HN.out; omega)).over y2
      have hbare : Hid (∀ I ∈ L, ∃ t, I.s = bare t) := by
        intro I hI
        rw [hL, codeOf, List.mem_append] at hI
        rcases hI with hI | hI
        · obtain ⟨t, ht, _⟩ := code_in w1 m.body 0 hM1.out.stmts I hI
          exact ⟨t, ht⟩
        · obtain rfl : I = _ := by simpa using hI
          exact ⟨St.zero, rfl⟩
      have hM4 : M ≤ 400000000000 := by rw [hML, hL]; have := HN.out; omega
      rw [← hL] at HP HQ hOf
      rw [← hML] at hOf
      have HOf : Hid (Calls Try.prog 8 #[.agg m.cells.toArray] y2.val fun e w' => ∃ (x : Ext w1) (A : Option Addr) (c : Nat), (∃ y' : Ext y2.val, y'.val = x.val) ∧ e = .returned (.slice A M c) ∧ w' = x.val ∧ M ≤ c ∧ c ≤ maxLen ∧ Lies x.val 25 Ins.cells A L) := hOf
      have HML := hide hML
      clear hL hML hOf
      go_upto_region 5 with (first | (refine wpList_load_row rfl 30 (.tmp 2) rfl w.heap.size rfl 30 m.cells.toArray (0, 0) _ (hblkz.out y2) Try.underlying30 rfl (by rw [List.size_toArray, Me.cells_len]; kernel_rfl) ?_) | (go_at_call 8; refine HOf.out.mono ?_; clear HOf; rintro _ _ ⟨y3, cA, cc, hy3, rfl, rfl, l1, l2, l3⟩))
      obtain ⟨w6, hw6⟩ : ∃ w6, w6 = y3.val := ⟨_, rfl⟩
      have hB6 : Hid (Below w1.heap.size w1 w6) := by show Below _ _ _; rw [hw6]; exact y3.below
      have hL6 : Hid (Lies w6 25 Ins.cells cA L) := by show Lies _ _ _ _ _; rw [hw6]; exact l3
      have hrow6 : Hid (w6.heap[b5]? = some (.cells (wyRow tA1 tc1 mA1 mc1 R) 52 (0, 0))) := by
        obtain ⟨y', hy'⟩ := hy3
        show _ = _
        rw [hw6, ← hy']
        exact (y'.below.block _ (row_lt hrow5.out)).trans hrow5.out
      have hmet6 : Hid (Lies w6 1 encI mA1 R.met) := by
        obtain ⟨y', hy'⟩ := hy3
        show Lies _ _ _ _ _
        rw [hw6, ← hy']
        exact hmet.out.ext y'
      rw [← hw6]
      have hcc : M ≤ cc := l1
      clear hw6 l1 l2 l3 hy3 hrow5 hmet
      go_upto_region 6 with (first | (refine wpList_buildV rfl 52 [(0, .tmp 26)] rfl [(0, .slice tA turns.length tc)] (by kernel_rfl) _ (built_wy _ _ _) ?_) | (refine wpList_store_new rfl 52 (.tmp 7) (.tmp 27) rfl _ _ (#[.slice tA turns.length tc, .slice none 0 0, .bool false]) _ rfl rfl rfl (by kernel_rfl) rfl (by simp [Value.oneCell']) ?_))
      obtain ⟨z, hz⟩ : ∃ z : Ext w6, w6.alloc (.cells #[.slice tA turns.length tc, .slice none 0 0, .bool false] 52) = z.val := Ext.of ((Below.refl _ _).alloc (Nat.le_refl _) _)
      have hrow7 : Hid (z.val.heap[w6.heap.size]? = some (.cells #[.slice tA turns.length tc, .slice none 0 0, .bool false] 52 (0, 0))) := by show _ = _; rw [← hz]; exact heap_alloc_new _ _
      rw [hz]
      clear hz
      have HNx : Hid (Gives Try.prog 11 #[.slice cA M cc, .int .i64 0] z.val (.int .i64 q)) := by
        have h := codeNext_any z.val cA cc L 0 (by have := HML.out; omega) (hL6.out.ext z)
        rw [← HML.out] at h
        have e : next L 0 = q := HQ.out
        rw [e] at h
        exact h
      go_wp2_with (go_at_call 11; refine (HNx.out.over z).mono ?_; rintro _ _ ⟨z1, hz1, rfl, rfl⟩)
      have hst : Hid (Stands w6 L R 0 q turns tA tc z1.val) := by
        obtain ⟨y', hy'⟩ := hz1
        refine ⟨Nat.zero_le _, HP.out, HT.out.1.below ?_, HT.out.2.1, HT.out.2.2, ?_⟩
        · exact hB1.out.trans (hB6.out.mono hB1.out.size)
        · rw [← hy']; exact (y'.below.block _ (row_lt hrow7.out)).trans hrow7.out
      clear hz1 hrow7
      refine cw_loop w6 L M HML hM4 cA cc hcc hL6 hbare b5 tA1 tc1 mA1 mc1 R hrow6 hmet6 hRm.out q turns tA tc z1 hst _ _ _ _ _ _ _ _ _ _ _ _ _ _ _ _ _ _ _ _ _ _ _ _ _ _ _ _ _ _ _ _ _ _ _ _ _ _ _ _ _ _ _ _ _ _ _ _ _ _ _ _ _ _ _ _ _ _ _ _ _ _ _ _ _ _ _ _ _ _ _ _ _ _ _ _ _ _ _ _ _ _ _ _ _ _ _ _ _ _ _ _ _ _ _ _ _ _ _ _ _ _ _ _ _ _ _ _ _ _ _ _ _ _ _ _ _ _ _ _ _ _ _ _ _ _ _ _ _ _ _ _ _ _ _ _ _ _ _ _ _ _ _ _ _ _ _ _ _ _ _ _ _ _ ?_ ?_
      · intro r4 r10 r30 r31 r32 r33 r34 r35 r36 r37 r38 r39 r40 r41 r42 r43 r44 r45 r46 r47 r48 r49 r50 r51 r52 r53 r54 r55 r56 r57 r58 r59 r60 r61 r62 r63 r64 r65 r66 r67 r68 r69 r70 r71 r72 r73 r74 r75 r76 r77 r78 r79 r80 r81 r82 r83 r84 r85 r86 r87 r88 r89 r90 r91 r92 r93 r94 r95 r96 r97 r98 r99 r100 r101 r102 r103 r104 r105 r106 r107 r108 r109 r110 r111 r112 r113 r114 r115 r116 r117 r118 r119 r120 r121 r122 r123 r124 r125 r126 r127 r128 r129 r130 r131 r132 r133 r134 r135 r136 r137 j z2 hRb hj
        have e2 : z2.val.cell? ⟨b5, 2, none⟩ = some (.bool false) := by
          have h := (row_cell (cs := [_, _, _]) ((z2.below.block _ (row_lt hrow6.out)).trans hrow6.out) (j := 2) rfl).1
          rw [hRb] at h
          exact h
        have e1 : z2.val.cell? ⟨b5, 1, none⟩ = some (.slice mA1 R.met.length mc1) := (row_cell (cs := [_, _, _]) ((z2.below.block _ (row_lt hrow6.out)).trans hrow6.out) (j := 1) rfl).1
        have hj2 : ((j : Int) == (M : Int) - 1) = true := by simp; omega
        have hM0 : 1 ≤ (M : Int) := by omega
        clear hRb
        go_wp2_with (go_at_call 7; refine ((awake_any z2.val).over z2).mono ?_; rintro _ _ ⟨y9, _, rfl, rfl⟩)
        go_ret
        exact ⟨rfl, hB1.out.trans ((hB6.out.trans (y9.below.mono hB6.out.size)).mono hB1.out.size)⟩
      · intro r8 r9 r10 r30 r31 r32 r33 r34 r35 r36 r37 r38 r39 r40 r41 r42 r43 r44 r45 r46 r47 r48 r49 r50 r51 r52 r53 r54 r55 r56 r57 r58 r59 r60 r61 r62 r63 r64 r65 r66 r67 r68 r69 r70 r71 r72 r73 r74 r75 r76 r77 r78 r79 r80 r81 r82 r83 r84 r85 r86 r87 r88 r89 r90 r91 r92 r93 r94 r95 r96 r97 r98 r99 r100 r101 r102 r103 r104 r105 r106 r107 r108 r109 r110 r111 r112 r113 r114 r115 r116 r117 r118 r119 r120 r121 r122 r123 r124 r125 r126 r127 r128 r129 r130 r131 r132 r133 r134 r135 r136 r137 z2
        go_ret
        exact ⟨rfl, hB1.out.trans ((hB6.out.trans (z2.below.mono hB6.out.size)).mono hB1.out.size)⟩
  · have hgt : ((100 : Int) < (turns.length : Int)) := by omega
    go_enter Try.func5, Try.ntmps5
    go_upto_region 1 with fail
    obtain ⟨w1, hw1⟩ : ∃ w1, w1 = w.alloc (.cells m.cells.toArray 30) := ⟨_, rfl⟩
    rw [← hw1]
    have hB1 : Hid (Below w.heap.size w w1) := by
      show Below _ _ _
      rw [hw1]
      exact (Below.refl _ _).alloc (Nat.le_refl _) _
    have hsz : w.heap.size < w1.heap.size := by rw [hw1]; simp
    have hblk : Hid (w1.heap[w.heap.size]? = some (.cells m.cells.toArray 30 (0, 0))) := by rw [hw1]; exact heap_alloc_new w _
    have hblkz : Hid (∀ z : Ext w1, z.val.heap[w.heap.size]? = some (.cells m.cells.toArray 30 (0, 0))) := fun z => (z.below.block _ hsz).trans hblk.out
    have hM1 := hide (HM.out.ext ⟨w1, hB1.out⟩)
    clear hw1
    go_upto_region 3 with (first | (refine wpList_load_row rfl 30 (.tmp 2) rfl w.heap.size rfl 30 m.cells.toArray (0, 0) _ hblk.out Try.underlying30 rfl (by rw [List.size_toArray, Me.cells_len]; kernel_rfl) ?_) | (go_at_call 6; refine ((lawHeavy_any m w1 hM1.out).over (Ext.here w1)).mono ?_; rintro _ _ ⟨y, u, hy, rfl, rfl⟩; cases u))
    all_goals
      refine ((awake_any y.val).over y).mono ?_
      rintro _ _ ⟨y2, hy2, rfl, rfl⟩
      go_wp2_with fail
      go_ret
      exact ⟨rfl, hB1.out.trans (y2.below.mono hB1.out.size)⟩
end Go.Proofs.Ytlgnjbocdmbeiaa
