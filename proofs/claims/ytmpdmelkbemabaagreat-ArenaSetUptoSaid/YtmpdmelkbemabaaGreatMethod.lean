/- The walk of arena.method. -/
import Derived.Test.YtmpdmelkbemabaaGreatRows
import Derived.Test.YtmpdmelkbemabaaGreatSlotP
import Derived.BigGuardPart
import Derived.Shelf.Abstract
import Derived.Test.YtmpdmelkbemabaaGreatBody1
set_option linter.unusedSimpArgs false
set_option linter.unusedVariables false
namespace Go.Proofs.YtmpdmelkbemabaaGreat
open Go.RowKit Go.Proofs.Grow
attribute [local go_sem] Oper.semAt_some

set_option maxHeartbeats 2000000 in
set_option maxRecDepth 100000 in
theorem vars_push (A : Option Addr) (cap : Nat) (l : List Va) (c m v p f : Int) :
    Pushes Tryz.prog 31 (fun y => #[.slice A l.length cap, .agg (noteCells c m v p).toArray, .int .i64 f, y]) Sl.args (RdV A l) isTrue isFalse (slV A c m f l) := by
  intro n ln J Jx pre O W hH h0
  have HH := hide hH
  clear hH
  unfold noteCells
  refine callsIn_of_wp Tryz.func31 rfl trivial ?_ rfl
  simp only [Tryz.ntmps31, List.size_toArray, List.length_cons, List.length_nil, Nat.reduceAdd, Nat.reduceSub, Array.replicate_succ, Array.replicate_zero, List.push_toArray, List.append_toArray, List.nil_append, List.cons_append]
  gi_wp2
  have hsz : W.heap.size < (W.alloc (.cells (noteCells c m v p).toArray 62)).heap.size := by simp
  have hbx : Hid ((W.alloc (.cells (noteCells c m v p).toArray 62)).heap[W.heap.size]? = some (.cells (noteCells c m v p).toArray 62 (0, 0))) := heap_alloc_new W _
  have hk0 : Hid (KeepsBut O W (W.alloc (.cells (noteCells c m v p).toArray 62))) := KeepsBut.alloc W _
  have hj0 : Hid (J pre O (W.alloc (.cells (noteCells c m v p).toArray 62))) := HH.out.turn _ _ _ _ h0 (KeepsBut.alloc W _)
  have hO0 : Hid (∀ k, O k → k < W.heap.size) := HH.out.there _ _ _ h0
  have hA0 : Hid (∀ i, i < l.length → ∃ b off, A = some ⟨b, off, none⟩ ∧ b < W.heap.size) := fun i hi => by
    obtain ⟨b, off, hA, hb, _⟩ := (HH.out.read _ _ _ h0).at_ i hi
    exact ⟨b, off, hA, hb⟩
  have hl63 : l.length ≤ 9223372036854775807 := by have := (HH.out.read _ _ _ h0).len; unfold maxLen at this; omega
  unfold noteCells at hsz hbx hk0 hj0
  clear h0
  gi_loopw [9, 12] (fun s9 s12 wr => ∃ (k : Nat) (v p : Int) (O' : Nat → Prop), k ≤ l.length ∧ s12 = .int .i64 k ∧ W.heap.size < wr.heap.size ∧
    Hid (SubO O W.heap.size O' ∧ ¬ O' W.heap.size ∧ KeepsBut O W wr ∧ J (pre ++ slV A c m f (l.take k)) O' wr ∧ wr.heap[W.heap.size]? = some (.cells (noteCells c m v p).toArray 62 (0, 0)))) (fun _ s12 _ => l.length - (intOf s12).toNat)
  case atStart => exact ⟨0, v, p, O, Nat.zero_le _, rfl, hsz, SubO.refl _ _, fun h => Nat.lt_irrefl _ (hO0.out _ h), hk0.out, by simpa [slV] using hj0.out, hbx.out⟩
  case round =>
    obtain ⟨k, v, p, O', hk, rfl, hsw, hF⟩ := hrel
    clear hsz hbx hk0 hj0
    by_cases hlt : k < l.length
    · obtain ⟨b, off, hA, hb, hc⟩ := (HH.out.read _ _ _ hF.out.2.2.2.1).at_ k hlt
      have hlt' : (k : Int) < (l.length : Int) := by omega
      obtain ⟨b', off', hA', hb0⟩ := hA0.out k hlt
      obtain ⟨rfl, rfl⟩ : b' = b ∧ off' = off := by rw [hA] at hA'; simpa using hA'.symm
      have HT := slV_take A c m f l k hlt
      have HP := hide (slV_prefix A c m f l (k + 1))
      obtain ⟨e, he⟩ : ∃ e, e = l[k] := ⟨_, rfl⟩
      rw [← he] at hc HT
      obtain ⟨x, hx⟩ : ∃ x : Sl, x = ⟨bkA A, ofA A + k * 13 + 1, false, c, m, IntKind.i64.wrap (f + k), e.pos, e.ty⟩ := ⟨_, rfl⟩
      rw [← hx] at HT
      have HX := hide hx
      have HT9 := hide HT
      obtain ⟨pos, hpos⟩ : ∃ q, e.pos = q := ⟨_, rfl⟩
      rw [hpos] at hc
      have hpos9 := hide hpos
      have hlt9 := hide hlt
      obtain ⟨B, hB⟩ : ∃ B, W.heap.size = B := ⟨_, rfl⟩
      rw [hB] at hb0 hsw ⊢
      have hB9 := hide hB
      have hne : b' ≠ B := by omega
      have hA9 := hide hA
      subst hA
      clear hA' hlt hpos hB he hx HT
      gi_wp2
      let S : World → Prop := fun X => (∃ v' p', X.heap[B]? = some (.cells (noteCells c m v' p').toArray 62 (0, 0))) ∧ KeepsBut (fun k => k = B) wr X
      have hSc : ∀ X, S X → X.cell? ⟨b', off' + k * 13 + 12, none⟩ = some (.int .i64 pos) := fun X h => (h.2.cell hb hne).trans hc
      have hS : S wr.drew := ⟨⟨v, p, by rw [← hB9.out]; exact hF.out.2.2.2.2⟩, KeepsBut.drew wr⟩
      refine wpIn_region_till S (by kernel_rfl) ?_
      simp only [List.size_toArray, List.length_cons, List.length_nil, Nat.reduceAdd]
      refine TillIn.take (i := 0) (v := ?_) (fun _ => trivial) rfl (by kernel_rfl) (fun _ _ _ h => h) hS ?_ rfl ?_
      rotate_left
      · intro X hSX
        skip
        go_simp
        all_goals with_reducible rfl
      try simp only [Act.put, List.getElem_toArray, List.getElem_cons_succ, List.getElem_cons_zero, List.setIfInBounds_toArray, List.set_cons_zero, List.set_cons_succ]
      refine TillIn.take (i := 1) (v := ?_) (fun _ => trivial) rfl (by kernel_rfl) (fun _ _ _ h => h) hS ?_ rfl ?_
      rotate_left
      · intro X hSX
        skip
        go_simp
        all_goals with_reducible rfl
      try simp only [Act.put, List.getElem_toArray, List.getElem_cons_succ, List.getElem_cons_zero, List.setIfInBounds_toArray, List.set_cons_zero, List.set_cons_succ]
      refine TillIn.take (i := 2) (v := ?_) (fun _ => trivial) rfl (by kernel_rfl) (fun _ _ _ h => h) hS ?_ rfl ?_
      rotate_left
      · intro X hSX
        skip
        go_simp
        all_goals with_reducible rfl
      try simp only [Act.put, List.getElem_toArray, List.getElem_cons_succ, List.getElem_cons_zero, List.setIfInBounds_toArray, List.set_cons_zero, List.set_cons_succ]
      obtain ⟨V, hV0⟩ : ∃ V, V = IntKind.i64.wrap (f + k) := ⟨_, rfl⟩
      rw [← hV0]
      have hV := hide hV0
      clear hV0
      refine TillIn.take (i := 3) (v := ?_) (fun _ => trivial) rfl (by kernel_rfl) (fun _ _ _ h => h) hS ?_ rfl ?_
      rotate_left
      · intro X hSX
        skip
        go_simp
        all_goals with_reducible rfl
      try simp only [Act.put, List.getElem_toArray, List.getElem_cons_succ, List.getElem_cons_zero, List.setIfInBounds_toArray, List.set_cons_zero, List.set_cons_succ]
      refine TillIn.take (i := 4) (v := ?_) (fun _ => trivial) rfl (by kernel_rfl) (fun _ _ _ h => h) hS ?_ rfl ?_
      rotate_left
      · intro X hSX
        skip
        go_simp
        all_goals with_reducible rfl
      try simp only [Act.put, List.getElem_toArray, List.getElem_cons_succ, List.getElem_cons_zero, List.setIfInBounds_toArray, List.set_cons_zero, List.set_cons_succ]
      refine TillIn.take (i := 5) (v := ?_) (fun _ => trivial) rfl (by kernel_rfl) (fun _ _ _ h => h) hS ?_ rfl ?_
      rotate_left
      · intro X hSX
        skip
        go_simp
        all_goals with_reducible rfl
      try simp only [Act.put, List.getElem_toArray, List.getElem_cons_succ, List.getElem_cons_zero, List.setIfInBounds_toArray, List.set_cons_zero, List.set_cons_succ]
      refine TillIn.take (i := 6) (v := ?_) (fun _ => trivial) rfl (by kernel_rfl) (fun _ _ _ h => h) hS ?_ rfl ?_
      rotate_left
      · intro X hSX
        skip
        go_simp
        all_goals with_reducible rfl
      try simp only [Act.put, List.getElem_toArray, List.getElem_cons_succ, List.getElem_cons_zero, List.setIfInBounds_toArray, List.set_cons_zero, List.set_cons_succ]
      refine TillIn.take (i := 7) (v := ?_) (fun _ => trivial) rfl (by kernel_rfl) (fun _ _ _ h => h) hS ?_ rfl ?_
      rotate_left
      · intro X hSX
        have h7 := hSc X hSX
        go_simp
        all_goals with_reducible rfl
      try simp only [Act.put, List.getElem_toArray, List.getElem_cons_succ, List.getElem_cons_zero, List.setIfInBounds_toArray, List.set_cons_zero, List.set_cons_succ]
      refine TillIn.take (i := 8) (v := ?_) (fun _ => trivial) rfl (by kernel_rfl) (fun _ _ _ h => h) hS ?_ rfl ?_
      rotate_left
      · intro X hSX
        skip
        go_simp
        all_goals with_reducible rfl
      try simp only [Act.put, List.getElem_toArray, List.getElem_cons_succ, List.getElem_cons_zero, List.setIfInBounds_toArray, List.set_cons_zero, List.set_cons_succ]
      have hrow : wr.heap[B]? = some (.cells (noteCells c m v p).toArray 62 (0, 0)) := by rw [← hB9.out]; exact hF.out.2.2.2.2
      obtain ⟨x2, f2⟩ := row_cell hrow (j := 2) rfl
      obtain ⟨w1, hw1⟩ : ∃ w1, w1 = (wr.setCell ⟨B, 2, none⟩ (.int .i64 V)).drew := ⟨_, rfl⟩
      have hrow1 : w1.heap[B]? = some (.cells (noteCells c m V p).toArray 62 (0, 0)) := by rw [hw1]; exact row_store hrow 2 (.int .i64 V)
      have hk1 : KeepsBut (fun k => k = B) wr w1 := by rw [hw1]; exact KeepsBut.trans' (O := fun k => k = B) (KeepsBut.setCell wr ⟨B, 2, none⟩ _ rfl) (KeepsBut.drew _)
      have hS1 : S w1 := ⟨⟨_, _, hrow1⟩, hk1⟩
      have hrow9 := hide hrow1
      clear hS hrow hrow1
      refine TillIn.one (i := 9) rfl (by kernel_rfl) rfl ?_
      intro K hK
      go_simp
      rw [← hw1]
      refine hK _ _ hS1 ?_
      clear hK K hw1 x2 f2
      have hS := hS1
      refine TillIn.take (i := 10) (v := ?_) (fun _ => trivial) rfl (by kernel_rfl) (fun _ _ _ h => h) hS ?_ rfl ?_
      rotate_left
      · intro X hSX
        skip
        go_simp
        all_goals with_reducible rfl
      try simp only [Act.put, List.getElem_toArray, List.getElem_cons_succ, List.getElem_cons_zero, List.setIfInBounds_toArray, List.set_cons_zero, List.set_cons_succ]
      have hrow : w1.heap[B]? = some (.cells (noteCells c m V p).toArray 62 (0, 0)) := hrow9.out
      obtain ⟨x14, f14⟩ := row_cell hrow (j := 14) rfl
      obtain ⟨w2, hw2⟩ : ∃ w2, w2 = w1.setCell ⟨B, 14, none⟩ (.int .i64 pos) := ⟨_, rfl⟩
      have hrow2 : w2.heap[B]? = some (.cells (noteCells c m V pos).toArray 62 (0, 0)) := by rw [hw2]; exact row_store hrow 14 (.int .i64 pos)
      have hk2 : KeepsBut (fun k => k = B) wr w2 := by rw [hw2]; exact hk1.trans' (KeepsBut.setCell w1 ⟨B, 14, none⟩ _ rfl)
      have hS2 : S w2 := ⟨⟨_, _, hrow2⟩, hk2⟩
      have hrowB := hide hrow2
      have hk9 := hide hk2
      clear hS hrow hrow2 hk1 hk2
      refine TillIn.one (i := 11) rfl (by kernel_rfl) rfl ?_
      intro K hK
      go_simp
      rw [← hw2]
      refine hK _ _ hS2 ?_
      clear hK K hw2 x14 f14 hS2 hS1
      refine TillIn.done (by kernel_rfl) ?_ _
      clear hrow9 hSc S w1
      gi_wp2
      have hXc : Hid (x.args = #[.agg #[.pointer (some ⟨b', off' + k * 13 + 1, none⟩), .bool false, .int .i64 c, .int .i64 m, .int .i64 V, .int .i64 0, .string ⟨#[]⟩, .int .i64 0, .int .i64 0, .int .i64 0, .int .i64 0, .int .i64 0, .int .i64 0, .int .i64 0, .int .i64 0, .int .i64 0, .int .i64 pos]]) := by
        show _ = _
        rw [HX.out, hpos9.out, ← hV.out]; rfl
      have hJ2 : Hid (J (pre ++ slV (some ⟨b', off', none⟩) c m f (l.take k)) O' w2.drew) :=
        HH.out.turn _ _ _ _ hF.out.2.2.2.1 ((hk9.out.trans' (KeepsBut.drew w2)).mono fun j _ hj => by subst hj; rw [hB9.out]; exact ⟨Nat.le_refl _, hB9.out ▸ hF.out.2.1⟩)
      have hY := (HH.out.round (n - 1) _ x O' w2.drew hJ2.out (by rw [← HT9.out]; exact HP.out))
      rw [hXc.out] at hY
      let S : World → Prop := fun X => X.heap[B]? = some (.cells (noteCells c m V pos).toArray 62 (0, 0))
      have hS : S w2.drew := hrowB.out
      refine wpIn_region_till S (by kernel_rfl) ?_
      simp only [List.size_toArray, List.length_cons, List.length_nil, Nat.reduceAdd]
      refine TillIn.take (i := 0) (v := ?_) (fun _ => trivial) rfl (by kernel_rfl) (fun _ _ _ h => h) hS ?_ rfl ?_
      rotate_left
      · intro X hSX
        skip
        go_simp
        all_goals with_reducible rfl
      try simp only [Act.put, List.getElem_toArray, List.getElem_cons_succ, List.getElem_cons_zero, List.setIfInBounds_toArray, List.set_cons_zero, List.set_cons_succ]
      refine TillIn.take (i := 1) (v := ?_) (fun _ => trivial) rfl (by kernel_rfl) (fun _ _ _ h => h) hS ?_ rfl ?_
      rotate_left
      · intro X hSX
        skip
        go_simp
        all_goals with_reducible rfl
      try simp only [Act.put, List.getElem_toArray, List.getElem_cons_succ, List.getElem_cons_zero, List.setIfInBounds_toArray, List.set_cons_zero, List.set_cons_succ]
      refine TillIn.take (i := 2) (v := ?_) (fun _ => trivial) rfl (by kernel_rfl) (fun _ _ _ h => h) hS ?_ rfl ?_
      rotate_left
      · intro X hSX
        skip
        go_simp
        all_goals with_reducible rfl
      try simp only [Act.put, List.getElem_toArray, List.getElem_cons_succ, List.getElem_cons_zero, List.setIfInBounds_toArray, List.set_cons_zero, List.set_cons_succ]
      refine TillIn.take (i := 3) (v := ?_) (fun _ => trivial) rfl (by kernel_rfl) (fun _ _ _ h => h) hS ?_ rfl ?_
      rotate_left
      · intro X hSX
        skip
        go_simp
        all_goals with_reducible rfl
      try simp only [Act.put, List.getElem_toArray, List.getElem_cons_succ, List.getElem_cons_zero, List.setIfInBounds_toArray, List.set_cons_zero, List.set_cons_succ]
      refine TillIn.take (i := 4) (v := ?_) (fun _ => trivial) rfl (by kernel_rfl) (fun _ _ _ h => h) hS ?_ rfl ?_
      rotate_left
      · intro X hSX
        skip
        go_simp
        all_goals with_reducible rfl
      try simp only [Act.put, List.getElem_toArray, List.getElem_cons_succ, List.getElem_cons_zero, List.setIfInBounds_toArray, List.set_cons_zero, List.set_cons_succ]
      refine TillIn.take (i := 5) (v := .agg (noteCells c m V pos).toArray) (fun _ => trivial) rfl (by kernel_rfl) (fun _ _ _ h => h) hS (fun X hX => run_load_block (g := B) rfl rfl hX Tryz.underlying62 rfl (by kernel_rfl)) rfl ?_
      unfold noteCells
      try simp only [Act.put, List.getElem_toArray, List.getElem_cons_succ, List.getElem_cons_zero, List.setIfInBounds_toArray, List.set_cons_zero, List.set_cons_succ]
      refine TillIn.take (i := 6) (v := ?_) (fun _ => trivial) rfl (by kernel_rfl) (fun _ _ _ h => h) hS ?_ rfl ?_
      rotate_left
      · intro X hSX
        skip
        go_simp
        all_goals with_reducible rfl
      try simp only [Act.put, List.getElem_toArray, List.getElem_cons_succ, List.getElem_cons_zero, List.setIfInBounds_toArray, List.set_cons_zero, List.set_cons_succ]
      obtain ⟨fn, tmps, assign, body, hy, hR⟩ := hY
      refine TillIn.one (i := 7) rfl (by kernel_rfl) rfl ?_
      intro K hK
      go_simp
      refine ⟨fun h => (by simp [Fence.wide] at h), ?_⟩
      have hBO : ¬ O' B := hB9.out ▸ hF.out.2.1
      have hB2 : B < w2.drew.heap.size := row_lt (show w2.drew.heap[B]? = _ from hS)
      have HN := hide (And.intro hBO hB2)
      have hkW : Hid (KeepsBut O W w2.drew) := hF.out.2.2.1.trans ((hk9.out.trans' (KeepsBut.drew w2)).mono fun j _ hj => by subst hj; exact .inr rfl) (O1 := fun k => O' k ∨ k = B) (fun j hj => by
        rcases hj with hj | rfl
        · exact hF.out.1 j hj
        · rw [hB9.out]; exact .inr (Nat.le_refl _))
      have hwle : W.heap.size ≤ w2.drew.heap.size := hkW.out.size
      have hWL := hide hwle
      clear hBO hB2 hwle hJ2 hk9
      refine hR.mono ?_
      rintro e W3 ⟨O3, hs3, hk3, ⟨he, hJ3⟩ | ⟨he, q, hq, hJ3⟩⟩
      · obtain rfl : e = .returned (.bool true) := he
        have hS3 : S W3 := (hk3.block B HN.out.2 HN.out.1).trans hS
        have HG : Hid (SubO O W.heap.size O3 ∧ ¬ O3 W.heap.size ∧ KeepsBut O W W3 ∧ J (pre ++ slV (some ⟨b', off', none⟩) c m f (l.take (k + 1))) O3 W3 ∧ W3.heap[W.heap.size]? = some (.cells (noteCells c m V pos).toArray 62 (0, 0))) := by
          refine ⟨hF.out.1.trans hs3 hWL.out, fun h => ?_, hkW.out.trans hk3 hF.out.1, ?_, ?_⟩
          · rcases hs3 _ h with h' | h'
            · exact hF.out.2.1 h'
            · rw [hB9.out] at h'; have := HN.out.2; omega
          · rw [HT9.out, ← List.append_assoc]; exact hJ3
          · rw [hB9.out]; exact hS3
        have hsw3 : W.heap.size < W3.heap.size := row_lt HG.out.2.2.2.2
        clear hJ3 hs3 hk3 hS
        refine hK _ _ hS3 ?_
        clear hK K hy hR
        have hS := hS3
        refine TillIn.take (i := 8) (v := ?_) (fun _ => trivial) rfl (by kernel_rfl) (fun _ _ _ h => h) hS ?_ rfl ?_
        rotate_left
        · intro X hSX
          skip
          go_simp
          all_goals with_reducible rfl
        try simp only [Act.put, List.getElem_toArray, List.getElem_cons_succ, List.getElem_cons_zero, List.setIfInBounds_toArray, List.set_cons_zero, List.set_cons_succ]
        refine TillIn.done (by kernel_rfl) ?_ _
        clear hS hS3 S
        gi_wp2
        go_roundw
        case rel =>
          rw [← hB9.out]
          exact ⟨k + 1, V, pos, O3, hlt9.out, by go_num, hsw3, HG⟩
        case measure => have := hlt9.out; simp [intOf]; omega
      · obtain rfl : e = .returned (.bool false) := he
        have hS3 : S W3 := (hk3.block B HN.out.2 HN.out.1).trans hS
        have HG : Hid (SubO O W.heap.size O3 ∧ KeepsBut O W W3 ∧ ∃ q, q <+: slV (some ⟨b', off', none⟩) c m f l ∧ Jx (pre ++ q) O3 W3) := by
          refine ⟨hF.out.1.trans hs3 hWL.out, hkW.out.trans hk3 hF.out.1, slV (some ⟨b', off', none⟩) c m f (l.take k) ++ q, ?_, ?_⟩
          · refine List.IsPrefix.trans ?_ HP.out
            rw [HT9.out]
            exact (List.prefix_append_right_inj _).2 hq
          · rw [← List.append_assoc]; exact hJ3
        clear hJ3 hs3 hk3 hS
        refine hK _ _ hS3 ?_
        clear hK K hy hR
        have hS := hS3
        refine TillIn.take (i := 8) (v := ?_) (fun _ => trivial) rfl (by kernel_rfl) (fun _ _ _ h => h) hS ?_ rfl ?_
        rotate_left
        · intro X hSX
          skip
          go_simp
          all_goals with_reducible rfl
        try simp only [Act.put, List.getElem_toArray, List.getElem_cons_succ, List.getElem_cons_zero, List.setIfInBounds_toArray, List.set_cons_zero, List.set_cons_succ]
        refine TillIn.done (by kernel_rfl) ?_ _
        clear hS hS3 S
        gi_wp2
        go_ret
        exact ⟨O3, HG.out.1, HG.out.2.1, .inr ⟨rfl, HG.out.2.2⟩⟩
    · obtain rfl : k = l.length := by omega
      have hlt' : ¬ (l.length : Int) < (l.length : Int) := by omega
      have HG : Hid (SubO O W.heap.size O' ∧ KeepsBut O W wr ∧ J (pre ++ slV A c m f l) O' wr) := ⟨hF.out.1, hF.out.2.2.1, by have := hF.out.2.2.2.1; rwa [List.take_length] at this⟩
      clear hF
      gi_wp2
      go_ret
      exact ⟨O', HG.out.1, HG.out.2.1, .inl ⟨rfl, HG.out.2.2⟩⟩
end Go.Proofs.YtmpdmelkbemabaaGreat
set_option linter.unusedSimpArgs false
set_option linter.unusedVariables false
namespace Go.Proofs.YtmpdmelkbemabaaGreat
open Go.RowKit Go.Proofs.Grow
attribute [local go_sem] Oper.semAt_some

/-- Where arena.method stands: what was handed round, its three boxes. -/
structure MSt (l : Nat) (J : List Sl → (Nat → Prop) → World → Prop) (pre : List Sl) (O : Nat → Prop) (W : World) (c k v p : Int) (r : Bool) (O' : Nat → Prop) (X : World) : Prop where
  sub : SubO O W.heap.size O'
  keep : KeepsBut O W X
  j : J pre O' X
  n4 : ¬ O' W.heap.size
  n5 : ¬ O' (W.heap.size + 1)
  n6 : ¬ O' (W.heap.size + 2)
  r4 : X.heap[W.heap.size]? = some (.cells (noteCells c k v p).toArray 62 (0, 0))
  r5 : X.heap[W.heap.size + 1]? = some (.cells #[.func (.yield l) #[] #[]] 64 (0, 0))
  r6 : X.heap[W.heap.size + 2]? = some (.cells #[.bool r] 4 (0, 0))

section
variable {l : Nat} {J Jx : List Sl → (Nat → Prop) → World → Prop} {pre xs : List Sl} {O O' O2 : Nat → Prop} {W X Y : World} {c k v p v' p' : Int} {r r' : Bool}
theorem MSt.lt4 (h : MSt l J pre O W c k v p r O' X) : W.heap.size < X.heap.size := row_lt h.r4
theorem MSt.lt5 (h : MSt l J pre O W c k v p r O' X) : W.heap.size + 1 < X.heap.size := row_lt h.r5
theorem MSt.lt6 (h : MSt l J pre O W c k v p r O' X) : W.heap.size + 2 < X.heap.size := row_lt h.r6
/-- Behind a call that handed xs round. -/
theorem MSt.yes (h : MSt l J pre O W c k v p r O' X) (hs : SubO O' X.heap.size O2) (hk : KeepsBut O' X Y) (hJ : Jx xs O2 Y) : MSt l Jx xs O W c k v p r O2 Y := by
  have a4 := h.lt4
  have a5 := h.lt5
  have a6 := h.lt6
  exact ⟨h.sub.trans hs h.keep.size, h.keep.trans hk h.sub, hJ, fun e => (hs _ e).elim h.n4 (by omega), fun e => (hs _ e).elim h.n5 (by omega), fun e => (hs _ e).elim h.n6 (by omega),
    (hk.block _ a4 h.n4).trans h.r4, (hk.block _ a5 h.n5).trans h.r5, (hk.block _ a6 h.n6).trans h.r6⟩
/-- Behind an own step. -/
theorem MSt.own (h : MSt l J pre O W c k v p r O' X) (hT : ∀ s O A B, J s O A → Turns W.heap.size O A B → J s O B) (hk : KeepsBut (fun j => j = W.heap.size ∨ j = W.heap.size + 2) X Y)
    (r4 : Y.heap[W.heap.size]? = some (.cells (noteCells c k v' p').toArray 62 (0, 0))) (r6 : Y.heap[W.heap.size + 2]? = some (.cells #[.bool r'] 4 (0, 0))) : MSt l J pre O W c k v' p' r' O' Y := by
  refine ⟨h.sub, h.keep.trans hk fun j hj => ?_, hT _ _ _ _ h.j (hk.mono fun j _ hj => ?_), h.n4, h.n5, h.n6, r4, (hk.block _ h.lt5 (by omega)).trans h.r5, r6⟩
  · rcases hj with rfl | rfl
    · exact .inr (Nat.le_refl _)
    · exact .inr (by omega)
  · rcases hj with rfl | rfl
    · exact ⟨Nat.le_refl _, h.n4⟩
    · exact ⟨by omega, h.n6⟩
/-- Behind new blocks, a draw. -/
theorem MSt.more (h : MSt l J pre O W c k v p r O' X) (hT : ∀ s O A B, J s O A → Turns W.heap.size O A B → J s O B) (hk : KeepsBut (fun _ => False) X Y) : MSt l J pre O W c k v p r O' Y :=
  h.own hT (hk.mono fun _ _ h => h.elim) ((hk.block _ h.lt4 id).trans h.r4) ((hk.block _ h.lt6 id).trans h.r6)
theorem MSt.turn (h : MSt l J pre O W c k v p r O' X) (hT : ∀ s O A B, J s O A → Turns W.heap.size O A B → J s O B) {n1 : Nat} (t : Turns n1 O2 X Y) (hn : W.heap.size + 3 ≤ n1) (hO : ∀ j, O' j → O2 j) : MSt l J pre O W c k v p r O' Y := by
  have a4 := h.lt4
  have a5 := h.lt5
  have a6 := h.lt6
  refine ⟨h.sub, h.keep.trans t fun j hj => .inr (by omega), hT _ _ _ _ h.j (t.mono (by omega) hO), h.n4, h.n5, h.n6, (t.low (by omega) a4).trans h.r4, (t.low (by omega) a5).trans h.r5, (t.low (by omega) a6).trans h.r6⟩
/-- Between two rounds over the body: O2: what the rounds may turn; Y: the box of the method's copy. -/
def InB (l : Nat) (J : List Sl → (Nat → Prop) → World → Prop) (q : List Sl) (O : Nat → Prop) (W : World) (c k : Int) (Y : Nat) (u : Value) (O2 : Nat → Prop) (X : World) : Prop :=
  ∃ (O1 : Nat → Prop) (p : Int), (O2 = fun j => O1 j ∨ j = W.heap.size ∨ j = W.heap.size + 2) ∧ MSt l J q O W c k (-1) p false O1 X ∧ ¬ O1 Y ∧ X.cell? ⟨Y, 15, none⟩ = some u
theorem InB.turn {q : List Sl} {Y : Nat} {u : Value} {A B : World} (h : InB l J q O W c k Y u O2 A) (hT : ∀ s O A B, J s O A → Turns W.heap.size O A B → J s O B) (hY : W.heap.size + 2 < Y) (t : Turns (Y + 1) O2 A B) : InB l J q O W c k Y u O2 B := by
  obtain ⟨O1, p, rfl, hm, hn, hc⟩ := h
  exact ⟨O1, p, rfl, hm.turn hT t (by omega) (fun j hj => .inl hj), hn, (World.cell?_of_block (t.low (Nat.lt_succ_self Y) (World.block_lt_of_cell? _ _ hc))).trans hc⟩
theorem InB.there {q : List Sl} {Y : Nat} {u : Value} (h : InB l J q O W c k Y u O2 X) (hO : ∀ s O A, J s O A → ∀ k, O k → k < A.heap.size) : ∀ j, O2 j → j < X.heap.size := by
  obtain ⟨O1, p, rfl, hm, hn, hc⟩ := h
  rintro j (hj | rfl | rfl)
  · exact hO _ _ _ hm.j j hj
  · exact hm.lt4
  · exact hm.lt6
end

set_option maxHeartbeats 4000000 in
set_option maxRecDepth 100000 in
theorem method_push (b off : Nat) (m : Me) (c k v p : Int) :
    Pushes Tryz.prog 32 (fun y => #[.pointer (some ⟨b, off, none⟩), .agg (noteCells c k v p).toArray, y]) Sl.args (RdM b off m) isTrue isFalse (slM b off c k m) := by
  intro n ln J Jx pre O W hH h0
  have HH := hide hH
  have HR : Hid (∀ s O X, J s O X → RdM b off m X) := hH.read
  have HT : Hid (∀ s O A B, J s O A → Turns W.heap.size O A B → J s O B) := hH.turn
  have hM0 : Hid (MSt ln J pre O W c k v p false O (((W.alloc (.cells (noteCells c k v p).toArray 62)).alloc (.cells #[.func (.yield ln) #[] #[]] 64)).alloc (.cells #[.bool false] 4))) := by
    have hO := hH.there _ _ _ h0
    have kb : ∀ O, KeepsBut O W (((W.alloc (.cells (noteCells c k v p).toArray 62)).alloc (.cells #[.func (.yield ln) #[] #[]] 64)).alloc (.cells #[.bool false] 4)) := fun O => ((KeepsBut.alloc W _).trans' (KeepsBut.alloc _ _)).trans' (KeepsBut.alloc _ _)
    refine ⟨SubO.refl _ _, kb _, hH.turn _ _ _ _ h0 (kb _), fun e => Nat.lt_irrefl _ (hO _ e), fun e => (by have := hO _ e; omega), fun e => (by have := hO _ e; omega), ?_, ?_, ?_⟩
    · exact (Below.heap_alloc _ _ _ (by simp; omega)).trans ((Below.heap_alloc _ _ _ (by simp)).trans (heap_alloc_new W _))
    · have h := heap_alloc_new (W.alloc (.cells (noteCells c k v p).toArray 62)) (.cells #[.func (.yield ln) #[] #[]] 64)
      rw [World.size_alloc] at h
      exact (Below.heap_alloc _ _ _ (by simp)).trans h
    · have h := heap_alloc_new ((W.alloc (.cells (noteCells c k v p).toArray 62)).alloc (.cells #[.func (.yield ln) #[] #[]] 64)) (.cells #[.bool false] 4)
      rw [World.size_alloc, World.size_alloc] at h
      exact h
  have hb0 : b < W.heap.size := (HR.out _ _ _ h0).lt
  have HRW : Hid (RdB W m.bA m.body) := (HR.out _ _ _ h0).body
  unfold noteCells at hM0
  clear hH h0
  unfold noteCells
  refine callsIn_of_wp_marksN Tryz.func32 rfl trivial ?_ rfl
  simp only [Tryz.ntmps32, List.size_toArray, List.length_cons, List.length_nil, Nat.reduceAdd, Nat.reduceSub, Array.replicate_succ, Array.replicate_zero, List.push_toArray, List.append_toArray, List.nil_append, List.cons_append]
  gi_wp2
  obtain ⟨X0, hX0⟩ : ∃ X, X = (((W.alloc (.cells (noteCells c k v p).toArray 62)).alloc (.cells #[.func (.yield ln) #[] #[]] 64)).alloc (.cells #[.bool false] 4)) := ⟨_, rfl⟩
  unfold noteCells at hX0
  rw [← hX0] at hM0 ⊢
  clear hX0
  obtain ⟨B, hB⟩ : ∃ B, W.heap.size = B := ⟨_, rfl⟩
  have hB9 := hide hB
  have hlt4 : B < X0.heap.size := hB ▸ hM0.out.lt4
  rw [hB] at hb0 ⊢
  have hne : b ≠ B := by omega
  have hbX : b < X0.heap.size := by omega
  clear hB
  obtain ⟨mp, hmp⟩ : ∃ mp, m.pos = mp := ⟨_, rfl⟩
  have hc16 : X0.cell? ⟨b, off + 16, none⟩ = some (.int .i64 mp) := by rw [← hmp]; exact (HR.out _ _ _ hM0.out.j).cell 16 _ (by omega) rfl
  have hmp9 := hide hmp
  clear hmp
  let S : World → Prop := fun X => (∃ v' p', X.heap[B]? = some (.cells (noteCells c k v' p').toArray 62 (0, 0))) ∧ KeepsBut (fun j => j = B) X0 X
  have hSc : ∀ X, S X → X.cell? ⟨b, off + 16, none⟩ = some (.int .i64 mp) := fun X h => (h.2.cell hbX hne).trans hc16
  have hrow : X0.heap[B]? = some (.cells (noteCells c k v p).toArray 62 (0, 0)) := by rw [← hB9.out]; exact hM0.out.r4
  have hS : S X0.drew := ⟨⟨v, p, hrow⟩, KeepsBut.drew X0⟩
  refine wpIn_region_till S (by kernel_rfl) ?_
  simp only [List.size_toArray, List.length_cons, List.length_nil, Nat.reduceAdd]
  refine TillIn.take (i := 0) (v := ?_) (fun _ => trivial) rfl (by kernel_rfl) (fun _ _ _ h => h) hS ?_ rfl ?_
  rotate_left
  · intro X hSX
    skip
    go_simp
    all_goals with_reducible rfl
  try simp only [Act.put, List.getElem_toArray, List.getElem_cons_succ, List.getElem_cons_zero, List.setIfInBounds_toArray, List.set_cons_zero, List.set_cons_succ]
  refine TillIn.take (i := 1) (v := ?_) (fun _ => trivial) rfl (by kernel_rfl) (fun _ _ _ h => h) hS ?_ rfl ?_
  rotate_left
  · intro X hSX
    skip
    go_simp
    all_goals with_reducible rfl
  try simp only [Act.put, List.getElem_toArray, List.getElem_cons_succ, List.getElem_cons_zero, List.setIfInBounds_toArray, List.set_cons_zero, List.set_cons_succ]
  refine TillIn.take (i := 2) (v := ?_) (fun _ => trivial) rfl (by kernel_rfl) (fun _ _ _ h => h) hS ?_ rfl ?_
  rotate_left
  · intro X hSX
    skip
    go_simp
    all_goals with_reducible rfl
  try simp only [Act.put, List.getElem_toArray, List.getElem_cons_succ, List.getElem_cons_zero, List.setIfInBounds_toArray, List.set_cons_zero, List.set_cons_succ]
  refine TillIn.take (i := 3) (v := ?_) (fun _ => trivial) rfl (by kernel_rfl) (fun _ _ _ h => h) hS ?_ rfl ?_
  rotate_left
  · intro X hSX
    have h7 := hSc X hSX
    go_simp
    all_goals with_reducible rfl
  try simp only [Act.put, List.getElem_toArray, List.getElem_cons_succ, List.getElem_cons_zero, List.setIfInBounds_toArray, List.set_cons_zero, List.set_cons_succ]
  refine TillIn.take (i := 4) (v := ?_) (fun _ => trivial) rfl (by kernel_rfl) (fun _ _ _ h => h) hS ?_ rfl ?_
  rotate_left
  · intro X hSX
    skip
    go_simp
    all_goals with_reducible rfl
  try simp only [Act.put, List.getElem_toArray, List.getElem_cons_succ, List.getElem_cons_zero, List.setIfInBounds_toArray, List.set_cons_zero, List.set_cons_succ]
  obtain ⟨x2, f2⟩ := row_cell hrow (j := 2) rfl
  obtain ⟨w1, hw1⟩ : ∃ w1, w1 = (X0.setCell ⟨B, 2, none⟩ (.int .i64 (-1))).drew := ⟨_, rfl⟩
  have hrow1 : w1.heap[B]? = some (.cells (noteCells c k (-1) p).toArray 62 (0, 0)) := by rw [hw1]; exact row_store hrow 2 (.int .i64 (-1))
  have hk1 : KeepsBut (fun j => j = B) X0 w1 := by rw [hw1]; exact KeepsBut.trans' (O := fun j => j = B) (KeepsBut.setCell X0 ⟨B, 2, none⟩ _ rfl) (KeepsBut.drew _)
  have hS1 : S w1 := ⟨⟨_, _, hrow1⟩, hk1⟩
  have hrow9 := hide hrow1
  clear hS hrow hrow1
  refine TillIn.one (i := 5) rfl (by kernel_rfl) rfl ?_
  intro K hK
  go_simp
  rw [← hw1]
  refine hK _ _ hS1 ?_
  clear hK K hw1 x2 f2
  have hS := hS1
  refine TillIn.take (i := 6) (v := ?_) (fun _ => trivial) rfl (by kernel_rfl) (fun _ _ _ h => h) hS ?_ rfl ?_
  rotate_left
  · intro X hSX
    skip
    go_simp
    all_goals with_reducible rfl
  try simp only [Act.put, List.getElem_toArray, List.getElem_cons_succ, List.getElem_cons_zero, List.setIfInBounds_toArray, List.set_cons_zero, List.set_cons_succ]
  have hrow : w1.heap[B]? = some (.cells (noteCells c k (-1) p).toArray 62 (0, 0)) := hrow9.out
  obtain ⟨x14, f14⟩ := row_cell hrow (j := 14) rfl
  obtain ⟨w2, hw2⟩ : ∃ w2, w2 = w1.setCell ⟨B, 14, none⟩ (.int .i64 mp) := ⟨_, rfl⟩
  have hrow2 : w2.heap[B]? = some (.cells (noteCells c k (-1) mp).toArray 62 (0, 0)) := by rw [hw2]; exact row_store hrow 14 (.int .i64 mp)
  have hk2 : KeepsBut (fun j => j = B) X0 w2 := by rw [hw2]; exact hk1.trans' (KeepsBut.setCell w1 ⟨B, 14, none⟩ _ rfl)
  have hS2 : S w2 := ⟨⟨_, _, hrow2⟩, hk2⟩
  have hM2 : Hid (MSt ln J pre O W c k (-1) mp false O w2) := by
    have h6 : w2.heap[B + 2]? = X0.heap[B + 2]? := hk2.block _ (hB9.out ▸ hM0.out.lt6) (by omega)
    refine hM0.out.own HT.out (hk2.mono fun j _ h => .inl (by rw [h, hB9.out])) (by rw [hB9.out]; exact hrow2) ?_
    rw [hB9.out, h6, ← hB9.out]; exact hM0.out.r6
  clear hS hrow hrow2 hk1 hk2 hM0 hrow9
  refine TillIn.one (i := 7) rfl (by kernel_rfl) rfl ?_
  intro K hK
  go_simp
  rw [← hw2]
  refine hK _ _ hS2 ?_
  clear hK K hw2 x14 f14 hS2 hS1
  refine TillIn.done (by kernel_rfl) ?_ _
  clear hSc S w1 hc16 hlt4 hbX X0
  have HRx : Hid (∀ s O X, Jx s O X → RdM b off m X) := HH.out.readx
  have HTx : Hid (∀ s O A B, Jx s O A → Turns W.heap.size O A B → Jx s O B) := HH.out.turnx
  gi_wp2
  obtain ⟨B2, hB2⟩ : ∃ B2, B2 = B + 1 + 1 := ⟨_, rfl⟩
  rw [← hB2]
  have hB29 := hide hB2
  clear hB2 hb0 hne
  obtain ⟨A1, hA1⟩ : ∃ A1 : Sl, A1 = ⟨b, off + 2, false, c, k, -1, m.pos, m.ret⟩ := ⟨_, rfl⟩
  obtain ⟨A2, hA2⟩ : ∃ A2, A2 = slV m.pA c k 0 m.params := ⟨_, rfl⟩
  obtain ⟨A3, hA3⟩ : ∃ A3, A3 = slV m.lA c k m.params.length m.locals := ⟨_, rfl⟩
  obtain ⟨A4, hA4⟩ : ∃ A4, A4 = slB c k (liAll m.body 0 (bkA m.bA) (ofA m.bA)) := ⟨_, rfl⟩
  have HA : Hid (slM b off c k m = A1 :: (A2 ++ (A3 ++ A4))) := by show _ = _; rw [hA1, hA2, hA3, hA4]; rfl
  have hXc : Hid (A1.args = #[.agg #[.pointer (some ⟨b, off + 2, none⟩), .bool false, .int .i64 c, .int .i64 k, .int .i64 (-1), .int .i64 0, .string ⟨#[]⟩, .int .i64 0, .int .i64 0, .int .i64 0, .int .i64 0, .int .i64 0, .int .i64 0, .int .i64 0, .int .i64 0, .int .i64 0, .int .i64 mp]]) := by
    show _ = _
    rw [hA1, hmp9.out]; rfl
  have HA2 := hide hA2
  have HA3 := hide hA3
  have HA4 := hide hA4
  clear hA1 hA2 hA3 hA4
  let S : World → Prop := fun X => X.heap[B]? = some (.cells (noteCells c k (-1) mp).toArray 62 (0, 0)) ∧ X.heap[B + 1]? = some (.cells #[.func (.yield ln) #[] #[]] 64 (0, 0)) ∧ RdM b off m X
  have hSc : ∀ X, S X → X.cell? ⟨B + 1, 0, none⟩ = some (.func (.yield ln) #[] #[]) ∧ X.cell? ⟨b, off + 13, none⟩ = some (.slice m.pA m.params.length m.pc) ∧ X.cell? ⟨b, off + 14, none⟩ = some (.slice m.lA m.locals.length m.lc) := fun X h =>
    ⟨(row_cell (cs := [.func (.yield ln) #[] #[]]) h.2.1 (j := 0) rfl).1, h.2.2.cell 13 _ (by omega) rfl, h.2.2.cell 14 _ (by omega) rfl⟩
  have hSj : Hid (∀ pre' O' X, MSt ln J pre' O W c k (-1) mp false O' X → S X) := fun pre' O' X h => ⟨hB9.out ▸ h.r4, hB9.out ▸ h.r5, HR.out _ _ _ h.j⟩
  have hSx : Hid (∀ pre' O' X, MSt ln Jx pre' O W c k (-1) mp false O' X → S X) := fun pre' O' X h => ⟨hB9.out ▸ h.r4, hB9.out ▸ h.r5, HRx.out _ _ _ h.j⟩
  have hMd := hide (hM2.out.more HT.out (KeepsBut.drew w2))
  have hS : S w2.drew := hSj.out _ _ _ hMd.out
  have hY := HH.out.round (n - 1) [] A1 O w2.drew (by rw [List.append_nil]; exact hMd.out.j) (by rw [HA.out]; exact ⟨_, rfl⟩)
  rw [hXc.out, List.append_nil] at hY
  clear hM2
  refine wpIn_region_till S (by kernel_rfl) ?_
  simp only [List.size_toArray, List.length_cons, List.length_nil, Nat.reduceAdd]
  refine TillIn.take (i := 0) (v := ?_) (fun _ => trivial) rfl (by kernel_rfl) (fun _ _ _ h => h) hS ?_ rfl ?_
  rotate_left
  · intro X hSX
    obtain ⟨h5, h13, h14⟩ := hSc X hSX
    go_simp
    all_goals with_reducible rfl
  try simp only [Act.put, List.getElem_toArray, List.getElem_cons_succ, List.getElem_cons_zero, List.setIfInBounds_toArray, List.set_cons_zero, List.set_cons_succ]
  refine TillIn.take (i := 1) (v := ?_) (fun _ => trivial) rfl (by kernel_rfl) (fun _ _ _ h => h) hS ?_ rfl ?_
  rotate_left
  · intro X hSX
    skip
    go_simp
    all_goals with_reducible rfl
  try simp only [Act.put, List.getElem_toArray, List.getElem_cons_succ, List.getElem_cons_zero, List.setIfInBounds_toArray, List.set_cons_zero, List.set_cons_succ]
  refine TillIn.take (i := 2) (v := ?_) (fun _ => trivial) rfl (by kernel_rfl) (fun _ _ _ h => h) hS ?_ rfl ?_
  rotate_left
  · intro X hSX
    skip
    go_simp
    all_goals with_reducible rfl
  try simp only [Act.put, List.getElem_toArray, List.getElem_cons_succ, List.getElem_cons_zero, List.setIfInBounds_toArray, List.set_cons_zero, List.set_cons_succ]
  refine TillIn.take (i := 3) (v := ?_) (fun _ => trivial) rfl (by kernel_rfl) (fun _ _ _ h => h) hS ?_ rfl ?_
  rotate_left
  · intro X hSX
    skip
    go_simp
    all_goals with_reducible rfl
  try simp only [Act.put, List.getElem_toArray, List.getElem_cons_succ, List.getElem_cons_zero, List.setIfInBounds_toArray, List.set_cons_zero, List.set_cons_succ]
  refine TillIn.take (i := 4) (v := .agg (noteCells c k (-1) mp).toArray) (fun _ => trivial) rfl (by kernel_rfl) (fun _ _ _ h => h) hS (fun X hX => run_load_block (g := B) rfl rfl (hX.1) Tryz.underlying62 rfl (by kernel_rfl)) rfl ?_
  try simp only [Act.put, List.getElem_toArray, List.getElem_cons_succ, List.getElem_cons_zero, List.setIfInBounds_toArray, List.set_cons_zero, List.set_cons_succ]
  unfold noteCells
  try simp only [Act.put, List.getElem_toArray, List.getElem_cons_succ, List.getElem_cons_zero, List.setIfInBounds_toArray, List.set_cons_zero, List.set_cons_succ]
  refine TillIn.take (i := 5) (v := ?_) (fun _ => trivial) rfl (by kernel_rfl) (fun _ _ _ h => h) hS ?_ rfl ?_
  rotate_left
  · intro X hSX
    skip
    go_simp
    all_goals with_reducible rfl
  try simp only [Act.put, List.getElem_toArray, List.getElem_cons_succ, List.getElem_cons_zero, List.setIfInBounds_toArray, List.set_cons_zero, List.set_cons_succ]
  obtain ⟨fn, tmps, assign, body, hy, hR⟩ := hY
  refine TillIn.one (i := 6) rfl (by kernel_rfl) rfl ?_
  intro K hK
  go_simp
  refine ⟨fun h => (by simp [Fence.wide] at h), ?_⟩
  refine hR.mono ?_
  clear hy hR
  rintro e X1 ⟨O1, hs1, hk1, ⟨he, hJ1⟩ | ⟨he, q, hq, hJ1⟩⟩
  · obtain rfl : e = .returned (.bool true) := he
    have hM1 : Hid (MSt ln J (pre ++ [A1]) O W c k (-1) mp false O1 X1) := hMd.out.yes hs1 hk1 (by first | exact hJ1 | (rw [← List.append_assoc]; exact hJ1) | simpa using hJ1)
    have hS1 : S X1 := hSj.out _ _ _ hM1.out
    clear hs1 hk1 hJ1 hMd hS
    refine hK _ _ hS1 ?_
    clear hK K
    have hS := hS1
    clear hS1
    refine TillIn.take (i := 7) (v := ?_) (fun _ => trivial) rfl (by kernel_rfl) (fun _ _ _ h => h) hS ?_ rfl ?_
    rotate_left
    · intro X hSX
      skip
      go_simp
      all_goals with_reducible rfl
    try simp only [Act.put, List.getElem_toArray, List.getElem_cons_succ, List.getElem_cons_zero, List.setIfInBounds_toArray, List.set_cons_zero, List.set_cons_succ]
    refine TillIn.take (i := 8) (v := ?_) (fun _ => trivial) rfl (by kernel_rfl) (fun _ _ _ h => h) hS ?_ rfl ?_
    rotate_left
    · intro X hSX
      skip
      go_simp
      all_goals with_reducible rfl
    try simp only [Act.put, List.getElem_toArray, List.getElem_cons_succ, List.getElem_cons_zero, List.setIfInBounds_toArray, List.set_cons_zero, List.set_cons_succ]
    refine TillIn.take (i := 9) (v := ?_) (fun _ => trivial) rfl (by kernel_rfl) (fun _ _ _ h => h) hS ?_ rfl ?_
    rotate_left
    · intro X hSX
      skip
      go_simp
      all_goals with_reducible rfl
    try simp only [Act.put, List.getElem_toArray, List.getElem_cons_succ, List.getElem_cons_zero, List.setIfInBounds_toArray, List.set_cons_zero, List.set_cons_succ]
    refine TillIn.take (i := 10) (v := ?_) (fun _ => trivial) rfl (by kernel_rfl) (fun _ _ _ h => h) hS ?_ rfl ?_
    rotate_left
    · intro X hSX
      skip
      go_simp
      all_goals with_reducible rfl
    try simp only [Act.put, List.getElem_toArray, List.getElem_cons_succ, List.getElem_cons_zero, List.setIfInBounds_toArray, List.set_cons_zero, List.set_cons_succ]
    refine TillIn.take (i := 11) (v := ?_) (fun _ => trivial) rfl (by kernel_rfl) (fun _ _ _ h => h) hS ?_ rfl ?_
    rotate_left
    · intro X hSX
      skip
      go_simp
      all_goals with_reducible rfl
    try simp only [Act.put, List.getElem_toArray, List.getElem_cons_succ, List.getElem_cons_zero, List.setIfInBounds_toArray, List.set_cons_zero, List.set_cons_succ]
    refine TillIn.take (i := 12) (v := ?_) (fun _ => trivial) rfl (by kernel_rfl) (fun _ _ _ h => h) hS ?_ rfl ?_
    rotate_left
    · intro X hSX
      obtain ⟨h5, h13, h14⟩ := hSc X hSX
      go_simp
      all_goals with_reducible rfl
    try simp only [Act.put, List.getElem_toArray, List.getElem_cons_succ, List.getElem_cons_zero, List.setIfInBounds_toArray, List.set_cons_zero, List.set_cons_succ]
    refine TillIn.take (i := 13) (v := .agg (noteCells c k (-1) mp).toArray) (fun _ => trivial) rfl (by kernel_rfl) (fun _ _ _ h => h) hS (fun X hX => run_load_block (g := B) rfl rfl (hX.1) Tryz.underlying62 rfl (by kernel_rfl)) rfl ?_
    try simp only [Act.put, List.getElem_toArray, List.getElem_cons_succ, List.getElem_cons_zero, List.setIfInBounds_toArray, List.set_cons_zero, List.set_cons_succ]
    unfold noteCells
    try simp only [Act.put, List.getElem_toArray, List.getElem_cons_succ, List.getElem_cons_zero, List.setIfInBounds_toArray, List.set_cons_zero, List.set_cons_succ]
    refine TillIn.take (i := 14) (v := ?_) (fun _ => trivial) rfl (by kernel_rfl) (fun _ _ _ h => h) hS ?_ rfl ?_
    rotate_left
    · intro X hSX
      obtain ⟨h5, h13, h14⟩ := hSc X hSX
      go_simp
      all_goals with_reducible rfl
    try simp only [Act.put, List.getElem_toArray, List.getElem_cons_succ, List.getElem_cons_zero, List.setIfInBounds_toArray, List.set_cons_zero, List.set_cons_succ]
    have hV := vars_push m.pA m.pc m.params c k (-1) mp 0 (n - 1) ln J Jx (pre ++ [A1]) O1 X1 (by
      refine HH.out.mono (hM1.out.keep.size) (fun X hX => hX.params) [A1] ?_
      rw [HA.out, ← HA2.out]
      exact ⟨A3 ++ A4, by simp⟩) hM1.out.j
    rw [← HA2.out] at hV
    unfold noteCells at hV
    have HV := hide hV
    clear hV
    refine TillIn.one (i := 15) rfl (by kernel_rfl) rfl ?_
    intro K hK
    go_simp
    refine ⟨trivial, fun h => (by simp [Fence.wide] at h), ?_⟩
    refine HV.out.mono ?_
    clear HV
    rintro e X2 ⟨O2, hs2, hk2, ⟨he, hJ2⟩ | ⟨he, q, hq, hJ2⟩⟩
    · obtain rfl : e = .returned (.bool true) := he
      have hM3 : Hid (MSt ln J (pre ++ [A1] ++ A2) O W c k (-1) mp false O2 X2) := hM1.out.yes hs2 hk2 (by first | exact hJ2 | (rw [← List.append_assoc]; exact hJ2) | simpa using hJ2)
      have hS2 : S X2 := hSj.out _ _ _ hM3.out
      clear hs2 hk2 hJ2 hM1 hS
      refine hK _ _ hS2 ?_
      clear hK K
      have hS := hS2
      clear hS2
      refine TillIn.take (i := 16) (v := ?_) (fun _ => trivial) rfl (by kernel_rfl) (fun _ _ _ h => h) hS ?_ rfl ?_
      rotate_left
      · intro X hSX
        skip
        go_simp
        all_goals with_reducible rfl
      try simp only [Act.put, List.getElem_toArray, List.getElem_cons_succ, List.getElem_cons_zero, List.setIfInBounds_toArray, List.set_cons_zero, List.set_cons_succ]
      refine TillIn.take (i := 17) (v := ?_) (fun _ => trivial) rfl (by kernel_rfl) (fun _ _ _ h => h) hS ?_ rfl ?_
      rotate_left
      · intro X hSX
        skip
        go_simp
        all_goals with_reducible rfl
      try simp only [Act.put, List.getElem_toArray, List.getElem_cons_succ, List.getElem_cons_zero, List.setIfInBounds_toArray, List.set_cons_zero, List.set_cons_succ]
      refine TillIn.take (i := 18) (v := ?_) (fun _ => trivial) rfl (by kernel_rfl) (fun _ _ _ h => h) hS ?_ rfl ?_
      rotate_left
      · intro X hSX
        skip
        go_simp
        all_goals with_reducible rfl
      try simp only [Act.put, List.getElem_toArray, List.getElem_cons_succ, List.getElem_cons_zero, List.setIfInBounds_toArray, List.set_cons_zero, List.set_cons_succ]
      refine TillIn.take (i := 19) (v := ?_) (fun _ => trivial) rfl (by kernel_rfl) (fun _ _ _ h => h) hS ?_ rfl ?_
      rotate_left
      · intro X hSX
        skip
        go_simp
        all_goals with_reducible rfl
      try simp only [Act.put, List.getElem_toArray, List.getElem_cons_succ, List.getElem_cons_zero, List.setIfInBounds_toArray, List.set_cons_zero, List.set_cons_succ]
      refine TillIn.take (i := 20) (v := ?_) (fun _ => trivial) rfl (by kernel_rfl) (fun _ _ _ h => h) hS ?_ rfl ?_
      rotate_left
      · intro X hSX
        skip
        go_simp
        all_goals with_reducible rfl
      try simp only [Act.put, List.getElem_toArray, List.getElem_cons_succ, List.getElem_cons_zero, List.setIfInBounds_toArray, List.set_cons_zero, List.set_cons_succ]
      refine TillIn.take (i := 21) (v := ?_) (fun _ => trivial) rfl (by kernel_rfl) (fun _ _ _ h => h) hS ?_ rfl ?_
      rotate_left
      · intro X hSX
        skip
        go_simp
        all_goals with_reducible rfl
      try simp only [Act.put, List.getElem_toArray, List.getElem_cons_succ, List.getElem_cons_zero, List.setIfInBounds_toArray, List.set_cons_zero, List.set_cons_succ]
      refine TillIn.take (i := 22) (v := ?_) (fun _ => trivial) rfl (by kernel_rfl) (fun _ _ _ h => h) hS ?_ rfl ?_
      rotate_left
      · intro X hSX
        obtain ⟨h5, h13, h14⟩ := hSc X hSX
        go_simp
        all_goals with_reducible rfl
      try simp only [Act.put, List.getElem_toArray, List.getElem_cons_succ, List.getElem_cons_zero, List.setIfInBounds_toArray, List.set_cons_zero, List.set_cons_succ]
      refine TillIn.take (i := 23) (v := .agg (noteCells c k (-1) mp).toArray) (fun _ => trivial) rfl (by kernel_rfl) (fun _ _ _ h => h) hS (fun X hX => run_load_block (g := B) rfl rfl (hX.1) Tryz.underlying62 rfl (by kernel_rfl)) rfl ?_
      try simp only [Act.put, List.getElem_toArray, List.getElem_cons_succ, List.getElem_cons_zero, List.setIfInBounds_toArray, List.set_cons_zero, List.set_cons_succ]
      unfold noteCells
      try simp only [Act.put, List.getElem_toArray, List.getElem_cons_succ, List.getElem_cons_zero, List.setIfInBounds_toArray, List.set_cons_zero, List.set_cons_succ]
      refine TillIn.take (i := 24) (v := ?_) (fun _ => trivial) rfl (by kernel_rfl) (fun _ _ _ h => h) hS ?_ rfl ?_
      rotate_left
      · intro X hSX
        skip
        go_simp
        all_goals with_reducible rfl
      try simp only [Act.put, List.getElem_toArray, List.getElem_cons_succ, List.getElem_cons_zero, List.setIfInBounds_toArray, List.set_cons_zero, List.set_cons_succ]
      refine TillIn.take (i := 25) (v := ?_) (fun _ => trivial) rfl (by kernel_rfl) (fun _ _ _ h => h) hS ?_ rfl ?_
      rotate_left
      · intro X hSX
        skip
        go_simp
        all_goals with_reducible rfl
      try simp only [Act.put, List.getElem_toArray, List.getElem_cons_succ, List.getElem_cons_zero, List.setIfInBounds_toArray, List.set_cons_zero, List.set_cons_succ]
      refine TillIn.take (i := 26) (v := ?_) (fun _ => trivial) rfl (by kernel_rfl) (fun _ _ _ h => h) hS ?_ rfl ?_
      rotate_left
      · intro X hSX
        skip
        go_simp
        all_goals with_reducible rfl
      try simp only [Act.put, List.getElem_toArray, List.getElem_cons_succ, List.getElem_cons_zero, List.setIfInBounds_toArray, List.set_cons_zero, List.set_cons_succ]
      refine TillIn.take (i := 27) (v := ?_) (fun _ => trivial) rfl (by kernel_rfl) (fun _ _ _ h => h) hS ?_ rfl ?_
      rotate_left
      · intro X hSX
        obtain ⟨h5, h13, h14⟩ := hSc X hSX
        go_simp
        all_goals with_reducible rfl
      try simp only [Act.put, List.getElem_toArray, List.getElem_cons_succ, List.getElem_cons_zero, List.setIfInBounds_toArray, List.set_cons_zero, List.set_cons_succ]
      refine TillIn.take (i := 28) (v := ?_) (fun _ => trivial) rfl (by kernel_rfl) (fun _ _ _ h => h) hS ?_ rfl ?_
      rotate_left
      · intro X hSX
        skip
        go_simp
        all_goals with_reducible rfl
      try simp only [Act.put, List.getElem_toArray, List.getElem_cons_succ, List.getElem_cons_zero, List.setIfInBounds_toArray, List.set_cons_zero, List.set_cons_succ]
      refine TillIn.take (i := 29) (v := ?_) (fun _ => trivial) rfl (by kernel_rfl) (fun _ _ _ h => h) hS ?_ rfl ?_
      rotate_left
      · intro X hSX
        obtain ⟨h5, h13, h14⟩ := hSc X hSX
        go_simp
        all_goals with_reducible rfl
      try simp only [Act.put, List.getElem_toArray, List.getElem_cons_succ, List.getElem_cons_zero, List.setIfInBounds_toArray, List.set_cons_zero, List.set_cons_succ]
      have hV := vars_push m.lA m.lc m.locals c k (-1) mp m.params.length (n - 1) ln J Jx (pre ++ [A1] ++ A2) O2 X2 (by
        have h := HH.out.mono (hM3.out.keep.size) (ys := slV m.lA c k m.params.length m.locals) (fun X (hX : RdM b off m X) => hX.locals) (A1 :: A2) (by
          rw [HA.out, ← HA3.out]
          exact ⟨A4, by simp⟩)
        simpa using h) hM3.out.j
      rw [← HA3.out] at hV
      unfold noteCells at hV
      have HV := hide hV
      clear hV
      refine TillIn.one (i := 30) rfl (by kernel_rfl) rfl ?_
      intro K hK
      go_simp
      refine ⟨trivial, fun h => (by simp [Fence.wide] at h), ?_⟩
      refine HV.out.mono ?_
      clear HV
      rintro e X3 ⟨O3, hs3, hk3, ⟨he, hJ3⟩ | ⟨he, q, hq, hJ3⟩⟩
      · obtain rfl : e = .returned (.bool true) := he
        have hM4 : Hid (MSt ln J (pre ++ [A1] ++ A2 ++ A3) O W c k (-1) mp false O3 X3) := hM3.out.yes hs3 hk3 (by first | exact hJ3 | (rw [← List.append_assoc]; exact hJ3) | simpa using hJ3)
        have hS3 : S X3 := hSj.out _ _ _ hM4.out
        clear hs3 hk3 hJ3 hM3 hS
        refine hK _ _ hS3 ?_
        clear hK K
        have hS := hS3
        clear hS3
        refine TillIn.take (i := 31) (v := ?_) (fun _ => trivial) rfl (by kernel_rfl) (fun _ _ _ h => h) hS ?_ rfl ?_
        rotate_left
        · intro X hSX
          skip
          go_simp
          all_goals with_reducible rfl
        try simp only [Act.put, List.getElem_toArray, List.getElem_cons_succ, List.getElem_cons_zero, List.setIfInBounds_toArray, List.set_cons_zero, List.set_cons_succ]
        refine TillIn.take (i := 32) (v := ?_) (fun _ => trivial) rfl (by kernel_rfl) (fun _ _ _ h => h) hS ?_ rfl ?_
        rotate_left
        · intro X hSX
          skip
          go_simp
          all_goals with_reducible rfl
        try simp only [Act.put, List.getElem_toArray, List.getElem_cons_succ, List.getElem_cons_zero, List.setIfInBounds_toArray, List.set_cons_zero, List.set_cons_succ]
        refine TillIn.done (by kernel_rfl) ?_ _
        clear hS hSc hSj hSx S
        have hRM := HR.out _ _ _ hM4.out.j
        obtain ⟨tr, htr⟩ := hRM.row
        obtain ⟨m2, hm2⟩ : ∃ m2 : Me, m2 = { m with ret := tr } := ⟨_, rfl⟩
        have hb15 : m2.cells[15]? = some (.slice m.bA m.body.length m.bc) := by rw [hm2]; rfl
        rw [← hm2] at htr
        have HTR := hide htr
        have H15 := hide hb15
        clear htr hb15 hm2 hRM
        gi_wp2_with (refine wpListIn_run (fun _ => trivial) rfl (by intro c h; cases h) (run_load_mid rfl rfl HTR.out Tryz.underlying43 rfl (by rw [Me.cells_len]; kernel_rfl)) ?_)
        refine ⟨trivial, fun h => (by simp [Fence.wide] at h), ?_⟩
        refine (callsIn_wide.2 (body_seq m2 _)).mono ?_
        rintro _ _ ⟨rfl, rfl⟩
        obtain ⟨Y, hY⟩ : ∃ Y, X3.heap.size = Y := ⟨_, rfl⟩
        obtain ⟨X4, hX4⟩ : ∃ X, X = X3.alloc (.cells m2.cells.toArray 43) := ⟨_, rfl⟩
        have hsz4 : X4.heap.size = Y + 1 := by rw [hX4, World.size_alloc, hY]
        have hYB : Hid (W.heap.size + 2 < Y) := by have := hM4.out.lt6; show _ < _; omega
        have hI4 : Hid (InB ln J (pre ++ [A1] ++ A2 ++ A3 ++ slB c k []) O W c k Y (.slice m.bA m.body.length m.bc) (fun j => O3 j ∨ j = W.heap.size ∨ j = W.heap.size + 2) X4) := by
          refine ⟨O3, mp, rfl, ?_, ?_, ?_⟩
          · rw [hX4, show slB c k [] = [] from rfl, List.append_nil]; exact hM4.out.more HT.out (KeepsBut.alloc _ _)
          · intro h
            have := HH.out.there _ _ _ hM4.out.j _ h
            omega
          · rw [hX4, ← hY, cell_of_row _ _ _ _ _ _ (heap_alloc_new X3 _)]
            simpa using H15.out
        rw [hY, ← hX4]
        have hX9 := hide hX4
        have hY9 := hide hY
        clear hX4 hY HTR H15
        gi_wp2
        refine wpIn_rangeR (gf := 44) (lb := #[.pointer (some ⟨Y, 0, none⟩)]) rfl (enters_of Tryz.func44 (by kernel_rfl) rfl) (body1_push Y m.bA m.bc m.body) (fun _ => rfl)
          (fun j => O3 j ∨ j = W.heap.size ∨ j = W.heap.size + 2)
          (fun s O2 X => InB ln J (pre ++ [A1] ++ A2 ++ A3 ++ slB c k s) O W c k Y (.slice m.bA m.body.length m.bc) O2 X)
          (fun cc s O2 X => cc = .ret ∧ ∃ q, q <+: slM b off c k m ∧ InB ln Jx (pre ++ q) O W c k Y (.slice m.bA m.body.length m.bc) O2 X)
          ?hIT ?hIxT ?hIO ?hIR ?hIxR hI4.out ?hround ?hdone ?hstop
        case hIT => rw [hsz4]; exact fun s O2 A C h t => h.turn HT.out hYB.out t
        case hIxT => rw [hsz4]; exact fun cc s O2 A C ⟨h1, q, h2, h⟩ t => ⟨h1, q, h2, h.turn HTx.out hYB.out t⟩
        case hIO => exact fun s O2 A h => h.there HH.out.there
        case hIR => exact fun s O2 A ⟨O1, p, _, hm, _, hc⟩ => ⟨(HR.out _ _ _ hm.j).body, hc⟩
        case hIxR => exact fun cc s O2 A ⟨_, q, _, O1, p, _, hm, _, hc⟩ => ⟨(HRx.out _ _ _ hm.j).body, hc⟩
        case hround =>
          rintro m1 l1 s x O2 X hl0 hlX0 hnl0 hI hpre
          unfold Li.args
          gi_wp2
          refine ⟨O2, SubO.refl _ _, KeepsBut.refl _ _, fun A => InB ln J (pre ++ [A1] ++ A2 ++ A3 ++ slB c k s) O W c k Y (.slice m.bA m.body.length m.bc) O2 A, ?_, hI, ?_⟩
          · rw [hsz4]; exact fun A C h t => h.turn HT.out hYB.out t
          clear hI hl0 hlX0 hnl0 X
          rintro m1 l1 X hl1 hlX hnl hI
          obtain ⟨O1, p1, hO2, hm1, hn1, hc1⟩ := hI
          have hmem : x ∈ liAll m.body 0 (bkA m.bA) (ofA m.bA) := hpre.subset (by simp)
          obtain ⟨_, c4, c22⟩ := liAll_mem m.body 0 m.bA (HR.out _ _ _ hm1.j).body x hmem
          obtain ⟨hxW, _⟩ := liAll_mem m.body 0 m.bA HRW.out x hmem
          obtain ⟨kk, hkk⟩ : ∃ kk, x.s.ty.k = kk := ⟨_, rfl⟩
          obtain ⟨qq, hqq⟩ : ∃ qq, x.s.pos = qq := ⟨_, rfl⟩
          rw [hkk] at c4
          rw [hqq] at c22
          have hr4 := hm1.r4
          rw [hB9.out] at hr4 hxW
          obtain ⟨x14, f14⟩ := row_cell hr4 (j := 14) rfl
          have hr4' := row_store hr4 14 (.int .i64 qq)
          have hm2 : Hid (MSt ln J (pre ++ [A1] ++ A2 ++ A3 ++ slB c k s) O W c k (-1) qq false O1 (X.setCell ⟨B, 14, none⟩ (.int .i64 qq))) := by
            refine hm1.own HT.out (KeepsBut.setCell _ _ _ (.inl hB9.out.symm)) (by rw [hB9.out]; exact hr4') ?_
            refine (Below.heap_setCell _ _ _ _ ?_).trans hm1.r6
            have := hB9.out; show W.heap.size + 2 ≠ B; omega
          have HF := hide (And.intro hO2 (And.intro hm1 (And.intro hn1 (And.intro hc1 (And.intro hpre hmem)))))
          have hxB : x.b ≠ B := by omega
          have HK := hide (And.intro hkk hqq)
          have HL := hide (And.intro hl1 hlX)
          clear hO2 hm1 hn1 hc1 hpre hmem hkk hqq hr4 hr4' hl1 hlX hnl hxW
          gi_wp2
          have c4' : (X.setCell ⟨B, 14, none⟩ (.int .i64 qq)).cell? ⟨x.b, x.off + 4, none⟩ = some (.int .i64 kk) := (World.cell?_of_block (Below.heap_setCell _ _ _ _ hxB)).trans c4
          obtain ⟨Z, hZ⟩ : ∃ Z, Z = X.setCell ⟨B, 14, none⟩ (.int .i64 qq) := ⟨_, rfl⟩
          rw [← hZ] at hm2 c4' ⊢
          have hKZ : Hid (KeepsBut O2 X Z) := by rw [hZ]; exact KeepsBut.setCell _ _ _ (by rw [HF.out.1]; exact .inr (.inl hB9.out.symm))
          clear hZ x14 f14 c4 c22 hxB
          let S : World → Prop := fun X => X.heap[B]? = some (.cells (noteCells c k (-1) qq).toArray 62 (0, 0)) ∧ X.heap[B + 1]? = some (.cells #[.func (.yield ln) #[] #[]] 64 (0, 0)) ∧ RdB X m.bA m.body
          have hSc : ∀ X, S X → X.cell? ⟨B + 1, 0, none⟩ = some (.func (.yield ln) #[] #[]) ∧ X.cell? ⟨x.b, x.off + 4, none⟩ = some (.int .i64 kk) := fun X h =>
            ⟨(row_cell (cs := [.func (.yield ln) #[] #[]]) h.2.1 (j := 0) rfl).1, by rw [← HK.out.1]; exact (liAll_mem m.body 0 m.bA h.2.2 x HF.out.2.2.2.2.2).2.1⟩
          have hSj : Hid (∀ pre' O' X, MSt ln J pre' O W c k (-1) qq false O' X → S X) := fun pre' O' X h => ⟨hB9.out ▸ h.r4, hB9.out ▸ h.r5, (HR.out _ _ _ h.j).body⟩
          have hSx : Hid (∀ pre' O' X, MSt ln Jx pre' O W c k (-1) qq false O' X → S X) := fun pre' O' X h => ⟨hB9.out ▸ h.r4, hB9.out ▸ h.r5, (HRx.out _ _ _ h.j).body⟩
          have hMd := hide (hm2.out.more HT.out (KeepsBut.drew Z))
          have hS : S Z.drew := hSj.out _ _ _ hMd.out
          have hKd : Hid (KeepsBut O2 X Z.drew) := hKZ.out.trans' (KeepsBut.drew Z)
          have hOs : Hid (∀ O3, SubO O1 Z.drew.heap.size O3 → SubO O2 X.heap.size (fun j => O3 j ∨ j = W.heap.size ∨ j = W.heap.size + 2)) := fun O3 h j hj => by
            rw [HF.out.1]
            rcases hj with hj | hj
            · exact (h j hj).imp .inl fun h => Nat.le_trans hKd.out.size h
            · exact .inl (.inr hj)
          have hOk : Hid (∀ j, O1 j → O2 j) := fun j hj => by rw [HF.out.1]; exact .inl hj
          have hYZ : Hid (Y < Z.drew.heap.size) := Nat.lt_of_lt_of_le (World.block_lt_of_cell? _ _ HF.out.2.2.2.1) hKd.out.size
          have hcZ : Hid (Z.drew.cell? ⟨Y, 15, none⟩ = some (.slice m.bA m.body.length m.bc)) := (hKd.out.cell (a := ⟨Y, 15, none⟩) (World.block_lt_of_cell? _ _ HF.out.2.2.2.1) (by
            rw [HF.out.1]
            rintro (h | h | h)
            · exact HF.out.2.2.1 h
            · have := hYB.out; simp only at h; omega
            · have := hYB.out; simp only at h; omega)).trans HF.out.2.2.2.1
          clear hKZ hm2
          rcases Bool.eq_false_or_eq_true (kk == 2) with hk2 | hk2
          · have hsl : Hid (slB c k (s ++ [x]) = slB c k s ++ [⟨x.b, x.off + 4, true, c, k, -1, x.s.pos, x.s.ty⟩]) := slB_yes s x (by rw [HK.out.1]; exact hk2)
            have hY := HH.out.round (m1 - 1) ([A1] ++ A2 ++ A3 ++ slB c k s) ⟨x.b, x.off + 4, true, c, k, -1, x.s.pos, x.s.ty⟩ O1 Z.drew (by have := hMd.out.j; simpa using this) (by
              rw [HA.out]
              have h := slB_prefix (c := c) (m := k) HF.out.2.2.2.2.1
              rw [hsl.out, ← HA4.out] at h
              have h2 : [A1] ++ A2 ++ A3 ++ slB c k s ++ [⟨x.b, x.off + 4, true, c, k, -1, x.s.pos, x.s.ty⟩] = A1 :: (A2 ++ (A3 ++ (slB c k s ++ [⟨x.b, x.off + 4, true, c, k, -1, x.s.pos, x.s.ty⟩]))) := by simp
              rw [h2]
              exact List.cons_prefix_cons.2 ⟨rfl, (List.prefix_append_right_inj _).2 ((List.prefix_append_right_inj _).2 h)⟩)
            have hY2 := YieldAt.inRound l1 hY
            have hXa : (Sl.args ⟨x.b, x.off + 4, true, c, k, -1, x.s.pos, x.s.ty⟩) = #[.agg #[.pointer (some ⟨x.b, x.off + 4, none⟩), .bool true, .int .i64 c, .int .i64 k, .int .i64 (-1), .int .i64 0, .string ⟨#[]⟩, .int .i64 0, .int .i64 0, .int .i64 0, .int .i64 0, .int .i64 0, .int .i64 0, .int .i64 0, .int .i64 0, .int .i64 0, .int .i64 qq]] := by
              rw [← HK.out.2]; rfl
            rw [hXa] at hY2
            clear hY hXa
            refine wpIn_region_till S (by kernel_rfl) ?_
            simp only [List.size_toArray, List.length_cons, List.length_nil, Nat.reduceAdd]
            refine TillIn.take (i := 0) (v := ?_) (fun _ => trivial) rfl (by kernel_rfl) (fun _ _ _ h => h) hS ?_ rfl ?_
            rotate_left
            · intro X hSX
              skip
              go_simp
              all_goals with_reducible rfl
            try simp only [Act.put, List.getElem_toArray, List.getElem_cons_succ, List.getElem_cons_zero, List.setIfInBounds_toArray, List.set_cons_zero, List.set_cons_succ]
            refine TillIn.take (i := 1) (v := ?_) (fun _ => trivial) rfl (by kernel_rfl) (fun _ _ _ h => h) hS ?_ rfl ?_
            rotate_left
            · intro X hSX
              skip
              go_simp
              all_goals with_reducible rfl
            try simp only [Act.put, List.getElem_toArray, List.getElem_cons_succ, List.getElem_cons_zero, List.setIfInBounds_toArray, List.set_cons_zero, List.set_cons_succ]
            refine TillIn.take (i := 2) (v := ?_) (fun _ => trivial) rfl (by kernel_rfl) (fun _ _ _ h => h) hS ?_ rfl ?_
            rotate_left
            · intro X hSX
              skip
              go_simp
              all_goals with_reducible rfl
            try simp only [Act.put, List.getElem_toArray, List.getElem_cons_succ, List.getElem_cons_zero, List.setIfInBounds_toArray, List.set_cons_zero, List.set_cons_succ]
            refine TillIn.take (i := 3) (v := ?_) (fun _ => trivial) rfl (by kernel_rfl) (fun _ _ _ h => h) hS ?_ rfl ?_
            rotate_left
            · intro X hSX
              skip
              go_simp
              all_goals with_reducible rfl
            try simp only [Act.put, List.getElem_toArray, List.getElem_cons_succ, List.getElem_cons_zero, List.setIfInBounds_toArray, List.set_cons_zero, List.set_cons_succ]
            refine TillIn.take (i := 4) (v := ?_) (fun _ => trivial) rfl (by kernel_rfl) (fun _ _ _ h => h) hS ?_ rfl ?_
            rotate_left
            · intro X hSX
              obtain ⟨h5, h4⟩ := hSc X hSX
              go_simp
              all_goals with_reducible rfl
            try simp only [Act.put, List.getElem_toArray, List.getElem_cons_succ, List.getElem_cons_zero, List.setIfInBounds_toArray, List.set_cons_zero, List.set_cons_succ]
            refine TillIn.take (i := 5) (v := ?_) (fun _ => trivial) rfl (by kernel_rfl) (fun _ _ _ h => h) hS ?_ rfl ?_
            rotate_left
            · intro X hSX
              skip
              go_simp
              all_goals with_reducible rfl
            try simp only [Act.put, List.getElem_toArray, List.getElem_cons_succ, List.getElem_cons_zero, List.setIfInBounds_toArray, List.set_cons_zero, List.set_cons_succ]
            refine TillIn.take (i := 6) (v := ?_) (fun _ => trivial) rfl (by kernel_rfl) (fun _ _ _ h => h) hS ?_ rfl ?_
            rotate_left
            · intro X hSX
              skip
              go_simp
              all_goals with_reducible rfl
            try simp only [Act.put, List.getElem_toArray, List.getElem_cons_succ, List.getElem_cons_zero, List.setIfInBounds_toArray, List.set_cons_zero, List.set_cons_succ]
            refine TillIn.take (i := 7) (v := ?_) (fun _ => trivial) rfl (by kernel_rfl) (fun _ _ _ h => h) hS ?_ rfl ?_
            rotate_left
            · intro X hSX
              obtain ⟨h5, h4⟩ := hSc X hSX
              go_simp
              all_goals with_reducible rfl
            try simp only [Act.put, List.getElem_toArray, List.getElem_cons_succ, List.getElem_cons_zero, List.setIfInBounds_toArray, List.set_cons_zero, List.set_cons_succ]
            refine TillIn.take (i := 8) (v := ?_) (fun _ => trivial) rfl (by kernel_rfl) (fun _ _ _ h => h) hS ?_ rfl ?_
            rotate_left
            · intro X hSX
              skip
              go_simp
              all_goals with_reducible rfl
            try simp only [Act.put, List.getElem_toArray, List.getElem_cons_succ, List.getElem_cons_zero, List.setIfInBounds_toArray, List.set_cons_zero, List.set_cons_succ]
            refine TillIn.take (i := 9) (v := ?_) (fun _ => trivial) rfl (by kernel_rfl) (fun _ _ _ h => h) hS ?_ rfl ?_
            rotate_left
            · intro X hSX
              skip
              go_simp
              all_goals with_reducible rfl
            try simp only [Act.put, List.getElem_toArray, List.getElem_cons_succ, List.getElem_cons_zero, List.setIfInBounds_toArray, List.set_cons_zero, List.set_cons_succ]
            refine TillIn.take (i := 10) (v := ?_) (fun _ => trivial) rfl (by kernel_rfl) (fun _ _ _ h => h) hS ?_ rfl ?_
            rotate_left
            · intro X hSX
              skip
              go_simp
              all_goals with_reducible rfl
            try simp only [Act.put, List.getElem_toArray, List.getElem_cons_succ, List.getElem_cons_zero, List.setIfInBounds_toArray, List.set_cons_zero, List.set_cons_succ]
            refine TillIn.take (i := 11) (v := .agg (noteCells c k (-1) qq).toArray) (fun _ => trivial) rfl (by kernel_rfl) (fun _ _ _ h => h) hS (fun X hX => run_load_block (g := B) rfl rfl (hX.1) Tryz.underlying62 rfl (by kernel_rfl)) rfl ?_
            try simp only [Act.put, List.getElem_toArray, List.getElem_cons_succ, List.getElem_cons_zero, List.setIfInBounds_toArray, List.set_cons_zero, List.set_cons_succ]
            unfold noteCells
            try simp only [Act.put, List.getElem_toArray, List.getElem_cons_succ, List.getElem_cons_zero, List.setIfInBounds_toArray, List.set_cons_zero, List.set_cons_succ]
            refine TillIn.take (i := 12) (v := ?_) (fun _ => trivial) rfl (by kernel_rfl) (fun _ _ _ h => h) hS ?_ rfl ?_
            rotate_left
            · intro X hSX
              skip
              go_simp
              all_goals with_reducible rfl
            try simp only [Act.put, List.getElem_toArray, List.getElem_cons_succ, List.getElem_cons_zero, List.setIfInBounds_toArray, List.set_cons_zero, List.set_cons_succ]
            obtain ⟨fn, tmps, assign, body, hy, hR⟩ := hY2
            refine TillIn.one (i := 13) rfl (by kernel_rfl) rfl ?_
            intro K hK
            go_simp
            refine ⟨fun h => (by simp [Fence.wide] at h), ?_⟩
            refine hR.mono ?_
            clear hy hR
            rintro e V ⟨O3, hs3, hk3, ⟨he, hJ3⟩ | ⟨he, q, hq, hJ3⟩⟩
            · obtain rfl : e = .returned (.bool true) := he
              have hM5 : Hid (MSt ln J (pre ++ [A1] ++ A2 ++ A3 ++ slB c k (s ++ [x])) O W c k (-1) qq false O3 V) := hMd.out.yes hs3 hk3 (by rw [hsl.out]; simpa using hJ3)
              have hS3 : S V := hSj.out _ _ _ hM5.out
              have hE : Hid (roundEndO (fun s O2 X => InB ln J (pre ++ [A1] ++ A2 ++ A3 ++ slB c k s) O W c k Y (.slice m.bA m.body.length m.bc) O2 X) (fun cc s O2 X => cc = .ret ∧ ∃ q, q <+: slM b off c k m ∧ InB ln Jx (pre ++ q) O W c k Y (.slice m.bA m.body.length m.bc) O2 X) (s ++ [x]) O2 X .normal { tmps := #[], defers := [] } V) := by
                refine ⟨_, hOs.out O3 hs3, hKd.out.trans (hk3.mono fun j _ => hOk.out j) (SubO.refl _ _), O3, qq, rfl, hM5.out, fun h => ?_, ?_⟩
                · exact (hs3 _ h).elim HF.out.2.2.1 (by have := hYZ.out; omega)
                · exact (hk3.cell (a := ⟨Y, 15, none⟩) hYZ.out HF.out.2.2.1).trans hcZ.out
              clear hs3 hk3 hJ3 hS
              refine hK _ _ hS3 ?_
              clear hK K
              have hS := hS3
              refine TillIn.take (i := 14) (v := ?_) (fun _ => trivial) rfl (by kernel_rfl) (fun _ _ _ h => h) hS ?_ rfl ?_
              rotate_left
              · intro X hSX
                skip
                go_simp
                all_goals with_reducible rfl
              try simp only [Act.put, List.getElem_toArray, List.getElem_cons_succ, List.getElem_cons_zero, List.setIfInBounds_toArray, List.set_cons_zero, List.set_cons_succ]
              refine TillIn.take (i := 15) (v := ?_) (fun _ => trivial) rfl (by kernel_rfl) (fun _ _ _ h => h) hS ?_ rfl ?_
              rotate_left
              · intro X hSX
                skip
                go_simp
                all_goals with_reducible rfl
              try simp only [Act.put, List.getElem_toArray, List.getElem_cons_succ, List.getElem_cons_zero, List.setIfInBounds_toArray, List.set_cons_zero, List.set_cons_succ]
              refine TillIn.done (by kernel_rfl) ?_ _
              clear hS hS3 hSc hSj hSx S
              gi_wp2
              exact hE.out
            · obtain rfl : e = .returned (.bool false) := he
              have hM5 : Hid (MSt ln Jx (pre ++ ([A1] ++ A2 ++ A3 ++ slB c k s ++ q)) O W c k (-1) qq false O3 V) := hMd.out.yes hs3 hk3 (by simpa using hJ3)
              have hq9 : Hid ([A1] ++ A2 ++ A3 ++ slB c k s ++ q <+: slM b off c k m) := by
                show _ <+: _
                rw [HA.out]
                have h := slB_prefix (c := c) (m := k) HF.out.2.2.2.2.1
                rw [hsl.out, ← HA4.out] at h
                have h2 : [A1] ++ A2 ++ A3 ++ slB c k s ++ q = A1 :: (A2 ++ (A3 ++ (slB c k s ++ q))) := by simp
                rw [h2]
                exact List.cons_prefix_cons.2 ⟨rfl, (List.prefix_append_right_inj _).2 ((List.prefix_append_right_inj _).2 (((List.prefix_append_right_inj _).2 hq).trans h))⟩
              have hS3 : S V := hSx.out _ _ _ hM5.out
              have hr6 := hM5.out.r6
              rw [hB9.out, show B + 2 = B2 from hB29.out.symm] at hr6
              obtain ⟨x6, f6⟩ := row_cell (cs := [.bool false]) hr6 (j := 0) rfl
              have hM6 : MSt ln Jx (pre ++ ([A1] ++ A2 ++ A3 ++ slB c k s ++ q)) O W c k (-1) qq false O3 (V.setCell ⟨B2, 0, none⟩ (.bool false)) := by
                refine hM5.out.own HTx.out (KeepsBut.setCell _ _ _ (.inr (by rw [hB9.out]; exact hB29.out))) ?_ ?_
                · refine (Below.heap_setCell _ _ _ _ ?_).trans hM5.out.r4
                  have := hB29.out; have := hB9.out; show W.heap.size ≠ B2; omega
                · rw [hB9.out, show B + 2 = B2 from hB29.out.symm]; exact row_store hr6 0 (.bool false)
              have hE : Hid (roundEndO (fun s O2 X => InB ln J (pre ++ [A1] ++ A2 ++ A3 ++ slB c k s) O W c k Y (.slice m.bA m.body.length m.bc) O2 X) (fun cc s O2 X => cc = .ret ∧ ∃ q, q <+: slM b off c k m ∧ InB ln Jx (pre ++ q) O W c k Y (.slice m.bA m.body.length m.bc) O2 X) (s ++ [x]) O2 X .ret { tmps := #[], defers := [] } (V.setCell ⟨B2, 0, none⟩ (.bool false))) := by
                have hB2W : B2 = W.heap.size + 2 := by have := hB29.out; have := hB9.out; omega
                have hcY : V.cell? ⟨Y, 15, none⟩ = some (.slice m.bA m.body.length m.bc) := (hk3.cell (a := ⟨Y, 15, none⟩) hYZ.out HF.out.2.2.1).trans hcZ.out
                refine ⟨_, hOs.out O3 hs3, (hKd.out.trans (hk3.mono fun j _ => hOk.out j) (SubO.refl _ _)).trans' (KeepsBut.setCell _ _ _ (by rw [HF.out.1]; exact .inr (.inr hB2W))), rfl, _, hq9.out, O3, qq, rfl, hM6, fun h => ?_, ?_⟩
                · exact (hs3 _ h).elim HF.out.2.2.1 (by have := hYZ.out; omega)
                · exact (World.cell?_of_block (Below.heap_setCell _ _ _ _ (by have := hYB.out; show Y ≠ B2; omega))).trans hcY
              clear hs3 hk3 hJ3 hS hr6 hM6
              refine hK _ _ hS3 ?_
              clear hK K
              have hS := hS3
              refine TillIn.take (i := 14) (v := ?_) (fun _ => trivial) rfl (by kernel_rfl) (fun _ _ _ h => h) hS ?_ rfl ?_
              rotate_left
              · intro X hSX
                skip
                go_simp
                all_goals with_reducible rfl
              try simp only [Act.put, List.getElem_toArray, List.getElem_cons_succ, List.getElem_cons_zero, List.setIfInBounds_toArray, List.set_cons_zero, List.set_cons_succ]
              refine TillIn.take (i := 15) (v := ?_) (fun _ => trivial) rfl (by kernel_rfl) (fun _ _ _ h => h) hS ?_ rfl ?_
              rotate_left
              · intro X hSX
                skip
                go_simp
                all_goals with_reducible rfl
              try simp only [Act.put, List.getElem_toArray, List.getElem_cons_succ, List.getElem_cons_zero, List.setIfInBounds_toArray, List.set_cons_zero, List.set_cons_succ]
              refine TillIn.done (by kernel_rfl) ?_ _
              clear hS hS3 hSc hSj hSx S
              gi_wp2
              exact hE.out
          · have hsl : Hid (slB c k (s ++ [x]) = slB c k s) := slB_no s x (by rw [HK.out.1]; exact hk2)
            have hE : Hid (roundEndO (fun s O2 X => InB ln J (pre ++ [A1] ++ A2 ++ A3 ++ slB c k s) O W c k Y (.slice m.bA m.body.length m.bc) O2 X) (fun cc s O2 X => cc = .ret ∧ ∃ q, q <+: slM b off c k m ∧ InB ln Jx (pre ++ q) O W c k Y (.slice m.bA m.body.length m.bc) O2 X) (s ++ [x]) O2 X .normal { tmps := #[], defers := [] } Z.drew) := by
              refine ⟨O2, SubO.refl _ _, hKd.out, O1, qq, HF.out.1, ?_, HF.out.2.2.1, hcZ.out⟩
              rw [hsl.out]; exact hMd.out
            refine wpIn_region_till S (by kernel_rfl) ?_
            simp only [List.size_toArray, List.length_cons, List.length_nil, Nat.reduceAdd]
            refine TillIn.take (i := 0) (v := ?_) (fun _ => trivial) rfl (by kernel_rfl) (fun _ _ _ h => h) hS ?_ rfl ?_
            rotate_left
            · intro X hSX
              skip
              go_simp
              all_goals with_reducible rfl
            try simp only [Act.put, List.getElem_toArray, List.getElem_cons_succ, List.getElem_cons_zero, List.setIfInBounds_toArray, List.set_cons_zero, List.set_cons_succ]
            refine TillIn.take (i := 1) (v := ?_) (fun _ => trivial) rfl (by kernel_rfl) (fun _ _ _ h => h) hS ?_ rfl ?_
            rotate_left
            · intro X hSX
              skip
              go_simp
              all_goals with_reducible rfl
            try simp only [Act.put, List.getElem_toArray, List.getElem_cons_succ, List.getElem_cons_zero, List.setIfInBounds_toArray, List.set_cons_zero, List.set_cons_succ]
            refine TillIn.take (i := 2) (v := ?_) (fun _ => trivial) rfl (by kernel_rfl) (fun _ _ _ h => h) hS ?_ rfl ?_
            rotate_left
            · intro X hSX
              skip
              go_simp
              all_goals with_reducible rfl
            try simp only [Act.put, List.getElem_toArray, List.getElem_cons_succ, List.getElem_cons_zero, List.setIfInBounds_toArray, List.set_cons_zero, List.set_cons_succ]
            refine TillIn.take (i := 3) (v := ?_) (fun _ => trivial) rfl (by kernel_rfl) (fun _ _ _ h => h) hS ?_ rfl ?_
            rotate_left
            · intro X hSX
              skip
              go_simp
              all_goals with_reducible rfl
            try simp only [Act.put, List.getElem_toArray, List.getElem_cons_succ, List.getElem_cons_zero, List.setIfInBounds_toArray, List.set_cons_zero, List.set_cons_succ]
            refine TillIn.take (i := 4) (v := ?_) (fun _ => trivial) rfl (by kernel_rfl) (fun _ _ _ h => h) hS ?_ rfl ?_
            rotate_left
            · intro X hSX
              obtain ⟨h5, h4⟩ := hSc X hSX
              go_simp
              all_goals with_reducible rfl
            try simp only [Act.put, List.getElem_toArray, List.getElem_cons_succ, List.getElem_cons_zero, List.setIfInBounds_toArray, List.set_cons_zero, List.set_cons_succ]
            refine TillIn.take (i := 5) (v := ?_) (fun _ => trivial) rfl (by kernel_rfl) (fun _ _ _ h => h) hS ?_ rfl ?_
            rotate_left
            · intro X hSX
              skip
              go_simp
              all_goals with_reducible rfl
            try simp only [Act.put, List.getElem_toArray, List.getElem_cons_succ, List.getElem_cons_zero, List.setIfInBounds_toArray, List.set_cons_zero, List.set_cons_succ]
            refine TillIn.take (i := 6) (v := ?_) (fun _ => trivial) rfl (by kernel_rfl) (fun _ _ _ h => h) hS ?_ rfl ?_
            rotate_left
            · intro X hSX
              skip
              go_simp
              all_goals with_reducible rfl
            try simp only [Act.put, List.getElem_toArray, List.getElem_cons_succ, List.getElem_cons_zero, List.setIfInBounds_toArray, List.set_cons_zero, List.set_cons_succ]
            refine TillIn.skip (i := 7) (fun _ => trivial) rfl (by kernel_rfl) (fun _ _ _ h => h) hS rfl ?_
            try simp only [Act.put, List.getElem_toArray, List.getElem_cons_succ, List.getElem_cons_zero, List.setIfInBounds_toArray, List.set_cons_zero, List.set_cons_succ]
            refine TillIn.skip (i := 8) (fun _ => trivial) rfl (by kernel_rfl) (fun _ _ _ h => h) hS rfl ?_
            try simp only [Act.put, List.getElem_toArray, List.getElem_cons_succ, List.getElem_cons_zero, List.setIfInBounds_toArray, List.set_cons_zero, List.set_cons_succ]
            refine TillIn.skip (i := 9) (fun _ => trivial) rfl (by kernel_rfl) (fun _ _ _ h => h) hS rfl ?_
            try simp only [Act.put, List.getElem_toArray, List.getElem_cons_succ, List.getElem_cons_zero, List.setIfInBounds_toArray, List.set_cons_zero, List.set_cons_succ]
            refine TillIn.skip (i := 10) (fun _ => trivial) rfl (by kernel_rfl) (fun _ _ _ h => h) hS rfl ?_
            try simp only [Act.put, List.getElem_toArray, List.getElem_cons_succ, List.getElem_cons_zero, List.setIfInBounds_toArray, List.set_cons_zero, List.set_cons_succ]
            refine TillIn.skip (i := 11) (fun _ => trivial) rfl (by kernel_rfl) (fun _ _ _ h => h) hS rfl ?_
            try simp only [Act.put, List.getElem_toArray, List.getElem_cons_succ, List.getElem_cons_zero, List.setIfInBounds_toArray, List.set_cons_zero, List.set_cons_succ]
            refine TillIn.skip (i := 12) (fun _ => trivial) rfl (by kernel_rfl) (fun _ _ _ h => h) hS rfl ?_
            try simp only [Act.put, List.getElem_toArray, List.getElem_cons_succ, List.getElem_cons_zero, List.setIfInBounds_toArray, List.set_cons_zero, List.set_cons_succ]
            refine TillIn.skip (i := 13) (fun _ => trivial) rfl (by kernel_rfl) (fun _ _ _ h => h) hS rfl ?_
            try simp only [Act.put, List.getElem_toArray, List.getElem_cons_succ, List.getElem_cons_zero, List.setIfInBounds_toArray, List.set_cons_zero, List.set_cons_succ]
            refine TillIn.skip (i := 14) (fun _ => trivial) rfl (by kernel_rfl) (fun _ _ _ h => h) hS rfl ?_
            try simp only [Act.put, List.getElem_toArray, List.getElem_cons_succ, List.getElem_cons_zero, List.setIfInBounds_toArray, List.set_cons_zero, List.set_cons_succ]
            refine TillIn.take (i := 15) (v := ?_) (fun _ => trivial) rfl (by kernel_rfl) (fun _ _ _ h => h) hS ?_ rfl ?_
            rotate_left
            · intro X hSX
              skip
              go_simp
              all_goals with_reducible rfl
            try simp only [Act.put, List.getElem_toArray, List.getElem_cons_succ, List.getElem_cons_zero, List.setIfInBounds_toArray, List.set_cons_zero, List.set_cons_succ]
            refine TillIn.done (by kernel_rfl) ?_ _
            clear hS hSc hSj hSx S
            gi_wp2
            exact hE.out
        case hdone =>
          rintro O4 D V hD hnD _ hkV hI hKD
          obtain ⟨O1, p1, rfl, hm1, hn1, hc1⟩ := hI
          have hr6 := hm1.r6
          rw [hB9.out, show B + 2 = B2 from hB29.out.symm] at hr6
          obtain ⟨x6, f6⟩ := row_cell (cs := [.bool false]) hr6 (j := 0) rfl
          have hm2 : Hid (MSt ln J (pre ++ [A1] ++ A2 ++ A3 ++ slB c k (liAll m.body 0 (bkA m.bA) (ofA m.bA))) O W c k (-1) p1 true O1 (V.setCell ⟨B2, 0, none⟩ (.bool true))) := by
            refine hm1.own HT.out (KeepsBut.setCell _ _ _ (.inr (by rw [hB9.out]; exact hB29.out))) ?_ ?_
            · refine (Below.heap_setCell _ _ _ _ ?_).trans hm1.r4
              have := hB29.out; have := hB9.out; show W.heap.size ≠ B2; omega
            · rw [hB9.out, show B + 2 = B2 from hB29.out.symm]; exact row_store hr6 0 (.bool true)
          have hBD : B2 < D := by have := hB29.out; have := hB9.out; have := hYB.out; omega
          have hKD2 : (V.setCell ⟨B2, 0, none⟩ (.bool true)).heap[D]? = some (.deferred (some [])) := (Below.heap_setCell _ _ _ _ (by show D ≠ B2; omega)).trans hKD
          have hm3 : Hid (MSt ln J (pre ++ [A1] ++ A2 ++ A3 ++ slB c k (liAll m.body 0 (bkA m.bA) (ofA m.bA))) O W c k (-1) p1 true O1 ((V.setCell ⟨B2, 0, none⟩ (.bool true)).putObj D (.deferred none))) :=
            hm2.out.turn HT.out (n1 := Y + 1) (O2 := O1) (KeepsBut.putObj _ _ _ ⟨by omega, fun h => hnD (.inl h)⟩) (by have := hYB.out; omega) (fun j h => h)
          have hr7 := hm3.out.r6
          rw [hB9.out, show B + 2 = B2 from hB29.out.symm] at hr7
          obtain ⟨x7, f7⟩ := row_cell (cs := [.bool true]) hr7 (j := 0) rfl
          have HKD := hide hKD2
          have H1 := hide hm1
          clear hr6 hr7 hKD2 hKD hm1 hc1 hn1 hkV hnD
          gi_wp2
          refine ⟨by simp, .inl ⟨_, _, rfl, run_takeDeferred HKD.out, ?_⟩⟩
          refine ⟨.bool true, ?_, O1, hm3.out.sub, hm3.out.keep, .inl ⟨rfl, ?_⟩⟩
          · simp [results, Tryz.f32, go_sem, x7]
          · have := hm3.out.j
            rw [HA.out, HA4.out]
            simpa using this
        case hstop =>
          rintro O4 D cc s V hD hnD _ hkV hpre ⟨rfl, q, hq, hI⟩ hKD
          obtain ⟨O1, p1, rfl, hm1, hn1, hc1⟩ := hI
          have hm3 : Hid (MSt ln Jx (pre ++ q) O W c k (-1) p1 false O1 (V.putObj D (.deferred none))) :=
            hm1.turn HTx.out (n1 := Y + 1) (O2 := O1) (KeepsBut.putObj _ _ _ ⟨by omega, fun h => hnD (.inl h)⟩) (by have := hYB.out; omega) (fun j h => h)
          have hr7 := hm3.out.r6
          rw [hB9.out, show B + 2 = B2 from hB29.out.symm] at hr7
          obtain ⟨x7, f7⟩ := row_cell (cs := [.bool false]) hr7 (j := 0) rfl
          have HKD := hide hKD
          clear hr7 hKD hm1 hc1 hn1 hkV hnD
          gi_wp2
          refine ⟨by simp, .inl ⟨_, _, rfl, run_takeDeferred HKD.out, ?_⟩⟩
          refine ⟨.bool false, ?_, O1, hm3.out.sub, hm3.out.keep, .inr ⟨rfl, q, hq, hm3.out.j⟩⟩
          simp [results, Tryz.f32, go_sem, x7]
      · obtain rfl : e = .returned (.bool false) := he
        have hq9 : Hid ([A1] ++ A2 ++ q <+: slM b off c k m) := by
          show _ <+: _
          rw [HA.out]
          refine List.cons_prefix_cons.2 ⟨rfl, ?_⟩
          exact (List.prefix_append_right_inj _).2 (hq.trans ⟨A4, rfl⟩)
        have hMx : Hid (MSt ln Jx (pre ++ ([A1] ++ A2 ++ q)) O W c k (-1) mp false O3 X3) := hM3.out.yes hs3 hk3 (by first | exact hJ3 | (rw [← List.append_assoc]; exact hJ3) | simpa using hJ3)
        have hS3 : S X3 := hSx.out _ _ _ hMx.out
        clear hs3 hk3 hJ3 hM3 hS hq
        refine hK _ _ hS3 ?_
        clear hK K
        have hS := hS3
        refine TillIn.take (i := 31) (v := ?_) (fun _ => trivial) rfl (by kernel_rfl) (fun _ _ _ h => h) hS ?_ rfl ?_
        rotate_left
        · intro X hSX
          skip
          go_simp
          all_goals with_reducible rfl
        try simp only [Act.put, List.getElem_toArray, List.getElem_cons_succ, List.getElem_cons_zero, List.setIfInBounds_toArray, List.set_cons_zero, List.set_cons_succ]
        refine TillIn.take (i := 32) (v := ?_) (fun _ => trivial) rfl (by kernel_rfl) (fun _ _ _ h => h) hS ?_ rfl ?_
        rotate_left
        · intro X hSX
          skip
          go_simp
          all_goals with_reducible rfl
        try simp only [Act.put, List.getElem_toArray, List.getElem_cons_succ, List.getElem_cons_zero, List.setIfInBounds_toArray, List.set_cons_zero, List.set_cons_succ]

        refine TillIn.done (by kernel_rfl) ?_ _
        clear hS hS3 hSc hSj hSx S
        have hr6 := hMx.out.r6
        rw [hB9.out, show B + 2 = B2 from hB29.out.symm] at hr6
        obtain ⟨x6, f6⟩ := row_cell (cs := [.bool false]) hr6 (j := 0) rfl
        gi_wp2
        refine ⟨.bool false, ?_, ?_⟩
        · simp [results, Tryz.f32, go_sem, x6, f6]
        · have hM7 := hMx.out.own (v' := -1) (p' := mp) (r' := false) (Y := X3.setCell ⟨B2, 0, none⟩ (.bool false)) HTx.out (KeepsBut.setCell _ _ _ (.inr (by rw [hB9.out]; exact hB29.out))) ?_ ?_
          · exact ⟨_, hM7.sub, hM7.keep, .inr ⟨rfl, _, hq9.out, hM7.j⟩⟩
          · refine (Below.heap_setCell _ _ _ _ ?_).trans hMx.out.r4
            have := hB29.out; have := hB9.out; show W.heap.size ≠ B2; omega
          · rw [hB9.out, show B + 2 = B2 from hB29.out.symm]; exact row_store hr6 0 (.bool false)
    · obtain rfl : e = .returned (.bool false) := he
      have hq9 : Hid ([A1] ++ q <+: slM b off c k m) := by
        show _ <+: _
        rw [HA.out]
        exact List.cons_prefix_cons.2 ⟨rfl, hq.trans ⟨A3 ++ A4, rfl⟩⟩
      have hMx : Hid (MSt ln Jx (pre ++ ([A1] ++ q)) O W c k (-1) mp false O2 X2) := hM1.out.yes hs2 hk2 (by first | exact hJ2 | (rw [← List.append_assoc]; exact hJ2) | simpa using hJ2)
      have hS2 : S X2 := hSx.out _ _ _ hMx.out
      clear hs2 hk2 hJ2 hM1 hS hq
      refine hK _ _ hS2 ?_
      clear hK K
      have hS := hS2
      refine TillIn.take (i := 16) (v := ?_) (fun _ => trivial) rfl (by kernel_rfl) (fun _ _ _ h => h) hS ?_ rfl ?_
      rotate_left
      · intro X hSX
        skip
        go_simp
        all_goals with_reducible rfl
      try simp only [Act.put, List.getElem_toArray, List.getElem_cons_succ, List.getElem_cons_zero, List.setIfInBounds_toArray, List.set_cons_zero, List.set_cons_succ]
      refine TillIn.take (i := 17) (v := ?_) (fun _ => trivial) rfl (by kernel_rfl) (fun _ _ _ h => h) hS ?_ rfl ?_
      rotate_left
      · intro X hSX
        skip
        go_simp
        all_goals with_reducible rfl
      try simp only [Act.put, List.getElem_toArray, List.getElem_cons_succ, List.getElem_cons_zero, List.setIfInBounds_toArray, List.set_cons_zero, List.set_cons_succ]
      refine TillIn.take (i := 18) (v := ?_) (fun _ => trivial) rfl (by kernel_rfl) (fun _ _ _ h => h) hS ?_ rfl ?_
      rotate_left
      · intro X hSX
        skip
        go_simp
        all_goals with_reducible rfl
      try simp only [Act.put, List.getElem_toArray, List.getElem_cons_succ, List.getElem_cons_zero, List.setIfInBounds_toArray, List.set_cons_zero, List.set_cons_succ]
      refine TillIn.skip (i := 19) (fun _ => trivial) rfl (by kernel_rfl) (fun _ _ _ h => h) hS rfl ?_
      try simp only [Act.put, List.getElem_toArray, List.getElem_cons_succ, List.getElem_cons_zero, List.setIfInBounds_toArray, List.set_cons_zero, List.set_cons_succ]
      refine TillIn.skip (i := 20) (fun _ => trivial) rfl (by kernel_rfl) (fun _ _ _ h => h) hS rfl ?_
      try simp only [Act.put, List.getElem_toArray, List.getElem_cons_succ, List.getElem_cons_zero, List.setIfInBounds_toArray, List.set_cons_zero, List.set_cons_succ]
      refine TillIn.skip (i := 21) (fun _ => trivial) rfl (by kernel_rfl) (fun _ _ _ h => h) hS rfl ?_
      try simp only [Act.put, List.getElem_toArray, List.getElem_cons_succ, List.getElem_cons_zero, List.setIfInBounds_toArray, List.set_cons_zero, List.set_cons_succ]
      refine TillIn.skip (i := 22) (fun _ => trivial) rfl (by kernel_rfl) (fun _ _ _ h => h) hS rfl ?_
      try simp only [Act.put, List.getElem_toArray, List.getElem_cons_succ, List.getElem_cons_zero, List.setIfInBounds_toArray, List.set_cons_zero, List.set_cons_succ]
      refine TillIn.skip (i := 23) (fun _ => trivial) rfl (by kernel_rfl) (fun _ _ _ h => h) hS rfl ?_
      try simp only [Act.put, List.getElem_toArray, List.getElem_cons_succ, List.getElem_cons_zero, List.setIfInBounds_toArray, List.set_cons_zero, List.set_cons_succ]
      refine TillIn.skip (i := 24) (fun _ => trivial) rfl (by kernel_rfl) (fun _ _ _ h => h) hS rfl ?_
      try simp only [Act.put, List.getElem_toArray, List.getElem_cons_succ, List.getElem_cons_zero, List.setIfInBounds_toArray, List.set_cons_zero, List.set_cons_succ]
      refine TillIn.skip (i := 25) (fun _ => trivial) rfl (by kernel_rfl) (fun _ _ _ h => h) hS rfl ?_
      try simp only [Act.put, List.getElem_toArray, List.getElem_cons_succ, List.getElem_cons_zero, List.setIfInBounds_toArray, List.set_cons_zero, List.set_cons_succ]
      refine TillIn.skip (i := 26) (fun _ => trivial) rfl (by kernel_rfl) (fun _ _ _ h => h) hS rfl ?_
      try simp only [Act.put, List.getElem_toArray, List.getElem_cons_succ, List.getElem_cons_zero, List.setIfInBounds_toArray, List.set_cons_zero, List.set_cons_succ]
      refine TillIn.skip (i := 27) (fun _ => trivial) rfl (by kernel_rfl) (fun _ _ _ h => h) hS rfl ?_
      try simp only [Act.put, List.getElem_toArray, List.getElem_cons_succ, List.getElem_cons_zero, List.setIfInBounds_toArray, List.set_cons_zero, List.set_cons_succ]
      refine TillIn.skip (i := 28) (fun _ => trivial) rfl (by kernel_rfl) (fun _ _ _ h => h) hS rfl ?_
      try simp only [Act.put, List.getElem_toArray, List.getElem_cons_succ, List.getElem_cons_zero, List.setIfInBounds_toArray, List.set_cons_zero, List.set_cons_succ]
      refine TillIn.skip (i := 29) (fun _ => trivial) rfl (by kernel_rfl) (fun _ _ _ h => h) hS rfl ?_
      try simp only [Act.put, List.getElem_toArray, List.getElem_cons_succ, List.getElem_cons_zero, List.setIfInBounds_toArray, List.set_cons_zero, List.set_cons_succ]
      refine TillIn.skip (i := 30) (fun _ => trivial) rfl (by kernel_rfl) (fun _ _ _ h => h) hS rfl ?_
      try simp only [Act.put, List.getElem_toArray, List.getElem_cons_succ, List.getElem_cons_zero, List.setIfInBounds_toArray, List.set_cons_zero, List.set_cons_succ]
      refine TillIn.skip (i := 31) (fun _ => trivial) rfl (by kernel_rfl) (fun _ _ _ h => h) hS rfl ?_
      try simp only [Act.put, List.getElem_toArray, List.getElem_cons_succ, List.getElem_cons_zero, List.setIfInBounds_toArray, List.set_cons_zero, List.set_cons_succ]
      refine TillIn.take (i := 32) (v := ?_) (fun _ => trivial) rfl (by kernel_rfl) (fun _ _ _ h => h) hS ?_ rfl ?_
      rotate_left
      · intro X hSX
        skip
        go_simp
        all_goals with_reducible rfl
      try simp only [Act.put, List.getElem_toArray, List.getElem_cons_succ, List.getElem_cons_zero, List.setIfInBounds_toArray, List.set_cons_zero, List.set_cons_succ]

      refine TillIn.done (by kernel_rfl) ?_ _
      clear hS hS2 hSc hSj hSx S
      have hr6 := hMx.out.r6
      rw [hB9.out, show B + 2 = B2 from hB29.out.symm] at hr6
      obtain ⟨x6, f6⟩ := row_cell (cs := [.bool false]) hr6 (j := 0) rfl
      gi_wp2
      refine ⟨.bool false, ?_, ?_⟩
      · simp [results, Tryz.f32, go_sem, x6, f6]
      · have hM7 := hMx.out.own (v' := -1) (p' := mp) (r' := false) (Y := X2.setCell ⟨B2, 0, none⟩ (.bool false)) HTx.out (KeepsBut.setCell _ _ _ (.inr (by rw [hB9.out]; exact hB29.out))) ?_ ?_
        · exact ⟨_, hM7.sub, hM7.keep, .inr ⟨rfl, _, hq9.out, hM7.j⟩⟩
        · refine (Below.heap_setCell _ _ _ _ ?_).trans hMx.out.r4
          have := hB29.out; have := hB9.out; show W.heap.size ≠ B2; omega
        · rw [hB9.out, show B + 2 = B2 from hB29.out.symm]; exact row_store hr6 0 (.bool false)
  · obtain rfl : e = .returned (.bool false) := he
    have hq9 : Hid (q <+: slM b off c k m) := by
      show _ <+: _
      rw [HA.out]
      exact hq.trans ⟨A2 ++ (A3 ++ A4), rfl⟩
    have hMx : Hid (MSt ln Jx (pre ++ (q)) O W c k (-1) mp false O1 X1) := hMd.out.yes hs1 hk1 (by first | exact hJ1 | (rw [← List.append_assoc]; exact hJ1) | simpa using hJ1)
    have hS1 : S X1 := hSx.out _ _ _ hMx.out
    clear hs1 hk1 hJ1 hMd hS hq
    refine hK _ _ hS1 ?_
    clear hK K
    have hS := hS1
    refine TillIn.take (i := 7) (v := ?_) (fun _ => trivial) rfl (by kernel_rfl) (fun _ _ _ h => h) hS ?_ rfl ?_
    rotate_left
    · intro X hSX
      skip
      go_simp
      all_goals with_reducible rfl
    try simp only [Act.put, List.getElem_toArray, List.getElem_cons_succ, List.getElem_cons_zero, List.setIfInBounds_toArray, List.set_cons_zero, List.set_cons_succ]
    refine TillIn.take (i := 8) (v := ?_) (fun _ => trivial) rfl (by kernel_rfl) (fun _ _ _ h => h) hS ?_ rfl ?_
    rotate_left
    · intro X hSX
      skip
      go_simp
      all_goals with_reducible rfl
    try simp only [Act.put, List.getElem_toArray, List.getElem_cons_succ, List.getElem_cons_zero, List.setIfInBounds_toArray, List.set_cons_zero, List.set_cons_succ]
    refine TillIn.skip (i := 9) (fun _ => trivial) rfl (by kernel_rfl) (fun _ _ _ h => h) hS rfl ?_
    try simp only [Act.put, List.getElem_toArray, List.getElem_cons_succ, List.getElem_cons_zero, List.setIfInBounds_toArray, List.set_cons_zero, List.set_cons_succ]
    refine TillIn.skip (i := 10) (fun _ => trivial) rfl (by kernel_rfl) (fun _ _ _ h => h) hS rfl ?_
    try simp only [Act.put, List.getElem_toArray, List.getElem_cons_succ, List.getElem_cons_zero, List.setIfInBounds_toArray, List.set_cons_zero, List.set_cons_succ]
    refine TillIn.skip (i := 11) (fun _ => trivial) rfl (by kernel_rfl) (fun _ _ _ h => h) hS rfl ?_
    try simp only [Act.put, List.getElem_toArray, List.getElem_cons_succ, List.getElem_cons_zero, List.setIfInBounds_toArray, List.set_cons_zero, List.set_cons_succ]
    refine TillIn.skip (i := 12) (fun _ => trivial) rfl (by kernel_rfl) (fun _ _ _ h => h) hS rfl ?_
    try simp only [Act.put, List.getElem_toArray, List.getElem_cons_succ, List.getElem_cons_zero, List.setIfInBounds_toArray, List.set_cons_zero, List.set_cons_succ]
    refine TillIn.skip (i := 13) (fun _ => trivial) rfl (by kernel_rfl) (fun _ _ _ h => h) hS rfl ?_
    try simp only [Act.put, List.getElem_toArray, List.getElem_cons_succ, List.getElem_cons_zero, List.setIfInBounds_toArray, List.set_cons_zero, List.set_cons_succ]
    refine TillIn.skip (i := 14) (fun _ => trivial) rfl (by kernel_rfl) (fun _ _ _ h => h) hS rfl ?_
    try simp only [Act.put, List.getElem_toArray, List.getElem_cons_succ, List.getElem_cons_zero, List.setIfInBounds_toArray, List.set_cons_zero, List.set_cons_succ]
    refine TillIn.skip (i := 15) (fun _ => trivial) rfl (by kernel_rfl) (fun _ _ _ h => h) hS rfl ?_
    try simp only [Act.put, List.getElem_toArray, List.getElem_cons_succ, List.getElem_cons_zero, List.setIfInBounds_toArray, List.set_cons_zero, List.set_cons_succ]
    refine TillIn.skip (i := 16) (fun _ => trivial) rfl (by kernel_rfl) (fun _ _ _ h => h) hS rfl ?_
    try simp only [Act.put, List.getElem_toArray, List.getElem_cons_succ, List.getElem_cons_zero, List.setIfInBounds_toArray, List.set_cons_zero, List.set_cons_succ]
    refine TillIn.take (i := 17) (v := ?_) (fun _ => trivial) rfl (by kernel_rfl) (fun _ _ _ h => h) hS ?_ rfl ?_
    rotate_left
    · intro X hSX
      skip
      go_simp
      all_goals with_reducible rfl
    try simp only [Act.put, List.getElem_toArray, List.getElem_cons_succ, List.getElem_cons_zero, List.setIfInBounds_toArray, List.set_cons_zero, List.set_cons_succ]
    refine TillIn.take (i := 18) (v := ?_) (fun _ => trivial) rfl (by kernel_rfl) (fun _ _ _ h => h) hS ?_ rfl ?_
    rotate_left
    · intro X hSX
      skip
      go_simp
      all_goals with_reducible rfl
    try simp only [Act.put, List.getElem_toArray, List.getElem_cons_succ, List.getElem_cons_zero, List.setIfInBounds_toArray, List.set_cons_zero, List.set_cons_succ]
    refine TillIn.skip (i := 19) (fun _ => trivial) rfl (by kernel_rfl) (fun _ _ _ h => h) hS rfl ?_
    try simp only [Act.put, List.getElem_toArray, List.getElem_cons_succ, List.getElem_cons_zero, List.setIfInBounds_toArray, List.set_cons_zero, List.set_cons_succ]
    refine TillIn.skip (i := 20) (fun _ => trivial) rfl (by kernel_rfl) (fun _ _ _ h => h) hS rfl ?_
    try simp only [Act.put, List.getElem_toArray, List.getElem_cons_succ, List.getElem_cons_zero, List.setIfInBounds_toArray, List.set_cons_zero, List.set_cons_succ]
    refine TillIn.skip (i := 21) (fun _ => trivial) rfl (by kernel_rfl) (fun _ _ _ h => h) hS rfl ?_
    try simp only [Act.put, List.getElem_toArray, List.getElem_cons_succ, List.getElem_cons_zero, List.setIfInBounds_toArray, List.set_cons_zero, List.set_cons_succ]
    refine TillIn.skip (i := 22) (fun _ => trivial) rfl (by kernel_rfl) (fun _ _ _ h => h) hS rfl ?_
    try simp only [Act.put, List.getElem_toArray, List.getElem_cons_succ, List.getElem_cons_zero, List.setIfInBounds_toArray, List.set_cons_zero, List.set_cons_succ]
    refine TillIn.skip (i := 23) (fun _ => trivial) rfl (by kernel_rfl) (fun _ _ _ h => h) hS rfl ?_
    try simp only [Act.put, List.getElem_toArray, List.getElem_cons_succ, List.getElem_cons_zero, List.setIfInBounds_toArray, List.set_cons_zero, List.set_cons_succ]
    refine TillIn.skip (i := 24) (fun _ => trivial) rfl (by kernel_rfl) (fun _ _ _ h => h) hS rfl ?_
    try simp only [Act.put, List.getElem_toArray, List.getElem_cons_succ, List.getElem_cons_zero, List.setIfInBounds_toArray, List.set_cons_zero, List.set_cons_succ]
    refine TillIn.skip (i := 25) (fun _ => trivial) rfl (by kernel_rfl) (fun _ _ _ h => h) hS rfl ?_
    try simp only [Act.put, List.getElem_toArray, List.getElem_cons_succ, List.getElem_cons_zero, List.setIfInBounds_toArray, List.set_cons_zero, List.set_cons_succ]
    refine TillIn.skip (i := 26) (fun _ => trivial) rfl (by kernel_rfl) (fun _ _ _ h => h) hS rfl ?_
    try simp only [Act.put, List.getElem_toArray, List.getElem_cons_succ, List.getElem_cons_zero, List.setIfInBounds_toArray, List.set_cons_zero, List.set_cons_succ]
    refine TillIn.skip (i := 27) (fun _ => trivial) rfl (by kernel_rfl) (fun _ _ _ h => h) hS rfl ?_
    try simp only [Act.put, List.getElem_toArray, List.getElem_cons_succ, List.getElem_cons_zero, List.setIfInBounds_toArray, List.set_cons_zero, List.set_cons_succ]
    refine TillIn.skip (i := 28) (fun _ => trivial) rfl (by kernel_rfl) (fun _ _ _ h => h) hS rfl ?_
    try simp only [Act.put, List.getElem_toArray, List.getElem_cons_succ, List.getElem_cons_zero, List.setIfInBounds_toArray, List.set_cons_zero, List.set_cons_succ]
    refine TillIn.skip (i := 29) (fun _ => trivial) rfl (by kernel_rfl) (fun _ _ _ h => h) hS rfl ?_
    try simp only [Act.put, List.getElem_toArray, List.getElem_cons_succ, List.getElem_cons_zero, List.setIfInBounds_toArray, List.set_cons_zero, List.set_cons_succ]
    refine TillIn.skip (i := 30) (fun _ => trivial) rfl (by kernel_rfl) (fun _ _ _ h => h) hS rfl ?_
    try simp only [Act.put, List.getElem_toArray, List.getElem_cons_succ, List.getElem_cons_zero, List.setIfInBounds_toArray, List.set_cons_zero, List.set_cons_succ]
    refine TillIn.skip (i := 31) (fun _ => trivial) rfl (by kernel_rfl) (fun _ _ _ h => h) hS rfl ?_
    try simp only [Act.put, List.getElem_toArray, List.getElem_cons_succ, List.getElem_cons_zero, List.setIfInBounds_toArray, List.set_cons_zero, List.set_cons_succ]
    refine TillIn.take (i := 32) (v := ?_) (fun _ => trivial) rfl (by kernel_rfl) (fun _ _ _ h => h) hS ?_ rfl ?_
    rotate_left
    · intro X hSX
      skip
      go_simp
      all_goals with_reducible rfl
    try simp only [Act.put, List.getElem_toArray, List.getElem_cons_succ, List.getElem_cons_zero, List.setIfInBounds_toArray, List.set_cons_zero, List.set_cons_succ]

    refine TillIn.done (by kernel_rfl) ?_ _
    clear hS hS1 hSc hSj hSx S
    have hr6 := hMx.out.r6
    rw [hB9.out, show B + 2 = B2 from hB29.out.symm] at hr6
    obtain ⟨x6, f6⟩ := row_cell (cs := [.bool false]) hr6 (j := 0) rfl
    gi_wp2
    refine ⟨.bool false, ?_, ?_⟩
    · simp [results, Tryz.f32, go_sem, x6, f6]
    · have hM7 := hMx.out.own (v' := -1) (p' := mp) (r' := false) (Y := X1.setCell ⟨B2, 0, none⟩ (.bool false)) HTx.out (KeepsBut.setCell _ _ _ (.inr (by rw [hB9.out]; exact hB29.out))) ?_ ?_
      · exact ⟨_, hM7.sub, hM7.keep, .inr ⟨rfl, _, hq9.out, hM7.j⟩⟩
      · refine (Below.heap_setCell _ _ _ _ ?_).trans hMx.out.r4
        have := hB29.out; have := hB9.out; show W.heap.size ≠ B2; omega
      · rw [hB9.out, show B + 2 = B2 from hB29.out.symm]; exact row_store hr6 0 (.bool false)
end Go.Proofs.YtmpdmelkbemabaaGreat
