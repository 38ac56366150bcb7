/- The walk of arena.vars. -/
import Derived.Test.YtmpdmelkbemabaaRows
import Derived.Test.YtmpdmelkbemabaaSlots
import Derived.BigGuardPart
import Derived.Shelf.Abstract
set_option linter.unusedSimpArgs false
set_option linter.unusedVariables false
namespace Go.Proofs.Ytmpdmelkbemabaa
open Go.RowKit Go.Proofs.Grow
attribute [local go_sem] Oper.semAt_some

set_option maxHeartbeats 2000000 in
set_option maxRecDepth 100000 in
theorem vars_push (A : Option Addr) (cap : Nat) (l : List Va) (c m v p f : Int) :
    Pushes Try.prog 34 (fun y => #[.slice A l.length cap, .agg (noteCells c m v p).toArray, .int .i64 f, y]) Sl.args (RdV A l) isTrue isFalse (slV A c m f l) := by
  intro n ln J Jx pre O W hH h0
  have HH := hide hH
  clear hH
  unfold noteCells
  refine callsIn_of_wp Try.func34 rfl trivial ?_ rfl
  simp only [Try.ntmps34, List.size_toArray, List.length_cons, List.length_nil, Nat.reduceAdd, Nat.reduceSub, Array.replicate_succ, Array.replicate_zero, List.push_toArray, List.append_toArray, List.nil_append, List.cons_append]
  gi_wp2
  have hsz : W.heap.size < (W.alloc (.cells (noteCells c m v p).toArray 39)).heap.size := by simp
  have hbx : Hid ((W.alloc (.cells (noteCells c m v p).toArray 39)).heap[W.heap.size]? = some (.cells (noteCells c m v p).toArray 39 (0, 0))) := heap_alloc_new W _
  have hk0 : Hid (KeepsBut O W (W.alloc (.cells (noteCells c m v p).toArray 39))) := KeepsBut.alloc W _
  have hj0 : Hid (J pre O (W.alloc (.cells (noteCells c m v p).toArray 39))) := HH.out.turn _ _ _ _ h0 (KeepsBut.alloc W _)
  have hO0 : Hid (∀ k, O k → k < W.heap.size) := HH.out.there _ _ _ h0
  have hA0 : Hid (∀ i, i < l.length → ∃ b off, A = some ⟨b, off, none⟩ ∧ b < W.heap.size) := fun i hi => by
    obtain ⟨b, off, hA, hb, _⟩ := (HH.out.read _ _ _ h0).at_ i hi
    exact ⟨b, off, hA, hb⟩
  have hl63 : l.length ≤ 9223372036854775807 := by have := (HH.out.read _ _ _ h0).len; unfold maxLen at this; omega
  unfold noteCells at hsz hbx hk0 hj0
  clear h0
  gi_loopw [9, 12] (fun s9 s12 wr => ∃ (k : Nat) (v p : Int) (O' : Nat → Prop), k ≤ l.length ∧ s12 = .int .i64 k ∧ W.heap.size < wr.heap.size ∧
    Hid (SubO O W.heap.size O' ∧ ¬ O' W.heap.size ∧ KeepsBut O W wr ∧ J (pre ++ slV A c m f (l.take k)) O' wr ∧ wr.heap[W.heap.size]? = some (.cells (noteCells c m v p).toArray 39 (0, 0)))) (fun _ s12 _ => l.length - (intOf s12).toNat)
  case atStart => exact ⟨0, v, p, O, Nat.zero_le _, rfl, hsz, SubO.refl _ _, fun h => Nat.lt_irrefl _ (hO0.out _ h), hk0.out, by simpa [slV] using hj0.out, hbx.out⟩
  case round =>
    obtain ⟨k, v, p, O', hk, rfl, hsw, hF⟩ := hrel
    clear hsz hbx hk0 hj0
    by_cases hlt : k < l.length
    · obtain ⟨b, off, hA, hb, hc⟩ := (HH.out.read _ _ _ hF.out.2.2.2.1).at_ k hlt
      have hlt' : (k : Int) < (l.length : Int) := by omega
      obtain ⟨b', off', hA', hb0⟩ := hA0.out k hlt
      obtain ⟨rfl, rfl⟩ : b' = b ∧ off' = off := by rw [hA] at hA'; simpa using hA'.symm
      have HT := slV_take A c m f l k hlt
      have HP := hide (slV_prefix A c m f l (k + 1))
      obtain ⟨e, he⟩ : ∃ e, e = l[k] := ⟨_, rfl⟩
      rw [← he] at hc HT
      obtain ⟨x, hx⟩ : ∃ x : Sl, x = ⟨bkA A, ofA A + k * 13 + 1, false, c, m, IntKind.i64.wrap (f + k), e.pos, e.ty⟩ := ⟨_, rfl⟩
      rw [← hx] at HT
      have HX := hide hx
      have HT9 := hide HT
      obtain ⟨pos, hpos⟩ : ∃ q, e.pos = q := ⟨_, rfl⟩
      rw [hpos] at hc
      have hpos9 := hide hpos
      have hlt9 := hide hlt
      obtain ⟨B, hB⟩ : ∃ B, W.heap.size = B := ⟨_, rfl⟩
      rw [hB] at hb0 hsw ⊢
      have hB9 := hide hB
      have hne : b' ≠ B := by omega
      have hA9 := hide hA
      subst hA
      clear hA' hlt hpos hB he hx HT
      gi_wp2
      let S : World → Prop := fun X => (∃ v' p', X.heap[B]? = some (.cells (noteCells c m v' p').toArray 39 (0, 0))) ∧ KeepsBut (fun k => k = B) wr X
      have hSc : ∀ X, S X → X.cell? ⟨b', off' + k * 13 + 12, none⟩ = some (.int .i64 pos) := fun X h => (h.2.cell hb hne).trans hc
      have hS : S wr.drew := ⟨⟨v, p, by rw [← hB9.out]; exact hF.out.2.2.2.2⟩, KeepsBut.drew wr⟩
      refine wpIn_region_till S (by kernel_rfl) ?_
      simp only [List.size_toArray, List.length_cons, List.length_nil, Nat.reduceAdd]
      refine TillIn.take (i := 0) (v := ?_) (fun _ => trivial) rfl (by kernel_rfl) (fun _ _ _ h => h) hS ?_ rfl ?_
      rotate_left
      · intro X hSX
        skip
        go_simp
        all_goals with_reducible rfl
      try simp only [Act.put, List.getElem_toArray, List.getElem_cons_succ, List.getElem_cons_zero, List.setIfInBounds_toArray, List.set_cons_zero, List.set_cons_succ]
      refine TillIn.take (i := 1) (v := ?_) (fun _ => trivial) rfl (by kernel_rfl) (fun _ _ _ h => h) hS ?_ rfl ?_
      rotate_left
      · intro X hSX
        skip
        go_simp
        all_goals with_reducible rfl
      try simp only [Act.put, List.getElem_toArray, List.getElem_cons_succ, List.getElem_cons_zero, List.setIfInBounds_toArray, List.set_cons_zero, List.set_cons_succ]
      refine TillIn.take (i := 2) (v := ?_) (fun _ => trivial) rfl (by kernel_rfl) (fun _ _ _ h => h) hS ?_ rfl ?_
      rotate_left
      · intro X hSX
        skip
        go_simp
        all_goals with_reducible rfl
      try simp only [Act.put, List.getElem_toArray, List.getElem_cons_succ, List.getElem_cons_zero, List.setIfInBounds_toArray, List.set_cons_zero, List.set_cons_succ]
      obtain ⟨V, hV0⟩ : ∃ V, V = IntKind.i64.wrap (f + k) := ⟨_, rfl⟩
      rw [← hV0]
      have hV := hide hV0
      clear hV0
      refine TillIn.take (i := 3) (v := ?_) (fun _ => trivial) rfl (by kernel_rfl) (fun _ _ _ h => h) hS ?_ rfl ?_
      rotate_left
      · intro X hSX
        skip
        go_simp
        all_goals with_reducible rfl
      try simp only [Act.put, List.getElem_toArray, List.getElem_cons_succ, List.getElem_cons_zero, List.setIfInBounds_toArray, List.set_cons_zero, List.set_cons_succ]
      refine TillIn.take (i := 4) (v := ?_) (fun _ => trivial) rfl (by kernel_rfl) (fun _ _ _ h => h) hS ?_ rfl ?_
      rotate_left
      · intro X hSX
        skip
        go_simp
        all_goals with_reducible rfl
      try simp only [Act.put, List.getElem_toArray, List.getElem_cons_succ, List.getElem_cons_zero, List.setIfInBounds_toArray, List.set_cons_zero, List.set_cons_succ]
      refine TillIn.take (i := 5) (v := ?_) (fun _ => trivial) rfl (by kernel_rfl) (fun _ _ _ h => h) hS ?_ rfl ?_
      rotate_left
      · intro X hSX
        skip
        go_simp
        all_goals with_reducible rfl
      try simp only [Act.put, List.getElem_toArray, List.getElem_cons_succ, List.getElem_cons_zero, List.setIfInBounds_toArray, List.set_cons_zero, List.set_cons_succ]
      refine TillIn.take (i := 6) (v := ?_) (fun _ => trivial) rfl (by kernel_rfl) (fun _ _ _ h => h) hS ?_ rfl ?_
      rotate_left
      · intro X hSX
        skip
        go_simp
        all_goals with_reducible rfl
      try simp only [Act.put, List.getElem_toArray, List.getElem_cons_succ, List.getElem_cons_zero, List.setIfInBounds_toArray, List.set_cons_zero, List.set_cons_succ]
      refine TillIn.take (i := 7) (v := ?_) (fun _ => trivial) rfl (by kernel_rfl) (fun _ _ _ h => h) hS ?_ rfl ?_
      rotate_left
      · intro X hSX
        have h7 := hSc X hSX
        go_simp
        all_goals with_reducible rfl
      try simp only [Act.put, List.getElem_toArray, List.getElem_cons_succ, List.getElem_cons_zero, List.setIfInBounds_toArray, List.set_cons_zero, List.set_cons_succ]
      refine TillIn.take (i := 8) (v := ?_) (fun _ => trivial) rfl (by kernel_rfl) (fun _ _ _ h => h) hS ?_ rfl ?_
      rotate_left
      · intro X hSX
        skip
        go_simp
        all_goals with_reducible rfl
      try simp only [Act.put, List.getElem_toArray, List.getElem_cons_succ, List.getElem_cons_zero, List.setIfInBounds_toArray, List.set_cons_zero, List.set_cons_succ]
      have hrow : wr.heap[B]? = some (.cells (noteCells c m v p).toArray 39 (0, 0)) := by rw [← hB9.out]; exact hF.out.2.2.2.2
      obtain ⟨x2, f2⟩ := row_cell hrow (j := 2) rfl
      obtain ⟨w1, hw1⟩ : ∃ w1, w1 = (wr.setCell ⟨B, 2, none⟩ (.int .i64 V)).drew := ⟨_, rfl⟩
      have hrow1 : w1.heap[B]? = some (.cells (noteCells c m V p).toArray 39 (0, 0)) := by rw [hw1]; exact row_store hrow 2 (.int .i64 V)
      have hk1 : KeepsBut (fun k => k = B) wr w1 := by rw [hw1]; exact KeepsBut.trans' (O := fun k => k = B) (KeepsBut.setCell wr ⟨B, 2, none⟩ _ rfl) (KeepsBut.drew _)
      have hS1 : S w1 := ⟨⟨_, _, hrow1⟩, hk1⟩
      have hrow9 := hide hrow1
      clear hS hrow hrow1
      refine TillIn.one (i := 9) rfl (by kernel_rfl) rfl ?_
      intro K hK
      go_simp
      rw [← hw1]
      refine hK _ _ hS1 ?_
      clear hK K hw1 x2 f2
      have hS := hS1
      refine TillIn.take (i := 10) (v := ?_) (fun _ => trivial) rfl (by kernel_rfl) (fun _ _ _ h => h) hS ?_ rfl ?_
      rotate_left
      · intro X hSX
        skip
        go_simp
        all_goals with_reducible rfl
      try simp only [Act.put, List.getElem_toArray, List.getElem_cons_succ, List.getElem_cons_zero, List.setIfInBounds_toArray, List.set_cons_zero, List.set_cons_succ]
      have hrow : w1.heap[B]? = some (.cells (noteCells c m V p).toArray 39 (0, 0)) := hrow9.out
      obtain ⟨x14, f14⟩ := row_cell hrow (j := 14) rfl
      obtain ⟨w2, hw2⟩ : ∃ w2, w2 = w1.setCell ⟨B, 14, none⟩ (.int .i64 pos) := ⟨_, rfl⟩
      have hrow2 : w2.heap[B]? = some (.cells (noteCells c m V pos).toArray 39 (0, 0)) := by rw [hw2]; exact row_store hrow 14 (.int .i64 pos)
      have hk2 : KeepsBut (fun k => k = B) wr w2 := by rw [hw2]; exact hk1.trans' (KeepsBut.setCell w1 ⟨B, 14, none⟩ _ rfl)
      have hS2 : S w2 := ⟨⟨_, _, hrow2⟩, hk2⟩
      have hrowB := hide hrow2
      have hk9 := hide hk2
      clear hS hrow hrow2 hk1 hk2
      refine TillIn.one (i := 11) rfl (by kernel_rfl) rfl ?_
      intro K hK
      go_simp
      rw [← hw2]
      refine hK _ _ hS2 ?_
      clear hK K hw2 x14 f14 hS2 hS1
      refine TillIn.done (by kernel_rfl) ?_ _
      clear hrow9 hSc S w1
      gi_wp2
      have hXc : Hid (x.args = #[.agg #[.pointer (some ⟨b', off' + k * 13 + 1, none⟩), .bool false, .int .i64 c, .int .i64 m, .int .i64 V, .int .i64 0, .string ⟨#[]⟩, .int .i64 0, .int .i64 0, .int .i64 0, .int .i64 0, .int .i64 0, .int .i64 0, .int .i64 0, .int .i64 0, .int .i64 0, .int .i64 pos]]) := by
        show _ = _
        rw [HX.out, hpos9.out, ← hV.out]; rfl
      have hJ2 : Hid (J (pre ++ slV (some ⟨b', off', none⟩) c m f (l.take k)) O' w2.drew) :=
        HH.out.turn _ _ _ _ hF.out.2.2.2.1 ((hk9.out.trans' (KeepsBut.drew w2)).mono fun j _ hj => by subst hj; rw [hB9.out]; exact ⟨Nat.le_refl _, hB9.out ▸ hF.out.2.1⟩)
      have hY := (HH.out.round (n - 1) _ x O' w2.drew hJ2.out (by rw [← HT9.out]; exact HP.out))
      rw [hXc.out] at hY
      let S : World → Prop := fun X => X.heap[B]? = some (.cells (noteCells c m V pos).toArray 39 (0, 0))
      have hS : S w2.drew := hrowB.out
      refine wpIn_region_till S (by kernel_rfl) ?_
      simp only [List.size_toArray, List.length_cons, List.length_nil, Nat.reduceAdd]
      refine TillIn.take (i := 0) (v := ?_) (fun _ => trivial) rfl (by kernel_rfl) (fun _ _ _ h => h) hS ?_ rfl ?_
      rotate_left
      · intro X hSX
        skip
        go_simp
        all_goals with_reducible rfl
      try simp only [Act.put, List.getElem_toArray, List.getElem_cons_succ, List.getElem_cons_zero, List.setIfInBounds_toArray, List.set_cons_zero, List.set_cons_succ]
      refine TillIn.take (i := 1) (v := ?_) (fun _ => trivial) rfl (by kernel_rfl) (fun _ _ _ h => h) hS ?_ rfl ?_
      rotate_left
      · intro X hSX
        skip
        go_simp
        all_goals with_reducible rfl
      try simp only [Act.put, List.getElem_toArray, List.getElem_cons_succ, List.getElem_cons_zero, List.setIfInBounds_toArray, List.set_cons_zero, List.set_cons_succ]
      refine TillIn.take (i := 2) (v := ?_) (fun _ => trivial) rfl (by kernel_rfl) (fun _ _ _ h => h) hS ?_ rfl ?_
      rotate_left
      · intro X hSX
        skip
        go_simp
        all_goals with_reducible rfl
      try simp only [Act.put, List.getElem_toArray, List.getElem_cons_succ, List.getElem_cons_zero, List.setIfInBounds_toArray, List.set_cons_zero, List.set_cons_succ]
      refine TillIn.take (i := 3) (v := ?_) (fun _ => trivial) rfl (by kernel_rfl) (fun _ _ _ h => h) hS ?_ rfl ?_
      rotate_left
      · intro X hSX
        skip
        go_simp
        all_goals with_reducible rfl
      try simp only [Act.put, List.getElem_toArray, List.getElem_cons_succ, List.getElem_cons_zero, List.setIfInBounds_toArray, List.set_cons_zero, List.set_cons_succ]
      refine TillIn.take (i := 4) (v := ?_) (fun _ => trivial) rfl (by kernel_rfl) (fun _ _ _ h => h) hS ?_ rfl ?_
      rotate_left
      · intro X hSX
        skip
        go_simp
        all_goals with_reducible rfl
      try simp only [Act.put, List.getElem_toArray, List.getElem_cons_succ, List.getElem_cons_zero, List.setIfInBounds_toArray, List.set_cons_zero, List.set_cons_succ]
      refine TillIn.take (i := 5) (v := .agg (noteCells c m V pos).toArray) (fun _ => trivial) rfl (by kernel_rfl) (fun _ _ _ h => h) hS (fun X hX => run_load_block (g := B) rfl rfl hX Try.underlying39 rfl (by kernel_rfl)) rfl ?_
      unfold noteCells
      try simp only [Act.put, List.getElem_toArray, List.getElem_cons_succ, List.getElem_cons_zero, List.setIfInBounds_toArray, List.set_cons_zero, List.set_cons_succ]
      refine TillIn.take (i := 6) (v := ?_) (fun _ => trivial) rfl (by kernel_rfl) (fun _ _ _ h => h) hS ?_ rfl ?_
      rotate_left
      · intro X hSX
        skip
        go_simp
        all_goals with_reducible rfl
      try simp only [Act.put, List.getElem_toArray, List.getElem_cons_succ, List.getElem_cons_zero, List.setIfInBounds_toArray, List.set_cons_zero, List.set_cons_succ]
      obtain ⟨fn, tmps, assign, body, hy, hR⟩ := hY
      refine TillIn.one (i := 7) rfl (by kernel_rfl) rfl ?_
      intro K hK
      go_simp
      refine ⟨fun h => (by simp [Fence.wide] at h), ?_⟩
      have hBO : ¬ O' B := hB9.out ▸ hF.out.2.1
      have hB2 : B < w2.drew.heap.size := row_lt (show w2.drew.heap[B]? = _ from hS)
      have HN := hide (And.intro hBO hB2)
      have hkW : Hid (KeepsBut O W w2.drew) := hF.out.2.2.1.trans ((hk9.out.trans' (KeepsBut.drew w2)).mono fun j _ hj => by subst hj; exact .inr rfl) (O1 := fun k => O' k ∨ k = B) (fun j hj => by
        rcases hj with hj | rfl
        · exact hF.out.1 j hj
        · rw [hB9.out]; exact .inr (Nat.le_refl _))
      have hwle : W.heap.size ≤ w2.drew.heap.size := hkW.out.size
      have hWL := hide hwle
      clear hBO hB2 hwle hJ2 hk9
      refine hR.mono ?_
      rintro e W3 ⟨O3, hs3, hk3, ⟨he, hJ3⟩ | ⟨he, q, hq, hJ3⟩⟩
      · obtain rfl : e = .returned (.bool true) := he
        have hS3 : S W3 := (hk3.block B HN.out.2 HN.out.1).trans hS
        have HG : Hid (SubO O W.heap.size O3 ∧ ¬ O3 W.heap.size ∧ KeepsBut O W W3 ∧ J (pre ++ slV (some ⟨b', off', none⟩) c m f (l.take (k + 1))) O3 W3 ∧ W3.heap[W.heap.size]? = some (.cells (noteCells c m V pos).toArray 39 (0, 0))) := by
          refine ⟨hF.out.1.trans hs3 hWL.out, fun h => ?_, hkW.out.trans hk3 hF.out.1, ?_, ?_⟩
          · rcases hs3 _ h with h' | h'
            · exact hF.out.2.1 h'
            · rw [hB9.out] at h'; have := HN.out.2; omega
          · rw [HT9.out, ← List.append_assoc]; exact hJ3
          · rw [hB9.out]; exact hS3
        have hsw3 : W.heap.size < W3.heap.size := row_lt HG.out.2.2.2.2
        clear hJ3 hs3 hk3 hS
        refine hK _ _ hS3 ?_
        clear hK K hy hR
        have hS := hS3
        refine TillIn.take (i := 8) (v := ?_) (fun _ => trivial) rfl (by kernel_rfl) (fun _ _ _ h => h) hS ?_ rfl ?_
        rotate_left
        · intro X hSX
          skip
          go_simp
          all_goals with_reducible rfl
        try simp only [Act.put, List.getElem_toArray, List.getElem_cons_succ, List.getElem_cons_zero, List.setIfInBounds_toArray, List.set_cons_zero, List.set_cons_succ]
        refine TillIn.done (by kernel_rfl) ?_ _
        clear hS hS3 S
        gi_wp2
        go_roundw
        case rel =>
          rw [← hB9.out]
          exact ⟨k + 1, V, pos, O3, hlt9.out, by go_num, hsw3, HG⟩
        case measure => have := hlt9.out; simp [intOf]; omega
      · obtain rfl : e = .returned (.bool false) := he
        have hS3 : S W3 := (hk3.block B HN.out.2 HN.out.1).trans hS
        have HG : Hid (SubO O W.heap.size O3 ∧ KeepsBut O W W3 ∧ ∃ q, q <+: slV (some ⟨b', off', none⟩) c m f l ∧ Jx (pre ++ q) O3 W3) := by
          refine ⟨hF.out.1.trans hs3 hWL.out, hkW.out.trans hk3 hF.out.1, slV (some ⟨b', off', none⟩) c m f (l.take k) ++ q, ?_, ?_⟩
          · refine List.IsPrefix.trans ?_ HP.out
            rw [HT9.out]
            exact (List.prefix_append_right_inj _).2 hq
          · rw [← List.append_assoc]; exact hJ3
        clear hJ3 hs3 hk3 hS
        refine hK _ _ hS3 ?_
        clear hK K hy hR
        have hS := hS3
        refine TillIn.take (i := 8) (v := ?_) (fun _ => trivial) rfl (by kernel_rfl) (fun _ _ _ h => h) hS ?_ rfl ?_
        rotate_left
        · intro X hSX
          skip
          go_simp
          all_goals with_reducible rfl
        try simp only [Act.put, List.getElem_toArray, List.getElem_cons_succ, List.getElem_cons_zero, List.setIfInBounds_toArray, List.set_cons_zero, List.set_cons_succ]
        refine TillIn.done (by kernel_rfl) ?_ _
        clear hS hS3 S
        gi_wp2
        go_ret
        exact ⟨O3, HG.out.1, HG.out.2.1, .inr ⟨rfl, HG.out.2.2⟩⟩
    · obtain rfl : k = l.length := by omega
      have hlt' : ¬ (l.length : Int) < (l.length : Int) := by omega
      have HG : Hid (SubO O W.heap.size O' ∧ KeepsBut O W wr ∧ J (pre ++ slV A c m f l) O' wr) := ⟨hF.out.1, hF.out.2.2.1, by have := hF.out.2.2.2.1; rwa [List.take_length] at this⟩
      clear hF
      gi_wp2
      go_ret
      exact ⟨O', HG.out.1, HG.out.2.1, .inl ⟨rfl, HG.out.2.2⟩⟩
end Go.Proofs.Ytmpdmelkbemabaa
