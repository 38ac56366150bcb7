/- The walks of forest.Up, forest.up's iterator, forest.Inside, forest.Region. -/
import Derived.Test.YtglgoegabihngaaRows
import Derived.Test.YtglgoegabihngaaWay
import Derived.Test.YtglgoegabihngaaSeq
import Derived.BigGuardPart
import Derived.Shelf.Abstract
set_option linter.unusedSimpArgs false
set_option linter.unusedVariables false
namespace Go.Proofs.Ytglgoegabihngaa
open Go.RowKit Go.Proofs.Grow

attribute [local go_sem] Oper.semAt_some

theorem Ce.at1 (c : Ce) : c.cells[1]? = some (.int .i64 c.o0) := rfl

theorem up_any (w : World) (A : Option Addr) (c : Nat) (l : List Ce) (o : Int) (hl : l.length ≤ 4611686018427387904) (hs : Lies w 7 Ce.cells A l) :
    Calls Try.prog 10 #[.slice A l.length c, .int .i64 o] w fun e w' => e = .returned (.int .i64 (up l o)) ∧ w = w' := by
  have Hs := hide hs
  clear hs
  by_cases h1 : 0 < o
  · by_cases h2 : o ≤ l.length
    · obtain ⟨k, rfl⟩ : ∃ k : Nat, o = (k : Int) + 1 := ⟨(o - 1).toNat, by omega⟩
      have hk : k < l.length := by omega
      obtain ⟨b, off, rfl, hb, hcell⟩ := Hs.out k hk
      have a1 : w.cell? ⟨b, off + k * 7 + 1, none⟩ = some (.int .i64 l[k].o0) := hcell 1 _ (Ce.at1 _)
      have E := hide (up_in hk)
      have hk' : (k : Int) < (l.length : Int) := by omega
      clear hcell
      go_enter Try.func10, Try.ntmps10
      go_wp2
      go_ret
      exact ⟨ret_int E.out.symm, rfl⟩
    · have E := hide (up_out (l := l) (o := o) (by omega))
      go_enter Try.func10, Try.ntmps10
      go_wp2
      go_ret
      exact ⟨ret_int E.out.symm, rfl⟩
  · have E := hide (up_out (l := l) (o := o) (by omega))
    go_enter Try.func10, Try.ntmps10
    go_wp2
    go_ret
    exact ⟨ret_int E.out.symm, rfl⟩

theorem refUp_any (w : World) (A : Option Addr) (c : Nat) (l : List Ce) (o : Int) (hl : l.length ≤ 4611686018427387904) (hs : Lies w 7 Ce.cells A l) :
    Calls Try.prog 11 #[.slice A l.length c, .int .i64 o] w fun e w' => e = .returned (.int .i64 (up l o)) ∧ w = w' := by
  have Hs := hide hs
  clear hs
  by_cases h1 : 0 < o
  · by_cases h2 : o ≤ l.length
    · obtain ⟨k, rfl⟩ : ∃ k : Nat, o = (k : Int) + 1 := ⟨(o - 1).toNat, by omega⟩
      have hk : k < l.length := by omega
      obtain ⟨b, off, rfl, hb, hcell⟩ := Hs.out k hk
      have a1 : w.cell? ⟨b, off + k * 7 + 1, none⟩ = some (.int .i64 l[k].o0) := hcell 1 _ (Ce.at1 _)
      have E := hide (up_in hk)
      have hk' : (k : Int) < (l.length : Int) := by omega
      clear hcell
      go_enter Try.func11, Try.ntmps11
      go_wp2
      go_ret
      exact ⟨ret_int E.out.symm, rfl⟩
    · have E := hide (up_out (l := l) (o := o) (by omega))
      go_enter Try.func11, Try.ntmps11
      go_wp2
      go_ret
      exact ⟨ret_int E.out.symm, rfl⟩
  · have E := hide (up_out (l := l) (o := o) (by omega))
    go_enter Try.func11, Try.ntmps11
    go_wp2
    go_ret
    exact ⟨ret_int E.out.symm, rfl⟩

set_option maxHeartbeats 1000000 in
set_option maxRecDepth 100000 in
theorem up1_seq (n : Nat) (hn : 1 ≤ n) (w0 w : World) (Bl Bo : Nat) (A : Option Addr) (c : Nat) (l : List Ce) (o : Int) (hl : l.length ≤ 4611686018427387000) (hs : Lies w0 7 Ce.cells A l) (hb0 : Below w0.heap.size w0 w)
    (hBl : w0.heap.size ≤ Bl) (hBo : w0.heap.size ≤ Bo) (hne : Bl ≠ Bo) (cl : w.cell? ⟨Bl, 0, none⟩ = some (.slice A l.length c)) (co : w.cell? ⟨Bo, 0, none⟩ = some (.int .i64 o)) (fo : w.frozen? ⟨Bo, 0, none⟩ = false) (lb : Bl < w.heap.size) (ob : Bo < w.heap.size) :
    SeqT Fence.wide n Try.prog 36 #[.pointer (some ⟨Bl, 0, none⟩), .pointer (some ⟨Bo, 0, none⟩)] (fun x : Int => #[.int .i64 x]) (TurnsOne Bo) (KeepsSet fun k => k < w0.heap.size ∨ k = Bl ∨ k = Bo) (way l (l.length + 2) o) w := by
  intro ln J Jx W hW hJ hJx hY h0
  have HS := hide hs
  have HY := hide hY
  have HJ := hide hJ
  have HN := hide hne
  obtain ⟨xs, hxs⟩ : ∃ xs, xs = way l (l.length + 2) o := ⟨_, rfl⟩
  have HX := hide hxs
  rw [← hxs] at HY ⊢
  have hcl := (hW.cell (p := ⟨Bl, 0, none⟩) lb).trans cl
  have hco := (hW.cell (p := ⟨Bo, 0, none⟩) ob).trans co
  have hfo := (hW.frozen (p := ⟨Bo, 0, none⟩) ob).trans fo
  have hB := hb0.trans (hW.mono hb0.size)
  clear hs hY hJ hxs hne cl co fo
  refine callsIn_of_wp Try.func36 rfl trivial ?_ rfl
  simp only [Try.ntmps36, List.size_toArray, List.length_cons, List.length_nil, Nat.reduceAdd, Nat.reduceSub, Array.replicate_succ, Array.replicate_zero, List.push_toArray, List.append_toArray, List.nil_append, List.cons_append]
  gi_wp2
  gi_loopw [4] (fun s4 wr => ∃ (left : Nat) (o' : Int) (pre : List Int), left ≤ l.length + 2 ∧ s4 = .int .i64 left ∧ wr.cell? ⟨Bo, 0, none⟩ = some (.int .i64 o') ∧ wr.frozen? ⟨Bo, 0, none⟩ = false ∧ wr.cell? ⟨Bl, 0, none⟩ = some (.slice A l.length c) ∧
    Below w0.heap.size w0 wr ∧ Hid (pre ++ way l left o' = xs) ∧ J pre wr) (fun s4 _ => (intOf s4).toNat)
  case atStart => exact ⟨l.length + 2, o, [], Nat.le_refl _, by simp, hco, hfo, hcl, hB, HX.out.symm, h0⟩
  case round =>
    obtain ⟨left, o', pre, hleft, rfl, gco, gfo, gcl, gB, gX, gJ⟩ := hrel
    by_cases h1 : o' = 0
    · subst h1
      have HE : Hid (pre = xs) := by have := gX.out; rw [way_zero, List.append_nil] at this; exact this
      gi_wp2
      refine ⟨fun _ h => (by cases h), ?_⟩
      gi_wp2
      go_end0
      rw [← HE.out]
      exact ⟨⟨_, rfl⟩, .inl gJ⟩
    · cases left with
      | zero =>
        have h1' : (o' != 0) = true := bne_iff_ne.2 h1
        have HE : Hid (pre = xs) := by have := gX.out; rw [way, List.append_nil] at this; exact this
        clear h1
        gi_wp2
        refine ⟨fun _ h => (by cases h), ?_⟩
        gi_wp2
        go_end0
        rw [← HE.out]
        exact ⟨⟨_, rfl⟩, .inl gJ⟩
      | succ left =>
        have h1' : (o' != 0) = true := bne_iff_ne.2 h1
        have HE : Hid (pre ++ [o'] ++ way l left (up l o') = xs) := by have := gX.out; rw [way, if_neg h1] at this; exact (by simp : pre ++ [o'] ++ way l left (up l o') = _).trans this
        have hp : (0 : Int) < (left : Int) + 1 := by omega
        obtain ⟨fn, tmps, assign, body, hy, hR⟩ := HY.out pre o' wr gJ ⟨_, HE.out⟩
        clear h1 gX
        gi_wp2
        refine hR.mono ?_
        rintro e W3 (⟨rfl, hJ3, hk3⟩ | ⟨rfl, hJx3⟩)
        · have g3 := gB.trans (hk3.below (n := w0.heap.size) fun k hk => .inl hk)
          have h3o : W3.cell? ⟨Bo, 0, none⟩ = some (.int .i64 o') := (hk3.cell (a := ⟨Bo, 0, none⟩) (.inr (.inr rfl))).trans gco
          have h3f : W3.frozen? ⟨Bo, 0, none⟩ = false := (hk3.frozen (a := ⟨Bo, 0, none⟩) (.inr (.inr rfl))).trans gfo
          have h3l : W3.cell? ⟨Bl, 0, none⟩ = some (.slice A l.length c) := (hk3.cell (a := ⟨Bl, 0, none⟩) (.inr (.inl rfl))).trans gcl
          have hup := up_any W3 A c l o' (by omega) (HS.out.below g3)
          have HU := hide (TurnsOne.setCell W3 Bo 0 (.int .i64 (up l o')) _ h3o)
          clear hk3
          gi_wp2_with (refine ⟨trivial, ?_⟩; gi_at_call 10; refine (callsIn_wide.2 hup).mono ?_; rintro _ _ ⟨rfl, rfl⟩)
          go_roundw
          case rel =>
            refine ⟨left, up l o', pre ++ [o'], by omega, by simp, ?_, ?_, ?_, ?_, HE.out, HJ.out _ _ _ hJ3 HU.out⟩
            · exact World.cell?_setCell_same' _ _ _ (by rw [h3o]; rfl)
            · rw [World.frozen?_setCell]; exact h3f
            · rw [← h3l]; exact HU.out.cell (a := ⟨Bl, 0, none⟩) (World.block_lt_of_cell? _ _ h3l) HN.out
            · exact HU.out.below g3 (Nat.le_refl _) hBo
          case measure => simp [intOf]
        · gi_wp2
          go_end0
          exact ⟨⟨_, rfl⟩, .inr ⟨_, ⟨_, HE.out⟩, hJx3⟩⟩

theorem seq_any (w : World) (A : Option Addr) (n c : Nat) (o : Int) :
    Calls Try.prog 29 #[.slice A n c, .int .i64 o] w fun e w' => e = .returned (.func (.func 36) #[] #[.pointer (some ⟨w.heap.size, 0, none⟩), .pointer (some ⟨w.heap.size + 1, 0, none⟩)]) ∧ w' = (w.alloc (.cells #[.slice A n c] 22)).alloc (.cells #[.int .i64 o] 3) := by
  go_enter Try.func29, Try.ntmps29
  go_wp2
  go_ret
  exact ⟨rfl, rfl⟩

theorem inB_zero (l : List Ce) (a : Int) : inB l a 0 = true := by simp [inB]
theorem inB_way {l : List Ce} {a b : Int} (h : b ≠ 0) : inB l a b = decide (b ∈ way l (l.length + 2) a) := by
  unfold inB
  have h0 : (b == 0) = false := beq_eq_false_iff_ne.2 h
  rw [h0, Bool.false_or, Bool.eq_iff_iff, List.contains_iff_mem]; simp

set_option maxHeartbeats 2000000 in
set_option maxRecDepth 100000 in
theorem inside_any (w : World) (A : Option Addr) (c : Nat) (l : List Ce) (a b : Int) (hl : l.length ≤ 4611686018427387000) (hs : Lies w 7 Ce.cells A l) :
    Gives Try.prog 12 #[.slice A l.length c, .int .i64 a, .int .i64 b] w (.bool (inB l a b)) := by
  refine Gives.mk ?_
  by_cases hb : b = 0
  · subst hb
    rw [inB_zero]
    go_enter Try.func12, Try.ntmps12
    go_wp2
    refine bodyPost_ret (v := .bool true) (by simp [results, Try.f12, go_sem]) rfl ⟨rfl, ?_⟩
    repeat (first | exact Below.refl _ _ | exact Nat.le_refl _ | assumption | refine below_ext ?_ ?_ _ | refine Below.alloc ?_ ?_ _ | refine Below.drew ?_ | refine Below.setCell ?_ ?_ _ | refine Ext.le _ ?_ | refine le_alloc ?_ | refine le_drew ?_ | refine le_setCell ?_)
    all_goals omega
  · rw [inB_way hb]
    have hb' : (b == 0) = false := beq_eq_false_iff_ne.2 hb
    have HS := hide hs
    have hB0 : Below w.heap.size w ((((w.alloc (.cells #[.int .i64 b] 3)).alloc (.cells #[.bool false] 4)).alloc (.cells #[.slice A l.length c] 22)).alloc (.cells #[.int .i64 a] 3)) := by
      repeat (first | exact Below.refl _ _ | exact Nat.le_refl _ | assumption | refine below_ext ?_ ?_ _ | refine Below.alloc ?_ ?_ _ | refine Below.drew ?_ | refine Below.setCell ?_ ?_ _ | refine Ext.le _ ?_ | refine le_alloc ?_ | refine le_drew ?_ | refine le_setCell ?_)
      all_goals omega
    obtain ⟨W4, hW4⟩ : ∃ W4, W4 = ((((w.alloc (.cells #[.int .i64 b] 3)).alloc (.cells #[.bool false] 4)).alloc (.cells #[.slice A l.length c] 22)).alloc (.cells #[.int .i64 a] 3)) := ⟨_, rfl⟩
    have c0 : W4.cell? ⟨w.heap.size, 0, none⟩ = some (.int .i64 b) := by rw [hW4]; simp [go_sem]
    have c1 : W4.cell? ⟨w.heap.size + 1, 0, none⟩ = some (.bool false) := by rw [hW4]; simp [go_sem]
    have f1 : W4.frozen? ⟨w.heap.size + 1, 0, none⟩ = false := by rw [hW4]; simp [go_sem]
    have c2 : W4.cell? ⟨w.heap.size + 1 + 1, 0, none⟩ = some (.slice A l.length c) := by rw [hW4]; simp [go_sem]
    have c3 : W4.cell? ⟨w.heap.size + 1 + 1 + 1, 0, none⟩ = some (.int .i64 a) := by rw [hW4]; simp [go_sem]
    have f3 : W4.frozen? ⟨w.heap.size + 1 + 1 + 1, 0, none⟩ = false := by rw [hW4]; simp [go_sem]
    have z4 : W4.heap.size = w.heap.size + 1 + 1 + 1 + 1 := by rw [hW4]; simp
    rw [← hW4] at hB0
    have HW4 := hide hW4
    clear hW4
    clear hb hs
    refine callsIn_wide (n := 9) |>.1 ?_
    refine callsIn_of_wp_marks Try.func12 rfl trivial ?_ rfl
    simp only [Try.ntmps12, List.size_toArray, List.length_cons, List.length_nil, Nat.reduceAdd, Nat.reduceSub, Array.replicate_succ, Array.replicate_zero, List.push_toArray, List.append_toArray, List.nil_append, List.cons_append]
    gi_wp2_with (refine ⟨trivial, ?_⟩; gi_at_call 29; refine (callsIn_wide.2 (seq_any _ _ _ _ _)).mono ?_; rintro _ _ ⟨rfl, rfl⟩)
    rw [← HW4.out]
    refine wpIn_range rfl (by omega) (gf := 36) (lb := #[.pointer (some ⟨w.heap.size + 1 + 1, 0, none⟩), .pointer (some ⟨w.heap.size + 1 + 1 + 1, 0, none⟩)]) rfl trivial (enters_of Try.func36 (by kernel_rfl) rfl)
      (up1_seq 8 (by omega) w W4 _ _ A c l a hl HS.out hB0 (by omega) (by omega) (by omega) c2 c3 f3 (by omega) (by omega)) ?hTo (fun h k => h.trans k) ?hKb (fun _ => rfl)
      (fun pre W => (b ∉ pre ∧ W.cell? ⟨w.heap.size, 0, none⟩ = some (.int .i64 b) ∧ W.cell? ⟨w.heap.size + 1, 0, none⟩ = some (.bool false) ∧ W.frozen? ⟨w.heap.size + 1, 0, none⟩ = false) ∧ Below w.heap.size w W)
      (fun c pre W => (c = .ret ∧ b ∈ pre ∧ W.cell? ⟨w.heap.size + 1, 0, none⟩ = some (.bool true)) ∧ Below w.heap.size w W)
      ?hI ?hIx ?hIT ?hIxT ⟨⟨by simp, c0, c1, f1⟩, hB0⟩
      (fun x => { tmps := #[.slice A l.length c, .int .i64 a, .int .i64 b, undef, undef, .pointer (some ⟨w.heap.size, 0, none⟩), .pointer (some ⟨w.heap.size + 1, 0, none⟩), .int .i64 x, .int .i64 b, .bool false, .slice A l.length c, .int .i64 a, .func (.func 36) #[] #[.pointer (some ⟨w.heap.size + 1 + 1, 0, none⟩), .pointer (some ⟨w.heap.size + 1 + 1 + 1, 0, none⟩)], .int .i64 x, undef, undef, undef], defers := [] }) ?assign ?body ?done ?stop
    case hTo => exact fun X Y k o ht _ hk hc => ht.others hk hc
    case hKb => exact fun W l' o o' hl' hk hc => KeepsSet.putObj _ _ _ (by omega)
    case hI => exact OwnFrom.and (fun s X Y row hs hg hr => ⟨hs.1, cell_kept hs.2.1 hg (fun r e => (hr r e).2), cell_kept hs.2.2.1 hg (fun r e => (hr r e).2), (frozen_kept hs.2.2.1 hg (fun r e => (hr r e).2)).trans hs.2.2.2⟩) (ownFrom_below (Nat.le_refl _) (by omega))
    case hIx => exact fun c => OwnFrom.and (fun s X Y row hs hg hr => ⟨hs.1, hs.2.1, cell_kept hs.2.2 hg (fun r e => (hr r e).2)⟩) (ownFrom_below (Nat.le_refl _) (by omega))
    case hIT =>
      rintro s X Y ⟨⟨h1, h2, h3, h4⟩, h5⟩ ht
      have e2 := ht.cell (a := ⟨w.heap.size, 0, none⟩) (World.block_lt_of_cell? _ _ h2) (by show w.heap.size ≠ _; omega)
      have e3 := ht.cell (a := ⟨w.heap.size + 1, 0, none⟩) (World.block_lt_of_cell? _ _ h3) (by show w.heap.size + 1 ≠ _; omega)
      have e4 : Y.frozen? ⟨w.heap.size + 1, 0, none⟩ = X.frozen? ⟨w.heap.size + 1, 0, none⟩ := World.frozen?_of_block (ht.1.block _ (World.block_lt_of_cell? _ _ h3) (fun e => by simp at e))
      exact ⟨⟨h1, e2.trans h2, e3.trans h3, e4.trans h4⟩, ht.below h5 (Nat.le_refl _) (by omega)⟩
    case hIxT =>
      rintro c s X Y ⟨⟨h1, h2, h3⟩, h5⟩ ht
      have e3 := ht.cell (a := ⟨w.heap.size + 1, 0, none⟩) (World.block_lt_of_cell? _ _ h3) (by show w.heap.size + 1 ≠ _; omega)
      exact ⟨⟨h1, h2, e3.trans h3⟩, ht.below h5 (Nat.le_refl _) (by omega)⟩
    case assign =>
      intro l x W K hK
      gi_wp2
      exact hK
    case body =>
      rintro l pre x W ⟨⟨hp, hcb, hcr, hfr⟩, hB⟩ _
      by_cases hx : x = b
      · subst hx
        gi_wp2
        exact ⟨KeepsOthers.setCell _ _ _, ⟨rfl, List.mem_append.2 (.inr (by simp)), World.cell?_setCell_same' _ _ _ (by rw [hcr]; rfl)⟩, hB.setCell (p := ⟨w.heap.size + 1, 0, none⟩) (by simp) _⟩
      · have hx' : (x == b) = false := beq_eq_false_iff_ne.2 hx
        gi_wp2
        exact ⟨KeepsOthers.refl _, KeepsSet.refl _ _, ⟨by simp [hp, Ne.symm hx], hcb, hcr, hfr⟩, hB⟩
    case done =>
      rintro D W hD ⟨⟨hne, _, hcr, hfr⟩, hB⟩ hK
      gi_wp2
      have hK' := (KeepsOthers.setCell W ⟨w.heap.size + 1, 0, none⟩ (.bool false)).same D _ hK rfl
      refine ⟨by simp, .inl ⟨_, _, rfl, run_takeDeferred hK', ?_⟩⟩
      have hc5 := cell_kept (World.cell?_setCell_same' W ⟨w.heap.size + 1, 0, none⟩ (.bool false) (by rw [hcr]; rfl)) (grownBy_putObj' _ D (.deferred none)) (fun r e => by cases e; exact ⟨_, hK', rfl⟩)
      refine ⟨.bool false, ?_, by rw [decide_eq_false hne], (hB.setCell (p := ⟨w.heap.size + 1, 0, none⟩) (by simp) _).trans (belowK_b (w := w) (Nat.le_refl _) _ D _ _ (by omega) hK' rfl rfl)⟩
      simp [results, Try.f12, go_sem, hc5]
    case stop =>
      rintro D c pre W hD hpre ⟨⟨rfl, hin, hcr⟩, hB⟩ hK
      gi_wp2
      refine ⟨by simp, .inl ⟨_, _, rfl, run_takeDeferred hK, ?_⟩⟩
      have hc5 := cell_kept hcr (grownBy_putObj' _ D (.deferred none)) (fun r e => by cases e; exact ⟨_, hK, rfl⟩)
      refine ⟨.bool true, ?_, by rw [decide_eq_true (hpre.subset hin)], hB.trans (belowK_b (w := w) (Nat.le_refl _) W D _ _ (by omega) hK rfl rfl)⟩
      simp [results, Try.f12, go_sem, hc5]

theorem region_none {l : List Ce} {o : Int} (h : ∀ y ∈ way l (l.length + 2) o, 0 ≤ y) : region l o = 0 := by
  unfold region
  rw [List.find?_eq_none.2 (fun y hy => by simpa using h y hy)]; rfl
theorem region_some {l : List Ce} {o x : Int} {p : List Int} (hp : ∀ y ∈ p, 0 ≤ y) (hx : x < 0) (h : p ++ [x] <+: way l (l.length + 2) o) : region l o = x := by
  obtain ⟨r, hr⟩ := h
  unfold region
  rw [← hr, List.append_assoc, List.find?_append, List.find?_eq_none.2 (fun y hy => by simpa using hp y hy)]
  simp [hx]

set_option maxHeartbeats 2000000 in
set_option maxRecDepth 100000 in
theorem region_any (w : World) (A : Option Addr) (c : Nat) (l : List Ce) (a : Int) (hl : l.length ≤ 4611686018427387000) (hs : Lies w 7 Ce.cells A l) :
    Gives Try.prog 14 #[.slice A l.length c, .int .i64 a] w (.int .i64 (region l a)) := by
  refine Gives.mk ?_
  have HS := hide hs
  obtain ⟨W4, hW4⟩ : ∃ W4, W4 = (((w.alloc (.cells #[.int .i64 0] 3)).alloc (.cells #[.slice A l.length c] 22)).alloc (.cells #[.int .i64 a] 3)) := ⟨_, rfl⟩
  have hB0 : Below w.heap.size w W4 := by
    rw [hW4]
    repeat (first | exact Below.refl _ _ | exact Nat.le_refl _ | assumption | refine below_ext ?_ ?_ _ | refine Below.alloc ?_ ?_ _ | refine Below.drew ?_ | refine Below.setCell ?_ ?_ _ | refine Ext.le _ ?_ | refine le_alloc ?_ | refine le_drew ?_ | refine le_setCell ?_)
    all_goals omega
  have c1 : W4.cell? ⟨w.heap.size, 0, none⟩ = some (.int .i64 0) := by rw [hW4]; simp [go_sem]
  have f1 : W4.frozen? ⟨w.heap.size, 0, none⟩ = false := by rw [hW4]; simp [go_sem]
  have c2 : W4.cell? ⟨w.heap.size + 1, 0, none⟩ = some (.slice A l.length c) := by rw [hW4]; simp [go_sem]
  have c3 : W4.cell? ⟨w.heap.size + 1 + 1, 0, none⟩ = some (.int .i64 a) := by rw [hW4]; simp [go_sem]
  have f3 : W4.frozen? ⟨w.heap.size + 1 + 1, 0, none⟩ = false := by rw [hW4]; simp [go_sem]
  have z4 : W4.heap.size = w.heap.size + 1 + 1 + 1 := by rw [hW4]; simp
  have HW4 := hide hW4
  clear hW4 hs
  refine callsIn_wide (n := 9) |>.1 ?_
  refine callsIn_of_wp_marks Try.func14 rfl trivial ?_ rfl
  simp only [Try.ntmps14, List.size_toArray, List.length_cons, List.length_nil, Nat.reduceAdd, Nat.reduceSub, Array.replicate_succ, Array.replicate_zero, List.push_toArray, List.append_toArray, List.nil_append, List.cons_append]
  gi_wp2_with (refine ⟨trivial, ?_⟩; gi_at_call 29; refine (callsIn_wide.2 (seq_any _ _ _ _ _)).mono ?_; rintro _ _ ⟨rfl, rfl⟩)
  rw [← HW4.out]
  refine wpIn_range rfl (by omega) (gf := 36) (lb := #[.pointer (some ⟨w.heap.size + 1, 0, none⟩), .pointer (some ⟨w.heap.size + 1 + 1, 0, none⟩)]) rfl trivial (enters_of Try.func36 (by kernel_rfl) rfl)
    (up1_seq 8 (by omega) w W4 _ _ A c l a hl HS.out hB0 (by omega) (by omega) (by omega) c2 c3 f3 (by omega) (by omega)) ?hTo (fun h k => h.trans k) ?hKb (fun _ => rfl)
    (fun pre W => ((∀ y ∈ pre, 0 ≤ y) ∧ W.cell? ⟨w.heap.size, 0, none⟩ = some (.int .i64 0) ∧ W.frozen? ⟨w.heap.size, 0, none⟩ = false) ∧ Below w.heap.size w W)
    (fun c pre W => (c = .ret ∧ ∃ p x, pre = p ++ [x] ∧ (∀ y ∈ p, 0 ≤ y) ∧ x < 0 ∧ W.cell? ⟨w.heap.size, 0, none⟩ = some (.int .i64 x)) ∧ Below w.heap.size w W)
    ?hI ?hIx ?hIT ?hIxT ⟨⟨by simp, c1, f1⟩, hB0⟩
    (fun x => { tmps := #[.slice A l.length c, .int .i64 a, undef, undef, .pointer (some ⟨w.heap.size, 0, none⟩), .int .i64 x, .slice A l.length c, .int .i64 a, .func (.func 36) #[] #[.pointer (some ⟨w.heap.size + 1, 0, none⟩), .pointer (some ⟨w.heap.size + 1 + 1, 0, none⟩)], .int .i64 x, undef, undef, undef], defers := [] }) ?assign ?body ?done ?stop
  case hTo => exact fun X Y k o ht _ hk hc => ht.others hk hc
  case hKb => exact fun W l' o o' hl' hk hc => KeepsSet.putObj _ _ _ (by omega)
  case hI => exact OwnFrom.and (fun s X Y row hs hg hr => ⟨hs.1, cell_kept hs.2.1 hg (fun r e => (hr r e).2), (frozen_kept hs.2.1 hg (fun r e => (hr r e).2)).trans hs.2.2⟩) (ownFrom_below (Nat.le_refl _) (by omega))
  case hIx => exact fun c => OwnFrom.and (fun s X Y row hs hg hr => ⟨hs.1, by obtain ⟨p, x, h1, h2, h3, h4⟩ := hs.2; exact ⟨p, x, h1, h2, h3, cell_kept h4 hg (fun r e => (hr r e).2)⟩⟩) (ownFrom_below (Nat.le_refl _) (by omega))
  case hIT =>
    rintro s X Y ⟨⟨h1, h3, h4⟩, h5⟩ ht
    have e3 := ht.cell (a := ⟨w.heap.size, 0, none⟩) (World.block_lt_of_cell? _ _ h3) (by show w.heap.size ≠ _; omega)
    have e4 : Y.frozen? ⟨w.heap.size, 0, none⟩ = X.frozen? ⟨w.heap.size, 0, none⟩ := World.frozen?_of_block (ht.1.block _ (World.block_lt_of_cell? _ _ h3) (fun e => by simp at e; omega))
    exact ⟨⟨h1, e3.trans h3, e4.trans h4⟩, ht.below h5 (Nat.le_refl _) (by omega)⟩
  case hIxT =>
    rintro c s X Y ⟨⟨h1, p, x, h2, h3, h4, h6⟩, h5⟩ ht
    have e3 := ht.cell (a := ⟨w.heap.size, 0, none⟩) (World.block_lt_of_cell? _ _ h6) (by show w.heap.size ≠ _; omega)
    exact ⟨⟨h1, p, x, h2, h3, h4, e3.trans h6⟩, ht.below h5 (Nat.le_refl _) (by omega)⟩
  case assign =>
    intro l x W K hK
    gi_wp2
    exact hK
  case body =>
    rintro l pre x W ⟨⟨hp, hcr, hfr⟩, hB⟩ _
    have HP := hide hp
    clear hp
    by_cases hx : x < 0
    · gi_wp2
      exact ⟨KeepsOthers.setCell _ _ _, ⟨rfl, pre, x, rfl, HP.out, hx, World.cell?_setCell_same' _ _ _ (by rw [hcr]; rfl)⟩, hB.setCell (p := ⟨w.heap.size, 0, none⟩) (by simp) _⟩
    · gi_wp2
      exact ⟨KeepsOthers.refl _, KeepsSet.refl _ _, ⟨fun y hy => (List.mem_append.1 hy).elim (HP.out y) (fun e => by simp at e; subst e; omega), hcr, hfr⟩, hB⟩
  case done =>
    rintro D W hD ⟨⟨hne, hcr, hfr⟩, hB⟩ hK
    have HP := hide hne
    clear hne
    gi_wp2
    have hK' := (KeepsOthers.setCell W ⟨w.heap.size, 0, none⟩ (.int .i64 0)).same D _ hK rfl
    refine ⟨by simp, .inl ⟨_, _, rfl, run_takeDeferred hK', ?_⟩⟩
    have hc5 := cell_kept (World.cell?_setCell_same' W ⟨w.heap.size, 0, none⟩ (.int .i64 0) (by rw [hcr]; rfl)) (grownBy_putObj' _ D (.deferred none)) (fun r e => by cases e; exact ⟨_, hK', rfl⟩)
    refine ⟨.int .i64 0, ?_, by rw [region_none HP.out], (hB.setCell (p := ⟨w.heap.size, 0, none⟩) (by simp) _).trans (belowK_b (w := w) (Nat.le_refl _) _ D _ _ (by omega) hK' rfl rfl)⟩
    simp [results, Try.f14, go_sem, hc5]
  case stop =>
    rintro D c pre W hD hpre ⟨⟨rfl, p, x, rfl, hp, hx, hcr⟩, hB⟩ hK
    have HP := hide hp
    clear hp
    gi_wp2
    refine ⟨by simp, .inl ⟨_, _, rfl, run_takeDeferred hK, ?_⟩⟩
    have hc5 := cell_kept hcr (grownBy_putObj' _ D (.deferred none)) (fun r e => by cases e; exact ⟨_, hK, rfl⟩)
    refine ⟨.int .i64 x, ?_, by rw [region_some HP.out hx hpre], hB.trans (belowK_b (w := w) (Nat.le_refl _) W D _ _ (by omega) hK rfl rfl)⟩
    simp [results, Try.f14, go_sem, hc5]
end Go.Proofs.Ytglgoegabihngaa
