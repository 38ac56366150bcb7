/- The walks of code.writer's methods. -/
import Derived.Test.YtlgnjbocdmbeiaaNext
import Derived.Test.YtlgnjbocdmbeiaaReg
import Derived.Deep.RegionHeld3
import Derived.Deep.RegionLaw
set_option linter.unusedSimpArgs false
set_option linter.unusedVariables false
namespace Go.Proofs.Ytlgnjbocdmbeiaa
open Go.RowKit Go.Proofs.Grow

theorem infoIns : (Try.prog.info? 43).map (fun i => (i.zero.map (·.cells.size), i.size, i.bytes)) = some (some 25, 25, 304) := by kernel_rfl

/-- A statement with nothing in it. -/
def bare : St → St
  | .mk k x y name ty e aA ac args _ _ _ _ _ _ pos => .mk k x y name ty e aA ac args none 0 [] none 0 [] pos

/-- A writer's memory: its block, and its list. -/
structure Wr (base : Nat) (g : Nat) (W : World) (v : Value) (acc : List Ins) : Prop where
  blk : W.heap[g]? = some (.cells #[v] 66 (0, 0))
  own : Own W base 43 25 Ins.cells v acc

/-- What a writer's method may have turned: block g, and the block of the list. -/
structure Kept (g : Nat) (ob : Option Nat) (W W' : World) : Prop where
  os : W'.os = W.os
  tape : W'.tape = W.tape
  output : W'.output = W.output
  size : W.heap.size ≤ W'.heap.size
  block : ∀ k, k < W.heap.size → k ≠ g → some k ≠ ob → W'.heap[k]? = W.heap[k]?

/-- The writer's block behind an append to its list. -/
theorem Wr.behind {base g : Nat} {w W W' : World} {v : Value} {acc : List Ins} (h : Wr base g w v acc) (hb : Below w.heap.size w W) (hg : g < w.heap.size) (hgr : W.grownBy W' v.ownBlock) :
    W'.heap[g]? = some (.cells #[v] 66 (0, 0)) ∧ W'.cell? ⟨g, 0, none⟩ = some v ∧ W'.frozen? ⟨g, 0, none⟩ = false := by
  have hne : some g ≠ v.ownBlock := fun e => by
    obtain ⟨_, h2⟩ := h.own
    rcases h2 with ⟨rfl, _⟩ | ⟨g', cap, cur, rfl, _, hh, _⟩
    · cases e
    · simp [Value.ownBlock] at e
      subst e
      have := h.blk
      rw [hh] at this
      simp at this
  have e := (hgr.block g (Nat.lt_of_lt_of_le hg hb.size) hne).trans ((hb.block g hg).trans h.blk)
  exact ⟨e, by simpa using cell_of_row W' g 0 _ _ _ e, by simp [World.frozen?, e]⟩

/-- What a writer's method has done: the list is acc' now. -/
def Wrote (base g : Nat) (w : World) (v : Value) (acc' : List Ins) (W' : World) : Prop :=
  ∃ v', Wr base g W' v' acc' ∧ Kept g v.ownBlock w W' ∧ (v'.ownBlock = v.ownBlock ∨ ∃ k, v'.ownBlock = some k ∧ w.heap.size ≤ k)

theorem own_store {α : Type} {enc : α → List Value} {W : World} {base size g : Nat} {e : TypeId} {v u : Value} {l : List α} (h : Own W base e size enc v l) (hne : v.ownBlock ≠ some g) (j : Nat) : Own (W.setCell ⟨g, j, none⟩ u) base e size enc v l := by
  obtain ⟨h1, h2⟩ := h
  refine ⟨h1, ?_⟩
  rcases h2 with h2 | ⟨g', cap, cur, rfl, hb, hh, hr⟩
  · exact .inl h2
  · refine .inr ⟨g', cap, cur, rfl, hb, (Below.heap_setCell W ⟨g, j, none⟩ u g' (fun e => hne (by simp [Value.ownBlock, e]))).trans hh, hr⟩

theorem Wr.stored {base g : Nat} {w W w' : World} {v v' : Value} {acc acc' : List Ins} (h : Wr base g w v acc) (hb : Below w.heap.size w W) (hg : g < w.heap.size) (hgr : W.grownBy w' v.ownBlock)
    (hown : Own w' base 43 25 Ins.cells v' acc') (hat : v'.ownBlock = v.ownBlock ∨ v'.ownBlock = some W.heap.size) : Wrote base g w v acc' (w'.setCell ⟨g, 0, none⟩ v') := by
  obtain ⟨hblk, _, _⟩ := h.behind hb hg hgr
  have hne : v'.ownBlock ≠ some g := fun e => by
    obtain ⟨_, h2⟩ := hown
    rcases h2 with ⟨rfl, _⟩ | ⟨g', cap, cur, rfl, _, hh, _⟩
    · cases e
    · simp [Value.ownBlock] at e
      subst e
      rw [hh] at hblk
      simp at hblk
  have hgt : g < w'.heap.size := Nat.lt_of_lt_of_le (Nat.lt_of_lt_of_le hg hb.size) hgr.size
  refine ⟨v', ⟨?_, own_store hown hne 0⟩, ⟨hgr.os.trans hb.os, hgr.tape.trans hb.tape, hgr.output.trans hb.output, ?_, fun k hk hkg hko => ?_⟩, ?_⟩
  · simp [World.setCell, Array.getElem?_modify, hblk]
  · have := hgr.size; have := hb.size; simp [World.setCell]; omega
  · exact (Below.heap_setCell w' ⟨g, 0, none⟩ v' k hkg).trans ((hgr.block k (Nat.lt_of_lt_of_le hk hb.size) hko).trans (hb.block k hk))
  · rcases hat with h | h
    · exact .inl h
    · exact .inr ⟨_, h, hb.size⟩

theorem Wrote.drew {base g : Nat} {w W' : World} {v : Value} {acc' : List Ins} (h : Wrote base g w v acc' W') : Wrote base g w v acc' W'.drew := by
  obtain ⟨v', h1, h2, h3⟩ := h
  exact ⟨v', ⟨h1.blk, h1.own⟩, ⟨h2.os, h2.tape, h2.output, h2.size, h2.block⟩, h3⟩

set_option maxHeartbeats 2000000 in
set_option maxRecDepth 100000 in
theorem put_core (w : World) (base g : Nat) (v : Value) (acc : List Ins) (kd go : Int) (c0 c1 c2 c3 c4 c5 c6 c7 c8 c9 c10 c11 c12 c13 c14 c15 c16 c17 c18 c19 c20 c21 c22 : Value) (I : Ins) (hI : I.cells = [.int .i64 kd, c0, c1, c2, c3, c4, c5, c6, c7, c8, c9, c10, c11, c12, c13, c14, c15, c16, c17, c18, c19, .slice none 0 0, .slice none 0 0, c22, .int .i64 go]) (hW : Wr base g w v acc) (hbase : base ≤ w.heap.size) (hacc : acc.length < 400000000000) :
    Calls Try.prog 17 #[.pointer (some ⟨g, 0, none⟩), .int .i64 kd, .agg #[c0, c1, c2, c3, c4, c5, c6, c7, c8, c9, c10, c11, c12, c13, c14, c15, c16, c17, c18, c19, c20, c21, c22], .int .i64 go] w fun e w' => e = .returned (.int .i64 acc.length) ∧ Wrote base g w v (acc ++ [I]) w' := by
  obtain ⟨i0, z0, hi, hz0, hz1, hz2, hzs⟩ := info_row infoIns
  have hv : w.cell? ⟨g, 0, none⟩ = some v := by simpa using cell_of_row w g 0 _ _ _ hW.blk
  have hf : w.frozen? ⟨g, 0, none⟩ = false := by simp [World.frozen?, hW.blk]
  have hg : g < w.heap.size := by
    rcases Nat.lt_or_ge g w.heap.size with h | h
    · exact h
    · have := hW.blk; rw [Array.getElem?_eq_none h] at this; cases this
  have HW := hide hW
  have HI := hide hI
  have HN : some w.heap.size ≠ v.ownBlock := fun e => by have := (hW.own.from_ _ e.symm).2; omega
  clear hW hI
  go_enter Try.func17, Try.ntmps17
  go_wp2_with fail
  go_cut [8] (fun _ wx => Wrote base g w v (acc ++ [I]) wx)
  case first =>
    have hS : (fun W : World => W.heap[g]? = some (.cells #[v] 66 (0, 0)) ∧ W.heap[w.heap.size]? = some (.cells #[c0, c1, c2, c3, c4, c5, c6, c7, c8, c9, c10, c11, c12, c13, c14, c15, c16, c17, c18, c19, .slice none 0 0, .slice none 0 0, c22] 41 (0, 0))) (w.alloc (.cells #[c0, c1, c2, c3, c4, c5, c6, c7, c8, c9, c10, c11, c12, c13, c14, c15, c16, c17, c18, c19, .slice none 0 0, .slice none 0 0, c22] 41)).drew :=
      ⟨(Below.heap_alloc w _ g hg).trans HW.out.blk, heap_alloc_new w _⟩
    refine wp_region_till (fun W : World => W.heap[g]? = some (.cells #[v] 66 (0, 0)) ∧ W.heap[w.heap.size]? = some (.cells #[c0, c1, c2, c3, c4, c5, c6, c7, c8, c9, c10, c11, c12, c13, c14, c15, c16, c17, c18, c19, .slice none 0 0, .slice none 0 0, c22] 41 (0, 0))) 13 (by kernel_rfl) ?_
    simp only [List.size_toArray, List.length_cons, List.length_nil, Nat.reduceAdd]
    refine AnyTill.take (i := 0) (v := ?_) rfl (by kernel_rfl) (fun _ _ _ h => h) hS ?_ rfl ?_
    rotate_left
    · intro W hSW
      obtain ⟨hS1, hS2⟩ := hSW
      have hg0 : W.cell? ⟨g, 0, none⟩ = some v := by simpa using cell_of_row W g 0 _ _ _ hS1
      clear hS1 hS2
      go_simp
      all_goals with_reducible rfl
    try simp only [Act.put, List.setIfInBounds_toArray, List.set_cons_zero, List.set_cons_succ]
    refine AnyTill.take (i := 1) (v := ?_) rfl (by kernel_rfl) (fun _ _ _ h => h) hS ?_ rfl ?_
    rotate_left
    · intro W hSW
      obtain ⟨hS1, hS2⟩ := hSW
      have hg0 : W.cell? ⟨g, 0, none⟩ = some v := by simpa using cell_of_row W g 0 _ _ _ hS1
      clear hS1 hS2
      go_simp
      all_goals with_reducible rfl
    try simp only [Act.put, List.setIfInBounds_toArray, List.set_cons_zero, List.set_cons_succ]
    refine AnyTill.take (i := 2) (v := ?_) rfl (by kernel_rfl) (fun _ _ _ h => h) hS ?_ rfl ?_
    rotate_left
    · intro W hSW
      obtain ⟨hS1, hS2⟩ := hSW
      have hg0 : W.cell? ⟨g, 0, none⟩ = some v := by simpa using cell_of_row W g 0 _ _ _ hS1
      clear hS1 hS2
      go_simp
      all_goals with_reducible rfl
    try simp only [Act.put, List.setIfInBounds_toArray, List.set_cons_zero, List.set_cons_succ]
    refine AnyTill.take (i := 3) (v := ?_) rfl (by kernel_rfl) (fun _ _ _ h => h) hS ?_ rfl ?_
    rotate_left
    · intro W hSW
      obtain ⟨hS1, hS2⟩ := hSW
      have hg0 : W.cell? ⟨g, 0, none⟩ = some v := by simpa using cell_of_row W g 0 _ _ _ hS1
      clear hS1 hS2
      go_simp
      all_goals with_reducible rfl
    try simp only [Act.put, List.setIfInBounds_toArray, List.set_cons_zero, List.set_cons_succ]
    refine AnyTill.take (i := 4) (v := ?_) rfl (by kernel_rfl) (fun _ _ _ h => h) hS ?_ rfl ?_
    rotate_left
    · intro W hSW
      obtain ⟨hS1, hS2⟩ := hSW
      have hg0 : W.cell? ⟨g, 0, none⟩ = some v := by simpa using cell_of_row W g 0 _ _ _ hS1
      clear hS1 hS2
      go_simp
      all_goals with_reducible rfl
    try simp only [Act.put, List.setIfInBounds_toArray, List.set_cons_zero, List.set_cons_succ]
    refine AnyTill.take (i := 5) (v := ?_) rfl (by kernel_rfl) (fun _ _ _ h => h) hS ?_ rfl ?_
    rotate_left
    · intro W hSW
      obtain ⟨hS1, hS2⟩ := hSW
      have hg0 : W.cell? ⟨g, 0, none⟩ = some v := by simpa using cell_of_row W g 0 _ _ _ hS1
      clear hS1 hS2
      go_simp
      all_goals with_reducible rfl
    try simp only [Act.put, List.setIfInBounds_toArray, List.set_cons_zero, List.set_cons_succ]
    refine AnyTill.take (i := 6) (v := .agg #[c0, c1, c2, c3, c4, c5, c6, c7, c8, c9, c10, c11, c12, c13, c14, c15, c16, c17, c18, c19, .slice none 0 0, .slice none 0 0, c22]) rfl (by kernel_rfl) (fun _ _ _ h => h) hS (fun W hSW => run_load_block (g := w.heap.size) rfl rfl hSW.2 Try.underlying41 rfl (by kernel_rfl)) rfl ?_
    try simp only [Act.put, List.setIfInBounds_toArray, List.set_cons_zero, List.set_cons_succ]
    refine AnyTill.take (i := 7) (v := ?_) rfl (by kernel_rfl) (fun _ _ _ h => h) hS ?_ rfl ?_
    rotate_left
    · intro W hSW
      obtain ⟨hS1, hS2⟩ := hSW
      have hg0 : W.cell? ⟨g, 0, none⟩ = some v := by simpa using cell_of_row W g 0 _ _ _ hS1
      clear hS1 hS2
      go_simp
      all_goals with_reducible rfl
    try simp only [Act.put, List.setIfInBounds_toArray, List.set_cons_zero, List.set_cons_succ]
    refine AnyTill.take (i := 8) (v := ?_) rfl (by kernel_rfl) (fun _ _ _ h => h) hS ?_ rfl ?_
    rotate_left
    · intro W hSW
      obtain ⟨hS1, hS2⟩ := hSW
      have hg0 : W.cell? ⟨g, 0, none⟩ = some v := by simpa using cell_of_row W g 0 _ _ _ hS1
      clear hS1 hS2
      go_simp
      all_goals with_reducible rfl
    try simp only [Act.put, List.setIfInBounds_toArray, List.set_cons_zero, List.set_cons_succ]
    refine AnyTill.oneK (i := 9) rfl (by kernel_rfl) rfl ?_
    intro K hK
    go_simp
    refine hK _ _ (fun _ => ⟨(Below.heap_alloc _ _ g (by simp; omega)).trans hS.1, (Below.heap_alloc _ _ w.heap.size (by simp)).trans hS.2⟩) ?_
    clear hK K
    refine AnyTill.oneK (i := 10) rfl (by kernel_rfl) rfl ?_
    intro K hK
    refine wp_append_list _ (.tmp 15) (.tmp 20) 33 rfl base 43 i0 z0 25 304 Try.underlying33 hi hz0 hz1 hz2 hzs (by omega) Ins.cells_len Ins.cells_one v acc rfl ((HW.out.own.alloc _).alloc _).drew _ 1 1 [I] rfl rfl (Lies.drew (by have h := Lies.one (size := 25) (enc := Ins.cells) (e := 43) (w.alloc (.cells #[c0, c1, c2, c3, c4, c5, c6, c7, c8, c9, c10, c11, c12, c13, c14, c15, c16, c17, c18, c19, .slice none 0 0, .slice none 0 0, c22] 41)) I #[.int .i64 kd, c0, c1, c2, c3, c4, c5, c6, c7, c8, c9, c10, c11, c12, c13, c14, c15, c16, c17, c18, c19, .slice none 0 0, .slice none 0 0, c22, .int .i64 go] HI.out.symm; simpa using h)) (by simp [maxLen]; omega) (by simp; omega) (by simp; omega) ?_
    intro v' w' hown' hgr hat
    obtain ⟨g', cap', rfl⟩ := hown'.some_
    have hb : Below w.heap.size w ((w.alloc (.cells #[c0, c1, c2, c3, c4, c5, c6, c7, c8, c9, c10, c11, c12, c13, c14, c15, c16, c17, c18, c19, .slice none 0 0, .slice none 0 0, c22] 41)).alloc (.cells #[.int .i64 kd, c0, c1, c2, c3, c4, c5, c6, c7, c8, c9, c10, c11, c12, c13, c14, c15, c16, c17, c18, c19, .slice none 0 0, .slice none 0 0, c22, .int .i64 go] 43)).drew :=
      (((Below.refl _ _).alloc (Nat.le_refl _) _).alloc (by simp) _).drew
    obtain ⟨hb1, hc1, hf1⟩ := HW.out.behind hb hg hgr
    have HS := HW.out.stored hb hg hgr hown' hat
    have hb2 := (hgr.block w.heap.size (by simp; omega) HN).trans ((Below.heap_alloc _ (.cells #[.int .i64 kd, c0, c1, c2, c3, c4, c5, c6, c7, c8, c9, c10, c11, c12, c13, c14, c15, c16, c17, c18, c19, .slice none 0 0, .slice none 0 0, c22, .int .i64 go] 43) w.heap.size (by simp)).trans hS.2)
    clear hgr hat hown' hb
    refine hK _ _ (fun _ => ⟨hb1, hb2⟩) ?_
    clear hK K
    refine AnyTill.oneK (i := 11) rfl (by kernel_rfl) rfl ?_
    intro K hK
    go_simp
    refine hK _ _ (fun _ => ⟨hb1, hb2⟩) ?_
    clear hK K
    refine AnyTill.oneK (i := 12) rfl (by kernel_rfl) rfl ?_
    intro K hK
    go_simp
    refine hK _ _ (fun _ => ⟨hb1, hb2⟩) ?_
    clear hK K
    refine AnyTill.oneK (i := 13) rfl (by kernel_rfl) rfl ?_
    intro K hK
    go_simp
    refine hK _ _ (fun h => absurd rfl h) ?_
    clear hK K
    refine AnyTill.done (by kernel_rfl) ?_ _
    go_wp2_with fail
    go_meet
    case rel => exact HS
  case rest =>
    obtain ⟨v', hW', hk', hat'⟩ := hcut
    obtain ⟨g', cap', rfl⟩ := hW'.own.some_
    have hc1 : wc.cell? ⟨g, 0, none⟩ = some (.slice (some ⟨g', 0, none⟩) (acc.length + 1) cap') := by simpa using cell_of_row wc g 0 _ _ _ hW'.blk
    have hu := hide (⟨_, hW', hk', hat'⟩ : Wrote base g w v (acc ++ [I]) wc)
    clear hW' hk' hat'
    go_wp2_with fail
    go_ret
    exact ⟨rfl, hu.out⟩
end Go.Proofs.Ytlgnjbocdmbeiaa
