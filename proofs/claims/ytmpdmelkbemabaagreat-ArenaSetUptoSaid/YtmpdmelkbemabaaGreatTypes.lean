/- The walk of arena.Types. -/
import Derived.Test.YtmpdmelkbemabaaGreatSlots1
import Derived.Test.YtmpdmelkbemabaaGreatNotes
set_option linter.unusedSimpArgs false
set_option linter.unusedVariables false
namespace Go.Proofs.YtmpdmelkbemabaaGreat
open Go.RowKit Go.Proofs.Grow
attribute [local go_sem] Oper.semAt_some

theorem infoNt : (Tryz.prog.info? 62).map (fun i => (i.zero.map (·.cells.size), i.size, i.bytes)) = some (some 15, 15, 128) := by kernel_rfl

/-- Between two rounds: what was handed round lies in out. -/
def InT (w : World) (A : Option Addr) (n c : Nat) (s : List Sl) (O : Nat → Prop) (X : World) : Prop :=
  ∃ v, (O = fun j => j = w.heap.size ∨ v.ownBlock = some j) ∧ X.heap[w.heap.size]? = some (.cells #[v] 57 (0, 0)) ∧ Grow.Own X (w.heap.size + 2) 62 15 Nt.cells v (s.map Sl.note) ∧ Below w.heap.size w X ∧ X.cell? ⟨w.heap.size + 1, 0, none⟩ = some (.slice A n c)
theorem InT.turn {w : World} {A : Option Addr} {n c : Nat} {s : List Sl} {O : Nat → Prop} {X Y : World} (h : InT w A n c s O X) (t : Turns (w.heap.size + 2) O X Y) : InT w A n c s O Y := by
  obtain ⟨v, rfl, h1, h2, h3, h4⟩ := h
  refine ⟨v, rfl, (t.own (.inl rfl) (row_lt h1)).trans h1, h2.keep fun g hg => t.own (.inr hg) (h2.from_ g hg).2, h3.trans (t.below (by omega) h3.size), ?_⟩
  exact (World.cell?_of_block (t.low (Nat.lt_succ_self _) (World.block_lt_of_cell? _ _ h4))).trans h4
theorem InT.there {w : World} {A : Option Addr} {n c : Nat} {s : List Sl} {O : Nat → Prop} {X : World} (h : InT w A n c s O X) : ∀ k, O k → k < X.heap.size := by
  obtain ⟨v, rfl, h1, h2, h3, h4⟩ := h
  rintro k (rfl | hk)
  · exact row_lt h1
  · exact (h2.from_ k hk).2

set_option maxHeartbeats 2000000 in
set_option maxRecDepth 100000 in
theorem types_any (w : World) (A : Option Addr) (c : Nat) (l : List Cl) (hR : ∀ X, Below w.heap.size w X → RdP A l X) (hT : ∀ x ∈ slP l, x.b < w.heap.size ∧ w.rangeAt x.b x.off x.ty.cells) (hn : (slP l).length ≤ 1000000000000) :
    GivesNew Tryz.prog 13 #[.slice A l.length c] w 15 Nt.cells ((slP l).map Sl.note) := by
  obtain ⟨i0, z0, hi0, hz0, hz1, hz2, hzs⟩ := info_row infoNt
  have HR := hide hR
  have HT := hide hT
  clear hR hT
  refine (callsIn_wide (n := 8)).1 ?_
  refine callsIn_of_wp_marksN Tryz.func13 rfl trivial ?_ rfl
  simp only [Tryz.ntmps13, List.size_toArray, List.length_cons, List.length_nil, Nat.reduceAdd, Nat.reduceSub, Array.replicate_succ, Array.replicate_zero, List.push_toArray, List.append_toArray, List.nil_append, List.cons_append]
  gi_wp2
  refine ⟨trivial, ?_⟩
  refine (callsIn_wide.2 (slots_seq A l.length c _)).mono ?_
  rintro _ _ ⟨rfl, rfl⟩
  gi_wp2
  obtain ⟨X4, hX4⟩ : ∃ X, X = (w.alloc (.cells #[.slice none 0 0] 57)).alloc (.cells #[.slice A l.length c] 22) := ⟨_, rfl⟩
  have hsz4 : X4.heap.size = w.heap.size + 2 := by rw [hX4]; simp
  have hI4 : Hid (InT w A l.length c [] (fun j => j = w.heap.size) X4) := by
    refine ⟨.slice none 0 0, ?_, ?_, Own.nil, ?_, ?_⟩
    · funext j; simp [Value.ownBlock]
    · rw [hX4]; exact (Below.heap_alloc _ _ _ (by simp)).trans (heap_alloc_new w _)
    · rw [hX4]; exact ((Below.refl _ w).alloc (Nat.le_refl _) _).alloc (by simp) _
    · have h := heap_alloc_new (w.alloc (.cells #[.slice none 0 0] 57)) (.cells #[.slice A l.length c] 22)
      rw [World.size_alloc] at h
      rw [hX4]
      exact (row_cell (cs := [.slice A l.length c]) h (j := 0) rfl).1
  rw [← hX4]
  clear hX4
  refine wpIn_rangeR (gf := 30) (lb := #[.pointer (some ⟨w.heap.size + 1, 0, none⟩)]) rfl (enters_of Tryz.func30 (by kernel_rfl) rfl) (slots1_push (w.heap.size + 1) A c l) (fun _ => rfl)
    (fun j => j = w.heap.size) (fun s O X => InT w A l.length c s O X) (fun _ _ _ _ => False) ?hIT (fun _ _ _ _ _ h _ => h) ?hIO ?hIR (fun _ _ _ _ h => h.elim) hI4.out ?hround ?hdone (fun _ _ _ _ _ _ _ _ _ _ h _ => h.elim)
  case hIT => rw [hsz4]; exact fun s O X Y h t => h.turn t
  case hIO => exact fun s O X h => h.there
  case hIR => exact fun s O X h => by obtain ⟨v, _, _, _, hb, hc⟩ := h; exact ⟨HR.out X hb, hc⟩
  case hround =>
    rintro m1 l1 s x O X hl0 hlX0 hnl0 hI hpre
    have hx := hide (HT.out x (hpre.subset (by simp)))
    have hst : Hid (s.length + 1 ≤ 1000000000000) := by
      have := hpre.length_le
      simp at this
      show _ ≤ _
      omega
    unfold Sl.args
    gi_wp2_with (refine wpListIn_store_mid (fun _ => trivial) rfl 71 (.tmp 4) (.tmp 7) rfl X.heap.size 0 x.cells.toArray rfl rfl (there_of_row (heap_alloc_new X _) 0 x.cells.toArray.size (by rw [List.size_toArray, Sl.cells_len]; decide)) (by rw [List.size_toArray, Sl.cells_len]; kernel_rfl) (all_oneCell_toArray x.cells_one) ?_)
    refine ⟨fun j => O j ∨ j = X.heap.size, fun j hj => hj.imp id (fun h => by omega), (KeepsBut.alloc X _).trans (KeepsBut.setCells (O := fun j => j = X.heap.size) _ _ _ _ rfl) (fun j hj => .inr (by omega)),
      fun Y => InT w A l.length c s O Y ∧ Y.heap[X.heap.size]? = some (.cells x.cells.toArray 71 (0, 0)), ?_, ⟨?_, ?_⟩, ?_⟩
    · rintro Y Z ⟨h1, h2⟩ t
      rw [hsz4] at t
      exact ⟨h1.turn (t.mono (Nat.le_refl _) fun j hj => .inl hj), (t.own (.inr rfl) (row_lt h2)).trans h2⟩
    · refine hI.turn ?_
      refine KeepsBut.trans (O := fun j => w.heap.size + 2 ≤ j ∧ ¬ O j) (KeepsBut.alloc X _) (KeepsBut.setCells (O := fun j => j = X.heap.size) _ _ _ _ rfl) (fun j hj => .inr (by omega))
    · exact row_filled x.cells (heap_alloc_new X _) rfl
    obtain ⟨Bs, hBs⟩ : ∃ B, B = X.heap.size := ⟨_, rfl⟩
    rw [← hBs]
    have hB0 : w.heap.size + 2 ≤ Bs := by omega
    have hBO : Hid (¬ O Bs) := fun h => by have := hI.there Bs h; omega
    clear hI hl0 hlX0 hnl0 hBs
    rintro m1 l1 Y hl1 hlY hnl ⟨hI, hbs⟩
    have hnl2 := hBO
    obtain ⟨v, hO, hv, hown, hbel, hcp⟩ := hI
    have hr1 : Hid (Y.rangeAt x.b x.off x.ty.cells) := fun j u hj => (World.cell?_of_block (hbel.block _ hx.out.1)).trans (hx.out.2 j u hj)
    have c0 : Y.cell? ⟨Bs, 0, none⟩ = some (.pointer (some ⟨x.b, x.off, none⟩)) := (row_cell (cs := x.cells) hbs (j := 0) rfl).1
    obtain ⟨Z, hZ⟩ : ∃ Z, Z = Y.setCells Bs 5 x.ty.cells.toArray.toList := ⟨_, rfl⟩
    have hZk : KeepsBut (fun j => j = Bs) Y Z := by rw [hZ]; exact KeepsBut.setCells _ _ _ _ rfl
    have hvlt := row_lt hv
    have hown2 : Hid (Grow.Own Z (w.heap.size + 2) 62 15 Nt.cells v (s.map Sl.note)) := hown.keep fun g hg => hZk.block g (hown.from_ g hg).2 (fun e => hnl2.out (by rw [← e, hO]; exact .inr hg))
    have hv2 : Hid (Z.heap[w.heap.size]? = some (.cells #[v] 57 (0, 0))) := (hZk.block _ hvlt (by omega)).trans hv
    have hv3 : Hid (∀ w', (Z.alloc (.cells x.note.cells.toArray 62)).grownBy w' v.ownBlock → w'.heap[w.heap.size]? = some (.cells #[v] 57 (0, 0))) := fun w' hg => by
      have hlt := row_lt hv2.out
      refine (hg.block _ (by rw [World.size_alloc]; omega) (fun e => ?_)).trans ((Below.heap_alloc _ _ _ hlt).trans hv2.out)
      have := (hown2.out.from_ _ e.symm).1
      omega
    have c3 : Z.cell? ⟨w.heap.size, 0, none⟩ = some v := (row_cell (cs := [v]) hv2.out (j := 0) rfl).1
    have hcp2 : Hid (Z.cell? ⟨w.heap.size + 1, 0, none⟩ = some (.slice A l.length c)) := (hZk.cell (a := ⟨w.heap.size + 1, 0, none⟩) (World.block_lt_of_cell? _ _ hcp) (by show w.heap.size + 1 ≠ Bs; omega)).trans hcp
    have hb2 : Hid (Below w.heap.size w Z) := by show Below _ _ _; rw [hZ]; exact hbel.trans (setCells_below (by omega) _ _ _)
    have hfill : Hid (Z.rangeAt Bs 2 x.note.cells) := by show World.rangeAt _ _ _ _; rw [hZ]; exact slot_filled x hbs
    have hth := hide (there_of_row hbs 5 x.ty.cells.toArray.size (by rw [List.size_toArray, Ty.cells_len]; simp [Sl.cells_len]))
    have hZ9 := hide hZk
    have hs1 : Hid ((s.map Sl.note).length + [x.note].length ≤ maxLen ∧ ((s.map Sl.note).length + [x.note].length) * 128 ≤ 140737488355328) := by
      have := hst.out
      show _ ∧ _
      simp only [List.length_map, List.length_cons, List.length_nil]
      unfold maxLen
      omega
    have hsz2 : Hid (w.heap.size + 2 ≤ Z.heap.size) := Nat.le_trans hB0 (by rw [hZ, setCells_size]; exact Nat.le_of_lt (row_lt hbs))
    have HO := hide hO
    have HZ := hide hZ
    clear hO hv hown hbel hcp hbs hl1 hlY hnl hZk hvlt hnl2 hZ
    gi_wp2_with (first | (refine wpListIn_load_mid (fun _ => trivial) rfl 40 (.tmp 10) rfl x.b x.off rfl x.ty.cells _ hr1.out Tryz.underlying40 rfl (by rw [Ty.cells_len]; kernel_rfl) ?_) | (refine wpListIn_store_mid (fun _ => trivial) rfl 40 (.tmp 13) (.tmp 11) rfl Bs 5 x.ty.cells.toArray rfl rfl hth.out (by rw [List.size_toArray, Ty.cells_len]; kernel_rfl) (all_oneCell_toArray x.ty.cells_one) ?_; rw [← HZ.out]) | (refine wpListIn_load_mid (fun _ => trivial) rfl 62 (.tmp 15) rfl Bs 2 rfl x.note.cells _ hfill.out Tryz.underlying62 rfl (by rw [Nt.cells_len]; kernel_rfl) ?_) | (refine wpListIn_lit_one (fun _ => trivial) rfl 57 62 (.tmp 16) rfl x.note.cells.toArray rfl i0 z0 15 Tryz.underlying57 hi0 hz0 hz1 (by rw [List.size_toArray, Nt.cells_len]) (by decide) (by decide) ?_) | (gi_at_builtin; refine wpListIn_append_list _ (fun _ => trivial) rfl (.tmp 14) (.tmp 17) 57 rfl (w.heap.size + 2) 62 i0 z0 15 128 Tryz.underlying57 hi0 hz0 hz1 hz2 hzs (by decide) Nt.cells_len Nt.cells_one _ (s.map Sl.note) rfl (hown2.out.alloc _) _ 1 1 [x.note] rfl rfl (Lies.one _ _ _ rfl) hs1.out.1 hs1.out.2 (by rw [World.size_alloc]; exact Nat.le_succ_of_le hsz2.out) ?_; intro v' w' hown' hgr hat; obtain ⟨g', cap', rfl⟩ := hown'.some_; have hr3 := hv3.out w' hgr; obtain ⟨c3', f3'⟩ := row_cell (cs := [v]) hr3 (j := 0) rfl; have hF := hide (And.intro hown' (And.intro hgr (And.intro hat hr3))); clear hown' hgr hat hr3))
    have hgr := hF.out.2.1
    have hown5 := hF.out.1
    rw [List.length_map] at hown5
    have hZl : Z.heap.size ≤ (Z.alloc (.cells x.note.cells.toArray 62)).heap.size := by simp
    have hZY : Y.heap.size ≤ Z.heap.size := hZ9.out.size
    have hgs := hgr.size
    have hO2 : ∀ j, v.ownBlock = some j → O j := fun j hj => by rw [HO.out]; exact .inr hj
    have hO1 : O w.heap.size := by rw [HO.out]; exact .inl rfl
    refine ⟨fun j => j = w.heap.size ∨ g' = j, ?_, ?_, .slice (some ⟨g', 0, none⟩) (s.length + 1) cap', ?_, row_store hF.out.2.2.2 0 _, ?_, ?_, ?_⟩
    · rintro j (rfl | rfl)
      · exact .inl (.inl hO1)
      · rcases hF.out.2.2.1 with h | h
        · exact .inl (.inl (hO2 _ h.symm))
        · simp only [Value.ownBlock, Option.some.injEq] at h
          rw [World.size_alloc] at h
          exact .inr (by omega)
    · have k1 : KeepsBut (fun j => O j ∨ j = Bs) Y Z := hZ9.out.mono fun j _ h => .inr h
      have k2 := k1.trans' (KeepsBut.alloc Z (.cells x.note.cells.toArray 62))
      have k3 := k2.trans' (KeepsBut.of_grown (O := fun j => O j ∨ j = Bs) hgr (fun k hk => .inl (hO2 k hk)))
      exact k3.trans' (KeepsBut.setCell _ _ _ (.inl hO1))
    · funext j; simp [Value.ownBlock]
    · rw [List.map_append]
      refine hown5.keep fun g hg => Below.heap_setCell _ _ _ _ ?_
      have := (hown5.from_ g hg).1
      show g ≠ w.heap.size
      omega
    · refine Below.setCell (p := ⟨w.heap.size, 0, none⟩) ?_ (Nat.le_refl _) _
      exact (hb2.out.alloc hb2.out.size _).grown hgr (Nat.le_trans hb2.out.size hZl) (fun k hk => by have := (hown2.out.from_ k hk).1; omega)
    · refine (World.cell?_of_block (Below.heap_setCell _ _ _ _ (by show w.heap.size + 1 ≠ w.heap.size; omega))).trans ?_
      have hlt : w.heap.size + 1 < Z.heap.size := World.block_lt_of_cell? _ _ hcp2.out
      refine (World.cell?_of_block (hgr.block _ (by rw [World.size_alloc]; show w.heap.size + 1 < _; omega) (fun e => ?_))).trans ((World.cell?_of_block (Below.heap_alloc _ _ _ hlt)).trans hcp2.out)
      have := (hown2.out.from_ _ e.symm).1
      simp only at this
      omega
  case hdone =>
    rintro O D V hD hnD _ _ ⟨v, rfl, hv, hown, hbel, hcp⟩ hKD
    have hownD : Grow.Own (V.putObj D (.deferred none)) (w.heap.size + 2) 62 15 Nt.cells v ((slP l).map Sl.note) := hown.keep fun g hg => World.putObj_heap_other (fun e => hnD (.inr (e ▸ hg)))
    have hfr := hide hownD.from_
    obtain ⟨A', c', rfl, g1, g2, g3⟩ := hownD.lies Nt.cells_len
    have HG := hide (And.intro g1 (And.intro g2 g3))
    obtain ⟨c3, f3⟩ := row_cell (cs := [.slice A' ((slP l).map Sl.note).length c']) hv (j := 0) rfl
    rw [hsz4] at hD
    have hbe : Hid (Below w.heap.size w (V.putObj D (.deferred none))) := ⟨hbel.os, hbel.tape, hbel.output, Nat.le_trans hbel.size (by simp [World.putObj]), fun k hk => (World.putObj_heap_other (by omega)).trans (hbel.block k hk)⟩
    have HKD := hide hKD
    clear hv hown hbel hcp hKD hnD hD hownD g1 g2 g3
    gi_wp2
    refine ⟨by simp, .inl ⟨_, _, rfl, run_takeDeferred HKD.out, ?_⟩⟩
    refine ⟨_, results_tmp rfl _ _ _, ⟨_, hbe.out⟩, A', c', by simp, rfl, HG.out.1, HG.out.2.1, HG.out.2.2, fun ad e => ?_⟩
    have := (hfr.out ad.block (by rw [e]; rfl)).1
    omega
end Go.Proofs.YtmpdmelkbemabaaGreat
