/- The document's list of a program's types: the same as the iterator's. -/
import Derived.Test.YtmpdmelkbemabaaRows
import Derived.Test.YtmpdmelkbemabaaNotes
import Derived.Test.YtmpdmelkbemabaaTwoG
import Derived.BigGuardPart
import Derived.Deep.DeepCutAuto
set_option linter.unusedSimpArgs false
set_option linter.unusedVariables false
namespace Go.Proofs.Grow
open Go.RowKit
/-- demesneref12.Line, arena.Line -/
structure Ln where
  c : Int
  m : Int
  d : Int
  s : St
def Ln.cells (x : Ln) : List Value := .int .i64 x.c :: .int .i64 x.m :: .int .i64 x.d :: x.s.cells
theorem Ln.cells_len (x : Ln) : x.cells.length = 26 := by simp [Ln.cells, St.cells_len]
theorem St.cells_one (s : St) : ∀ u ∈ s.cells, u.oneCell' = true := by
  obtain ⟨k, x, y, name, ⟨tk, tc, tn, ⟨k0, n0⟩, ⟨k1, n1⟩, ⟨k2, n2⟩, ⟨k3, n3⟩⟩, ⟨ek, en, ename, eA, ec, kids⟩, aA, ac, args, bA, bc, body, lA, lc, els, pos⟩ := s
  intro u hu
  simp only [St.cells, Ty.cells, Ex.cells, List.cons_append, List.nil_append, List.mem_cons, List.not_mem_nil, or_false] at hu
  rcases hu with rfl | rfl | rfl | rfl | rfl | rfl | rfl | rfl | rfl | rfl | rfl | rfl | rfl | rfl | rfl | rfl | rfl | rfl | rfl | rfl | rfl | rfl | rfl <;> rfl
theorem Ln.cells_one (x : Ln) : ∀ u ∈ x.cells, u.oneCell' = true := by
  intro u hu
  unfold Ln.cells at hu
  rcases List.mem_cons.1 hu with rfl | hu
  · rfl
  rcases List.mem_cons.1 hu with rfl | hu
  · rfl
  rcases List.mem_cons.1 hu with rfl | hu
  · rfl
  exact x.s.cells_one u hu
def Li.ln (c m : Int) (x : Li) : Ln := ⟨c, m, x.d, x.s⟩
theorem StIn.body {w : World} {s : St} (h : StIn w s) : (∀ t ∈ s.body, StIn w t) ∧ Lies w 23 St.cells s.bA s.body ∧ s.body.length ≤ s.bc ∧ s.bc ≤ maxLen := by
  cases h with | mk he ha hac ham hai hb hbc hbm hbi hl hlc hlm hli hs => exact ⟨hbi, hb, hbc, hbm⟩
theorem StIn.els {w : World} {s : St} (h : StIn w s) : (∀ t ∈ s.els, StIn w t) ∧ Lies w 23 St.cells s.eA s.els ∧ s.els.length ≤ s.ec ∧ s.ec ≤ maxLen := by
  cases h with | mk he ha hac ham hai hb hbc hbm hbi hl hlc hlm hli hs => exact ⟨hli, hl, hlc, hlm⟩
/-- A line's box, its statement laid anew. -/
theorem ln_stmt {W : World} {g : Nat} {t : TypeId} (a : Ln) (s : St) (h : W.heap[g]? = some (.cells a.cells.toArray t (0, 0))) : (W.setCells g 3 s.cells).heap[g]? = some (.cells (Ln.mk a.c a.m a.d s).cells.toArray t (0, 0)) := by
  obtain ⟨cur', h1, h2⟩ := setCells_row g t s.cells 3 W _ h (by rw [St.cells_len]; simp [Ln.cells_len])
  have e : cur' = (Ln.mk a.c a.m a.d s).cells.toArray := by
    apply Array.toList_inj.1
    rw [h2, St.cells_len]
    show a.cells.take 3 ++ (s.cells ++ a.cells.drop 26) = _
    rw [List.drop_of_length_le (by rw [Ln.cells_len]; decide), List.append_nil]
    rfl
  rw [e] at h1
  exact h1
theorem ln_deep {W : World} {g : Nat} {t : TypeId} (a : Ln) (d : Int) (h : W.heap[g]? = some (.cells a.cells.toArray t (0, 0))) : (W.setCell ⟨g, 2, none⟩ (.int .i64 d)).heap[g]? = some (.cells (Ln.mk a.c a.m d a.s).cells.toArray t (0, 0)) := by
  have := row_store h 2 (.int .i64 d)
  rw [this]
  congr 2
end Go.Proofs.Grow
namespace Go.Proofs.Ytmpdmelkbemabaa
open Go.RowKit Go.Proofs.Grow

theorem infoLn : (Try.prog.info? 49).map (fun i => (i.zero.map (·.cells.size), i.size, i.bytes)) = some (some 26, 26, 312) := by kernel_rfl

def LinesOk (l : List St) : Prop := ∀ (w : World) (A : Option Addr) (c : Nat) (a : Ln), (∀ s ∈ l, StIn w s) → Lies w 23 St.cells A l → l.length ≤ c → c ≤ maxLen → (liAll l a.d (bkA A) (ofA A)).length ≤ 400000000000 →
  GivesOwn Try.prog 20 #[.slice A l.length c, .agg a.cells.toArray] w 49 26 Ln.cells ((liAll l a.d (bkA A) (ofA A)).map (Li.ln a.c a.m))

set_option maxHeartbeats 4000000 in
set_option maxRecDepth 100000 in
theorem lines_step (l : List St) (ihb : ∀ s ∈ l, LinesOk s.body) (ihe : ∀ s ∈ l, LinesOk s.els) : LinesOk l := by
  intro w A c a hin hl hlc hcm hN
  unfold GivesOwn
  obtain ⟨i0, z0, hi0, hz0, hz1, hz2, hzs⟩ := info_row infoLn
  have HI := hide hin
  have HL := hide hl
  have HN := hide hN
  have IHB := hide ihb
  have IHE := hide ihe
  clear hin hl hN ihb ihe
  go_enter Try.func20, Try.ntmps20
  go_wp2_with fail
  obtain ⟨w1, hw1⟩ : ∃ w1, w1 = w.alloc (.cells a.cells.toArray 49) := ⟨_, rfl⟩
  have hsz1 : w1.heap.size = w.heap.size + 1 := by rw [hw1]; simp
  have hba : Hid (w1.heap[w.heap.size]? = some (.cells a.cells.toArray 49 (0, 0))) := by rw [hw1]; exact heap_alloc_new w _
  have hB1 : Hid (Below w.heap.size w w1) := by show Below _ _ _; rw [hw1]; exact (Below.refl _ _).alloc (Nat.le_refl _) _
  rw [← hw1]
  clear hw1
  go_loopw [5, 6] (fun v i wr => ∃ k : Nat, i = .int .i64 k ∧ k ≤ l.length ∧ ∃ x : Ext w1, wr = x.val ∧ Hid (Grow.Own x.val w1.heap.size 49 26 Ln.cells v ((liAll (l.take k) a.d (bkA A) (ofA A)).map (Li.ln a.c a.m)))) (fun _ i _ => l.length - (intOf i).toNat)
  case atStart => exact ⟨0, rfl, Nat.zero_le _, Ext.here w1, rfl, (show Grow.Own _ _ _ _ _ _ _ by simpa [liAll] using Own.nil)⟩
  case round =>
    obtain ⟨k, rfl, hk, x, rfl, hown⟩ := hrel
    by_cases hlt : k < l.length
    · obtain ⟨b, off, hA, hb, hcell⟩ := HL.out k hlt
      have hlt' : (k : Int) < (l.length : Int) := by omega
      have hmem := List.getElem_mem hlt
      have HTk := liAll_take a.d (bkA A) (ofA A) l k hlt
      rw [liOne_eq] at HTk
      have hpl := (liAll_prefix a.d (bkA A) (ofA A) l (k + 1)).length_le
      obtain ⟨e, he⟩ : ∃ e, e = l[k] := ⟨_, rfl⟩
      rw [← he] at hcell hmem HTk
      obtain ⟨T, hT⟩ : ∃ T, T = (liAll (l.take k) a.d (bkA A) (ofA A)).map (Li.ln a.c a.m) := ⟨_, rfl⟩
      obtain ⟨Bl, hBl⟩ : ∃ Bl, Bl = (liAll e.body (wrap64 (a.d + 1)) (bkA e.bA) (ofA e.bA)).map (Li.ln a.c a.m) := ⟨_, rfl⟩
      obtain ⟨El, hEl⟩ : ∃ El, El = (liAll e.els (wrap64 (a.d + 1)) (bkA e.eA) (ofA e.eA)).map (Li.ln a.c a.m) := ⟨_, rfl⟩
      have HT : Hid ((liAll (l.take (k + 1)) a.d (bkA A) (ofA A)).map (Li.ln a.c a.m) = T ++ [⟨a.c, a.m, a.d, e⟩] ++ Bl ++ El) := by
        show _ = _
        rw [HTk, hT, hBl, hEl]
        simp [Li.ln]
      have HLen : Hid (T.length + 1 + Bl.length + El.length ≤ 400000000000) := by
        have h := congrArg List.length HT.out
        simp only [List.length_map, List.length_append, List.length_cons, List.length_nil] at h
        have := HN.out
        show _ ≤ _
        omega
      rw [← hT] at hown
      have hIn := hide (HI.out e hmem)
      have IHb := hide (IHB.out e hmem)
      have IHe := hide (IHE.out e hmem)
      have HBl := hide hBl
      have HEl := hide hEl
      have hb1 : b < w1.heap.size := by omega
      have hrg : Hid (∀ W, Below w.heap.size w W → W.rangeAt b (off + k * 23) e.cells) := fun W hW j u h => (World.cell?_of_block (hW.block _ hb)).trans (hcell j u h)
      have HBw : Hid (∀ y : Ext w1, Below w.heap.size w y.val) := fun y => hB1.out.trans (y.below.mono (by omega))
      have hrga : Hid (x.val.heap[w.heap.size]? = some (.cells a.cells.toArray 49 (0, 0))) := (x.below.block _ (by omega)).trans hba.out
      have HKW : Hid (wrap64 ((k : Int) + 1) = ((k + 1 : Nat) : Int)) := by
        have := hcm
        unfold maxLen at this
        show wrap64 _ = _
        unfold wrap64
        omega
      have hlt9 := hide hlt
      have hxs : w1.heap.size ≤ x.val.heap.size := x.below.size
      have HXS := hide hxs
      have hrx := hide (hrg.out _ (HBw.out x))
      subst hA
      clear hcell he hmem HTk hpl hT hBl hEl hlt hxs
      go_upto_region 6 with (first | (refine wpList_load_row rfl 49 (.tmp 3) rfl w.heap.size rfl 49 a.cells.toArray (0, 0) _ hrga.out Try.underlying49 rfl (by rw [List.size_toArray, Ln.cells_len]; kernel_rfl) ?_) | (refine wpList_store_new rfl 49 (.tmp 7) (.tmp 14) rfl _ _ _ _ rfl rfl rfl (by rw [List.size_toArray, Ln.cells_len]; kernel_rfl) (by simp [Ln.cells_len]) (fun u hu => Ln.cells_one a u (by simpa using hu)) ?_))
      obtain ⟨Bx, hBx⟩ : ∃ B, B = x.val.heap.size := ⟨_, rfl⟩
      obtain ⟨W5, hW5⟩ : ∃ W, W = x.val.alloc (.cells a.cells.toArray 49) := ⟨_, rfl⟩
      obtain ⟨Z, hZ⟩ : ∃ Z, Z = W5.setCells Bx 3 e.cells.toArray.toList := ⟨_, rfl⟩
      have hr5 : W5.heap[Bx]? = some (.cells a.cells.toArray 49 (0, 0)) := by rw [hW5, hBx]; exact heap_alloc_new _ _
      have hth : Hid (W5.there Bx 3 e.cells.toArray.size) := there_of_row hr5 3 _ (by rw [List.size_toArray, St.cells_len, List.size_toArray, Ln.cells_len]; decide)
      have hrZ : Hid (Z.heap[Bx]? = some (.cells (Ln.mk a.c a.m a.d e).cells.toArray 49 (0, 0))) := by show _ = _; rw [hZ]; exact ln_stmt a e hr5
      have hBx1 : w1.heap.size ≤ Bx := by rw [hBx]; exact HXS.out
      have hb5 : Below w1.heap.size w1 W5 := by rw [hW5]; exact x.below.alloc HXS.out _
      have hr5b : Hid (W5.rangeAt b (off + k * 23) e.cells) := hrg.out _ (hB1.out.trans (hb5.mono (by omega)))
      have hbZ : Hid (Below w1.heap.size w1 Z) := by show Below _ _ _; rw [hZ]; exact hb5.trans (setCells_below hBx1 _ _ _)
      have hnv : Hid (u5.ownBlock ≠ some Bx) := fun h => by have := (hown.out.from_ _ h).2; omega
      have hoZ : Hid (Grow.Own Z w1.heap.size 49 26 Ln.cells u5 T) := by
        refine Own.keep (A := x.val) hown.out fun g hg => ?_
        have hg2 := (hown.out.from_ g hg).2
        rw [hZ, setCells_other _ _ _ _ _ (by omega), hW5]
        exact Below.heap_alloc _ _ _ hg2
      rw [← hW5, ← hBx]
      have hZ9 := hide hZ
      have HX1 := hide hBx1
      clear hW5 hZ hBx hr5 hb5 hBx1 hown hrx hrga
      go_upto_region 7 with (first | (refine wpList_load_mid rfl 46 (.tmp 17) rfl b (off + k * 23) rfl e.cells _ hr5b.out Try.underlying46 rfl (by rw [St.cells_len]; kernel_rfl) ?_) | (refine wpList_store_mid rfl 46 (.tmp 19) (.tmp 18) rfl Bx 3 e.cells.toArray rfl rfl hth.out (by rw [List.size_toArray, St.cells_len]; kernel_rfl) (all_oneCell_toArray e.cells_one) ?_; rw [← hZ9.out]))
      clear hth hr5b hZ9 W5
      have hs1 : Hid (T.length + [Ln.mk a.c a.m a.d e].length ≤ maxLen ∧ (T.length + [Ln.mk a.c a.m a.d e].length) * 312 ≤ 140737488355328) := by
        have := HLen.out
        show _ ∧ _
        simp only [List.length_cons, List.length_nil]
        unfold maxLen
        omega
      go_upto_region 8 with (first | (refine wpList_load_row rfl 49 (.tmp 7) rfl Bx rfl 49 (Ln.mk a.c a.m a.d e).cells.toArray (0, 0) _ hrZ.out Try.underlying49 rfl (by rw [List.size_toArray, Ln.cells_len]; kernel_rfl) ?_) | (refine wpList_lit_one rfl 31 49 (.tmp 21) rfl (Ln.mk a.c a.m a.d e).cells.toArray rfl i0 z0 26 Try.underlying31 hi0 hz0 hz1 (by rw [List.size_toArray, Ln.cells_len]) (by decide) (by decide) ?_) | (at_builtin; refine wpList_append_list (w1 := w1) _ rfl (.tmp 20) (.tmp 22) 31 rfl 49 i0 z0 26 312 Try.underlying31 hi0 hz0 hz1 hz2 hzs (by decide) Ln.cells_len Ln.cells_one (hbZ.out.alloc hbZ.out.size _) _ T rfl (hoZ.out.alloc _) _ 1 1 [Ln.mk a.c a.m a.d e] rfl rfl (Lies.one _ _ _ rfl) hs1.out.1 hs1.out.2 ?_; intro v' y hown' hgr hat))
      have hBZ : Bx < Z.heap.size := row_lt hrZ.out
      have hry : y.val.heap[Bx]? = some (.cells (Ln.mk a.c a.m a.d e).cells.toArray 49 (0, 0)) :=
        (hgr.block _ (by rw [World.size_alloc]; omega) (fun h => hnv.out h.symm)).trans ((Below.heap_alloc _ _ _ hBZ).trans hrZ.out)
      have hnv' : Hid (v'.ownBlock ≠ some Bx) := fun h => by
        rcases hat with h' | h'
        · exact hnv.out (h'.symm.trans h)
        · rw [h'] at h; simp at h; omega
      obtain ⟨c2, f2⟩ := row_cell hry (j := 2) rfl
      obtain ⟨W8, hW8⟩ : ∃ W, W = y.val.setCell ⟨Bx, 2, none⟩ (.int .i64 (wrap64 (a.d + 1))) := ⟨_, rfl⟩
      obtain ⟨L1, hL1⟩ : ∃ L1, L1 = Ln.mk a.c a.m (wrap64 (a.d + 1)) e := ⟨_, rfl⟩
      have hr8 : Hid (W8.heap[Bx]? = some (.cells L1.cells.toArray 49 (0, 0))) := by show _ = _; rw [hW8, hL1]; exact ln_deep _ _ hry
      have hb8 : Hid (Below w1.heap.size w1 W8) := by show Below _ _ _; rw [hW8]; exact y.below.setCell (p := ⟨Bx, 2, none⟩) HX1.out _
      have ho8 : Hid (Grow.Own W8 w1.heap.size 49 26 Ln.cells v' (T ++ [Ln.mk a.c a.m a.d e])) := hown'.keep fun g hg => by
        rw [hW8]; exact Below.heap_setCell _ _ _ _ (fun h => hnv'.out (by rw [hg]; exact congrArg some h))
      have HL1 := hide hL1
      clear hgr hat hown' hnv hoZ hbZ hrZ hry
      go_upto_region 9 with fail
      rw [← hW8]
      clear hW8 c2 f2 hL1 hBZ
      let S : World → Prop := fun W => Below w1.heap.size w1 W ∧ W.heap[Bx]? = some (.cells L1.cells.toArray 49 (0, 0))
      have hSw : Hid (∀ X, S X → Below w.heap.size w X) := fun X h => hB1.out.trans (h.1.mono (by omega))
      have hSc : ∀ X, S X → X.cell? ⟨b, off + k * 23 + 20, none⟩ = some (.slice e.bA e.body.length e.bc) ∧ X.cell? ⟨b, off + k * 23 + 21, none⟩ = some (.slice e.eA e.els.length e.ec) := fun X h =>
        ⟨hrg.out X (hSw.out X h) 20 _ e.at20, hrg.out X (hSw.out X h) 21 _ e.at21⟩
      have hS : S W8.drew := ⟨hb8.out.drew, hr8.out⟩
      have hso : Hid (Grow.Own W8.drew w1.heap.size 49 26 Ln.cells v' (T ++ [Ln.mk a.c a.m a.d e])) := ho8.out.drew
      clear hb8 hr8 ho8
      refine wp_region_till S 99 (by kernel_rfl) ?_
      simp only [List.size_toArray, List.length_cons, List.length_nil, Nat.reduceAdd]
      refine AnyTill.takeG (i := 0) (v := ?_) rfl (by kernel_rfl) (fun _ _ _ h => h) hS ?_ rfl ?_
      rotate_left
      · intro X hSX
        skip
        go_simp
        all_goals with_reducible rfl
      try simp only [Act.put, List.getElem_toArray, List.getElem_cons_succ, List.getElem_cons_zero, List.setIfInBounds_toArray, List.set_cons_zero, List.set_cons_succ]
      refine AnyTill.takeG (i := 1) (v := ?_) rfl (by kernel_rfl) (fun _ _ _ h => h) hS ?_ rfl ?_
      rotate_left
      · intro X hSX
        skip
        go_simp
        all_goals with_reducible rfl
      try simp only [Act.put, List.getElem_toArray, List.getElem_cons_succ, List.getElem_cons_zero, List.setIfInBounds_toArray, List.set_cons_zero, List.set_cons_succ]
      refine AnyTill.takeG (i := 2) (v := ?_) rfl (by kernel_rfl) (fun _ _ _ h => h) hS ?_ rfl ?_
      rotate_left
      · intro X hSX
        skip
        go_simp
        all_goals with_reducible rfl
      try simp only [Act.put, List.getElem_toArray, List.getElem_cons_succ, List.getElem_cons_zero, List.setIfInBounds_toArray, List.set_cons_zero, List.set_cons_succ]
      refine AnyTill.takeG (i := 3) (v := ?_) rfl (by kernel_rfl) (fun _ _ _ h => h) hS ?_ rfl ?_
      rotate_left
      · intro X hSX
        skip
        go_simp
        all_goals with_reducible rfl
      try simp only [Act.put, List.getElem_toArray, List.getElem_cons_succ, List.getElem_cons_zero, List.setIfInBounds_toArray, List.set_cons_zero, List.set_cons_succ]
      refine AnyTill.takeG (i := 4) (v := ?_) rfl (by kernel_rfl) (fun _ _ _ h => h) hS ?_ rfl ?_
      rotate_left
      · intro X hSX
        skip
        go_simp
        all_goals with_reducible rfl
      try simp only [Act.put, List.getElem_toArray, List.getElem_cons_succ, List.getElem_cons_zero, List.setIfInBounds_toArray, List.set_cons_zero, List.set_cons_succ]
      refine AnyTill.takeG (i := 5) (v := ?_) rfl (by kernel_rfl) (fun _ _ _ h => h) hS ?_ rfl ?_
      rotate_left
      · intro X hSX
        obtain ⟨h20, h21⟩ := hSc X hSX
        go_simp
        all_goals with_reducible rfl
      try simp only [Act.put, List.getElem_toArray, List.getElem_cons_succ, List.getElem_cons_zero, List.setIfInBounds_toArray, List.set_cons_zero, List.set_cons_succ]
      refine AnyTill.takeG (i := 6) (v := .agg (L1.cells).toArray) rfl (by kernel_rfl) (fun _ _ _ h => h) hS (fun X hX => run_load_block (g := Bx) rfl rfl (hX.2) Try.underlying49 rfl (by rw [List.size_toArray, Ln.cells_len]; kernel_rfl)) rfl ?_
      try simp only [Act.put, List.getElem_toArray, List.getElem_cons_succ, List.getElem_cons_zero, List.setIfInBounds_toArray, List.set_cons_zero, List.set_cons_succ]
      have hc7 := IHb.out W8.drew e.bA e.bc L1 (by
        intro t ht
        obtain ⟨u, hu⟩ := Ext.of (hSw.out _ hS)
        rw [hu]
        exact (hIn.out.body.1 t ht).ext u) (hIn.out.body.2.1.below (hSw.out _ hS)) hIn.out.body.2.2.1 hIn.out.body.2.2.2 (by
        have h := congrArg List.length HBl.out
        have := HLen.out
        rw [List.length_map] at h
        rw [HL1.out]
        show (liAll e.body (wrap64 (a.d + 1)) _ _).length ≤ _
        omega)
      have hd1 : (liAll e.body L1.d (bkA e.bA) (ofA e.bA)).map (Li.ln L1.c L1.m) = Bl := by rw [HBl.out, HL1.out]
      rw [hd1] at hc7
      have HC7 := hide hc7
      clear hc7 hd1
      refine AnyTill.oneG (i := 7) rfl (by kernel_rfl) rfl ?_
      intro K hK
      go_simp
      refine HC7.out.mono ?_
      clear HC7
      rintro _ _ ⟨x2, v2, rfl, rfl, ho2⟩
      have hS2 : S x2.val := ⟨hS.1.trans (x2.below.mono hS.1.size), (x2.below.block _ (row_lt hS.2)).trans hS.2⟩
      have hso2 : Hid (Grow.Own x2.val w1.heap.size 49 26 Ln.cells v' (T ++ [Ln.mk a.c a.m a.d e])) := hso.out.ext x2
      obtain ⟨A2, c2, rfl, g1, g2, g3⟩ := ho2.lies Ln.cells_len
      have hl2 := hide g3
      clear ho2 g1 g2 g3 hS hso
      refine hK _ _ (fun _ => hS2) ?_
      clear hK K
      have hS := hS2
      clear hS2
      refine AnyTill.oneG (i := 8) rfl (by kernel_rfl) rfl ?_
      intro K hK
      refine wp_append_list x2.val (.tmp 28) (.tmp 35) 31 rfl w1.heap.size 49 i0 z0 26 312 Try.underlying31 hi0 hz0 hz1 hz2 hzs (by decide) Ln.cells_len Ln.cells_one v' (T ++ [Ln.mk a.c a.m a.d e]) rfl hso2.out A2 Bl.length c2 Bl rfl rfl hl2.out ?_ ?_ hS.1.size ?_
      · have := HLen.out; simp only [List.length_append, List.length_cons, List.length_nil]; unfold maxLen; omega
      · have := HLen.out; simp only [List.length_append, List.length_cons, List.length_nil]; omega
      intro v3 W9 ho3 hgr hat
      have hS3 : S W9 := ⟨hS.1.grown hgr hS.1.size (fun j hj => (hso2.out.from_ j hj).1), (hgr.block _ (row_lt hS.2) (fun h => hnv'.out h.symm)).trans hS.2⟩
      have hnv3 : Hid (v3.ownBlock ≠ some Bx) := fun h => by
        rcases hat with h' | h'
        · exact hnv'.out (h'.symm.trans h)
        · rw [h'] at h
          have := row_lt hS.2
          simp at h; omega
      have ho39 := hide ho3
      clear hgr hat ho3 hso2 hl2 hnv' hS
      refine hK _ _ (fun _ => hS3) ?_
      clear hK K
      have hS := hS3
      clear hS3
      try simp only [Act.put, List.getElem_toArray, List.getElem_cons_succ, List.getElem_cons_zero, List.setIfInBounds_toArray, List.set_cons_zero, List.set_cons_succ]
      refine AnyTill.oneG (i := 9) rfl (by kernel_rfl) rfl ?_
      intro K hK
      go_simp
      refine hK _ _ (fun _ => hS) ?_
      clear hK K
      refine AnyTill.done (by kernel_rfl) ?_ _
      go_upto_region 10 with fail
      have hS : S W9.drew := ⟨hS.1.drew, hS.2⟩
      have hso : Hid (Grow.Own W9.drew w1.heap.size 49 26 Ln.cells v3 (T ++ [Ln.mk a.c a.m a.d e] ++ Bl)) := ho39.out.drew
      clear ho39
      refine wp_region_till S 99 (by kernel_rfl) ?_
      simp only [List.size_toArray, List.length_cons, List.length_nil, Nat.reduceAdd]
      refine AnyTill.takeG (i := 0) (v := ?_) rfl (by kernel_rfl) (fun _ _ _ h => h) hS ?_ rfl ?_
      rotate_left
      · intro X hSX
        skip
        go_simp
        all_goals with_reducible rfl
      try simp only [Act.put, List.getElem_toArray, List.getElem_cons_succ, List.getElem_cons_zero, List.setIfInBounds_toArray, List.set_cons_zero, List.set_cons_succ]
      refine AnyTill.takeG (i := 1) (v := ?_) rfl (by kernel_rfl) (fun _ _ _ h => h) hS ?_ rfl ?_
      rotate_left
      · intro X hSX
        skip
        go_simp
        all_goals with_reducible rfl
      try simp only [Act.put, List.getElem_toArray, List.getElem_cons_succ, List.getElem_cons_zero, List.setIfInBounds_toArray, List.set_cons_zero, List.set_cons_succ]
      refine AnyTill.takeG (i := 2) (v := ?_) rfl (by kernel_rfl) (fun _ _ _ h => h) hS ?_ rfl ?_
      rotate_left
      · intro X hSX
        skip
        go_simp
        all_goals with_reducible rfl
      try simp only [Act.put, List.getElem_toArray, List.getElem_cons_succ, List.getElem_cons_zero, List.setIfInBounds_toArray, List.set_cons_zero, List.set_cons_succ]
      refine AnyTill.takeG (i := 3) (v := ?_) rfl (by kernel_rfl) (fun _ _ _ h => h) hS ?_ rfl ?_
      rotate_left
      · intro X hSX
        skip
        go_simp
        all_goals with_reducible rfl
      try simp only [Act.put, List.getElem_toArray, List.getElem_cons_succ, List.getElem_cons_zero, List.setIfInBounds_toArray, List.set_cons_zero, List.set_cons_succ]
      refine AnyTill.takeG (i := 4) (v := ?_) rfl (by kernel_rfl) (fun _ _ _ h => h) hS ?_ rfl ?_
      rotate_left
      · intro X hSX
        skip
        go_simp
        all_goals with_reducible rfl
      try simp only [Act.put, List.getElem_toArray, List.getElem_cons_succ, List.getElem_cons_zero, List.setIfInBounds_toArray, List.set_cons_zero, List.set_cons_succ]
      refine AnyTill.takeG (i := 5) (v := ?_) rfl (by kernel_rfl) (fun _ _ _ h => h) hS ?_ rfl ?_
      rotate_left
      · intro X hSX
        obtain ⟨h20, h21⟩ := hSc X hSX
        go_simp
        all_goals with_reducible rfl
      try simp only [Act.put, List.getElem_toArray, List.getElem_cons_succ, List.getElem_cons_zero, List.setIfInBounds_toArray, List.set_cons_zero, List.set_cons_succ]
      refine AnyTill.takeG (i := 6) (v := .agg (L1.cells).toArray) rfl (by kernel_rfl) (fun _ _ _ h => h) hS (fun X hX => run_load_block (g := Bx) rfl rfl (hX.2) Try.underlying49 rfl (by rw [List.size_toArray, Ln.cells_len]; kernel_rfl)) rfl ?_
      try simp only [Act.put, List.getElem_toArray, List.getElem_cons_succ, List.getElem_cons_zero, List.setIfInBounds_toArray, List.set_cons_zero, List.set_cons_succ]
      have hc7 := IHe.out W9.drew e.eA e.ec L1 (by
        intro t ht
        obtain ⟨u, hu⟩ := Ext.of (hSw.out _ hS)
        rw [hu]
        exact (hIn.out.els.1 t ht).ext u) (hIn.out.els.2.1.below (hSw.out _ hS)) hIn.out.els.2.2.1 hIn.out.els.2.2.2 (by
        have h := congrArg List.length HEl.out
        have := HLen.out
        rw [List.length_map] at h
        rw [HL1.out]
        show (liAll e.els (wrap64 (a.d + 1)) _ _).length ≤ _
        omega)
      have hd1 : (liAll e.els L1.d (bkA e.eA) (ofA e.eA)).map (Li.ln L1.c L1.m) = El := by rw [HEl.out, HL1.out]
      rw [hd1] at hc7
      have HC7 := hide hc7
      clear hc7 hd1
      refine AnyTill.oneG (i := 7) rfl (by kernel_rfl) rfl ?_
      intro K hK
      go_simp
      refine HC7.out.mono ?_
      clear HC7
      rintro _ _ ⟨x2, v2, rfl, rfl, ho2⟩
      have hS2 : S x2.val := ⟨hS.1.trans (x2.below.mono hS.1.size), (x2.below.block _ (row_lt hS.2)).trans hS.2⟩
      have hso2 : Hid (Grow.Own x2.val w1.heap.size 49 26 Ln.cells v3 (T ++ [Ln.mk a.c a.m a.d e] ++ Bl)) := hso.out.ext x2
      obtain ⟨A2, c2, rfl, g1, g2, g3⟩ := ho2.lies Ln.cells_len
      have hl2 := hide g3
      clear ho2 g1 g2 g3 hS hso
      refine hK _ _ (fun _ => hS2) ?_
      clear hK K
      have hS := hS2
      clear hS2
      refine AnyTill.oneG (i := 8) rfl (by kernel_rfl) rfl ?_
      intro K hK
      refine wp_append_list x2.val (.tmp 37) (.tmp 44) 31 rfl w1.heap.size 49 i0 z0 26 312 Try.underlying31 hi0 hz0 hz1 hz2 hzs (by decide) Ln.cells_len Ln.cells_one v3 (T ++ [Ln.mk a.c a.m a.d e] ++ Bl) rfl hso2.out A2 El.length c2 El rfl rfl hl2.out ?_ ?_ hS.1.size ?_
      · have := HLen.out; simp only [List.length_append, List.length_cons, List.length_nil]; unfold maxLen; omega
      · have := HLen.out; simp only [List.length_append, List.length_cons, List.length_nil]; omega
      intro v4 W10 ho3 hgr hat
      have hS3 : S W10 := ⟨hS.1.grown hgr hS.1.size (fun j hj => (hso2.out.from_ j hj).1), (hgr.block _ (row_lt hS.2) (fun h => hnv3.out h.symm)).trans hS.2⟩
      have ho39 := hide ho3
      clear hgr hat ho3 hso2 hl2 hnv3 hS
      refine hK _ _ (fun _ => hS3) ?_
      clear hK K
      have hS := hS3
      clear hS3
      try simp only [Act.put, List.getElem_toArray, List.getElem_cons_succ, List.getElem_cons_zero, List.setIfInBounds_toArray, List.set_cons_zero, List.set_cons_succ]
      refine AnyTill.oneG (i := 9) rfl (by kernel_rfl) rfl ?_
      intro K hK
      go_simp
      refine hK _ _ (fun _ => hS) ?_
      clear hK K
      refine AnyTill.done (by kernel_rfl) ?_ _
      obtain ⟨z, hz⟩ := Ext.of hS.1
      have hoz : Hid (Grow.Own z.val w1.heap.size 49 26 Ln.cells v4 ((liAll (l.take (k + 1)) a.d (bkA (some ⟨b, off, none⟩)) (ofA (some ⟨b, off, none⟩))).map (Li.ln a.c a.m))) := by
        show Grow.Own _ _ _ _ _ _ _
        rw [HT.out, ← hz]; exact ho39.out
      have hz9 := hide hz
      clear hS hSc hSw ho39 hz
      go_wp2_with fail
      go_roundw
      case rel => exact ⟨k + 1, by rw [HKW.out], Nat.succ_le_of_lt hlt9.out, z, hz9.out, hoz⟩
      case measure =>
        rw [HKW.out, intOf_int, intOf_int, Int.toNat_natCast, Int.toNat_natCast]
        exact Nat.sub_lt_sub_left hlt9.out (Nat.lt_succ_self k)
    · obtain rfl : k = l.length := Nat.le_antisymm hk (Nat.le_of_not_lt hlt)
      have hlt' : ¬ (l.length : Int) < (l.length : Int) := by omega
      have HG : Hid (Grow.Own x.val w1.heap.size 49 26 Ln.cells u5 ((liAll l a.d (bkA A) (ofA A)).map (Li.ln a.c a.m))) := by have := hown.out; rwa [List.take_length] at this
      obtain ⟨z, hz⟩ := Ext.of (hB1.out.trans (x.below.mono (by omega)))
      have hz9 := hide hz
      clear hown hz
      go_wp2_with fail
      go_ret
      refine ⟨z, _, rfl, hz9.out, ?_⟩
      rw [← hz9.out]
      exact HG.out.weaken (by omega)

theorem lines_ok : ∀ l : List St, LinesOk l := fun l => lines_step l
  (fun s hs => have h1 := List.sizeOf_lt_of_mem hs; have h2 := s.body_size
               lines_ok s.body)
  (fun s hs => have h1 := List.sizeOf_lt_of_mem hs; have h2 := s.els_size
               lines_ok s.els)
termination_by l => SizeOf.sizeOf l
end Go.Proofs.Ytmpdmelkbemabaa
set_option linter.unusedSimpArgs false
set_option linter.unusedVariables false
namespace Go.Proofs.Grow
open Go.RowKit
theorem Va.cells_len (v : Va) : v.cells.length = 13 := rfl
theorem Va.cells_one (v : Va) : ∀ u ∈ v.cells, u.oneCell' = true := by
  intro u hu
  unfold Va.cells at hu
  rcases List.mem_cons.1 hu with rfl | hu
  · rfl
  rcases List.mem_append.1 hu with hu | hu
  · exact v.ty.cells_one u hu
  · rw [List.mem_singleton.1 hu]; rfl
end Go.Proofs.Grow
namespace Go.Proofs.Ytmpdmelkbemabaa
open Go.RowKit Go.Proofs.Grow

theorem infoVa : (Try.prog.info? 79).map (fun i => (i.zero.map (·.cells.size), i.size, i.bytes)) = some (some 13, 13, 120) := by kernel_rfl

set_option maxHeartbeats 4000000 in
set_option maxRecDepth 100000 in
theorem refVars_any (m : Me) (w : World) (hm : MeIn w m) (hn : m.params.length + m.locals.length ≤ 1000000000000) : GivesOwn Try.prog 19 #[.agg m.cells.toArray] w 79 13 Va.cells (m.params ++ m.locals) := by
  unfold GivesOwn
  obtain ⟨i0, z0, hi0, hz0, hz1, hz2, hzs⟩ := info_row infoVa
  have HM := hide hm
  have HN := hide hn
  clear hm hn
  go_enter Try.func19, Try.ntmps19
  go_wp2_with fail
  obtain ⟨w1, hw1⟩ : ∃ w1, w1 = w.alloc (.cells m.cells.toArray 63) := ⟨_, rfl⟩
  have hrow : Hid (w1.heap[w.heap.size]? = some (.cells m.cells.toArray 63 (0, 0))) := by rw [hw1]; exact heap_alloc_new w _
  have hB1 : Hid (Below w.heap.size w w1) := by show Below _ _ _; rw [hw1]; exact (Below.refl _ _).alloc (Nat.le_refl _) _
  have hsz1 : w1.heap.size = w.heap.size + 1 := by rw [hw1]; simp
  rw [← hw1]
  clear hw1
  let S : World → Prop := fun W => Below w1.heap.size w1 W
  have hSc : ∀ X, S X → X.cell? ⟨w.heap.size, 13, none⟩ = some (.slice m.pA m.params.length m.pc) ∧ X.cell? ⟨w.heap.size, 14, none⟩ = some (.slice m.lA m.locals.length m.lc) := fun X h => by
    have hr : X.heap[w.heap.size]? = some (.cells m.cells.toArray 63 (0, 0)) := (h.block _ (by omega)).trans hrow.out
    exact ⟨(row_cell hr (j := 13) rfl).1, (row_cell hr (j := 14) rfl).1⟩
  have hSw : Hid (∀ X, S X → Below w.heap.size w X) := fun X h => hB1.out.trans (h.mono (by omega))
  have hS : S w1.drew := (Below.refl _ _).drew
  refine wp_region_till S 99 (by kernel_rfl) ?_
  simp only [List.size_toArray, List.length_cons, List.length_nil, Nat.reduceAdd]
  refine AnyTill.takeG (i := 1) (v := ?_) rfl (by kernel_rfl) (fun _ _ _ h => h) hS ?_ rfl ?_
  rotate_left
  · intro X hSX
    skip
    go_simp
    all_goals with_reducible rfl
  try simp only [Act.put, List.getElem_toArray, List.getElem_cons_succ, List.getElem_cons_zero, List.setIfInBounds_toArray, List.set_cons_zero, List.set_cons_succ]
  refine AnyTill.takeG (i := 2) (v := ?_) rfl (by kernel_rfl) (fun _ _ _ h => h) hS ?_ rfl ?_
  rotate_left
  · intro X hSX
    obtain ⟨h13, h14⟩ := hSc X hSX
    go_simp
    all_goals with_reducible rfl
  try simp only [Act.put, List.getElem_toArray, List.getElem_cons_succ, List.getElem_cons_zero, List.setIfInBounds_toArray, List.set_cons_zero, List.set_cons_succ]
  refine AnyTill.takeG (i := 4) (v := ?_) rfl (by kernel_rfl) (fun _ _ _ h => h) hS ?_ rfl ?_
  rotate_left
  · intro X hSX
    skip
    go_simp
    all_goals with_reducible rfl
  try simp only [Act.put, List.getElem_toArray, List.getElem_cons_succ, List.getElem_cons_zero, List.setIfInBounds_toArray, List.set_cons_zero, List.set_cons_succ]
  refine AnyTill.takeG (i := 5) (v := ?_) rfl (by kernel_rfl) (fun _ _ _ h => h) hS ?_ rfl ?_
  rotate_left
  · intro X hSX
    obtain ⟨h13, h14⟩ := hSc X hSX
    go_simp
    all_goals with_reducible rfl
  try simp only [Act.put, List.getElem_toArray, List.getElem_cons_succ, List.getElem_cons_zero, List.setIfInBounds_toArray, List.set_cons_zero, List.set_cons_succ]
  refine AnyTill.oneG (i := 0) rfl (by kernel_rfl) rfl ?_
  intro K hK
  go_simp
  obtain ⟨W2, hW2⟩ : ∃ W, W = (w1.alloc (.cells #[] 79)).drew := ⟨_, rfl⟩
  have hS2 : S W2 := by show Below _ _ _; rw [hW2]; exact ((Below.refl _ _).alloc (Nat.le_refl _) _).drew
  have ho2 : Hid (Grow.Own W2 w1.heap.size 79 13 Va.cells (.slice (some ⟨w.heap.size + 1, 0, none⟩) 0 0) []) := by
    show Grow.Own _ _ _ _ _ _ _
    rw [hW2, ← hsz1]; exact (Own.empty w1).drew
  rw [← hW2]
  clear hW2 hS
  have hS := hS2
  clear hS2
  refine hK _ _ (fun _ => hS) ?_
  clear hK K
  refine AnyTill.oneG (i := 3) rfl (by kernel_rfl) rfl ?_
  intro K hK
  refine wp_append_list W2 (.tmp 3) (.tmp 5) 58 rfl w1.heap.size 79 i0 z0 13 120 Try.underlying58 hi0 hz0 hz1 hz2 hzs (by decide) Va.cells_len Va.cells_one _ [] rfl ho2.out m.pA m.params.length m.pc m.params rfl rfl (HM.out.params.below (hSw.out W2 hS)) ?_ ?_ hS.size ?_
  · have := HN.out; simp only [List.length_append, List.length_nil]; unfold maxLen; omega
  · have := HN.out; simp only [List.length_append, List.length_nil]; omega
  intro v3 W3 ho3 hgr hat
  have hS3 : S W3 := hS.grown hgr hS.size (fun j hj => (ho2.out.from_ j hj).1)
  have ho39 := hide ho3
  clear hgr hat ho3 ho2 hS
  refine hK _ _ (fun _ => hS3) ?_
  clear hK K
  have hS := hS3
  clear hS3
  try simp only [Act.put, List.getElem_toArray, List.getElem_cons_succ, List.getElem_cons_zero, List.setIfInBounds_toArray, List.set_cons_zero, List.set_cons_succ]
  refine AnyTill.oneG (i := 6) rfl (by kernel_rfl) rfl ?_
  intro K hK
  refine wp_append_list W3 (.tmp 6) (.tmp 8) 58 rfl w1.heap.size 79 i0 z0 13 120 Try.underlying58 hi0 hz0 hz1 hz2 hzs (by decide) Va.cells_len Va.cells_one _ ([] ++ m.params) rfl ho39.out m.lA m.locals.length m.lc m.locals rfl rfl (HM.out.locals.below (hSw.out W3 hS)) ?_ ?_ hS.size ?_
  · have := HN.out; simp only [List.length_append, List.length_nil]; unfold maxLen; omega
  · have := HN.out; simp only [List.length_append, List.length_nil]; omega
  intro v4 W4 ho4 hgr hat
  have hS4 : S W4 := hS.grown hgr hS.size (fun j hj => (ho39.out.from_ j hj).1)
  have ho49 := hide ho4
  clear hgr hat ho4 ho39 hS
  refine hK _ _ (fun _ => hS4) ?_
  clear hK K
  have hS := hS4
  clear hS4
  try simp only [Act.put, List.getElem_toArray, List.getElem_cons_succ, List.getElem_cons_zero, List.setIfInBounds_toArray, List.set_cons_zero, List.set_cons_succ]
  refine AnyTill.oneG (i := 7) rfl (by kernel_rfl) rfl ?_
  intro K hK
  go_simp
  refine hK _ _ (fun _ => hS) ?_
  clear hK K
  refine AnyTill.done (by kernel_rfl) ?_ _
  obtain ⟨z, hz⟩ := Ext.of (hSw.out W4 hS)
  have HZ := hide hz
  clear hS hSc hz
  go_wp2_with fail
  go_ret
  refine ⟨z, _, rfl, HZ.out, ?_⟩
  rw [← HZ.out]
  have := ho49.out
  rw [List.nil_append] at this
  exact this.weaken (by omega)
end Go.Proofs.Ytmpdmelkbemabaa
set_option linter.unusedSimpArgs false
set_option linter.unusedVariables false
namespace Go.Proofs.Grow
open Go.RowKit

def rnV (c m : Int) (l : List Va) : List Nt := l.mapIdx fun j v => ⟨c, m, j, v.ty, v.pos⟩
theorem rnV_take (c m : Int) (l : List Va) (k : Nat) (h : k < l.length) : rnV c m (l.take (k + 1)) = rnV c m (l.take k) ++ [⟨c, m, k, l[k].ty, l[k].pos⟩] := by
  unfold rnV
  rw [List.take_succ_eq_append_getElem h, List.mapIdx_concat, List.length_take, Nat.min_eq_left (Nat.le_of_lt h)]
def rnB (c m : Int) (l : List Ln) : List Nt := (l.filter fun x => x.s.ty.k == 2).map fun x => ⟨c, m, -1, x.s.ty, x.s.pos⟩
theorem rnB_take (c m : Int) (l : List Ln) (k : Nat) (h : k < l.length) : rnB c m (l.take (k + 1)) = rnB c m (l.take k) ++ (if l[k].s.ty.k == 2 then [⟨c, m, -1, l[k].s.ty, l[k].s.pos⟩] else []) := by
  unfold rnB
  rw [List.take_succ_eq_append_getElem h, List.filter_append, List.map_append]
  congr 1
  by_cases h2 : (l[k].s.ty.k == 2) = true
  · simp [h2]
  · simp [h2]
def bodyLn (m : Me) : List Ln := (liAll m.body 0 (bkA m.bA) (ofA m.bA)).map (Li.ln 0 0)
def rnMe (c k : Int) (m : Me) : List Nt := ⟨c, k, -1, m.ret, m.pos⟩ :: (rnV c k (m.params ++ m.locals) ++ rnB c k (bodyLn m))
def rnMs (c : Int) (l : List Me) : List Nt := (l.mapIdx fun k m => rnMe c k m).flatten
theorem rnMs_take (c : Int) (l : List Me) (k : Nat) (h : k < l.length) : rnMs c (l.take (k + 1)) = rnMs c (l.take k) ++ rnMe c k l[k] := by
  unfold rnMs
  rw [List.take_succ_eq_append_getElem h, List.mapIdx_concat, List.length_take, Nat.min_eq_left (Nat.le_of_lt h), List.flatten_append]
  simp
def rnC (i : Nat) (cl : Cl) : List Nt := rnV i (-1) cl.fields ++ rnMs i cl.methods
def rnP (l : List Cl) : List Nt := (l.mapIdx fun i cl => rnC i cl).flatten
theorem rnP_take (l : List Cl) (k : Nat) (h : k < l.length) : rnP (l.take (k + 1)) = rnP (l.take k) ++ rnC k l[k] := by
  unfold rnP
  rw [List.take_succ_eq_append_getElem h, List.mapIdx_concat, List.length_take, Nat.min_eq_left (Nat.le_of_lt h), List.flatten_append]
  simp

theorem wrap_id {n : Nat} (h : n ≤ maxLen) : IntKind.i64.wrap ((n : Nat) : Int) = n := by
  rw [IntKind.wrap_i64 ((n : Nat) : Int)]
  unfold maxLen at h
  omega
theorem slV_note (A : Option Addr) (c m : Int) (f : Nat) (l : List Va) (h : f + l.length ≤ maxLen) : (slV A c m f l).map Sl.note = l.mapIdx fun j v => ⟨c, m, ((f + j : Nat) : Int), v.ty, v.pos⟩ := by
  unfold slV
  apply List.ext_getElem (by simp)
  intro i h1 h2
  have hi : i < l.length := by simpa using h2
  simp only [List.getElem_map, List.getElem_mapIdx, Sl.note]
  have e : IntKind.i64.wrap ((f : Int) + (i : Int)) = ((f + i : Nat) : Int) := by
    rw [← Int.natCast_add]; exact wrap_id (by omega)
  rw [e]
theorem slB_note (c m : Int) (ls : List Li) : (slB c m ls).map Sl.note = rnB c m (ls.map (Li.ln 0 0)) := by
  induction ls with
  | nil => rfl
  | cons x ls ih =>
    unfold slB rnB at *
    by_cases h : (x.s.ty.k == 2) = true
    · simp [Li.ln, h] at ih ⊢
      exact ⟨rfl, ih⟩
    · simp [Li.ln, h] at ih ⊢
      exact ih
theorem slM_note (b off : Nat) (c k : Int) (m : Me) (h : m.params.length + m.locals.length ≤ maxLen) : (slM b off c k m).map Sl.note = rnMe c k m := by
  unfold slM rnMe
  rw [List.map_cons, List.map_append, List.map_append, slB_note]
  have e1 := slV_note m.pA c k 0 m.params (by omega)
  have e2 := slV_note m.lA c k m.params.length m.locals h
  rw [show ((0 : Nat) : Int) = 0 from rfl] at e1
  rw [e1, e2]
  congr 1
  rw [← List.append_assoc]
  congr 1
  unfold rnV
  rw [List.mapIdx_append]
  congr 1
  · apply List.ext_getElem (by simp); intro i h1 h2; simp
  · apply List.ext_getElem (by simp); intro i h1 h2; simp [Int.add_comm]
theorem slMs_note (A : Option Addr) (c : Int) (l : List Me) (h : ∀ m ∈ l, m.params.length + m.locals.length ≤ maxLen) : (slMs A c l).map Sl.note = rnMs c l := by
  unfold slMs rnMs
  rw [List.map_flatten]
  congr 1
  apply List.ext_getElem (by simp)
  intro i h1 h2
  have hi : i < l.length := by simpa using h2
  simp only [List.getElem_map, List.getElem_mapIdx]
  exact slM_note _ _ _ _ _ (h _ (List.getElem_mem hi))
theorem slC_note (i : Nat) (cl : Cl) (hf : cl.fields.length ≤ maxLen) (h : ∀ m ∈ cl.methods, m.params.length + m.locals.length ≤ maxLen) : (slC i cl).map Sl.note = rnC i cl := by
  unfold slC rnC
  rw [List.map_append, slMs_note _ _ _ h]
  have e1 := slV_note cl.fA i (-1) 0 cl.fields (by omega)
  rw [show ((0 : Nat) : Int) = 0 from rfl] at e1
  rw [e1]
  congr 1
  unfold rnV
  apply List.ext_getElem (by simp); intro j h1 h2; simp
theorem slP_note (l : List Cl) (hf : ∀ cl ∈ l, cl.fields.length ≤ maxLen) (h : ∀ cl ∈ l, ∀ m ∈ cl.methods, m.params.length + m.locals.length ≤ maxLen) : (slP l).map Sl.note = rnP l := by
  unfold slP rnP
  rw [List.map_flatten]
  congr 1
  apply List.ext_getElem (by simp)
  intro i h1 h2
  have hi : i < l.length := by simpa using h2
  simp only [List.getElem_map, List.getElem_mapIdx]
  exact slC_note _ _ (hf _ (List.getElem_mem hi)) (h _ (List.getElem_mem hi))
end Go.Proofs.Grow
