/- The walk of cluster.Outside. -/
import Derived.Test.YtglgoegabihngaaHeld
set_option linter.unusedSimpArgs false
set_option linter.unusedVariables false
namespace Go.Proofs.Grow
open Go.RowKit
/-- Is a value that is held a reference into k from outside? -/
def isOut (l : List Ce) (k : Int) (x : Int × Vl) : Bool := x.2.ref && x.2.n != 0 && inB l x.2.n k && !inB l x.1 k
def cntOut (l : List Ce) (k : Int) (pre : List (Int × Vl)) : Nat := (pre.filter (isOut l k)).length
theorem cntOut_snoc (l : List Ce) (k : Int) (pre : List (Int × Vl)) (x : Int × Vl) : cntOut l k (pre ++ [x]) = cntOut l k pre + if isOut l k x then 1 else 0 := by
  unfold cntOut
  rw [List.filter_append, List.length_append, List.filter_cons]
  split <;> rfl
theorem cntOut_le (l : List Ce) (k : Int) (pre : List (Int × Vl)) : cntOut l k pre ≤ pre.length := List.length_filter_le _ _
end Go.Proofs.Grow
namespace Go.Proofs.Ytglgoegabihngaa
open Go.RowKit Go.Proofs.Grow

attribute [local go_sem] Oper.semAt_some

theorem keepsFrom_below {B : Nat} {W W' : World} (h : Below W.heap.size W W') : KeepsFrom B W W' := ⟨h.size, fun k o _ hk _ => (h.block k (Array.getElem?_eq_some_iff.1 hk).1).trans hk⟩
/-- What Outside's own cells hold, pre having come. -/
structure OI (w : World) (l : List Ce) (A : Option Addr) (c : Nat) (k : Int) (pre : List (Int × Vl)) (W : World) : Prop where
  num : W.cell? ⟨w.heap.size + 1 + 1, 0, none⟩ = some (.int .i64 (cntOut l k pre))
  fr : W.frozen? ⟨w.heap.size + 1 + 1, 0, none⟩ = false
  lb : W.cell? ⟨w.heap.size, 0, none⟩ = some (.slice A l.length c)
  kb : W.cell? ⟨w.heap.size + 1, 0, none⟩ = some (.int .i64 k)
  below : Below w.heap.size w W
theorem OI.next {w : World} {l : List Ce} {A : Option Addr} {c : Nat} {k : Int} {pre : List (Int × Vl)} {W W2 : World} (h : OI w l A c k pre W) (hb : Below W.heap.size W W2) : OI w l A c k pre W2 :=
  ⟨(hb.cell (p := ⟨w.heap.size + 1 + 1, 0, none⟩) (World.block_lt_of_cell? _ _ h.num)).trans h.num, (hb.frozen (p := ⟨w.heap.size + 1 + 1, 0, none⟩) (World.block_lt_of_cell? _ _ h.num)).trans h.fr,
    (hb.cell (p := ⟨w.heap.size, 0, none⟩) (World.block_lt_of_cell? _ _ h.lb)).trans h.lb, (hb.cell (p := ⟨w.heap.size + 1, 0, none⟩) (World.block_lt_of_cell? _ _ h.kb)).trans h.kb, h.below.trans (hb.mono h.below.size)⟩
theorem OI.set {w : World} {l : List Ce} {A : Option Addr} {c : Nat} {k : Int} {pre pre' : List (Int × Vl)} {W : World} (h : OI w l A c k pre W) {n : Int} (hn : n = cntOut l k pre') : OI w l A c k pre' (W.setCell ⟨w.heap.size + 1 + 1, 0, none⟩ (.int .i64 n)) := by
  subst hn
  refine ⟨World.cell?_setCell_same' _ _ _ (by rw [h.num]; rfl), by rw [World.frozen?_setCell]; exact h.fr, ?_, ?_, h.below.setCell (p := ⟨w.heap.size + 1 + 1, 0, none⟩) (by show w.heap.size ≤ w.heap.size + 1 + 1; omega) _⟩
  · exact (World.cell?_of_block (Below.heap_setCell W ⟨w.heap.size + 1 + 1, 0, none⟩ _ w.heap.size (by show w.heap.size ≠ w.heap.size + 1 + 1; omega))).trans h.lb
  · exact (World.cell?_of_block (Below.heap_setCell W ⟨w.heap.size + 1 + 1, 0, none⟩ _ (w.heap.size + 1) (by show w.heap.size + 1 ≠ w.heap.size + 1 + 1; omega))).trans h.kb
theorem OI.own {w : World} {l : List Ce} {A : Option Addr} {c : Nat} {k : Int} {B : Nat} (hB : w.heap.size ≤ B) : OwnFrom B (fun pre W => OI w l A c k pre W) := fun s X Y row hs hg hr =>
  ⟨cell_kept hs.num hg (fun r e => (hr r e).2), (frozen_kept hs.num hg (fun r e => (hr r e).2)).trans hs.fr, cell_kept hs.lb hg (fun r e => (hr r e).2), cell_kept hs.kb hg (fun r e => (hr r e).2),
    (ownFrom_below (β := Unit) (Nat.le_refl _) hB) () X Y row hs.below hg hr⟩

set_option maxHeartbeats 4000000 in
set_option maxRecDepth 100000 in
theorem outside_any (w : World) (A B : Option Addr) (c d : Nat) (l : List Ce) (f : List Fr) (k : Int) (hl : l.length ≤ 1000000000) (hf : f.length ≤ 1000000000)
    (hlf : ∀ c ∈ l, c.fields.length ≤ 1000000000) (hff : ∀ x ∈ f, x.vars.length ≤ 1000000000) (hN : (held l f).length ≤ 1000000000) (hs : Lies w 7 Ce.cells A l) (hsf : Lies w 6 Fr.cells B f) (hin : ∀ c ∈ l, CeIn w c) (hinf : ∀ x ∈ f, FrIn w x) :
    Gives Try.prog 27 #[.slice A l.length c, .slice B f.length d, .int .i64 k] w (.int .i64 (cntOut l k (held l f))) := by
  refine Gives.mk ?_
  obtain ⟨W5, hW5⟩ : ∃ W5, W5 = ((((w.alloc (.cells #[.slice A l.length c] 22)).alloc (.cells #[.int .i64 k] 3)).alloc (.cells #[.int .i64 0] 3)).alloc (.cells #[.slice A l.length c] 22)).alloc (.cells #[.slice B f.length d] 39) := ⟨_, rfl⟩
  have hB0 : Below w.heap.size w W5 := by
    rw [hW5]
    repeat (first | exact Below.refl _ _ | exact Nat.le_refl _ | assumption | refine below_ext ?_ ?_ _ | refine Below.alloc ?_ ?_ _ | refine Below.drew ?_ | refine Below.setCell ?_ ?_ _ | refine Ext.le _ ?_ | refine le_alloc ?_ | refine le_drew ?_ | refine le_setCell ?_)
    all_goals omega
  have c0 : W5.cell? ⟨w.heap.size, 0, none⟩ = some (.slice A l.length c) := by rw [hW5]; simp [go_sem]
  have c1 : W5.cell? ⟨w.heap.size + 1, 0, none⟩ = some (.int .i64 k) := by rw [hW5]; simp [go_sem]
  have c2 : W5.cell? ⟨w.heap.size + 1 + 1, 0, none⟩ = some (.int .i64 0) := by rw [hW5]; simp [go_sem]
  have f2 : W5.frozen? ⟨w.heap.size + 1 + 1, 0, none⟩ = false := by rw [hW5]; simp [go_sem]
  have c3 : W5.cell? ⟨w.heap.size + 1 + 1 + 1, 0, none⟩ = some (.slice A l.length c) := by rw [hW5]; simp [go_sem]
  have c4 : W5.cell? ⟨w.heap.size + 1 + 1 + 1 + 1, 0, none⟩ = some (.slice B f.length d) := by rw [hW5]; simp [go_sem]
  have z5 : W5.heap.size = w.heap.size + 5 := by rw [hW5]; simp
  have hI0 : OI w l A c k [] W5 := ⟨c2, f2, c0, c1, hB0⟩
  have HS := hide hs
  have HW5 := hide hW5
  have hseq := held1_seq 8 (by omega) w W5 _ _ (w.heap.size + 1 + 1) A B c d l f hl hf hlf hff hs hsf hin hinf (KeepsBut.below (n := 0) hB0) (by omega) (by omega) (by omega) c3 c4 (by omega)
  have HSEQ := hide hseq
  clear hW5 hs hlf hff hsf hin hinf hseq c0 c1 c2 f2 c3 c4
  refine callsIn_wide (n := 9) |>.1 ?_
  refine callsIn_of_wp_marks Try.func27 rfl trivial ?_ rfl
  simp only [Try.ntmps27, List.size_toArray, List.length_cons, List.length_nil, Nat.reduceAdd, Nat.reduceSub, Array.replicate_succ, Array.replicate_zero, List.push_toArray, List.append_toArray, List.nil_append, List.cons_append]
  gi_wp2_with (refine ⟨trivial, ?_⟩; gi_at_call 34; refine (callsIn_wide.2 (heldSeq_any _ _ _ _ _ _ _)).mono ?_; rintro _ _ ⟨rfl, rfl⟩)
  rw [← HW5.out]
  clear HW5
  refine wpIn_rangeFunc_ownH rfl (by omega) (gf := 37) (lb := #[.pointer (some ⟨w.heap.size + 1 + 1 + 1, 0, none⟩), .pointer (some ⟨w.heap.size + 1 + 1 + 1 + 1, 0, none⟩)]) rfl trivial (enters_of Try.func37 (by kernel_rfl) rfl)
    HSEQ.out (fun h k => h.trans k) (fun W l' o o' _ hk hc _ => KeepsBut.putObj W l' o o' hk hc) (Below.refl _ _) (fun _ => rfl) (fun pre W => OI w l A c k pre W) (fun _ _ _ => False) (OI.own (by omega)) (fun _ _ _ _ _ hs _ _ => hs) hI0
    (fun x a' W => ∃ gb, W.cell? ⟨gb, 0, none⟩ = some (.bool x.2.ref) ∧ W.cell? ⟨gb, 1, none⟩ = some (.int .i64 x.2.n) ∧ a' = { tmps := #[.slice A l.length c, .slice B f.length d, .int .i64 k, .pointer (some ⟨w.heap.size, 0, none⟩), undef, .pointer (some ⟨w.heap.size + 1, 0, none⟩), .int .i64 0, .pointer (some ⟨w.heap.size + 1 + 1, 0, none⟩), .int .i64 x.1, .pointer (some ⟨gb, 0, none⟩), .slice A l.length c, .slice B f.length d, .func (.func 37) #[] #[.pointer (some ⟨w.heap.size + 1 + 1 + 1, 0, none⟩), .pointer (some ⟨w.heap.size + 1 + 1 + 1 + 1, 0, none⟩)], .int .i64 x.1, .agg #[.bool x.2.ref, .int .i64 x.2.n], undef, undef, undef, undef, undef, undef, undef, undef, undef, undef, undef, undef, undef, undef, undef, undef, undef, undef, undef, undef, undef, undef, undef, undef], defers := [] })
    ?hAx ?assign ?body ?done ?stop
  case hAx =>
    rintro x a' s X Y row ⟨gb, h1, h2, h3⟩ hg hr
    exact ⟨gb, cell_kept h1 hg (fun r e => (hr r e).2), cell_kept h2 hg (fun r e => (hr r e).2), h3⟩
  case assign =>
    rintro l' pre x W K hI hK
    unfold encH
    gi_wp2
    refine hK _ _ ((KeepsOthers.alloc W _).from _) (KeepsBut.alloc _ W _) (hI.next ((Below.refl _ _).alloc (Nat.le_refl _) _)) ⟨W.heap.size, ?_, ?_, rfl⟩
    · rw [World.cell?_alloc_at _ _ _ _ rfl]; rfl
    · rw [World.cell?_alloc_at _ _ _ _ rfl]; rfl
  case body =>
    rintro l' pre ⟨by_, ref, vn⟩ a' W hl' hr' hI ⟨gb, b0, b1, rfl⟩ hlen
    dsimp only at b0 b1 ⊢
    have hnum := hI.num
    have hfr := hI.fr
    have hlb := hI.lb
    have hkb := hI.kb
    have hcl := cntOut_le l k pre
    have hgl : gb < W.heap.size := World.block_lt_of_cell? _ _ b0
    have hn1 : w.heap.size < W.heap.size := World.block_lt_of_cell? _ _ hlb
    have hn2 : w.heap.size + 1 < W.heap.size := World.block_lt_of_cell? _ _ hkb
    have hn3 : w.heap.size + 1 + 1 < W.heap.size := World.block_lt_of_cell? _ _ hnum
    have HIn := hide (fun (y : Ext W) (a : Int) => inside_any y.val A c l a k (by omega) ((HS.out.below hI.below).ext y))
    have HOI := hide hI
    have HSN := hide (cntOut_snoc l k pre (by_, ⟨ref, vn⟩))
    have hcb : cntOut l k pre ≤ 1000000000 := by omega
    obtain ⟨cn, hcn⟩ : ∃ cn, cn = cntOut l k pre := ⟨_, rfl⟩
    rw [← hcn] at hnum hcb
    have HCN := hide hcn
    clear hI hcl hlen hr' hl' hcn
    have keep : Hid (isOut l k (by_, ⟨ref, vn⟩) = false → ∀ W' : World, Below W.heap.size W W' → KeepsFrom W5.heap.size W W' ∧ KeepsBut (w.heap.size + 1 + 1) W W' ∧ OI w l A c k (pre ++ [(by_, ⟨ref, vn⟩)]) W') := fun h W' hb => by
      refine ⟨keepsFrom_below hb, KeepsBut.below (n := 0) hb, ?_⟩
      have := HOI.out.next hb
      have e : cntOut l k (pre ++ [(by_, ⟨ref, vn⟩)]) = cntOut l k pre := by rw [HSN.out, h]; rfl
      exact ⟨by rw [e]; exact this.num, this.fr, this.lb, this.kb, this.below⟩
    cases ref
    · have HF := hide (keep.out (by simp [isOut]) W (Below.refl _ _))
      gi_wp2
      refine ⟨trivial, ?_⟩
      gi_wp2
      refine ⟨trivial, ?_⟩
      gi_wp2
      exact HF.out
    · by_cases hvn : vn = 0
      · have HF := hide (keep.out (by simp [isOut, hvn]) W (Below.refl _ _))
        subst hvn
        gi_wp2
        refine ⟨trivial, ?_⟩
        gi_wp2
        refine ⟨trivial, ?_⟩
        gi_wp2
        exact HF.out
      · have hvn' : (vn != 0) = true := bne_iff_ne.2 hvn
        obtain ⟨q1, hq1⟩ : ∃ q, inB l vn k = q := ⟨_, rfl⟩
        obtain ⟨q2, hq2⟩ : ∃ q, inB l by_ k = q := ⟨_, rfl⟩
        have H1 : Hid (∀ y : Ext W, Gives Try.prog 12 #[.slice A l.length c, .int .i64 vn, .int .i64 k] y.val (.bool q1)) := fun y => by have := HIn.out y vn; rwa [hq1] at this
        have H2 : Hid (∀ y : Ext W, Gives Try.prog 12 #[.slice A l.length c, .int .i64 by_, .int .i64 k] y.val (.bool q2)) := fun y => by have := HIn.out y by_; rwa [hq2] at this
        have HO : Hid (isOut l k (by_, ⟨true, vn⟩) = (q1 && !q2)) := by show _ = _; unfold isOut; dsimp only; rw [hvn', hq1, hq2]; cases q1 <;> rfl
        clear hvn hq1 hq2 HIn
        cases q1
        · gi_wp2_with (refine ⟨trivial, ?_⟩; gi_at_call 12; refine (CallsIn.inRound l' (callsIn_wide.2 ((H1.out (Ext.here W)).over (Ext.here W)))).mono ?_; rintro _ _ ⟨y1, hy1, rfl, rfl⟩)
          refine ⟨trivial, ?_⟩
          gi_wp2
          exact keep.out HO.out y1.val y1.below
        · cases q2
          · have HC2 : Hid (cntOut l k (pre ++ [(by_, ⟨true, vn⟩)]) = cn + 1) := by show _ = _; rw [HSN.out, HO.out, HCN.out]; rfl
            gi_wp2_with (first | (refine ⟨trivial, ?_⟩; gi_at_call 12; (with_reducible refine (CallsIn.inRound l' (callsIn_wide.2 ((H2.out y1).over y1))).mono ?_); rintro _ _ ⟨y2, hy2, rfl, rfl⟩) | (refine ⟨trivial, ?_⟩; gi_at_call 12; refine (CallsIn.inRound l' (callsIn_wide.2 ((H1.out (Ext.here W)).over (Ext.here W)))).mono ?_; rintro _ _ ⟨y1, hy1, rfl, rfl⟩))
            refine ⟨(keepsFrom_below y2.below).trans ((KeepsOthers.setCell _ _ _).from _), (KeepsBut.below (n := 0) y2.below).trans (KeepsBut.setCell _ _ _ _), (HOI.out.next y2.below).set ?_⟩
            rw [HC2.out]; simp
          · gi_wp2_with (first | (refine ⟨trivial, ?_⟩; gi_at_call 12; (with_reducible refine (CallsIn.inRound l' (callsIn_wide.2 ((H2.out y1).over y1))).mono ?_); rintro _ _ ⟨y2, hy2, rfl, rfl⟩) | (refine ⟨trivial, ?_⟩; gi_at_call 12; refine (CallsIn.inRound l' (callsIn_wide.2 ((H1.out (Ext.here W)).over (Ext.here W)))).mono ?_; rintro _ _ ⟨y1, hy1, rfl, rfl⟩))
            exact keep.out HO.out y2.val y2.below
  case done =>
    rintro D xs W hD rfl hI hK
    have hnum := hI.num
    have HOI := hide hI
    have hn3 : w.heap.size + 1 + 1 < W.heap.size := World.block_lt_of_cell? _ _ hnum
    clear hI
    gi_wp2
    refine ⟨by simp, .inl ⟨_, _, rfl, run_takeDeferred hK, ?_⟩⟩
    exact ⟨_, results_tmp rfl _ _ _, rfl, HOI.out.below.trans (belowK_b (w := w) (Nat.le_refl _) W D _ _ (by omega) hK rfl rfl)⟩
  case stop =>
    rintro D c pre W _ _ h _
    exact h.elim
end Go.Proofs.Ytglgoegabihngaa
