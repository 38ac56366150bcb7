/- The walk of demesneref12.vars: variables with other types. -/
import Derived.Test.YtmpdmelkbemabaaGreatFit
import Derived.Test.YtmpdmelkbemabaaGreatRtL5
import Derived.Test.YtmpdmelkbemabaaGreatTwoG
import Derived.BigGuardPart
import Derived.Deep.DeepCutAuto
set_option linter.unusedSimpArgs false
set_option linter.unusedVariables false
namespace Go.Proofs.Grow
open Go.RowKit
theorem setVs_append : ∀ (p q : List Va) (L : List Ty), setVs (p ++ q) L = setVs p L ++ setVs q (L.drop p.length)
  | [], q, L => by simp [setVs]
  | v :: p, q, L => by rw [List.cons_append, setVs, setVs, setVs_append p q, List.drop_drop, List.length_cons, List.cons_append, Nat.add_comm 1]
theorem setVs_take (l : List Va) (L : List Ty) (k : Nat) (h : k < l.length) (hL : k < L.length) : setVs (l.take (k + 1)) L = setVs (l.take k) L ++ [{ l[k] with ty := L[k] }] := by
  rw [List.take_succ_eq_append_getElem h, setVs_append, List.length_take, Nat.min_eq_left (Nat.le_of_lt h), setVs, setVs]
  congr 2
  rw [List.drop_eq_getElem_cons hL]
  rfl
/-- X is as w0 was in what was there, and as x in the blocks of P. -/
structure Keep (w0 : World) (P : Nat → Prop) (x X : World) : Prop where
  base : Below w0.heap.size w0 X
  same : ∀ j, P j → j < x.heap.size → X.heap[j]? = x.heap[j]?
theorem Keep.narrow {w0 x x' X : World} {P P' : Nat → Prop} (h : Keep w0 P x X) (hs : x'.heap.size ≤ x.heap.size) (he : ∀ j, P' j → j < x'.heap.size → P j ∧ x.heap[j]? = x'.heap[j]?) : Keep w0 P' x' X :=
  ⟨h.base, fun j h1 h2 => (h.same j (he j h1 h2).1 (by omega)).trans (he j h1 h2).2⟩
theorem Own.keepK {α : Type} {enc : α → List Value} {w0 x X : World} {a size n c : Nat} {e : TypeId} {A : Option Addr} {l : List α} (h : Own x a e size enc (.slice A n c) l) (henc : ∀ a, (enc a).length = size) (hK : Keep w0 (fun j => a ≤ j) x X) : Lies X size enc A l :=
  Own.lies_ (Own.keep (B := X) h fun g hg => hK.same g (h.from_ g hg).1 (h.from_ g hg).2) henc
/-- What one that sets types gives: whether they fit (b), the list D that it made (at A), the types R that are left (at AL). -/
structure GotIn {α : Type} (size : Nat) (enc : α → List Value) (fit : Prop) (good : List α → World → Prop) (n : Nat) (L : List Ty) (b : Bool) (A : Option Addr) (D : List α) (c : Nat) (AL : Option Addr) (R : List Ty) (cL : Nat) (w0 : World) (a : Nat) (W : World) : Prop where
  fit : b = true ↔ fit
  good : b = true → ∀ X, Keep w0 (fun j => a ≤ j) W X → good D X
  rest : b = true → R = L.drop n
  len : D.length ≤ c
  cap : c ≤ maxLen
  lies : ∀ X, Keep w0 (fun j => a ≤ j) W X → Lies X size enc A D
  rlen : R.length ≤ cL
  rle : R.length ≤ L.length
  rlies : Lies w0 11 Ty.cells AL R
  sub : ∀ u ∈ R, u ∈ L
theorem GotIn.no {α : Type} {size : Nat} {enc : α → List Value} {fit : Prop} {good : List α → World → Prop} {n : Nat} {L : List Ty} {w0 W : World} {a : Nat} (h : ¬ fit) : GotIn size enc fit good n L false none [] 0 none [] 0 w0 a W :=
  ⟨⟨fun e => (by cases e), fun e => absurd e h⟩, fun e => (by cases e), fun e => (by cases e), Nat.le_refl _, Nat.zero_le _, fun _ _ => Lies.nil, Nat.le_refl _, Nat.zero_le _, Lies.nil, fun u hu => (by cases hu)⟩
/-- A variable's box, its type laid anew. -/
theorem va_typed {W : World} {g : Nat} {t : TypeId} (v : Va) (ty : Ty) (h : W.heap[g]? = some (.cells v.cells.toArray t (0, 0))) : (W.setCells g 1 ty.cells).heap[g]? = some (.cells ({ v with ty := ty } : Va).cells.toArray t (0, 0)) := by
  obtain ⟨cur', h1, h2⟩ := setCells_row g t ty.cells 1 W _ h (by rw [Ty.cells_len]; simp [Va.cells_len])
  have e : cur' = ({ v with ty := ty } : Va).cells.toArray := by
    apply Array.toList_inj.1
    rw [h2, Ty.cells_len]
    rfl
  rw [e] at h1
  exact h1
def noGot : List Value := [.slice none 0 0, .slice none 0 0, .slice none 0 0, .bool false]
end Go.Proofs.Grow
namespace Go.Proofs.YtmpdmelkbemabaaGreat
open Go.RowKit Go.Proofs.Grow

/-- What demesneref12.vars gives. -/
def VsRes (l : List Va) (L : List Ty) (w0 w : World) (e : Ending) (w' : World) : Prop :=
  ∃ (x : Ext w) (b : Bool) (A : Option Addr) (D : List Va) (c : Nat) (AL : Option Addr) (R : List Ty) (cL : Nat), w' = x.val ∧ e = .returned (.agg #[.slice none 0 0, .slice A D.length c, .slice AL R.length cL, .bool b]) ∧
    GotIn 13 Va.cells (l.length ≤ L.length) (fun D _ => D = setVs l L) l.length L b A D c AL R cL w0 w.heap.size x.val

set_option maxHeartbeats 4000000 in
set_option maxRecDepth 100000 in
theorem vs_any (w0 w : World) (h0 : Below w0.heap.size w0 w) (A : Option Addr) (c : Nat) (l : List Va) (AL : Option Addr) (cL : Nat) (L : List Ty) (hl : Lies w0 13 Va.cells A l) (hN : l.length ≤ 1048576) (hL : Lies w0 11 Ty.cells AL L) (hLc : L.length ≤ cL) (hLn : L.length ≤ 1000000000) :
    Calls Tryz.prog 18 #[.slice A l.length c, .slice AL L.length cL] w (VsRes l L w0 w) := by
  obtain ⟨i0, z0, hi0, hz0, hz1, hz2, hzs⟩ := info_row infoVa
  have HT0 := hide hL
  have HL := hide (hl.below h0)
  have HT := hide (hL.below h0)
  clear hl hL h0
  go_enter Tryz.func18, Tryz.ntmps18
  go_wp2_with fail
  obtain ⟨w1, hw1⟩ : ∃ w1, w1 = w.alloc (.cells noGot.toArray 73) := ⟨_, rfl⟩
  have hsz1 : w1.heap.size = w.heap.size + 1 := by rw [hw1]; simp
  have hba : Hid (w1.heap[w.heap.size]? = some (.cells noGot.toArray 73 (0, 0))) := by rw [hw1]; exact heap_alloc_new w _
  have hB1 : Hid (Below w.heap.size w w1) := by show Below _ _ _; rw [hw1]; exact (Below.refl _ _).alloc (Nat.le_refl _) _
  change Code.wp _ _ _ _ (w.alloc (.cells noGot.toArray 73))
  rw [← hw1]
  clear hw1
  go_loopw [5, 6] (fun v i wr => ∃ k : Nat, i = .int .i64 k ∧ k ≤ l.length ∧ k ≤ L.length ∧ ∃ x : Ext w1, wr = x.val ∧ Hid (Grow.Own x.val w1.heap.size 78 13 Va.cells v (setVs (l.take k) L))) (fun _ i _ => l.length - (intOf i).toNat)
  case atStart => exact ⟨0, rfl, Nat.zero_le _, Nat.zero_le _, Ext.here w1, rfl, (show Grow.Own _ _ _ _ _ _ _ by simpa [setVs] using Own.nil)⟩
  case round =>
    obtain ⟨k, rfl, hk, hk2, x, rfl, hown⟩ := hrel
    have hrx : Hid (x.val.heap[w.heap.size]? = some (.cells noGot.toArray 73 (0, 0))) := (x.below.block _ (by omega)).trans hba.out
    have hBx0 : Hid (Below w.heap.size w x.val) := hB1.out.trans (x.below.mono (by omega))
    have hxs : w1.heap.size ≤ x.val.heap.size := x.below.size
    by_cases hlt : k < l.length
    · have hlt' : (k : Int) < (l.length : Int) := by omega
      by_cases hL1 : k < L.length
      · have hL1' : ¬ (L.length : Int) ≤ (k : Int) := by omega
        obtain ⟨b, off, hA, hb, hcell⟩ := HL.out k hlt
        obtain ⟨b2, off2, hA2, hb2, hcell2⟩ := HT.out k hL1
        have HTk := hide (setVs_take l L k hlt hL1)
        obtain ⟨v, hv⟩ : ∃ v, v = l[k] := ⟨_, rfl⟩
        obtain ⟨t, ht⟩ : ∃ t, t = L[k] := ⟨_, rfl⟩
        obtain ⟨T, hT⟩ : ∃ T, T = setVs (l.take k) L := ⟨_, rfl⟩
        rw [← hv] at hcell HTk
        rw [← ht] at hcell2 HTk
        rw [← hT] at hown HTk
        have HLen : Hid (T.length ≤ 1048576) := by show _ ≤ _; rw [hT, setVs_len]; exact Nat.le_trans (List.length_take_le _ _) (by omega)
        have hrg : Hid (x.val.rangeAt b (off + k * 13) v.cells) := fun j u h => (World.cell?_of_block (hBx0.out.block _ hb)).trans (hcell j u h)
        have HKW : Hid (wrap64 ((k : Int) + 1) = ((k + 1 : Nat) : Int)) := by
          show wrap64 _ = _
          unfold wrap64
          omega
        have hlt9 := hide hlt
        have hL9 := hide hL1
        have hB2 := hide (fun (X : World) (h : Below w.heap.size w X) (j : Nat) (u : Value) (hu : t.cells[j]? = some u) => (World.cell?_of_block (h.block _ hb2)).trans (hcell2 j u hu))
        have HXS := hide hxs
        have hb1 : b < w1.heap.size := by omega
        have hb3 : b2 < w1.heap.size := by omega
        subst hA
        subst hA2
        clear hcell hcell2 hv ht hT hlt hL1 hxs
        go_upto_region 8 with (first | (refine wpList_load_mid rfl 78 (.tmp 21) rfl b (off + k * 13) rfl v.cells _ hrg.out Tryz.underlying78 rfl (by rw [Va.cells_len]; kernel_rfl) ?_) | (refine wpList_store_new rfl 78 (.tmp 7) (.tmp 22) rfl _ _ _ _ rfl rfl rfl (by rw [List.size_toArray, Va.cells_len]; kernel_rfl) (by simp [Va.cells_len]) (fun u hu => Va.cells_one v u (by simpa using hu)) ?_))
        obtain ⟨Bx, hBx⟩ : ∃ B, B = x.val.heap.size := ⟨_, rfl⟩
        obtain ⟨W5, hW5⟩ : ∃ W, W = x.val.alloc (.cells v.cells.toArray 78) := ⟨_, rfl⟩
        obtain ⟨Z, hZ⟩ : ∃ Z, Z = W5.setCells Bx 1 t.cells.toArray.toList := ⟨_, rfl⟩
        have hr5 : W5.heap[Bx]? = some (.cells v.cells.toArray 78 (0, 0)) := by rw [hW5, hBx]; exact heap_alloc_new _ _
        have hth : Hid (W5.there Bx 1 t.cells.toArray.size) := there_of_row hr5 1 _ (by rw [List.size_toArray, Ty.cells_len, List.size_toArray, Va.cells_len]; decide)
        obtain ⟨v2, hv2⟩ : ∃ v2, v2 = ({ v with ty := t } : Va) := ⟨_, rfl⟩
        rw [← hv2] at HTk
        have hrZ : Hid (Z.heap[Bx]? = some (.cells v2.cells.toArray 78 (0, 0))) := by show _ = _; rw [hZ, hv2]; exact va_typed v t hr5
        have hBx1 : w1.heap.size ≤ Bx := by rw [hBx]; exact HXS.out
        have hb5 : Below w1.heap.size w1 W5 := by rw [hW5]; exact x.below.alloc HXS.out _
        have hr5b : Hid (W5.rangeAt b2 (off2 + k * 11) t.cells) := hB2 _ (hB1.out.trans (hb5.mono (by omega)))
        have hbZ : Hid (Below w1.heap.size w1 Z) := by show Below _ _ _; rw [hZ]; exact hb5.trans (setCells_below hBx1 _ _ _)
        have hoZ : Hid (Grow.Own Z w1.heap.size 78 13 Va.cells u5 T) := by
          refine Own.keep (A := x.val) hown.out fun g hg => ?_
          have hg2 := (hown.out.from_ g hg).2
          rw [hZ, setCells_other _ _ _ _ _ (by omega), hW5]
          exact Below.heap_alloc _ _ _ hg2
        rw [← hW5, ← hBx]
        have hZ9 := hide hZ
        clear hW5 hZ hBx hr5 hb5 hBx1 hown hrg hB2 hv2
        go_upto_region 9 with (first | (refine wpList_load_mid rfl 40 (.tmp 25) rfl b2 (off2 + k * 11) rfl t.cells _ hr5b.out Tryz.underlying40 rfl (by rw [Ty.cells_len]; kernel_rfl) ?_) | (refine wpList_store_mid rfl 40 (.tmp 27) (.tmp 26) rfl Bx 1 t.cells.toArray rfl rfl hth.out (by rw [List.size_toArray, Ty.cells_len]; kernel_rfl) (all_oneCell_toArray (Ty.cells_one t)) ?_; rw [← hZ9.out]))
        clear hth hr5b hZ9 W5
        have hs1 : Hid (T.length + [v2].length ≤ maxLen ∧ (T.length + [v2].length) * 120 ≤ 140737488355328) := by
          have := HLen.out
          show _ ∧ _
          simp only [List.length_cons, List.length_nil]
          unfold maxLen
          omega
        go_upto_region 4 with (first | (refine wpList_load_row rfl 78 (.tmp 7) rfl Bx rfl 78 v2.cells.toArray (0, 0) _ hrZ.out Tryz.underlying78 rfl (by rw [List.size_toArray, Va.cells_len]; kernel_rfl) ?_) | (refine wpList_lit_one rfl 32 78 (.tmp 29) rfl v2.cells.toArray rfl i0 z0 13 Tryz.underlying32 hi0 hz0 hz1 (by rw [List.size_toArray, Va.cells_len]) (by decide) (by decide) ?_) | (at_builtin; refine wpList_append_list (w1 := w1) _ rfl (.tmp 28) (.tmp 30) 32 rfl 78 i0 z0 13 120 Tryz.underlying32 hi0 hz0 hz1 hz2 hzs (by decide) Va.cells_len Va.cells_one (hbZ.out.alloc hbZ.out.size _) _ T rfl (hoZ.out.alloc _) _ 1 1 [v2] rfl rfl (Lies.one _ _ _ rfl) hs1.out.1 hs1.out.2 ?_; intro v' y hown' hgr hat))
        have HO : Hid (Grow.Own y.val w1.heap.size 78 13 Va.cells v' (setVs (l.take (k + 1)) L)) := by show Grow.Own _ _ _ _ _ _ _; rw [HTk.out]; exact hown'
        clear hown' hgr hat hoZ hbZ hrZ
        go_wp2_with fail
        go_roundw
        case rel => exact ⟨k + 1, by first | rw [HKW.out] | rfl, Nat.succ_le_of_lt hlt9.out, Nat.succ_le_of_lt hL9.out, y, rfl, HO⟩
        case measure =>
          first
            | (rw [HKW.out, intOf_int, intOf_int, Int.toNat_natCast, Int.toNat_natCast]; exact step_lt hlt9.out)
            | (rw [intOf_int, intOf_int]; have := hlt9.out; omega)
      · have hge : (L.length : Int) ≤ (k : Int) := by omega
        have HNO : Hid (¬ l.length ≤ L.length) := by show ¬ _; omega
        have hth : Hid (x.val.there w.heap.size 0 4) := there_of_row hrx.out 0 _ (by decide)
        clear hL1 hown
        go_wp2_with (refine wpList_store_mid rfl 73 (.tmp 4) (.tmp 18) rfl w.heap.size 0 noGot.toArray rfl rfl hth.out (by kernel_rfl) (by kernel_rfl) ?_)
        have hrow := row_filled noGot hrx.out rfl
        refine bodyPost_ret (v := .agg noGot.toArray) (results_cell_row (p := 4) (ty := 73) Tryz.results18 _ _ w.heap.size 73 _ (0, 0) _ rfl hrow Tryz.underlying73 rfl (by kernel_rfl)) rfl ?_
        obtain ⟨z, hz⟩ := Ext.of (hBx0.out.trans (setCells_below (Nat.le_refl w.heap.size) noGot 0 x.val))
        unfold VsRes
        exact ⟨z, false, none, [], 0, none, [], 0, hz, rfl, GotIn.no HNO.out⟩
    · obtain rfl : k = l.length := Nat.le_antisymm hk (Nat.le_of_not_lt hlt)
      have hlt' : ¬ (l.length : Int) < (l.length : Int) := by omega
      have HG : Hid (Grow.Own x.val w1.heap.size 78 13 Va.cells u5 (setVs l L)) := by have := hown.out; rwa [List.take_length] at this
      have hle : (l.length : Int) ≤ (L.length : Int) := by omega
      have hth : Hid (x.val.there w.heap.size 0 4) := there_of_row hrx.out 0 _ (by decide)
      obtain ⟨A', c', hu, g1, g2, g3⟩ := HG.out.lies Va.cells_len
      subst hu
      have hc := HT0.out.cut hk2 hLc
      clear hown
      by_cases hcl : cL = l.length
      · first | rw [if_pos hcl] at hc | rw [if_neg hcl] at hc
        have HC := hide hc
        have HO := HG
        clear hc g3 HG
        go_wp2_with (refine wpList_store_mid rfl 73 (.tmp 4) (.tmp 37) rfl w.heap.size 0 #[.slice none 0 0, .slice A' (setVs l L).length c', .slice (AL) (L.length - l.length) (0), .bool true] rfl rfl hth.out (by kernel_rfl) (by kernel_rfl) ?_)
        have hrow := row_filled [.slice none 0 0, .slice A' (setVs l L).length c', .slice (AL) (L.length - l.length) (0), .bool true] hrx.out rfl
        refine bodyPost_ret (v := .agg #[.slice none 0 0, .slice A' (setVs l L).length c', .slice (AL) (L.length - l.length) (0), .bool true]) (results_cell_row (p := 4) (ty := 73) Tryz.results18 _ _ w.heap.size 73 _ (0, 0) _ rfl hrow Tryz.underlying73 rfl (by kernel_rfl)) rfl ?_
        obtain ⟨z, hz⟩ := Ext.of (hBx0.out.trans (setCells_below (Nat.le_refl w.heap.size) [.slice none 0 0, .slice A' (setVs l L).length c', .slice (AL) (L.length - l.length) (0), .bool true] 0 x.val))
        unfold VsRes
        refine ⟨z, true, A', setVs l L, c', (AL), L.drop l.length, (0), hz, by rw [List.length_drop], ⟨by simp [hk2], fun _ _ _ => rfl, fun _ => rfl, g1, g2, fun X hK => ?_, by rw [List.length_drop]; omega, by rw [List.length_drop]; omega, HC.out, fun u hu => List.mem_of_mem_drop hu⟩⟩
        refine HO.out.keepK Va.cells_len (hK.narrow ?_ fun j h1 h2 => ⟨by omega, ?_⟩)
        · rw [← hz, setCells_size]; exact Nat.le_refl _
        · rw [← hz]; exact setCells_other _ _ _ _ _ (by omega)
      · first | rw [if_pos hcl] at hc | rw [if_neg hcl] at hc
        have HC := hide hc
        have HO := HG
        clear hc g3 HG
        go_wp2_with (refine wpList_store_mid rfl 73 (.tmp 4) (.tmp 37) rfl w.heap.size 0 #[.slice none 0 0, .slice A' (setVs l L).length c', .slice ((AL.map fun a => a.add (l.length * 11))) (L.length - l.length) (cL - l.length), .bool true] rfl rfl hth.out (by kernel_rfl) (by kernel_rfl) ?_)
        have hrow := row_filled [.slice none 0 0, .slice A' (setVs l L).length c', .slice ((AL.map fun a => a.add (l.length * 11))) (L.length - l.length) (cL - l.length), .bool true] hrx.out rfl
        refine bodyPost_ret (v := .agg #[.slice none 0 0, .slice A' (setVs l L).length c', .slice ((AL.map fun a => a.add (l.length * 11))) (L.length - l.length) (cL - l.length), .bool true]) (results_cell_row (p := 4) (ty := 73) Tryz.results18 _ _ w.heap.size 73 _ (0, 0) _ rfl hrow Tryz.underlying73 rfl (by kernel_rfl)) rfl ?_
        obtain ⟨z, hz⟩ := Ext.of (hBx0.out.trans (setCells_below (Nat.le_refl w.heap.size) [.slice none 0 0, .slice A' (setVs l L).length c', .slice ((AL.map fun a => a.add (l.length * 11))) (L.length - l.length) (cL - l.length), .bool true] 0 x.val))
        unfold VsRes
        refine ⟨z, true, A', setVs l L, c', ((AL.map fun a => a.add (l.length * 11))), L.drop l.length, (cL - l.length), hz, by rw [List.length_drop], ⟨by simp [hk2], fun _ _ _ => rfl, fun _ => rfl, g1, g2, fun X hK => ?_, by rw [List.length_drop]; omega, by rw [List.length_drop]; omega, HC.out, fun u hu => List.mem_of_mem_drop hu⟩⟩
        refine HO.out.keepK Va.cells_len (hK.narrow ?_ fun j h1 h2 => ⟨by omega, ?_⟩)
        · rw [← hz, setCells_size]; exact Nat.le_refl _
        · rw [← hz]; exact setCells_other _ _ _ _ _ (by omega)
end Go.Proofs.YtmpdmelkbemabaaGreat
