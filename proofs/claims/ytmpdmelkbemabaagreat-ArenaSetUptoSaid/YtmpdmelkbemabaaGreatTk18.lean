/- A member, read: a field. -/
import Derived.Test.YtmpdmelkbemabaaGreatTk20
set_option linter.unusedSimpArgs false
set_option linter.unusedVariables false
namespace Go.Proofs.YtmpdmelkbemabaaGreat
open Go.RowKit Go.Proofs.Grow

set_option maxHeartbeats 40000000 in
set_option maxRecDepth 100000 in
theorem member_field (w : World) (T : Value) (cn nm x0 : ByteArray) (cp k0 tp np : Int)
    (ht0 : ∀ W, Below w.heap.size w W → Gives Tryz.prog 23 #[T, .int .i64 3] W (.agg #[.int .i64 k0, .string x0, .int .i64 tp]))
    (hpu : ∀ W, Below w.heap.size w W → Gives Tryz.prog 24 #[T, .int .i64 3, .string ⟨#[112, 117, 114, 101]⟩] W (.bool false))
    (hpa : ∀ W, Below w.heap.size w W → Gives Tryz.prog 56 #[T, .int .i64 3, .slice none 0 0, .bool true] W (.agg (g7C tyInt va0 4).toArray))
    (ht1 : ∀ W, Below w.heap.size w W → Gives Tryz.prog 23 #[T, .int .i64 4] W (.agg #[.int .i64 1, .string nm, .int .i64 np]))
    (hop : ∀ W, Below w.heap.size w W → Gives Tryz.prog 24 #[T, .int .i64 5, .string ⟨#[40]⟩] W (.bool false))
    (hse : ∀ W, Below w.heap.size w W → Gives Tryz.prog 24 #[T, .int .i64 5, .string ⟨#[59]⟩] W (.bool true)) :
    Calls Tryz.prog 43 #[T, .int .i64 3, .agg (exCl cn none 0 [] none 0 [] cp).cells.toArray, .int .i64 0] w fun e w' => ∃ (y : Ext w) (fA : Option Addr) (fc : Nat), e = .returned (.agg (g9C (exCl cn fA fc [⟨nm, tyInt, tp⟩] none 0 [] cp) me0 none 0 0 6).toArray) ∧ w' = y.val ∧ 1 ≤ fc ∧ fc ≤ maxLen ∧ Lies y.val 13 Va.cells fA [⟨nm, tyInt, tp⟩] ∧ ∀ a, fA = some a → w.heap.size < a.block := by
  obtain ⟨i0, z0, hi0, hz0, hz1, hz2, hzs⟩ := info_row infoVaK
  have HT0 := hide ht0
  have HPu := hide hpu
  have HPa := hide hpa
  have HT1 := hide ht1
  have HOp := hide hop
  have HSe := hide hse
  unfold Gives at HT0 HPu HPa HT1 HOp HSe
  clear ht0 hpu hpa ht1 hop hse
  have q2 := fld_tk k0 tp x0
  obtain ⟨c0, hc0⟩ : ∃ c, c = (exCl cn none 0 [] none 0 [] cp) := ⟨_, rfl⟩
  have hC0 : Hid (c0 = (exCl cn none 0 [] none 0 [] cp)) := hc0
  rw [← hc0]
  clear hc0
  go_enter Tryz.func43, Tryz.ntmps43
  go_upto_region 1 with fail
  change Code.wp _ _ _ _ ((w.alloc (.cells c0.cells.toArray 35)).alloc (.cells (g9C cl0 me0 none 0 0 0).toArray 88))
  obtain ⟨W1, hW1⟩ : ∃ W1, W1 = (w.alloc (.cells c0.cells.toArray 35)).alloc (.cells (g9C cl0 me0 none 0 0 0).toArray 88) := ⟨_, rfl⟩
  have hB : Hid (Below w.heap.size w W1) := by show Below _ _ _; rw [hW1]; exact ((Below.refl _ _).alloc (Nat.le_refl _) _).alloc (by simp) _
  have hr6 : Hid (W1.heap[w.heap.size]? = some (.cells c0.cells.toArray 35 (0, 0))) := by show _ = _; rw [hW1]; exact (Below.heap_alloc _ _ _ (by simp)).trans (heap_alloc_new w _)
  have hr8 : Hid (W1.heap[w.heap.size + 1]? = some (.cells (g9C cl0 me0 none 0 0 0).toArray 88 (0, 0))) := by
    show _ = _
    rw [hW1]
    have := heap_alloc_new (w.alloc (.cells c0.cells.toArray 35)) (.cells (g9C cl0 me0 none 0 0 0).toArray 88)
    simpa using this
  rw [← hW1]
  clear hW1
  go_upto_region 3 with (first | (go_at_call 23; ((with_reducible refine (HT0.out _ hB.out).mono ?_); rintro _ _ ⟨y, rfl, rfl⟩; have hBy := hide (hB.out.trans (y.below.mono hB.out.size)))) | (go_at_call 24; ((with_reducible refine (HPu.out _ hBy.out).mono ?_); rintro _ _ ⟨z, rfl, rfl⟩)) | (refine wpList_buildV rfl 43 [(6, .tmp 18), (1, .tmp 21)] rfl [(6, .int .i64 tp), (1, .bool false)] (by kernel_rfl) _ (built_me9 _) ?_) | (refine wpList_store_new rfl 43 (.tmp 10) (.tmp 22) rfl _ _ (exMe ⟨#[]⟩ ty0 tp none 0 [] none 0 []).cells.toArray _ rfl rfl rfl (by kernel_rfl) rfl (fun u hu => Me.cells_one _ u (by simpa using hu)) ?_))
  obtain ⟨g10, hg10⟩ : ∃ g, g = z.val.heap.size := ⟨_, rfl⟩
  obtain ⟨W2, hW2⟩ : ∃ W, W = z.val.alloc (.cells (exMe ⟨#[]⟩ ty0 tp none 0 [] none 0 []).cells.toArray 43) := ⟨_, rfl⟩
  have hBx := hBy.out.trans (z.below.mono hBy.out.size)
  have hB2 : Hid (Below w.heap.size w W2) := by show Below _ _ _; rw [hW2]; exact hBx.alloc hBx.size _
  have hr6b : Hid (W2.heap[w.heap.size]? = some (.cells c0.cells.toArray 35 (0, 0))) := by show _ = _; rw [hW2]; exact (Below.heap_alloc _ _ _ (row_lt (row_up z (row_up y hr6.out)))).trans (row_up z (row_up y hr6.out))
  have hr8b : Hid (W2.heap[w.heap.size + 1]? = some (.cells (g9C cl0 me0 none 0 0 0).toArray 88 (0, 0))) := by show _ = _; rw [hW2]; exact (Below.heap_alloc _ _ _ (row_lt (row_up z (row_up y hr8.out)))).trans (row_up z (row_up y hr8.out))
  have hr10 : Hid (W2.heap[g10]? = some (.cells (exMe ⟨#[]⟩ ty0 tp none 0 [] none 0 []).cells.toArray 43 (0, 0))) := by show _ = _; rw [hW2, hg10]; exact heap_alloc_new _ _
  have hg10w : w.heap.size + 1 < g10 := by rw [hg10]; exact row_lt (row_up z (row_up y hr8.out))
  rw [← hW2, ← hg10]
  clear hW2 hg10 hBx hB hr6 hr8 HT0 HPu q2 hBy z y
  have d1 : W2.cell? ⟨g10, 1, none⟩ = some (.bool false) := (row_cell hr10.out (j := 1) rfl).1
  have dp : W2.cell? ⟨w.heap.size, 1, none⟩ = some (.slice none 0 0) := (row_cell hr6b.out (j := 1) (by rw [hC0.out]; rfl)).1
  go_upto_region 6 with (first | (go_at_call 56; ((with_reducible refine (HPa.out _ hB2.out).mono ?_); rintro _ _ ⟨y, rfl, rfl⟩)) | (refine wpList_store_new rfl 120 (.tmp 11) (.tmp 31) rfl _ _ (g7C tyInt va0 4).toArray _ rfl rfl rfl (by kernel_rfl) rfl (fun u hu => g7C_one _ _ _ u (by simpa using hu)) ?_))
  obtain ⟨g11, hg11⟩ : ∃ g, g = y.val.heap.size := ⟨_, rfl⟩
  obtain ⟨W3, hW3⟩ : ∃ W, W = y.val.alloc (.cells (g7C tyInt va0 4).toArray 120) := ⟨_, rfl⟩
  have hBx := hB2.out.trans (y.below.mono hB2.out.size)
  have hB3 : Hid (Below w.heap.size w W3) := by show Below _ _ _; rw [hW3]; exact hBx.alloc hBx.size _
  have hr6c : Hid (W3.heap[w.heap.size]? = some (.cells c0.cells.toArray 35 (0, 0))) := by show _ = _; rw [hW3]; exact (Below.heap_alloc _ _ _ (row_lt (row_up y hr6b.out))).trans (row_up y hr6b.out)
  have hr8c : Hid (W3.heap[w.heap.size + 1]? = some (.cells (g9C cl0 me0 none 0 0 0).toArray 88 (0, 0))) := by show _ = _; rw [hW3]; exact (Below.heap_alloc _ _ _ (row_lt (row_up y hr8b.out))).trans (row_up y hr8b.out)
  have hr10c : Hid (W3.heap[g10]? = some (.cells (exMe ⟨#[]⟩ ty0 tp none 0 [] none 0 []).cells.toArray 43 (0, 0))) := by show _ = _; rw [hW3]; exact (Below.heap_alloc _ _ _ (row_lt (row_up y hr10.out))).trans (row_up y hr10.out)
  have hr11 : Hid (W3.heap[g11]? = some (.cells (g7C tyInt va0 4).toArray 120 (0, 0))) := by show _ = _; rw [hW3, hg11]; exact heap_alloc_new _ _
  have hg11w : g10 < g11 := by rw [hg11]; exact row_lt (row_up y hr10.out)
  rw [← hW3, ← hg11]
  clear hW3 hg11 hBx hB2 hr6b hr8b hr10 HPa d1 dp y
  have d26 : W3.cell? ⟨g11, 26, none⟩ = some (.int .i64 0) := (row_cell hr11.out (j := 26) rfl).1
  have d25 : W3.cell? ⟨g11, 25, none⟩ = some (.int .i64 4) := (row_cell hr11.out (j := 25) rfl).1
  go_upto_region 9 with (first | (go_at_call 23; ((with_reducible refine (HT1.out _ hB3.out).mono ?_); rintro _ _ ⟨y, rfl, rfl⟩)) | (refine wpList_store_new rfl 84 (.tmp 12) (.tmp 42) rfl _ _ #[.int .i64 1, .string nm, .int .i64 np] _ rfl rfl rfl (by kernel_rfl) rfl (by simp [Value.oneCell']) ?_))
  obtain ⟨g12, hg12⟩ : ∃ g, g = y.val.heap.size := ⟨_, rfl⟩
  obtain ⟨W4, hW4⟩ : ∃ W, W = y.val.alloc (.cells #[.int .i64 1, .string nm, .int .i64 np] 84) := ⟨_, rfl⟩
  have hBx := hB3.out.trans (y.below.mono hB3.out.size)
  have hB4 : Hid (Below w.heap.size w W4) := by show Below _ _ _; rw [hW4]; exact hBx.alloc hBx.size _
  have hr6d : Hid (W4.heap[w.heap.size]? = some (.cells c0.cells.toArray 35 (0, 0))) := by show _ = _; rw [hW4]; exact (Below.heap_alloc _ _ _ (row_lt (row_up y hr6c.out))).trans (row_up y hr6c.out)
  have hr8d : Hid (W4.heap[w.heap.size + 1]? = some (.cells (g9C cl0 me0 none 0 0 0).toArray 88 (0, 0))) := by show _ = _; rw [hW4]; exact (Below.heap_alloc _ _ _ (row_lt (row_up y hr8c.out))).trans (row_up y hr8c.out)
  have hr10d : Hid (W4.heap[g10]? = some (.cells (exMe ⟨#[]⟩ ty0 tp none 0 [] none 0 []).cells.toArray 43 (0, 0))) := by show _ = _; rw [hW4]; exact (Below.heap_alloc _ _ _ (row_lt (row_up y hr10c.out))).trans (row_up y hr10c.out)
  have hr11d : Hid (W4.heap[g11]? = some (.cells (g7C tyInt va0 4).toArray 120 (0, 0))) := by show _ = _; rw [hW4]; exact (Below.heap_alloc _ _ _ (row_lt (row_up y hr11.out))).trans (row_up y hr11.out)
  have hr12 : Hid (W4.heap[g12]? = some (.cells #[.int .i64 1, .string nm, .int .i64 np] 84 (0, 0))) := by show _ = _; rw [hW4, hg12]; exact heap_alloc_new _ _
  have hg12w : g11 < g12 := by rw [hg12]; exact row_lt (row_up y hr11.out)
  rw [← hW4, ← hg12]
  clear hW4 hg12 hBx hB3 hr6c hr8c hr10c hr11 HT1 d26 d25 y
  have d0 : W4.cell? ⟨g12, 0, none⟩ = some (.int .i64 1) := (row_cell (cs := [.int .i64 1, .string nm, .int .i64 np]) hr12.out (j := 0) rfl).1
  have hrt : Hid (W4.rangeAt g11 1 tyInt.cells) := fun j u hj => (row_cell hr11d.out (j := 1 + j) (g7_ty _ _ _ hj)).1
  have hth : Hid (W4.there g10 2 tyInt.cells.toArray.size) := fun j hj => by
    have hj : j < 11 := hj
    have hlt : 2 + j < (exMe ⟨#[]⟩ ty0 tp none 0 [] none 0 []).cells.toArray.size := by rw [List.size_toArray, Me.cells_len]; omega
    rw [cell_of_row W4 g10 _ _ _ _ hr10d.out]
    exact ⟨by rw [Array.getElem?_eq_getElem hlt]; rfl, by simp [World.frozen?, hr10d.out]⟩
  go_upto_region 12 with (first | (refine wpList_load_mid rfl 40 (.tmp 50) rfl g11 1 rfl tyInt.cells _ hrt.out Tryz.underlying40 rfl (by kernel_rfl) ?_) | (refine wpList_store_mid rfl 40 (.tmp 52) (.tmp 51) rfl g10 2 tyInt.cells.toArray rfl rfl hth.out (by kernel_rfl) (all_oneCell_toArray (tyc_one _)) ?_))
  have hB5 := hide (hB4.out.trans (setCells_below (show w.heap.size ≤ g10 by omega) tyInt.cells.toArray.toList 2 W4))
  have hr6e := hide ((setCells_other g10 tyInt.cells.toArray.toList 2 W4 w.heap.size (by omega)).trans hr6d.out)
  have hr8e := hide ((setCells_other g10 tyInt.cells.toArray.toList 2 W4 (w.heap.size + 1) (by omega)).trans hr8d.out)
  have hr10e := hide (me_typed tyInt hr10d.out)
  have hr11e := hide ((setCells_other g10 tyInt.cells.toArray.toList 2 W4 g11 (by omega)).trans hr11d.out)
  have hr12e := hide ((setCells_other g10 tyInt.cells.toArray.toList 2 W4 g12 (by omega)).trans hr12.out)
  generalize (W4.setCells g10 2 tyInt.cells.toArray.toList) = W5 at hB5 hr6e hr8e hr10e hr11e hr12e ⊢
  clear d0 hrt hth hB4 hr6d hr8d hr10d hr11d hr12
  have d1 : W5.cell? ⟨g12, 1, none⟩ = some (.string nm) := (row_cell (cs := [.int .i64 1, .string nm, .int .i64 np]) hr12e.out (j := 1) rfl).1
  obtain ⟨e0, f0⟩ := row_cell hr10e.out (j := 0) (u := .string ⟨#[]⟩) rfl
  go_upto_region 13 with fail
  have hB6 : Hid (Below w.heap.size w (W5.setCell ⟨g10, 0, none⟩ (.string nm))) := hB5.out.setCell (p := ⟨g10, 0, none⟩) (show w.heap.size ≤ g10 by omega) _
  have hr6f := hide ((Below.heap_setCell W5 ⟨g10, 0, none⟩ (.string nm) w.heap.size (show w.heap.size ≠ g10 by omega)).trans hr6e.out)
  have hr8f := hide ((Below.heap_setCell W5 ⟨g10, 0, none⟩ (.string nm) (w.heap.size + 1) (show w.heap.size + 1 ≠ g10 by omega)).trans hr8e.out)
  have hr11f := hide ((Below.heap_setCell W5 ⟨g10, 0, none⟩ (.string nm) g11 (show g11 ≠ g10 by omega)).trans hr11e.out)
  have hr10f : Hid ((W5.setCell ⟨g10, 0, none⟩ (.string nm)).heap[g10]? = some (.cells (exMe nm tyInt tp none 0 [] none 0 []).cells.toArray 43 (0, 0))) := by
    show _ = _
    rw [row_store hr10e.out 0 (.string nm)]
    rfl
  generalize (W5.setCell ⟨g10, 0, none⟩ (.string nm)) = W6 at hB6 hr6f hr8f hr10f hr11f ⊢
  clear d1 e0 f0 hB5 hr6e hr8e hr10e hr11e hr12e
  have d25 : W6.cell? ⟨g11, 25, none⟩ = some (.int .i64 4) := (row_cell hr11f.out (j := 25) rfl).1
  have A1 : Hid (∀ y : Ext W6, y.val.cell? ⟨g10, 1, none⟩ = some (.bool false) ∧ y.val.cell? ⟨g11, 1, none⟩ = some (.int .i64 1) ∧ y.val.cell? ⟨w.heap.size, 4, none⟩ = some (.slice none 0 0)) := fun y => ⟨(row_cell (row_up y hr10f.out) (j := 1) rfl).1, (row_cell (row_up y hr11f.out) (j := 1) rfl).1, (row_cell (row_up y hr6f.out) (j := 4) (by rw [hC0.out]; rfl)).1⟩
  go_upto_region 26 with (go_at_call 24; first | ((with_reducible refine (HOp.out _ hB6.out).mono ?_); rintro _ _ ⟨y, rfl, rfl⟩; have hBy := hide (hB6.out.trans (y.below.mono hB6.out.size))) | ((with_reducible refine (HSe.out _ hBy.out).mono ?_); rintro _ _ ⟨z, rfl, rfl⟩; obtain ⟨X, hX⟩ : ∃ X : Ext W6, z.val = X.val := ⟨y.step z.below, rfl⟩; have hBz := hide (hBy.out.trans (z.below.mono hBy.out.size)); rw [hX] at hBz ⊢; clear hX; obtain ⟨a1, a2, a3⟩ := A1.out X))
  have hr6g := hide (row_up X hr6f.out)
  have hr8g := hide (row_up X hr8f.out)
  have hr10g := hide (row_up X hr10f.out)
  generalize X.val = W7 at hBz hr6g hr8g hr10g a1 a2 a3 ⊢
  clear A1 d25 hB6 hr6f hr8f hr10f hr11f HOp HSe a1 a2 hBy X z y
  have n0 : W7.cell? ⟨g10, 0, none⟩ = some (.string nm) := (row_cell hr10g.out (j := 0) rfl).1
  have e2 : ∀ j u, tyInt.cells[j]? = some u → (exMe nm tyInt tp none 0 [] none 0 []).cells[2 + j]? = some u := fun j u h => by
    have e : (exMe nm tyInt tp none 0 [] none 0 []).cells = [.string nm, .bool false] ++ (tyInt.cells ++ [.slice none 0 0, .slice none 0 0, .slice none 0 0, .int .i64 tp]) := rfl
    rw [e, List.getElem?_append_right (by show 2 ≤ 2 + j; omega)]
    have e3 : 2 + j - [Value.string nm, .bool false].length = j := by show 2 + j - 2 = j; omega
    rw [e3, List.getElem?_append_left (List.getElem?_eq_some_iff.1 h).1]
    exact h
  have hrt : Hid (W7.rangeAt g10 2 tyInt.cells) := fun j u hj => (row_cell hr10g.out (j := 2 + j) (e2 j u hj)).1
  clear e2
  obtain ⟨va, hva⟩ : ∃ va, va = (⟨nm, tyInt, tp⟩ : Va) := ⟨_, rfl⟩
  have HBV : Hid (Tryz.prog.built 78 [(0, .string nm), (1, .agg tyInt.cells.toArray), (2, .int .i64 tp)] = some va.cells.toArray) := by show _ = _; rw [hva]; exact built_va9 _ _
  have hVA : Hid (va = (⟨nm, tyInt, tp⟩ : Va)) := hva
  clear hva
  have hown0 : Hid (Below W7.heap.size W7 (W7.alloc (.cells va.cells.toArray 78))) := (Below.refl _ _).alloc (Nat.le_refl _) _
  go_upto_region 27 with (first | (refine wpList_load_mid rfl 40 (.tmp 120) rfl g10 2 rfl tyInt.cells _ hrt.out Tryz.underlying40 rfl (by kernel_rfl) ?_) | (refine wpList_buildV rfl 78 [(0, .tmp 119), (1, .tmp 121), (2, .tmp 122)] rfl [(0, .string nm), (1, .agg tyInt.cells.toArray), (2, .int .i64 tp)] (by kernel_rfl) _ HBV.out ?_) | (refine wpList_lit_one rfl 32 78 (.tmp 123) rfl va.cells.toArray rfl i0 z0 13 Tryz.underlying32 hi0 hz0 hz1 (by rw [List.size_toArray, va_len]) (by decide) (by decide) ?_) | (at_builtin; refine wpList_append_list (w1 := W7) _ rfl (.tmp 117) (.tmp 124) 32 rfl 78 i0 z0 13 120 Tryz.underlying32 hi0 hz0 hz1 hz2 hzs (by decide) va_len va_one hown0.out (.slice none 0 0) [] rfl Own.nil _ 1 1 [va] rfl rfl (Lies.one W7 va _ rfl) (by simp [maxLen]) (by simp) ?_; intro v' y2 hown' hgr hat; obtain ⟨gb, cb, rfl, hgb⟩ : ∃ g cp, v' = .slice (some ⟨g, 0, none⟩) 1 cp ∧ W7.heap.size ≤ g := Own.some_pos hown' Nat.one_pos; have hr6h := hide (row_up y2 hr6g.out); obtain ⟨a4, f4⟩ := row_cell hr6h.out (j := 4) (u := .slice none 0 0) (by rw [hC0.out]; rfl); have hO := hide hown'; clear hown' hgr hat; simp only [Act.put, List.getElem_toArray, List.getElem_cons_succ, List.getElem_cons_zero, List.setIfInBounds_toArray, List.set_cons_zero, List.set_cons_succ]))
  obtain ⟨A', c', he, q1, q2, q3⟩ := hO.out.lies va_len
  cases he
  have L1 := hide q1
  have L2 := hide q2
  have hne6 : gb ≠ w.heap.size := by have := row_lt hr6g.out; omega
  have hne8 : gb ≠ w.heap.size + 1 := by have := row_lt hr8g.out; omega
  have hgw9 : w.heap.size < gb := by have := row_lt hr6g.out; omega
  have hLf : Hid (Lies (y2.val.setCell ⟨w.heap.size, 4, none⟩ (.slice (some ⟨gb, 0, none⟩) 1 cb)) 13 Va.cells (some ⟨gb, 0, none⟩) [va]) := q3.setCells (g := w.heap.size) (fun a e => by cases e; exact hne6) 4 [.slice (some ⟨gb, 0, none⟩) 1 cb]
  have hB9 : Hid (Below w.heap.size w (y2.val.setCell ⟨w.heap.size, 4, none⟩ (.slice (some ⟨gb, 0, none⟩) 1 cb))) := (hBz.out.trans (y2.below.mono hBz.out.size)).setCell (p := ⟨w.heap.size, 4, none⟩) (Nat.le_refl _) _
  have hr8i := hide ((Below.heap_setCell y2.val ⟨w.heap.size, 4, none⟩ (.slice (some ⟨gb, 0, none⟩) 1 cb) (w.heap.size + 1) (show w.heap.size + 1 ≠ w.heap.size by omega)).trans (row_up y2 hr8g.out))
  have hr6i : Hid ((y2.val.setCell ⟨w.heap.size, 4, none⟩ (.slice (some ⟨gb, 0, none⟩) 1 cb)).heap[w.heap.size]? = some (.cells (exCl cn (some ⟨gb, 0, none⟩) cb [va] none 0 [] cp).cells.toArray 35 (0, 0))) := by
    show _ = _
    rw [row_store hr6h.out 4 (.slice (some ⟨gb, 0, none⟩) 1 cb), hC0.out]
    rfl
  generalize (y2.val.setCell ⟨w.heap.size, 4, none⟩ (.slice (some ⟨gb, 0, none⟩) 1 cb)) = W8 at hLf hB9 hr8i hr6i ⊢
  clear q1 q2 q3 hO hr6h a4 f4 hown0 hrt n0 a3 hgb
  have hth := hide (row_there hr8i.out 29 (Nat.le_refl _))
  go_wp2_with (first | (refine wpList_load_row rfl 35 (.tmp 6) rfl w.heap.size rfl 35 (exCl cn (some ⟨gb, 0, none⟩) cb [va] none 0 [] cp).cells.toArray (0, 0) _ hr6i.out Tryz.underlying35 rfl (by rw [List.size_toArray, Cl.cells_len]; kernel_rfl) ?_) | (refine wpList_buildV rfl 88 [(0, .tmp 127), (4, .tmp 129)] rfl [(0, .agg (exCl cn (some ⟨gb, 0, none⟩) cb [va] none 0 [] cp).cells.toArray), (4, .int .i64 6)] (by kernel_rfl) _ (built_g9c _ _) ?_) | (refine wpList_store_mid rfl 88 (.tmp 8) (.tmp 130) rfl (w.heap.size + 1) 0 (g9C (exCl cn (some ⟨gb, 0, none⟩) cb [va] none 0 [] cp) me0 none 0 0 6).toArray rfl rfl hth.out (by kernel_rfl) (all_oneCell_toArray (g9C_one _ _ _ _ _ _)) ?_))
  have hrow := hide (row_fill (cs := (g9C (exCl cn (some ⟨gb, 0, none⟩) cb [va] none 0 [] cp) me0 none 0 0 6).toArray) hr8i.out rfl)
  refine bodyPost_ret (v := .agg (g9C (exCl cn (some ⟨gb, 0, none⟩) cb [va] none 0 [] cp) me0 none 0 0 6).toArray) (results_cell_row (p := 8) (ty := 88) Tryz.results43 _ _ (w.heap.size + 1) 88 _ (0, 0) _ rfl hrow.out Tryz.underlying88 rfl (by kernel_rfl)) rfl ?_
  obtain ⟨x', hx'⟩ := Ext.of (hB9.out.trans (setCells_below (Nat.le_succ _) (g9C (exCl cn (some ⟨gb, 0, none⟩) cb [va] none 0 [] cp) me0 none 0 0 6) 0 _))
  refine ⟨x', some ⟨gb, 0, none⟩, cb, by rw [hVA.out], hx', L1.out, L2.out, ?_, fun a e => by cases e; exact hgw9⟩
  rw [← hx', ← hVA.out]
  exact hLf.out.setCells (fun a e => by cases e; exact hne8) 0 _
end Go.Proofs.YtmpdmelkbemabaaGreat
