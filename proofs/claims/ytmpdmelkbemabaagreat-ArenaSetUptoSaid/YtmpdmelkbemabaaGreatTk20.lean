/- A class, read: its members by a contract. -/
import Derived.Test.YtmpdmelkbemabaaGreatTk13
set_option linter.unusedSimpArgs false
set_option linter.unusedVariables false
namespace Go.Proofs.YtmpdmelkbemabaaGreat
open Go.RowKit Go.Proofs.Grow

set_option maxHeartbeats 4000000 in
set_option maxRecDepth 100000 in
theorem sets_new (w : World) (A : Option Addr) (c : Nat) (l : List Tk) (hl : Lies w 3 Tk.cells A l) (hm : l.length ≤ 1000000) (i : Nat) (hi : i + 3 < l.length) (B : Value) (x : ByteArray) (pos : Int) (hn : isT (l[i]'(by omega)) ⟨#[110, 101, 119]⟩ = true) (h0 : isT (l[i]'(by omega)) ⟨#[99, 97, 115, 116]⟩ = false) (h1 : (l[i + 1]'(by omega)).k = 1) (h2 : (l[i + 2]'(by omega)).k ≠ 1) (h3 : isT (l[i + 2]'(by omega)) ⟨#[60]⟩ = false) (h4 : isT (l[i + 2]'(by omega)) ⟨#[59]⟩ = true) :
    Gives Tryz.prog 84 #[.slice A l.length c, .int .i64 i, .agg (exSt 0 x ty0 pos).cells.toArray, B] w (.agg (g8C (exSt 5 x (tyOf (l[i + 1]'(by omega)).tx) pos) (i + 3)).toArray) := by
  refine Gives.mk ?_
  have HI : Hid (∀ W, Below w.heap.size w W → Gives Tryz.prog 82 #[.slice A l.length c, .int .i64 i, .string ⟨#[110, 101, 119]⟩] W (.bool true)) := fun W hW => by
    have h := is08_any W A c l (hl.below hW) hm i (by omega) ⟨#[110, 101, 119]⟩
    rw [hn] at h
    exact h
  have HP : Hid (∀ W, Below w.heap.size w W → Gives Tryz.prog 92 #[.slice A l.length c, .int .i64 i, .agg (exSt 0 x ty0 pos).cells.toArray, B] W (.agg (g8C (exSt 5 x (tyOf (l[i + 1]'(by omega)).tx) pos) ((i : Int) + 3)).toArray)) := fun W hW => typed_new W A c l (hl.below hW) hm i hi B x pos h0 h1 h2 h3 h4
  obtain ⟨tx, htx⟩ : ∃ tx, tx = (l[i + 1]'(by omega)).tx := ⟨_, rfl⟩
  rw [← htx] at HP ⊢
  unfold Gives at HI HP
  clear htx hl hm hi h0 h1 h2 h3 h4 hn
  go_enter Tryz.func84, Tryz.ntmps84
  go_upto_region 1 with fail
  change Code.wp _ _ _ _ ((w.alloc (.cells (exSt 0 x ty0 pos).cells.toArray 50)).alloc (.cells (g8C (exSt 0 ⟨#[]⟩ ty0 0) 0).toArray 138))
  obtain ⟨W1, hW1⟩ : ∃ W1, W1 = (w.alloc (.cells (exSt 0 x ty0 pos).cells.toArray 50)).alloc (.cells (g8C (exSt 0 ⟨#[]⟩ ty0 0) 0).toArray 138) := ⟨_, rfl⟩
  have hB : Hid (Below w.heap.size w W1) := by show Below _ _ _; rw [hW1]; exact ((Below.refl _ _).alloc (Nat.le_refl _) _).alloc (by simp) _
  have hr6 : Hid (W1.heap[w.heap.size]? = some (.cells (exSt 0 x ty0 pos).cells.toArray 50 (0, 0))) := by show _ = _; rw [hW1]; exact (Below.heap_alloc _ _ _ (by simp)).trans (heap_alloc_new w _)
  have hr8 : Hid (W1.heap[w.heap.size + 1]? = some (.cells (g8C (exSt 0 ⟨#[]⟩ ty0 0) 0).toArray 138 (0, 0))) := by
    show _ = _
    rw [hW1]
    have := heap_alloc_new (w.alloc (.cells (exSt 0 x ty0 pos).cells.toArray 50)) (.cells (g8C (exSt 0 ⟨#[]⟩ ty0 0) 0).toArray 138)
    simpa using this
  rw [← hW1]
  clear hW1
  go_upto_region 2 with (go_at_call 82; ((with_reducible refine (HI.out _ hB.out).mono ?_); rintro _ _ ⟨y, rfl, rfl⟩))
  have hB2 := hide (hB.out.trans (y.below.mono hB.out.size))
  have hr6b := hide (row_up y hr6.out)
  have hr8b := hide (row_up y hr8.out)
  generalize y.val = W2 at hB2 hr6b hr8b ⊢
  clear hB hr6 hr8 HI y
  have harm : Hid (∀ y : Ext W2, y.val.there (w.heap.size + 1) 0 (g8C (exSt 5 x (tyOf tx) pos) ((i : Int) + 3)).toArray.size) := fun y => g8_there (row_up y hr8b.out) _ _
  go_wp2_with (first | (refine wpList_load_row rfl 50 (.tmp 6) rfl w.heap.size rfl 50 (exSt 0 x ty0 pos).cells.toArray (0, 0) _ hr6b.out Tryz.underlying50 rfl (by rw [List.size_toArray, St.cells_len]; kernel_rfl) ?_) | (go_at_call 92; ((with_reducible refine (HP.out _ hB2.out).mono ?_); rintro _ _ ⟨y, rfl, rfl⟩)) | (refine wpList_store_mid rfl 138 (.tmp 8) (.tmp 22) rfl (w.heap.size + 1) 0 (g8C (exSt 5 x (tyOf tx) pos) ((i : Int) + 3)).toArray rfl rfl (harm.out _) (g8_info _ _) (all_oneCell_toArray (g8C_one _ _)) ?_))
  have hrow := hide (row_fill (cs := (g8C (exSt 5 x (tyOf tx) pos) ((i : Int) + 3)).toArray) (row_up y hr8b.out) (g8_size _ _ _ _))
  refine bodyPost_ret (v := .agg (g8C (exSt 5 x (tyOf tx) pos) ((i : Int) + 3)).toArray) (results_cell_row (p := 8) (ty := 138) Tryz.results84 _ _ (w.heap.size + 1) 138 _ (0, 0) _ rfl hrow.out Tryz.underlying138 rfl (g8_info _ _)) rfl ⟨rfl, ?_⟩
  exact (hB2.out.trans (y.below.mono hB2.out.size)).trans (setCells_below (Nat.le_succ _) _ 0 _)

theorem built_st9 (p : Int) : Tryz.prog.built 50 [(9, .int .i64 p)] = some (exSt 0 ⟨#[]⟩ ty0 p).cells.toArray := by kernel_rfl

set_option maxHeartbeats 4000000 in
set_option maxRecDepth 100000 in
/-- 'x = new A ;' -/
theorem stmt_new (w : World) (A : Option Addr) (c : Nat) (l : List Tk) (hl : Lies w 3 Tk.cells A l) (hm : l.length ≤ 1000000) (i : Nat) (hi : i + 5 < l.length) (B : Value) (hk : (l[i]'(by omega)).k = 1) (hdot : isT (l[i + 1]'(by omega)) ⟨#[46]⟩ = false) (heq : isT (l[i + 1]'(by omega)) ⟨#[61]⟩ = true) (hn : isT (l[i + 2]'(by omega)) ⟨#[110, 101, 119]⟩ = true) (h0 : isT (l[i + 2]'(by omega)) ⟨#[99, 97, 115, 116]⟩ = false) (h1 : (l[i + 3]'(by omega)).k = 1) (h2 : (l[i + 4]'(by omega)).k ≠ 1) (h3 : isT (l[i + 4]'(by omega)) ⟨#[60]⟩ = false) (h4 : isT (l[i + 4]'(by omega)) ⟨#[59]⟩ = true) :
    Gives Tryz.prog 72 #[.slice A l.length c, .int .i64 i, B, .int .i64 0] w (.agg (g8C (exSt 5 (l[i]'(by omega)).tx (tyOf (l[i + 3]'(by omega)).tx) (l[i]'(by omega)).pos) (i + 5)).toArray) := by
  refine Gives.mk ?_
  have hi63 : (i : Int) ≤ 1000000 := by omega
  have HTk : Hid (∀ W, Below w.heap.size w W → Gives Tryz.prog 79 #[.slice A l.length c, .int .i64 i] W (.agg (l[i]'(by omega)).cells.toArray)) := fun W hW => tok08_any W A c l (hl.below hW) hm i (by omega)
  have HWh : Hid (∀ W, Below w.heap.size w W → Gives Tryz.prog 81 #[.slice A l.length c, .int .i64 i] W (.bool true)) := fun W hW => whose_name W A c l (hl.below hW) hm i (by omega) hk
  have HD : Hid (∀ W, Below w.heap.size w W → Gives Tryz.prog 82 #[.slice A l.length c, .int .i64 ((i : Int) + 1), .string ⟨#[46]⟩] W (.bool false)) := fun W hW => by
    have h := is08_any W A c l (hl.below hW) hm (i + 1) (by omega) ⟨#[46]⟩
    rw [hdot] at h
    exact h
  have HQ : Hid (∀ W, Below w.heap.size w W → Gives Tryz.prog 82 #[.slice A l.length c, .int .i64 ((i : Int) + 1), .string ⟨#[61]⟩] W (.bool true)) := fun W hW => by
    have h := is08_any W A c l (hl.below hW) hm (i + 1) (by omega) ⟨#[61]⟩
    rw [heq] at h
    exact h
  have HP : Hid (∀ W, Below w.heap.size w W → ∀ x pos, Gives Tryz.prog 84 #[.slice A l.length c, .int .i64 ((i : Int) + 2), .agg (exSt 0 x ty0 pos).cells.toArray, B] W (.agg (g8C (exSt 5 x (tyOf (l[i + 3]'(by omega)).tx) pos) ((i : Int) + 2 + 3)).toArray)) := fun W hW x pos => sets_new W A c l (hl.below hW) hm (i + 2) (by omega) B x pos hn h0 h1 h2 h3 h4
  obtain ⟨tx, htx⟩ : ∃ tx, tx = (l[i + 3]'(by omega)).tx := ⟨_, rfl⟩
  obtain ⟨tk, htk⟩ : ∃ tk, tk = l[i]'(by omega) := ⟨_, rfl⟩
  rw [← htx] at HP ⊢
  rw [← htk] at HTk hk ⊢
  obtain ⟨k, x, pos⟩ := tk
  simp only [Tk.cells] at HTk
  simp only at hk ⊢
  subst hk
  have hsum : (i : Int) + 2 + 3 = (i : Int) + 5 := by omega
  rw [hsum] at HP
  unfold Gives at HTk HWh HD HQ HP
  clear htx htk hl hm hi hdot heq h0 h1 h2 h3 h4 hn hsum
  have f0 := fld_tk0 1 pos x
  have f1 := fld_tk1 1 pos x
  have f2 := fld_tk 1 pos x
  go_enter Tryz.func72, Tryz.ntmps72
  go_upto_region 1 with fail
  change Code.wp _ _ _ _ (w.alloc (.cells (g8C (exSt 0 ⟨#[]⟩ ty0 0) 0).toArray 138))
  have hBw : Hid (Below w.heap.size w (w.alloc (.cells (g8C (exSt 0 ⟨#[]⟩ ty0 0) 0).toArray 138))) := (Below.refl _ _).alloc (Nat.le_refl _) _
  have hr8w : Hid ((w.alloc (.cells (g8C (exSt 0 ⟨#[]⟩ ty0 0) 0).toArray 138)).heap[w.heap.size]? = some (.cells (g8C (exSt 0 ⟨#[]⟩ ty0 0) 0).toArray 138 (0, 0))) := heap_alloc_new _ _
  generalize (w.alloc (.cells (g8C (exSt 0 ⟨#[]⟩ ty0 0) 0).toArray 138)) = W0 at hBw hr8w ⊢
  go_upto_region 2 with (first | (go_at_call 79; ((with_reducible refine (HTk.out _ hBw.out).mono ?_); rintro _ _ ⟨y, rfl, rfl⟩)) | (refine wpList_buildV rfl 50 [(9, .tmp 14)] rfl [(9, .int .i64 pos)] (by kernel_rfl) _ (built_st9 _) ?_) | (refine wpList_store_new rfl 50 (.tmp 9) (.tmp 15) rfl _ _ (exSt 0 ⟨#[]⟩ ty0 pos).cells.toArray _ rfl rfl rfl (by rw [List.size_toArray, St.cells_len]; kernel_rfl) (by simp [St.cells_len]) (fun u hu => st_one _ u (by simpa using hu)) ?_))
  obtain ⟨g9, hg9⟩ : ∃ g, g = y.val.heap.size := ⟨_, rfl⟩
  obtain ⟨W1, hW1⟩ : ∃ W, W = y.val.alloc (.cells (exSt 0 ⟨#[]⟩ ty0 pos).cells.toArray 50) := ⟨_, rfl⟩
  have hBx := hBw.out.trans (y.below.mono hBw.out.size)
  have hB : Hid (Below w.heap.size w W1) := by show Below _ _ _; rw [hW1]; exact hBx.alloc hBx.size _
  have hr8 : Hid (W1.heap[w.heap.size]? = some (.cells (g8C (exSt 0 ⟨#[]⟩ ty0 0) 0).toArray 138 (0, 0))) := by show _ = _; rw [hW1]; exact (Below.heap_alloc _ _ _ (row_lt (row_up y hr8w.out))).trans (row_up y hr8w.out)
  have hr9 : Hid (W1.heap[g9]? = some (.cells (exSt 0 ⟨#[]⟩ ty0 pos).cells.toArray 50 (0, 0))) := by show _ = _; rw [hW1, hg9]; exact heap_alloc_new _ _
  have hg9w : w.heap.size < g9 := by rw [hg9]; exact row_lt (row_up y hr8w.out)
  rw [← hW1, ← hg9]
  clear hW1 hg9 hBx hBw hr8w y
  go_upto_region 9 with (first | (go_at_call 81; ((with_reducible refine (HWh.out _ hB.out).mono ?_); rintro _ _ ⟨y1, rfl, rfl⟩)) | (go_at_call 82; first | ((with_reducible refine (HD.out _ (by have hB9 := hB.out; repeat (first | exact Below.refl _ _ | exact Nat.le_refl _ | assumption | refine below_ext ?_ ?_ _ | refine Below.alloc ?_ ?_ _ | refine Ext.le _ ?_ | exact hB9.size))).mono ?_); rintro _ _ ⟨y2, rfl, rfl⟩) | ((with_reducible refine (HQ.out _ (by have hB9 := hB.out; repeat (first | exact Below.refl _ _ | exact Nat.le_refl _ | assumption | refine below_ext ?_ ?_ _ | refine Below.alloc ?_ ?_ _ | refine Ext.le _ ?_ | exact hB9.size))).mono ?_); rintro _ _ ⟨y4, rfl, rfl⟩)) | (go_at_call 79; ((with_reducible refine (HTk.out _ (by have hB9 := hB.out; repeat (first | exact Below.refl _ _ | exact Nat.le_refl _ | assumption | refine below_ext ?_ ?_ _ | refine Below.alloc ?_ ?_ _ | refine Ext.le _ ?_ | exact hB9.size))).mono ?_); rintro _ _ ⟨y3, rfl, rfl⟩)))
  have b1 := hB.out.trans (y1.below.mono hB.out.size)
  have b2 := b1.trans (y2.below.mono b1.size)
  have b3 := b2.trans (y3.below.mono b2.size)
  have b4 := hide (b3.trans (y4.below.mono b3.size))
  have r8 := hide (row_up y4 (row_up y3 (row_up y2 (row_up y1 hr8.out))))
  have r9 := hide (row_up y4 (row_up y3 (row_up y2 (row_up y1 hr9.out))))
  generalize y4.val = W2 at b4 r8 r9 ⊢
  clear b1 b2 b3 hB hr8 hr9 y4 HD HQ HWh
  have HT2 := hide (HTk.out W2 b4.out)
  clear HTk
  have harm : Hid (∀ u : Ext W2, u.val.cell? ⟨g9, 1, none⟩ = some (.string ⟨#[]⟩) ∧ u.val.frozen? ⟨g9, 1, none⟩ = false) := fun u => row_cell (row_up u r9.out) (j := 1) rfl
  go_upto_region 10 with (go_at_call 79; ((with_reducible refine HT2.out.mono ?_); rintro _ _ ⟨u, rfl, rfl⟩; obtain ⟨e1, e2⟩ := harm.out u))
  have b5 : Hid (Below w.heap.size w (u.val.setCell ⟨g9, 1, none⟩ (.string x))) := (b4.out.trans (u.below.mono b4.out.size)).setCell (p := ⟨g9, 1, none⟩) (Nat.le_of_lt hg9w) _
  have r85 : Hid ((u.val.setCell ⟨g9, 1, none⟩ (.string x)).heap[w.heap.size]? = some (.cells (g8C (exSt 0 ⟨#[]⟩ ty0 0) 0).toArray 138 (0, 0))) := (Below.heap_setCell u.val ⟨g9, 1, none⟩ _ w.heap.size (by show w.heap.size ≠ g9; omega)).trans (row_up u r8.out)
  have r95 : Hid ((u.val.setCell ⟨g9, 1, none⟩ (.string x)).heap[g9]? = some (.cells (exSt 0 x ty0 pos).cells.toArray 50 (0, 0))) := by
    show _ = _
    rw [row_store (row_up u r9.out) 1 (.string x)]
    rfl
  generalize (u.val.setCell ⟨g9, 1, none⟩ (.string x)) = W5 at b5 r85 r95 ⊢
  clear e1 e2 harm HT2 b4 r8 r9 u f0 f1 f2
  have HP5 := hide (HP.out W5 b5.out x pos)
  clear HP
  have harm : Hid (∀ y : Ext W5, y.val.there w.heap.size 0 (g8C (exSt 5 x (tyOf tx) pos) ((i : Int) + 5)).toArray.size) := fun y => g8_there (row_up y r85.out) _ _
  go_wp2_with (first | (refine wpList_load_row rfl 50 (.tmp 9) rfl g9 rfl 50 (exSt 0 x ty0 pos).cells.toArray (0, 0) _ r95.out Tryz.underlying50 rfl (by rw [List.size_toArray, St.cells_len]; kernel_rfl) ?_) | (go_at_call 84; ((with_reducible refine HP5.out.mono ?_); rintro _ _ ⟨y, rfl, rfl⟩)) | (refine wpList_store_mid rfl 138 (.tmp 8) (.tmp 58) rfl w.heap.size 0 (g8C (exSt 5 x (tyOf tx) pos) ((i : Int) + 5)).toArray rfl rfl (harm.out _) (g8_info _ _) (all_oneCell_toArray (g8C_one _ _)) ?_))
  have hrow := hide (row_fill (cs := (g8C (exSt 5 x (tyOf tx) pos) ((i : Int) + 5)).toArray) (row_up y r85.out) (g8_size _ _ _ _))
  refine bodyPost_ret (v := .agg (g8C (exSt 5 x (tyOf tx) pos) ((i : Int) + 5)).toArray) (results_cell_row (p := 8) (ty := 138) Tryz.results72 _ _ w.heap.size 138 _ (0, 0) _ rfl hrow.out Tryz.underlying138 rfl (g8_info _ _)) rfl ⟨rfl, ?_⟩
  exact (b5.out.trans (y.below.mono b5.out.size)).trans (setCells_below (Nat.le_refl _) _ 0 _)
end Go.Proofs.YtmpdmelkbemabaaGreat
set_option linter.unusedSimpArgs false
set_option linter.unusedVariables false
namespace Go.Proofs.YtmpdmelkbemabaaGreat
open Go.RowKit Go.Proofs.Grow

def cl0 : Cl := ⟨⟨#[]⟩, none, 0, [], ⟨#[]⟩, none, 0, [], none, 0, [], none, 0, [], 0⟩
def me0 : Me := ⟨⟨#[]⟩, false, ty0, none, 0, [], none, 0, [], none, 0, [], 0⟩
/-- demesneref09.Got -/
def g9C (cl : Cl) (m : Me) (vA : Option Addr) (vn vc : Nat) (nx : Int) : List Value := cl.cells ++ (m.cells ++ [.slice vA vn vc, .slice none 0 0, .int .i64 nx, .int .i64 0, .int .i64 0])
theorem g9C_len (cl : Cl) (m : Me) (vA : Option Addr) (vn vc : Nat) (nx : Int) : (g9C cl m vA vn vc nx).length = 29 := rfl
theorem g9C_one (cl : Cl) (m : Me) (vA : Option Addr) (vn vc : Nat) (nx : Int) : ∀ u ∈ g9C cl m vA vn vc nx, u.oneCell' = true := by
  intro u hu
  rcases List.mem_append.1 hu with hu | hu
  · exact cl.cells_one u hu
  rcases List.mem_append.1 hu with hu | hu
  · exact m.cells_one u hu
  · simp only [List.mem_cons, List.not_mem_nil, or_false] at hu
    rcases hu with rfl | rfl | rfl | rfl | rfl <;> rfl
theorem built_g9 (vA : Option Addr) (vn vc : Nat) (nx : Int) : Tryz.prog.built 88 [(2, .slice vA vn vc), (4, .int .i64 nx)] = some (g9C cl0 me0 vA vn vc nx).toArray := by kernel_rfl
theorem built_g9n (nx : Int) : Tryz.prog.built 88 [(4, .int .i64 nx)] = some (g9C cl0 me0 none 0 0 nx).toArray := by kernel_rfl

set_option maxHeartbeats 2000000 in
set_option maxRecDepth 100000 in
theorem params_none (w : World) (A : Option Addr) (c : Nat) (l : List Tk) (hl : Lies w 3 Tk.cells A l) (hm : l.length ≤ 1000000) (i : Nat) (hi : i + 1 < l.length) (B : Value) (h1 : isT (l[i + 1]'hi) ⟨#[41]⟩ = true) :
    Gives Tryz.prog 70 #[.slice A l.length c, .int .i64 i, B] w (.agg (g9C cl0 me0 none 0 0 (i + 2)).toArray) := by
  refine Gives.mk ?_
  have hi63 : (i : Int) ≤ 1000000 := by omega
  have HI : Hid (∀ W, Below w.heap.size w W → Gives Tryz.prog 24 #[.slice A l.length c, .int .i64 ((i : Int) + 1), .string ⟨#[41]⟩] W (.bool true)) := fun W hW => by
    have h := is09_any W A c l (hl.below hW) hm (i + 1) hi ⟨#[41]⟩
    rw [h1] at h
    exact h
  unfold Gives at HI
  clear hl hm hi h1
  go_enter Tryz.func70, Tryz.ntmps70
  go_upto_region 1 with fail
  change Code.wp _ _ _ _ (w.alloc (.cells (g9C cl0 me0 none 0 0 0).toArray 88))
  have hB : Hid (Below w.heap.size w (w.alloc (.cells (g9C cl0 me0 none 0 0 0).toArray 88))) := (Below.refl _ _).alloc (Nat.le_refl _) _
  have hr : Hid ((w.alloc (.cells (g9C cl0 me0 none 0 0 0).toArray 88)).heap[w.heap.size]? = some (.cells (g9C cl0 me0 none 0 0 0).toArray 88 (0, 0))) := heap_alloc_new _ _
  generalize (w.alloc (.cells (g9C cl0 me0 none 0 0 0).toArray 88)) = W1 at hB hr ⊢
  have harm : Hid (∀ y : Ext W1, y.val.there w.heap.size 0 29) := fun y => row_there (row_up y hr.out) 29 (Nat.le_refl _)
  go_wp2_with (first | (go_at_call 24; ((with_reducible refine (HI.out _ hB.out).mono ?_); rintro _ _ ⟨y, rfl, rfl⟩)) | (refine wpList_buildV rfl 88 [(4, .tmp 15)] rfl [(4, .int .i64 ((i : Int) + 2))] (by kernel_rfl) _ (built_g9n _) ?_) | (refine wpList_store_mid rfl 88 (.tmp 6) (.tmp 16) rfl w.heap.size 0 (g9C cl0 me0 none 0 0 ((i : Int) + 2)).toArray rfl rfl (harm.out _) (by kernel_rfl) (all_oneCell_toArray (g9C_one _ _ _ _ _ _)) ?_))
  have hrow := hide (row_fill (cs := (g9C cl0 me0 none 0 0 ((i : Int) + 2)).toArray) (row_up y hr.out) rfl)
  refine bodyPost_ret (v := .agg (g9C cl0 me0 none 0 0 ((i : Int) + 2)).toArray) (results_cell_row (p := 6) (ty := 88) Tryz.results70 _ _ w.heap.size 88 _ (0, 0) _ rfl hrow.out Tryz.underlying88 rfl (by kernel_rfl)) rfl ⟨rfl, ?_⟩
  exact (hB.out.trans (y.below.mono hB.out.size)).trans (setCells_below (Nat.le_refl _) _ 0 _)

theorem infoVaK : (Tryz.prog.info? 78).map (fun i => (i.zero.map (·.cells.size), i.size, i.bytes)) = some (some 13, 13, 120) := by kernel_rfl
theorem va_one (v : Va) : ∀ u ∈ v.cells, u.oneCell' = true := by
  intro u hu
  unfold Va.cells at hu
  rcases List.mem_cons.1 hu with rfl | hu
  · rfl
  rcases List.mem_append.1 hu with hu | hu
  · exact tyc_one v.ty u hu
  · rw [List.mem_singleton.1 hu]; rfl
theorem va_len (v : Va) : v.cells.length = 13 := rfl
theorem g7_va (ty : Ty) (v : Va) (nx : Int) {j : Nat} {u : Value} (h : v.cells[j]? = some u) : (g7C ty v nx)[12 + j]? = some u := by
  have e : g7C ty v nx = (.slice none 0 0 :: ty.cells) ++ (v.cells ++ [.int .i64 nx, .int .i64 0, .int .i64 0]) := rfl
  rw [e, List.getElem?_append_right (by show 12 ≤ 12 + j; omega)]
  have e2 : 12 + j - (Value.slice none 0 0 :: ty.cells).length = j := by show 12 + j - 12 = j; omega
  rw [e2, List.getElem?_append_left (List.getElem?_eq_some_iff.1 h).1]
  exact h

set_option maxHeartbeats 4000000 in
set_option maxRecDepth 100000 in
/-- One local variable, and no further one. -/
theorem locals_one (w : World) (A : Option Addr) (c : Nat) (l : List Tk) (hl : Lies w 3 Tk.cells A l) (hm : l.length ≤ 1000000) (i : Nat) (hi : i + 4 < l.length) (B : Value) (va : Va)
    (h0 : ∀ W, Below w.heap.size w W → Gives Tryz.prog 78 #[.slice A l.length c, .int .i64 i] W (.bool true)) (h3 : ∀ W, Below w.heap.size w W → Gives Tryz.prog 78 #[.slice A l.length c, .int .i64 ((i : Int) + 3)] W (.bool false))
    (hv : ∀ W, Below w.heap.size w W → Gives Tryz.prog 77 #[.slice A l.length c, .int .i64 i, B] W (.agg (g7C ty0 va ((i : Int) + 2)).toArray)) (hs : isT (l[i + 2]'(by omega)) ⟨#[59]⟩ = true) :
    Calls Tryz.prog 71 #[.slice A l.length c, .int .i64 i, B] w fun e w' => ∃ (x : Ext w) (vA : Option Addr) (vc : Nat), e = .returned (.agg (g9C cl0 me0 vA 1 vc ((i : Int) + 3)).toArray) ∧ w' = x.val ∧ 1 ≤ vc ∧ vc ≤ maxLen ∧ Lies x.val 13 Va.cells vA [va] ∧ ∀ a, vA = some a → w.heap.size < a.block := by
  obtain ⟨i0, z0, hi0, hz0, hz1, hz2, hzs⟩ := info_row infoVaK
  have hi63 : (i : Int) ≤ 1000000 := by omega
  have HI : Hid (∀ W, Below w.heap.size w W → Gives Tryz.prog 24 #[.slice A l.length c, .int .i64 ((i : Int) + 2), .string ⟨#[59]⟩] W (.bool true)) := fun W hW => by
    have h := is09_any W A c l (hl.below hW) hm (i + 2) (by omega) ⟨#[59]⟩
    rw [hs] at h
    exact h
  have H0 := hide h0
  have H3 := hide h3
  have HV := hide hv
  unfold Gives at HI H0 H3 HV
  clear hl hm hi hs h0 h3 hv
  go_enter Tryz.func71, Tryz.ntmps71
  go_wp2_with fail
  obtain ⟨W1, hW1⟩ : ∃ W, W = w.alloc (.cells (g9C cl0 me0 none 0 0 0).toArray 88) := ⟨_, rfl⟩
  have hB : Hid (Below w.heap.size w W1) := by show Below _ _ _; rw [hW1]; exact (Below.refl _ _).alloc (Nat.le_refl _) _
  have hr : Hid (W1.heap[w.heap.size]? = some (.cells (g9C cl0 me0 none 0 0 0).toArray 88 (0, 0))) := by show _ = _; rw [hW1]; exact heap_alloc_new _ _
  have hsz1 : W1.heap.size = w.heap.size + 1 := by rw [hW1]; simp
  change Code.wp _ _ _ _ (w.alloc (.cells (g9C cl0 me0 none 0 0 0).toArray 88))
  rw [← hW1]
  clear hW1
  go_loopw [1, 7] (fun s1 s7 wr => ∃ x : Ext W1, wr = x.val ∧ ((s1 = .int .i64 i ∧ s7 = .slice none 0 0) ∨ (s1 = .int .i64 ((i : Int) + 3) ∧ Hid (Grow.Own x.val W1.heap.size 78 13 Va.cells s7 [va])))) (fun s1 _ _ => i + 3 - (intOf s1).toNat)
  case atStart => exact ⟨Ext.here W1, rfl, .inl ⟨rfl, rfl⟩⟩
  case round =>
    obtain ⟨x, rfl, ⟨rfl, rfl⟩ | ⟨rfl, hown⟩⟩ := hrel
    · have hBx := hide (hB.out.trans (x.below.mono hB.out.size))
      go_upto_region 6 with (first | (go_at_call 78; ((with_reducible refine (H0.out _ hBx.out).mono ?_); rintro _ _ ⟨y, rfl, rfl⟩; have hBy := hide (hBx.out.trans (y.below.mono hBx.out.size)))) | (go_at_call 77; ((with_reducible refine (HV.out _ hBy.out).mono ?_); rintro _ _ ⟨z, rfl, rfl⟩)) | (refine wpList_store_new rfl 120 (.tmp 8) (.tmp 21) rfl _ _ (g7C ty0 va ((i : Int) + 2)).toArray _ rfl rfl rfl (by kernel_rfl) rfl (fun u hu => g7C_one _ _ _ u (by simpa using hu)) ?_))
      obtain ⟨g8, hg8⟩ : ∃ g, g = z.val.heap.size := ⟨_, rfl⟩
      obtain ⟨Z, hZ⟩ : ∃ Z : Ext W1, z.val.alloc (.cells (g7C ty0 va ((i : Int) + 2)).toArray 120) = Z.val := by
        refine Ext.of ?_
        have h1 := x.below.trans (y.below.mono x.below.size)
        have h2 := h1.trans (z.below.mono h1.size)
        exact h2.alloc h2.size _
      have hr8 : Hid (Z.val.heap[g8]? = some (.cells (g7C ty0 va ((i : Int) + 2)).toArray 120 (0, 0))) := by show _ = _; rw [← hZ, hg8]; exact heap_alloc_new _ _
      rw [hZ, ← hg8]
      have hBZ := hide (hB.out.trans (Z.below.mono hB.out.size))
      clear hZ hg8 hBx hBy z y x
      have d26 : Z.val.cell? ⟨g8, 26, none⟩ = some (.int .i64 0) := (row_cell hr8.out (j := 26) rfl).1
      have d25 : Z.val.cell? ⟨g8, 25, none⟩ = some (.int .i64 ((i : Int) + 2)) := (row_cell hr8.out (j := 25) rfl).1
      go_upto_region 10 with (go_at_call 24; ((with_reducible refine (HI.out _ hBZ.out).mono ?_); rintro _ _ ⟨y, rfl, rfl⟩))
      obtain ⟨X, hX⟩ : ∃ X : Ext W1, y.val = X.val := ⟨Z.step y.below, rfl⟩
      have hr8x : Hid (X.val.heap[g8]? = some (.cells (g7C ty0 va ((i : Int) + 2)).toArray 120 (0, 0))) := by show _ = _; rw [← hX]; exact row_up y hr8.out
      rw [hX]
      clear hX d26 d25 hBZ hr8 y Z
      have hrv : Hid (X.val.rangeAt g8 12 va.cells) := fun j u hj => (row_cell hr8x.out (j := 12 + j) (g7_va _ _ _ hj)).1
      go_wp2_with (first | (refine wpList_load_mid rfl 78 (.tmp 39) rfl g8 12 rfl va.cells _ hrv.out Tryz.underlying78 rfl (by rw [va_len]; kernel_rfl) ?_) | (refine wpList_lit_one rfl 32 78 (.tmp 40) rfl va.cells.toArray rfl i0 z0 13 Tryz.underlying32 hi0 hz0 hz1 (by rw [List.size_toArray, va_len]) (by decide) (by decide) ?_) | (at_builtin; refine wpList_append_list (w1 := W1) _ rfl (.tmp 38) (.tmp 41) 32 rfl 78 i0 z0 13 120 Tryz.underlying32 hi0 hz0 hz1 hz2 hzs (by decide) va_len va_one (X.below.alloc X.below.size _) (.slice none 0 0) [] rfl Own.nil _ 1 1 [va] rfl rfl (Lies.one X.val va _ rfl) (by simp [maxLen]) (by simp) ?_; intro v' y2 hown' hgr hat; have d25 : y2.val.cell? ⟨g8, 25, none⟩ = some (.int .i64 ((i : Int) + 2)) := (row_cell ((hgr.block _ (Nat.lt_of_lt_of_le (row_lt hr8x.out) (by simp)) (fun e => by cases e)).trans ((Below.heap_alloc _ _ _ (row_lt hr8x.out)).trans hr8x.out)) (j := 25) rfl).1))
      have hO := hide hown'
      clear hown' hgr hat d25
      go_roundw
      case rel => exact ⟨y2, rfl, .inr ⟨by congr 1, hO⟩⟩
      case measure => simp [intOf]; omega
    · have hBx := hide (hB.out.trans (x.below.mono hB.out.size))
      obtain ⟨g, cp, rfl⟩ : ∃ g cp, u7 = .slice (some ⟨g, 0, none⟩) 1 cp := by
        obtain ⟨g, cp, e⟩ := Own.some_ (l := []) hown.out
        exact ⟨g, cp, e⟩
      have harm : Hid (∀ y : Ext x.val, y.val.there w.heap.size 0 29) := fun y => row_there (row_up y (row_up x hr.out)) 29 (Nat.le_refl _)
      go_wp2_with (first | (go_at_call 78; ((with_reducible refine (H3.out _ hBx.out).mono ?_); rintro _ _ ⟨y, rfl, rfl⟩)) | (refine wpList_buildV rfl 88 [(2, .tmp 46), (4, .tmp 47)] rfl [(2, .slice (some ⟨g, 0, none⟩) 1 cp), (4, .int .i64 ((i : Int) + 3))] (by kernel_rfl) _ (built_g9 _ _ _ _) ?_) | (refine wpList_store_mid rfl 88 (.tmp 6) (.tmp 48) rfl w.heap.size 0 (g9C cl0 me0 (some ⟨g, 0, none⟩) 1 cp ((i : Int) + 3)).toArray rfl rfl (harm.out _) (by kernel_rfl) (all_oneCell_toArray (g9C_one _ _ _ _ _ _)) ?_))
      have hrow := hide (row_fill (cs := (g9C cl0 me0 (some ⟨g, 0, none⟩) 1 cp ((i : Int) + 3)).toArray) (row_up y (row_up x hr.out)) rfl)
      have hO := hown.out.ext y
      have hgw : w.heap.size < g := by have := (hown.out.from_ g rfl).1; omega
      obtain ⟨A', c', he, l1, l2, l3⟩ := hO.lies va_len
      have hBy := hide (hBx.out.trans (y.below.mono hBx.out.size))
      cases he
      refine bodyPost_ret (v := .agg (g9C cl0 me0 (some ⟨g, 0, none⟩) 1 cp ((i : Int) + 3)).toArray) (results_cell_row (p := 6) (ty := 88) Tryz.results71 _ _ w.heap.size 88 _ (0, 0) _ rfl hrow.out Tryz.underlying88 rfl (by kernel_rfl)) rfl ?_
      obtain ⟨x', hx'⟩ := Ext.of (hBy.out.trans (setCells_below (Nat.le_refl _) (g9C cl0 me0 (some ⟨g, 0, none⟩) 1 cp ((i : Int) + 3)) 0 _))
      refine ⟨x', some ⟨g, 0, none⟩, cp, rfl, hx', l1, l2, ?_, fun a e => by cases e; exact hgw⟩
      rw [← hx']
      exact l3.setCells (fun ad e => by cases e; show g ≠ w.heap.size; omega) 0 _
end Go.Proofs.YtmpdmelkbemabaaGreat
set_option linter.unusedSimpArgs false
set_option linter.unusedVariables false
namespace Go.Proofs.YtmpdmelkbemabaaGreat
open Go.RowKit Go.Proofs.Grow

set_option maxHeartbeats 2000000 in
set_option maxRecDepth 100000 in
theorem size_leaf (w : World) (k : Int) (x : ByteArray) (ty : Ty) (pos : Int) : Gives Tryz.prog 11 #[.agg (exSt k x ty pos).cells.toArray] w (.int .i64 1) := by
  refine Gives.mk ?_
  obtain ⟨s, hse⟩ : ∃ s, s = exSt k x ty pos := ⟨_, rfl⟩
  have h20 : s.cells[20]? = some (.slice none 0 0) := by rw [hse]; rfl
  have h21 : s.cells[21]? = some (.slice none 0 0) := by rw [hse]; rfl
  rw [← hse]
  clear hse
  go_enter Tryz.func11, Tryz.ntmps11
  go_upto_region 1 with fail
  obtain ⟨w1, hw1⟩ : ∃ w1, w1 = w.alloc (.cells s.cells.toArray 50) := ⟨_, rfl⟩
  rw [← hw1]
  have hB1 : Hid (Below w.heap.size w w1) := by
    show Below _ _ _
    rw [hw1]
    exact (Below.refl _ _).alloc (Nat.le_refl _) _
  have hr : w1.heap[w.heap.size]? = some (.cells s.cells.toArray 50 (0, 0)) := by rw [hw1]; exact heap_alloc_new _ _
  have a20 : w1.cell? ⟨w.heap.size, 20, none⟩ = some (.slice none 0 0) := (row_cell hr h20).1
  have a21 : w1.cell? ⟨w.heap.size, 21, none⟩ = some (.slice none 0 0) := (row_cell hr h21).1
  clear hw1 hr h20 h21
  go_wp2_with fail
  go_loopw [3, 4] (fun v i wr => v = .int .i64 1 ∧ i = .int .i64 0 ∧ wr = w1) (fun _ _ _ => 0)
  case atStart => exact ⟨rfl, rfl, rfl⟩
  case round =>
    obtain ⟨rfl, rfl, rfl⟩ := hrel
    go_wp2_with fail
    go_loopw [3, 5] (fun v i wr2 => v = .int .i64 1 ∧ i = .int .i64 0 ∧ wr2 = wr) (fun _ _ _ => 0)
    case atStart => exact ⟨rfl, rfl, rfl⟩
    case round =>
      obtain ⟨rfl, rfl, rfl⟩ := hrel
      go_wp2_with fail
      go_ret
      exact ⟨rfl, hB1.out⟩
end Go.Proofs.YtmpdmelkbemabaaGreat
set_option linter.unusedSimpArgs false
set_option linter.unusedVariables false
namespace Go.Proofs.YtmpdmelkbemabaaGreat
open Go.RowKit Go.Proofs.Grow

def exMe (nm : ByteArray) (ty : Ty) (pos : Int) (lA : Option Addr) (lc : Nat) (ll : List Va) (bA : Option Addr) (bc : Nat) (bl : List St) : Me := ⟨nm, false, ty, none, 0, [], lA, lc, ll, bA, bc, bl, pos⟩
theorem built_g9m (nm tx : ByteArray) (pos : Int) (lA : Option Addr) (lc : Nat) (va : Va) (bA : Option Addr) (bc : Nat) (s : St) (nx : Int) : Tryz.prog.built 88 [(1, .agg (exMe nm (tyOf tx) pos lA lc [va] bA bc [s]).cells.toArray), (4, .int .i64 nx)] = some (g9C cl0 (exMe nm (tyOf tx) pos lA lc [va] bA bc [s]) none 0 0 nx).toArray := by kernel_rfl
theorem infoSt : (Tryz.prog.info? 50).map (fun i => (i.zero.map (·.cells.size), i.size, i.bytes)) = some (some 23, 23, 288) := by kernel_rfl

set_option maxHeartbeats 4000000 in
set_option maxRecDepth 100000 in
theorem method_ex (w : World) (T B : Value) (nm tx : ByteArray) (pos : Int) (va : Va) (x : ByteArray) (ty : Ty) (sp : Int)
    (hp : ∀ W, Below w.heap.size w W → Gives Tryz.prog 70 #[T, .int .i64 8, B] W (.agg (g9C cl0 me0 none 0 0 10).toArray))
    (hi1 : ∀ W, Below w.heap.size w W → Gives Tryz.prog 24 #[T, .int .i64 10, .string ⟨#[123]⟩] W (.bool true))
    (hlo : ∀ W, Below w.heap.size w W → Calls Tryz.prog 71 #[T, .int .i64 11, B] W fun e w' => ∃ (y : Ext W) (vA : Option Addr) (vc : Nat), e = .returned (.agg (g9C cl0 me0 vA 1 vc 14).toArray) ∧ w' = y.val ∧ 1 ≤ vc ∧ vc ≤ maxLen ∧ Lies y.val 13 Va.cells vA [va] ∧ ∀ a, vA = some a → W.heap.size < a.block)
    (hb0 : ∀ W, Below w.heap.size w W → Gives Tryz.prog 24 #[T, .int .i64 14, .string ⟨#[125]⟩] W (.bool false))
    (hpa : ∀ W, Below w.heap.size w W → Gives Tryz.prog 72 #[T, .int .i64 14, B, .int .i64 0] W (.agg (g8C (exSt 5 x ty sp) 19).toArray))
    (hb1 : ∀ W, Below w.heap.size w W → Gives Tryz.prog 24 #[T, .int .i64 19, .string ⟨#[125]⟩] W (.bool true)) :
    Calls Tryz.prog 57 #[T, .int .i64 8, B, .agg (exMe nm (tyOf tx) pos none 0 [] none 0 []).cells.toArray, .int .i64 0] w fun e w' => ∃ (y : Ext w) (vA : Option Addr) (vc : Nat) (bA : Option Addr) (bc : Nat), e = .returned (.agg (g9C cl0 (exMe nm (tyOf tx) pos vA vc [va] bA bc [exSt 5 x ty sp]) none 0 0 20).toArray) ∧ w' = y.val ∧ 1 ≤ vc ∧ vc ≤ maxLen ∧ Lies y.val 13 Va.cells vA [va] ∧ 1 ≤ bc ∧ bc ≤ maxLen ∧ Lies y.val 23 St.cells bA [exSt 5 x ty sp] ∧ (∀ a, vA = some a → w.heap.size < a.block) ∧ ∀ a, bA = some a → w.heap.size < a.block := by
  obtain ⟨i0, z0, hi0, hz0, hz1, hz2, hzs⟩ := info_row infoSt
  have HP := hide hp
  have HI1 := hide hi1
  have HL := hide hlo
  have HB0 := hide hb0
  have HPa := hide hpa
  have HB1 := hide hb1
  have HSz : Hid (∀ W : World, Gives Tryz.prog 11 #[.agg (exSt 5 x ty sp).cells.toArray] W (.int .i64 1)) := fun W => size_leaf W 5 x ty sp
  unfold Gives at HP HI1 HB0 HPa HB1 HSz
  clear hp hi1 hlo hb0 hpa hb1
  obtain ⟨s, hs⟩ : ∃ s, s = exSt 5 x ty sp := ⟨_, rfl⟩
  rw [← hs] at HPa HSz ⊢
  clear hs
  obtain ⟨m0, hm0⟩ : ∃ m, m = exMe nm (tyOf tx) pos none 0 [] none 0 [] := ⟨_, rfl⟩
  have hM0 : Hid (m0 = exMe nm (tyOf tx) pos none 0 [] none 0 []) := hm0
  rw [← hm0]
  clear hm0
  go_enter Tryz.func57, Tryz.ntmps57
  go_upto_region 1 with fail
  change Code.wp _ _ _ _ ((w.alloc (.cells m0.cells.toArray 43)).alloc (.cells (g9C cl0 me0 none 0 0 0).toArray 88))
  obtain ⟨W1, hW1⟩ : ∃ W1, W1 = (w.alloc (.cells m0.cells.toArray 43)).alloc (.cells (g9C cl0 me0 none 0 0 0).toArray 88) := ⟨_, rfl⟩
  have hB : Hid (Below w.heap.size w W1) := by show Below _ _ _; rw [hW1]; exact ((Below.refl _ _).alloc (Nat.le_refl _) _).alloc (by simp) _
  have hr8 : Hid (W1.heap[w.heap.size]? = some (.cells m0.cells.toArray 43 (0, 0))) := by show _ = _; rw [hW1]; exact (Below.heap_alloc _ _ _ (by simp)).trans (heap_alloc_new w _)
  have hr10 : Hid (W1.heap[w.heap.size + 1]? = some (.cells (g9C cl0 me0 none 0 0 0).toArray 88 (0, 0))) := by
    show _ = _
    rw [hW1]
    have := heap_alloc_new (w.alloc (.cells m0.cells.toArray 43)) (.cells (g9C cl0 me0 none 0 0 0).toArray 88)
    simpa using this
  rw [← hW1]
  clear hW1
  go_upto_region 2 with (first | (go_at_call 70; ((with_reducible refine (HP.out _ hB.out).mono ?_); rintro _ _ ⟨y, rfl, rfl⟩)) | (refine wpList_store_new rfl 88 (.tmp 11) (.tmp 17) rfl _ _ (g9C cl0 me0 none 0 0 10).toArray _ rfl rfl rfl (by kernel_rfl) rfl (fun u hu => g9C_one _ _ _ _ _ _ u (by simpa using hu)) ?_))
  obtain ⟨g11, hg11⟩ : ∃ g, g = y.val.heap.size := ⟨_, rfl⟩
  obtain ⟨W2, hW2⟩ : ∃ W, W = y.val.alloc (.cells (g9C cl0 me0 none 0 0 10).toArray 88) := ⟨_, rfl⟩
  have hBx := hB.out.trans (y.below.mono hB.out.size)
  have hB2 : Hid (Below w.heap.size w W2) := by show Below _ _ _; rw [hW2]; exact hBx.alloc hBx.size _
  have hr8b : Hid (W2.heap[w.heap.size]? = some (.cells m0.cells.toArray 43 (0, 0))) := by show _ = _; rw [hW2]; exact (Below.heap_alloc _ _ _ (row_lt (row_up y hr8.out))).trans (row_up y hr8.out)
  have hr10b : Hid (W2.heap[w.heap.size + 1]? = some (.cells (g9C cl0 me0 none 0 0 0).toArray 88 (0, 0))) := by show _ = _; rw [hW2]; exact (Below.heap_alloc _ _ _ (row_lt (row_up y hr10.out))).trans (row_up y hr10.out)
  have hr11 : Hid (W2.heap[g11]? = some (.cells (g9C cl0 me0 none 0 0 10).toArray 88 (0, 0))) := by show _ = _; rw [hW2, hg11]; exact heap_alloc_new _ _
  have hg11w : w.heap.size + 1 < g11 := by rw [hg11]; exact row_lt (row_up y hr10.out)
  rw [← hW2, ← hg11]
  clear hW2 hg11 hBx hB hr8 hr10 HP y
  have c13 : m0.cells[13]? = some (.slice none 0 0) := by rw [hM0.out]; rfl
  have d27 : W2.cell? ⟨g11, 27, none⟩ = some (.int .i64 0) := (row_cell hr11.out (j := 27) rfl).1
  have d24 : W2.cell? ⟨g11, 24, none⟩ = some (.slice none 0 0) := (row_cell hr11.out (j := 24) rfl).1
  obtain ⟨d13, f13⟩ := row_cell hr8b.out c13
  clear c13
  go_upto_region 5 with fail
  have hB3 : Hid (Below w.heap.size w (W2.setCell ⟨w.heap.size, 13, none⟩ (.slice none 0 0))) := hB2.out.setCell (p := ⟨w.heap.size, 13, none⟩) (Nat.le_refl _) _
  have hr8c : Hid ((W2.setCell ⟨w.heap.size, 13, none⟩ (.slice none 0 0)).heap[w.heap.size]? = some (.cells m0.cells.toArray 43 (0, 0))) := by
    show _ = _
    rw [row_store hr8b.out 13 (.slice none 0 0), hM0.out]
    rfl
  have hr10c : Hid ((W2.setCell ⟨w.heap.size, 13, none⟩ (.slice none 0 0)).heap[w.heap.size + 1]? = some (.cells (g9C cl0 me0 none 0 0 0).toArray 88 (0, 0))) := (Below.heap_setCell W2 ⟨w.heap.size, 13, none⟩ _ (w.heap.size + 1) (by show w.heap.size + 1 ≠ w.heap.size; omega)).trans hr10b.out
  have hr11c : Hid ((W2.setCell ⟨w.heap.size, 13, none⟩ (.slice none 0 0)).heap[g11]? = some (.cells (g9C cl0 me0 none 0 0 10).toArray 88 (0, 0))) := (Below.heap_setCell W2 ⟨w.heap.size, 13, none⟩ _ g11 (by show g11 ≠ w.heap.size; omega)).trans hr11.out
  generalize (W2.setCell ⟨w.heap.size, 13, none⟩ (.slice none 0 0)) = W3 at hB3 hr8c hr10c hr11c ⊢
  clear d27 d24 d13 f13 hB2 hr8b hr10b hr11
  have d26 : W3.cell? ⟨g11, 26, none⟩ = some (.int .i64 10) := (row_cell hr11c.out (j := 26) rfl).1
  go_upto_region 8 with (first | (go_at_call 24; ((with_reducible refine (HI1.out _ hB3.out).mono ?_); rintro _ _ ⟨y, rfl, rfl⟩; have hBy := hide (hB3.out.trans (y.below.mono hB3.out.size)); have d26y : y.val.cell? ⟨g11, 26, none⟩ = some (.int .i64 10) := (row_cell (row_up y hr11c.out) (j := 26) rfl).1)) | (go_at_call 71; ((with_reducible refine (HL.out _ hBy.out).mono ?_); rintro _ _ ⟨z, vA, vc, rfl, rfl, l1, l2, l3, l4⟩; have L1 := hide l1; have L2 := hide l2; have L3 := hide l3; have L4 := hide l4; clear l1 l2 l3 l4)) | (refine wpList_store_new rfl 88 (.tmp 12) (.tmp 40) rfl _ _ (g9C cl0 me0 vA 1 vc 14).toArray _ rfl rfl rfl (by kernel_rfl) rfl (fun u hu => g9C_one _ _ _ _ _ _ u (by simpa using hu)) ?_))
  obtain ⟨g12, hg12⟩ : ∃ g, g = z.val.heap.size := ⟨_, rfl⟩
  obtain ⟨W4, hW4⟩ : ∃ W, W = z.val.alloc (.cells (g9C cl0 me0 vA 1 vc 14).toArray 88) := ⟨_, rfl⟩
  have hBx := hBy.out.trans (z.below.mono hBy.out.size)
  have hB4 : Hid (Below w.heap.size w W4) := by show Below _ _ _; rw [hW4]; exact hBx.alloc hBx.size _
  have hr8d : Hid (W4.heap[w.heap.size]? = some (.cells m0.cells.toArray 43 (0, 0))) := by show _ = _; rw [hW4]; exact (Below.heap_alloc _ _ _ (row_lt (row_up z (row_up y hr8c.out)))).trans (row_up z (row_up y hr8c.out))
  have hr10d : Hid (W4.heap[w.heap.size + 1]? = some (.cells (g9C cl0 me0 none 0 0 0).toArray 88 (0, 0))) := by show _ = _; rw [hW4]; exact (Below.heap_alloc _ _ _ (row_lt (row_up z (row_up y hr10c.out)))).trans (row_up z (row_up y hr10c.out))
  have hr12 : Hid (W4.heap[g12]? = some (.cells (g9C cl0 me0 vA 1 vc 14).toArray 88 (0, 0))) := by show _ = _; rw [hW4, hg12]; exact heap_alloc_new _ _
  have hLv : Hid (Lies W4 13 Va.cells vA [va]) := by show Lies _ _ _ _ _; rw [hW4]; exact L3.out.alloc _
  have hg12w : w.heap.size + 1 < g12 := by rw [hg12]; exact row_lt (row_up z (row_up y hr10c.out))
  have hvb : Hid (∀ a, vA = some a → w.heap.size + 1 < a.block) := fun a e => by have h1 := L4.out a e; have h2 := row_lt (row_up y hr10c.out); omega
  rw [← hW4, ← hg12]
  clear hW4 hg12 hBx hB3 hr8c hr10c hr11c hBy d26 d26y L3 L4 HI1 HL z y hg11w
  have c14 : m0.cells[14]? = some (.slice none 0 0) := by rw [hM0.out]; rfl
  have d27 : W4.cell? ⟨g12, 27, none⟩ = some (.int .i64 0) := (row_cell hr12.out (j := 27) rfl).1
  have d24 : W4.cell? ⟨g12, 24, none⟩ = some (.slice vA 1 vc) := (row_cell hr12.out (j := 24) rfl).1
  obtain ⟨d14, f14⟩ := row_cell hr8d.out c14
  clear c14
  go_upto_region 11 with fail
  obtain ⟨m1, hm1⟩ : ∃ m, m = exMe nm (tyOf tx) pos vA vc [va] none 0 [] := ⟨_, rfl⟩
  have hM1 : Hid (m1 = exMe nm (tyOf tx) pos vA vc [va] none 0 []) := hm1
  clear hm1
  have hB5 : Hid (Below w.heap.size w (W4.setCell ⟨w.heap.size, 14, none⟩ (.slice vA 1 vc))) := hB4.out.setCell (p := ⟨w.heap.size, 14, none⟩) (Nat.le_refl _) _
  have hr8e : Hid ((W4.setCell ⟨w.heap.size, 14, none⟩ (.slice vA 1 vc)).heap[w.heap.size]? = some (.cells m1.cells.toArray 43 (0, 0))) := by
    show _ = _
    rw [row_store hr8d.out 14 (.slice vA 1 vc), hM0.out, hM1.out]
    rfl
  have hr10e : Hid ((W4.setCell ⟨w.heap.size, 14, none⟩ (.slice vA 1 vc)).heap[w.heap.size + 1]? = some (.cells (g9C cl0 me0 none 0 0 0).toArray 88 (0, 0))) := (Below.heap_setCell W4 ⟨w.heap.size, 14, none⟩ _ (w.heap.size + 1) (by show w.heap.size + 1 ≠ w.heap.size; omega)).trans hr10d.out
  have hr12e : Hid ((W4.setCell ⟨w.heap.size, 14, none⟩ (.slice vA 1 vc)).heap[g12]? = some (.cells (g9C cl0 me0 vA 1 vc 14).toArray 88 (0, 0))) := (Below.heap_setCell W4 ⟨w.heap.size, 14, none⟩ _ g12 (by show g12 ≠ w.heap.size; omega)).trans hr12.out
  have hLve : Hid (Lies (W4.setCell ⟨w.heap.size, 14, none⟩ (.slice vA 1 vc)) 13 Va.cells vA [va]) := hLv.out.setCells (g := w.heap.size) (fun a e => by have := hvb.out a e; omega) 14 [.slice vA 1 vc]
  generalize (W4.setCell ⟨w.heap.size, 14, none⟩ (.slice vA 1 vc)) = W5 at hB5 hr8e hr10e hr12e hLve ⊢
  clear d27 d24 d14 f14 hB4 hr8d hr10d hr12 hLv
  have d26 : W5.cell? ⟨g12, 26, none⟩ = some (.int .i64 14) := (row_cell hr12e.out (j := 26) rfl).1
  go_wp2_with fail
  go_loopw [1, 4] (fun s1 s4 wr => Hid (Below w.heap.size w wr) ∧ Hid (wr.heap[w.heap.size + 1]? = some (.cells (g9C cl0 me0 none 0 0 0).toArray 88 (0, 0))) ∧ Hid (Lies wr 13 Va.cells vA [va]) ∧ ((s1 = .int .i64 14 ∧ s4 = .int .i64 0 ∧ Hid (wr.heap[w.heap.size]? = some (.cells m1.cells.toArray 43 (0, 0)))) ∨ (s1 = .int .i64 19 ∧ s4 = .int .i64 1 ∧ ∃ bA bc, Hid (1 ≤ bc) ∧ Hid (bc ≤ maxLen) ∧ Hid (Lies wr 23 St.cells bA [s]) ∧ Hid (wr.heap[w.heap.size]? = some (.cells (exMe nm (tyOf tx) pos vA vc [va] bA bc [s]).cells.toArray 43 (0, 0))) ∧ Hid (∀ a, bA = some a → w.heap.size + 1 < a.block)))) (fun _ s4 _ => 1 - (intOf s4).toNat)
  case atStart => exact ⟨hB5, hr10e, hLve, .inl ⟨rfl, rfl, hr8e⟩⟩
  case round =>
    clear d26 hB5 hr8e hr10e hr12e hLve
    obtain ⟨hB6, hr10f, hLvf, ⟨rfl, rfl, hr8f⟩ | ⟨rfl, rfl, bA, bc, b1, b2, hLb, hr8f, hbb⟩⟩ := hrel
    · go_upto_region 14 with (first | (go_at_call 24; ((with_reducible refine (HB0.out _ hB6.out).mono ?_); rintro _ _ ⟨y, rfl, rfl⟩; have hBy := hide (hB6.out.trans (y.below.mono hB6.out.size)))) | (go_at_call 72; ((with_reducible refine (HPa.out _ hBy.out).mono ?_); rintro _ _ ⟨z, rfl, rfl⟩)) | (refine wpList_store_new rfl 138 (.tmp 13) (.tmp 58) rfl _ _ (g8C s 19).toArray _ rfl rfl rfl (g8_info _ _) (by rw [show (g8C s 19).toArray.size = 28 from by rw [List.size_toArray, g8C_len]]; rfl) (fun u hu => g8C_one _ _ u (by simpa using hu)) ?_))
      obtain ⟨g13, hg13⟩ : ∃ g, g = z.val.heap.size := ⟨_, rfl⟩
      obtain ⟨W7, hW7⟩ : ∃ W, W = z.val.alloc (.cells (g8C s 19).toArray 138) := ⟨_, rfl⟩
      have hBx := hBy.out.trans (z.below.mono hBy.out.size)
      have hB7 : Hid (Below w.heap.size w W7) := by show Below _ _ _; rw [hW7]; exact hBx.alloc hBx.size _
      have hr8g : Hid (W7.heap[w.heap.size]? = some (.cells m1.cells.toArray 43 (0, 0))) := by show _ = _; rw [hW7]; exact (Below.heap_alloc _ _ _ (row_lt (row_up z (row_up y hr8f.out)))).trans (row_up z (row_up y hr8f.out))
      have hr10g : Hid (W7.heap[w.heap.size + 1]? = some (.cells (g9C cl0 me0 none 0 0 0).toArray 88 (0, 0))) := by show _ = _; rw [hW7]; exact (Below.heap_alloc _ _ _ (row_lt (row_up z (row_up y hr10f.out)))).trans (row_up z (row_up y hr10f.out))
      have hr13 : Hid (W7.heap[g13]? = some (.cells (g8C s 19).toArray 138 (0, 0))) := by show _ = _; rw [hW7, hg13]; exact heap_alloc_new _ _
      have hLvg : Hid (Lies W7 13 Va.cells vA [va]) := by show Lies _ _ _ _ _; rw [hW7]; exact ((hLvf.out.ext y).ext z).alloc _
      have hg13w : w.heap.size + 1 < g13 := by rw [hg13]; exact row_lt (row_up z (row_up y hr10f.out))
      rw [← hW7, ← hg13]
      clear hW7 hg13 hBx hB6 hr8f hr10f hLvf hBy HB0 HPa HB1 z y
      have e26 : (g8C s 19)[26]? = some (.int .i64 0) := by simp [g8C, List.getElem?_append_right, St.cells_len]
      have e25 : (g8C s 19)[25]? = some (.int .i64 19) := by simp [g8C, List.getElem?_append_right, St.cells_len]
      have eS : ∀ j u, s.cells[j]? = some u → (g8C s 19)[j]? = some u := fun j u h => by
        rw [g8C, List.getElem?_append_left (List.getElem?_eq_some_iff.1 h).1]; exact h
      have d26 : W7.cell? ⟨g13, 26, none⟩ = some (.int .i64 0) := (row_cell hr13.out e26).1
      have hrS : Hid (W7.rangeAt g13 0 s.cells) := fun j u hj => (row_cell hr13.out (j := 0 + j) (by rw [Nat.zero_add]; exact eS j u hj)).1
      go_upto_region 19 with (first | (refine wpList_load_mid rfl 50 (.tmp 67) rfl g13 0 rfl s.cells _ hrS.out Tryz.underlying50 rfl (by rw [St.cells_len]; kernel_rfl) ?_) | (go_at_call 11; ((with_reducible refine (HSz.out _).mono ?_); rintro _ _ ⟨y, rfl, rfl⟩)))
      have hB8 := hide (hB7.out.trans (y.below.mono hB7.out.size))
      have hr8h := hide (row_up y hr8g.out)
      have hr10h := hide (row_up y hr10g.out)
      have hr13h := hide (row_up y hr13.out)
      have hLvh := hide (hLvg.out.ext y)
      generalize y.val = W8 at hB8 hr8h hr10h hr13h hLvh ⊢
      clear d26 hrS hB7 hr8g hr10g hr13 hLvg HSz y e26
      have c15 : m1.cells[15]? = some (.slice none 0 0) := by rw [hM1.out]; rfl
      have d15 := (row_cell hr8h.out c15).1
      have hrS : Hid (W8.rangeAt g13 0 s.cells) := fun j u hj => (row_cell hr13h.out (j := 0 + j) (by rw [Nat.zero_add]; exact eS j u hj)).1
      have hown0 : Hid (Below W8.heap.size W8 (W8.alloc (.cells s.cells.toArray 50))) := (Below.refl _ _).alloc (Nat.le_refl _) _
      go_wp2_with (first | (refine wpList_load_mid rfl 50 (.tmp 78) rfl g13 0 rfl s.cells _ hrS.out Tryz.underlying50 rfl (by rw [St.cells_len]; kernel_rfl) ?_) | (refine wpList_lit_one rfl 41 50 (.tmp 79) rfl s.cells.toArray rfl i0 z0 23 Tryz.underlying41 hi0 hz0 hz1 (by rw [List.size_toArray, St.cells_len]) (by decide) (by decide) ?_) | (at_builtin; refine wpList_append_list (w1 := W8) _ rfl (.tmp 77) (.tmp 80) 41 rfl 50 i0 z0 23 288 Tryz.underlying41 hi0 hz0 hz1 hz2 hzs (by decide) St.cells_len st_one hown0.out (.slice none 0 0) [] rfl Own.nil _ 1 1 [s] rfl rfl (Lies.one W8 s _ rfl) (by simp [maxLen]) (by simp) ?_; intro v' y2 hown' hgr hat; obtain ⟨gb, cb, rfl, hgb⟩ : ∃ g cp, v' = .slice (some ⟨g, 0, none⟩) 1 cp ∧ W8.heap.size ≤ g := Own.some_pos hown' Nat.one_pos; have hr8i := hide (row_up y2 hr8h.out); obtain ⟨d15', f15'⟩ := row_cell hr8i.out c15; have d25' : (y2.val.setCell ⟨w.heap.size, 15, none⟩ (.slice (some ⟨gb, 0, none⟩) 1 cb)).cell? ⟨g13, 25, none⟩ = some (.int .i64 19) := (row_cell ((Below.heap_setCell y2.val ⟨w.heap.size, 15, none⟩ _ g13 (by show g13 ≠ w.heap.size; omega)).trans (row_up y2 hr13h.out)) e25).1; have hO := hide hown'; clear hown' hgr hat))
      obtain ⟨A', c', he, q1, q2, q3⟩ := hO.out.lies St.cells_len
      cases he
      go_roundw
      case rel =>
        have hB9 := hB8.out.trans (y2.below.mono hB8.out.size)
        refine ⟨hB9.setCell (p := ⟨w.heap.size, 15, none⟩) (Nat.le_refl _) _, (Below.heap_setCell y2.val ⟨w.heap.size, 15, none⟩ _ (w.heap.size + 1) (by show w.heap.size + 1 ≠ w.heap.size; omega)).trans (row_up y2 hr10h.out), (hLvh.out.ext y2).setCells (g := w.heap.size) (fun a e => by have := hvb.out a e; omega) 15 [.slice (some ⟨gb, 0, none⟩) 1 cb], .inr ⟨rfl, rfl, some ⟨gb, 0, none⟩, cb, q1, q2, q3.setCells (g := w.heap.size) (fun a e => by cases e; have := row_lt hr8h.out; show gb ≠ w.heap.size; omega) 15 [.slice (some ⟨gb, 0, none⟩) 1 cb], ?_, fun a e => by cases e; have := row_lt hr10h.out; show w.heap.size + 1 < gb; omega⟩⟩
        show _ = _
        rw [row_store hr8i.out 15 (.slice (some ⟨gb, 0, none⟩) 1 cb), hM1.out]
        rfl
      case measure => simp [intOf]
    · clear HB0 HPa HSz
      have harm : Hid (∀ y : Ext wr, y.val.there (w.heap.size + 1) 0 29) := fun y => row_there (row_up y hr10f.out) 29 (Nat.le_refl _)
      have hrM : Hid (∀ y : Ext wr, y.val.heap[w.heap.size]? = some (.cells (exMe nm (tyOf tx) pos vA vc [va] bA bc [s]).cells.toArray 43 (0, 0))) := fun y => row_up y hr8f.out
      go_wp2_with (first | (go_at_call 24; ((with_reducible refine (HB1.out _ hB6.out).mono ?_); rintro _ _ ⟨y, rfl, rfl⟩)) | (refine wpList_load_row rfl 43 (.tmp 8) rfl w.heap.size rfl 43 (exMe nm (tyOf tx) pos vA vc [va] bA bc [s]).cells.toArray (0, 0) _ (hrM.out y) Tryz.underlying43 rfl (by rw [List.size_toArray, Me.cells_len]; kernel_rfl) ?_) | (refine wpList_buildV rfl 88 [(1, .tmp 85), (4, .tmp 87)] rfl [(1, .agg (exMe nm (tyOf tx) pos vA vc [va] bA bc [s]).cells.toArray), (4, .int .i64 20)] (by kernel_rfl) _ (built_g9m _ _ _ _ _ _ _ _ _ _) ?_) | (refine wpList_store_mid rfl 88 (.tmp 10) (.tmp 88) rfl (w.heap.size + 1) 0 (g9C cl0 (exMe nm (tyOf tx) pos vA vc [va] bA bc [s]) none 0 0 20).toArray rfl rfl (harm.out _) (by kernel_rfl) (all_oneCell_toArray (g9C_one _ _ _ _ _ _)) ?_))
      have hrow := hide (row_fill (cs := (g9C cl0 (exMe nm (tyOf tx) pos vA vc [va] bA bc [s]) none 0 0 20).toArray) (row_up y hr10f.out) rfl)
      refine bodyPost_ret (v := .agg (g9C cl0 (exMe nm (tyOf tx) pos vA vc [va] bA bc [s]) none 0 0 20).toArray) (results_cell_row (p := 10) (ty := 88) Tryz.results57 _ _ (w.heap.size + 1) 88 _ (0, 0) _ rfl hrow.out Tryz.underlying88 rfl (by kernel_rfl)) rfl ?_
      have hBy := hB6.out.trans (y.below.mono hB6.out.size)
      obtain ⟨x', hx'⟩ := Ext.of (hBy.trans (setCells_below (Nat.le_succ _) (g9C cl0 (exMe nm (tyOf tx) pos vA vc [va] bA bc [s]) none 0 0 20) 0 _))
      refine ⟨x', vA, vc, bA, bc, rfl, hx', L1.out, L2.out, ?_, b1.out, b2.out, ?_, fun a e => by have := hvb.out a e; omega, fun a e => by have := hbb.out a e; omega⟩
      · rw [← hx']
        exact (hLvf.out.ext y).setCells (fun a e => by have := hvb.out a e; omega) 0 _
      · rw [← hx']
        exact (hLb.out.ext y).setCells (fun a e => by have := hbb.out a e; omega) 0 _
end Go.Proofs.YtmpdmelkbemabaaGreat
set_option linter.unusedSimpArgs false
set_option linter.unusedVariables false
namespace Go.Proofs.YtmpdmelkbemabaaGreat
open Go.RowKit Go.Proofs.Grow

def exCl (cn : ByteArray) (fA : Option Addr) (fc : Nat) (fs : List Va) (mA : Option Addr) (mc : Nat) (ms : List Me) (cp : Int) : Cl := ⟨cn, none, 0, [], ⟨#[]⟩, none, 0, [], fA, fc, fs, mA, mc, ms, cp⟩
theorem built_me9 (tp : Int) : Tryz.prog.built 43 [(6, .int .i64 tp), (1, .bool false)] = some (exMe ⟨#[]⟩ ty0 tp none 0 [] none 0 []).cells.toArray := by kernel_rfl
theorem built_va9 (nm : ByteArray) (tp : Int) : Tryz.prog.built 78 [(0, .string nm), (1, .agg tyInt.cells.toArray), (2, .int .i64 tp)] = some (Va.cells ⟨nm, tyInt, tp⟩).toArray := by kernel_rfl
theorem built_g9c (c : Cl) (nx : Int) : Tryz.prog.built 88 [(0, .agg c.cells.toArray), (4, .int .i64 nx)] = some (g9C c me0 none 0 0 nx).toArray := by kernel_rfl
theorem me_typed {W : World} {g : Nat} {pos : Int} (ty : Ty) (h : W.heap[g]? = some (.cells (exMe ⟨#[]⟩ ty0 pos none 0 [] none 0 []).cells.toArray 43 (0, 0))) : (W.setCells g 2 ty.cells.toArray.toList).heap[g]? = some (.cells (exMe ⟨#[]⟩ ty pos none 0 [] none 0 []).cells.toArray 43 (0, 0)) := by
  obtain ⟨cur', h1, h2⟩ := setCells_row g 43 ty.cells 2 W _ h (by rw [Ty.cells_len, List.size_toArray, Me.cells_len]; decide)
  have e : cur' = (exMe ⟨#[]⟩ ty pos none 0 [] none 0 []).cells.toArray := by
    apply Array.toList_inj.1
    rw [h2, Ty.cells_len]
    obtain ⟨tk, tc, tn, ⟨k0, n0⟩, ⟨k1, n1⟩, ⟨k2, n2⟩, ⟨k3, n3⟩⟩ := ty
    rfl
  rw [e] at h1
  exact h1
theorem infoMeK : (Tryz.prog.info? 43).map (fun i => (i.zero.map (·.cells.size), i.size, i.bytes)) = some (some 17, 17, 200) := by kernel_rfl
theorem g9_cl (c : Cl) (m : Me) (vA : Option Addr) (vn vc : Nat) (nx : Int) {j : Nat} {u : Value} (h : c.cells[j]? = some u) : (g9C c m vA vn vc nx)[j]? = some u := by
  unfold g9C
  rw [List.getElem?_append_left (List.getElem?_eq_some_iff.1 h).1]
  exact h
theorem g9_me (c : Cl) (m : Me) (vA : Option Addr) (vn vc : Nat) (nx : Int) {j : Nat} {u : Value} (h : m.cells[j]? = some u) : (g9C c m vA vn vc nx)[7 + j]? = some u := by
  have h1 := (List.getElem?_eq_some_iff.1 h).1
  have hc := Cl.cells_len c
  unfold g9C
  rw [List.getElem?_append_right (by omega), show 7 + j - c.cells.length = j by omega, List.getElem?_append_left h1]
  exact h
end Go.Proofs.YtmpdmelkbemabaaGreat
set_option linter.unusedSimpArgs false
set_option linter.unusedVariables false
namespace Go.Proofs.YtmpdmelkbemabaaGreat
open Go.RowKit Go.Proofs.Grow

set_option maxHeartbeats 2000000 in
set_option maxRecDepth 100000 in
theorem stmts0 (w : World) (c : Cl) (h5 : c.cells[5]? = some (.slice none 0 0)) : Gives Tryz.prog 26 #[.agg c.cells.toArray] w (.int .i64 0) := by
  refine Gives.mk ?_
  go_enter Tryz.func26, Tryz.ntmps26
  go_upto_region 1 with fail
  obtain ⟨w1, hw1⟩ : ∃ w1, w1 = w.alloc (.cells c.cells.toArray 35) := ⟨_, rfl⟩
  rw [← hw1]
  have hB1 : Hid (Below w.heap.size w w1) := by
    show Below _ _ _
    rw [hw1]
    exact (Below.refl _ _).alloc (Nat.le_refl _) _
  have hr : w1.heap[w.heap.size]? = some (.cells c.cells.toArray 35 (0, 0)) := by rw [hw1]; exact heap_alloc_new _ _
  have a5 : w1.cell? ⟨w.heap.size, 5, none⟩ = some (.slice none 0 0) := (row_cell hr h5).1
  clear hw1 hr h5
  go_wp2_with fail
  go_loopw [3, 4] (fun v i wr => v = .int .i64 0 ∧ i = .int .i64 0 ∧ wr = w1) (fun _ _ _ => 0)
  case atStart => exact ⟨rfl, rfl, rfl⟩
  case round =>
    obtain ⟨rfl, rfl, rfl⟩ := hrel
    go_wp2_with fail
    go_ret
    exact ⟨rfl, hB1.out⟩

set_option maxHeartbeats 2000000 in
set_option maxRecDepth 100000 in
theorem stmts1 (w : World) (c : Cl) (mA : Option Addr) (mc : Nat) (m : Me) (bA : Option Addr) (bc : Nat) (s : St) (h5 : c.cells[5]? = some (.slice mA 1 mc)) (hl : Lies w 17 Me.cells mA [m]) (h15 : m.cells[15]? = some (.slice bA 1 bc)) (hb : Lies w 23 St.cells bA [s])
    (hs : ∀ W, Gives Tryz.prog 11 #[.agg s.cells.toArray] W (.int .i64 1)) : Gives Tryz.prog 26 #[.agg c.cells.toArray] w (.int .i64 1) := by
  refine Gives.mk ?_
  go_enter Tryz.func26, Tryz.ntmps26
  go_upto_region 1 with fail
  obtain ⟨w1, hw1⟩ : ∃ w1, w1 = w.alloc (.cells c.cells.toArray 35) := ⟨_, rfl⟩
  rw [← hw1]
  have hB1 : Hid (Below w.heap.size w w1) := by
    show Below _ _ _
    rw [hw1]
    exact (Below.refl _ _).alloc (Nat.le_refl _) _
  have hr : Hid (w1.heap[w.heap.size]? = some (.cells c.cells.toArray 35 (0, 0))) := by show _ = _; rw [hw1]; exact heap_alloc_new _ _
  have hL1 := hl.below hB1.out
  have hL2 := hb.below hB1.out
  obtain ⟨mb, mo, rfl, hmb, hmc⟩ := hL1 0 (by simp)
  obtain ⟨bb, bo, rfl, hbb, hbr⟩ := hL2 0 (by simp)
  simp only [List.getElem_cons_zero, Nat.zero_mul, Nat.add_zero] at hmc hbr
  have HC : Hid (∀ x : Ext w1, x.val.cell? ⟨w.heap.size, 5, none⟩ = some (.slice (some ⟨mb, mo, none⟩) 1 mc) ∧ x.val.cell? ⟨mb, mo + 15, none⟩ = some (.slice (some ⟨bb, bo, none⟩) 1 bc) ∧ x.val.rangeAt bb bo s.cells) := fun x =>
    ⟨(row_cell (row_up x hr.out) h5).1, (x.cell hmb).trans (hmc 15 _ h15), fun j u hj => (x.cell hbb).trans (hbr j u hj)⟩
  have HS := hide hs
  unfold Gives at HS
  clear hw1 hr h5 hL1 hL2 hmc hbr hl hb h15 hs hmb hbb
  go_wp2_with fail
  go_loopw [3, 4] (fun v i wr => ∃ x : Ext w1, wr = x.val ∧ ((v = .int .i64 0 ∧ i = .int .i64 0) ∨ (v = .int .i64 1 ∧ i = .int .i64 1))) (fun _ i _ => 1 - (intOf i).toNat)
  case atStart => exact ⟨Ext.here w1, rfl, .inl ⟨rfl, rfl⟩⟩
  case round =>
    obtain ⟨x, rfl, ⟨rfl, rfl⟩ | ⟨rfl, rfl⟩⟩ := hrel
    · obtain ⟨c1, c2, c3⟩ := HC.out x
      clear c3
      go_wp2_with fail
      go_loopw [3, 5] (fun v i wr => ∃ x : Ext w1, wr = x.val ∧ ((v = .int .i64 0 ∧ i = .int .i64 0) ∨ (v = .int .i64 1 ∧ i = .int .i64 1))) (fun _ i _ => 1 - (intOf i).toNat)
      case atStart => exact ⟨x, rfl, .inl ⟨rfl, rfl⟩⟩
      case round =>
        clear c1 c2
        obtain ⟨x2, rfl, ⟨rfl, rfl⟩ | ⟨rfl, rfl⟩⟩ := hrel
        · obtain ⟨c1, c2, c3⟩ := HC.out x2
          have hrs := hide c3
          clear c3
          go_wp2_with (first | (refine wpList_load_mid rfl 50 (.tmp 32) rfl bb bo rfl s.cells _ hrs.out Tryz.underlying50 rfl (by rw [St.cells_len]; kernel_rfl) ?_) | (go_at_call 11; (with_reducible refine (HS.out _).mono ?_); rintro _ _ ⟨y, rfl, rfl⟩))
          obtain ⟨z, hz⟩ := x2.over y
          rw [hz]
          go_wp2_with fail
          go_roundw
          case rel => exact ⟨z, rfl, .inr ⟨rfl, rfl⟩⟩
          case measure => simp [intOf]
        · obtain ⟨c1, c2, c3⟩ := HC.out x2
          clear c3
          go_wp2_with fail
          go_roundw
          case rel => exact ⟨x2, rfl, .inr ⟨rfl, rfl⟩⟩
          case measure => simp [intOf]
    · obtain ⟨c1, c2, c3⟩ := HC.out x
      clear c3 c2
      go_wp2_with fail
      go_ret
      exact ⟨rfl, hB1.out.trans (x.below.mono hB1.out.size)⟩
end Go.Proofs.YtmpdmelkbemabaaGreat
set_option linter.unusedSimpArgs false
set_option linter.unusedVariables false
namespace Go.Proofs.YtmpdmelkbemabaaGreat
open Go.RowKit Go.Proofs.Grow

/-- What a class of the example holds lies in memory. -/
structure ClOk (C : Cl) (X : World) : Prop where
  f : Lies X 13 Va.cells C.fA C.fields
  m : Lies X 17 Me.cells C.mA C.methods
  l : ∀ m ∈ C.methods, Lies X 13 Va.cells m.lA m.locals
  b : ∀ m ∈ C.methods, Lies X 23 St.cells m.bA m.body
/-- The blocks of what it holds. -/
def BlkC (p : Nat → Prop) (C : Cl) : Prop := (∀ a, C.fA = some a → p a.block) ∧ (∀ a, C.mA = some a → p a.block) ∧ ∀ m ∈ C.methods, (∀ a, m.lA = some a → p a.block) ∧ ∀ a, m.bA = some a → p a.block
theorem BlkC.mono {p q : Nat → Prop} {C : Cl} (h : BlkC p C) (hpq : ∀ b, p b → q b) : BlkC q C := ⟨fun a e => hpq _ (h.1 a e), fun a e => hpq _ (h.2.1 a e), fun m hm => ⟨fun a e => hpq _ ((h.2.2 m hm).1 a e), fun a e => hpq _ ((h.2.2 m hm).2 a e)⟩⟩
theorem ClOk.into {C : Cl} {X Y : World} (h : ClOk C X) (hy : ∃ y : Ext X, y.val = Y) : ClOk C Y := by
  obtain ⟨y, rfl⟩ := hy
  exact ⟨h.f.ext y, h.m.ext y, fun m hm => (h.l m hm).ext y, fun m hm => (h.b m hm).ext y⟩
theorem ClOk.set {C : Cl} {X : World} {g : Nat} (h : ClOk C X) (hb : BlkC (fun b => b ≠ g) C) (o : Nat) (vs : List Value) : ClOk C (X.setCells g o vs) :=
  ⟨h.f.setCells hb.1 o vs, h.m.setCells hb.2.1 o vs, fun m hm => (h.l m hm).setCells (hb.2.2 m hm).1 o vs, fun m hm => (h.b m hm).setCells (hb.2.2 m hm).2 o vs⟩
theorem built_cl9 (cp : Int) : Tryz.prog.built 35 [(6, .int .i64 cp)] = some (exCl ⟨#[]⟩ none 0 [] none 0 [] cp).cells.toArray := by kernel_rfl

set_option maxHeartbeats 40000000 in
set_option maxRecDepth 100000 in
theorem class_ex (w : World) (T : Value) (cn x0 : ByteArray) (cp k0 p1 : Int) (F : Int → Cl → Prop) (hF3 : F 3 (exCl cn none 0 [] none 0 [] cp)) (hlo : ∀ i C, F i C → 3 ≤ i ∧ i ≤ 20) (h5 : ∀ i C, F i C → i ≠ 20 → C.cells[5]? = some (.slice none 0 0))
    (ht0 : ∀ W, Below w.heap.size w W → Gives Tryz.prog 23 #[T, .int .i64 0] W (.agg #[.int .i64 k0, .string x0, .int .i64 cp]))
    (ht1 : ∀ W, Below w.heap.size w W → Gives Tryz.prog 23 #[T, .int .i64 1] W (.agg #[.int .i64 1, .string cn, .int .i64 p1]))
    (hlt : ∀ W, Below w.heap.size w W → Gives Tryz.prog 24 #[T, .int .i64 2, .string ⟨#[60]⟩] W (.bool false))
    (hex : ∀ W, Below w.heap.size w W → Gives Tryz.prog 24 #[T, .int .i64 2, .string ⟨#[101, 120, 116, 101, 110, 100, 115]⟩] W (.bool false))
    (hob : ∀ W, Below w.heap.size w W → Gives Tryz.prog 24 #[T, .int .i64 2, .string ⟨#[123]⟩] W (.bool true))
    (hcb : ∀ W i C, Below w.heap.size w W → F i C → Gives Tryz.prog 24 #[T, .int .i64 i, .string ⟨#[125]⟩] W (.bool (decide (i = 20))))
    (hmem : ∀ W i C, Below w.heap.size w W → F i C → i ≠ 20 → ClOk C W → Calls Tryz.prog 43 #[T, .int .i64 i, .agg C.cells.toArray, .int .i64 0] W fun e w' => ∃ (y : Ext W) (C' : Cl) (nx : Int), e = .returned (.agg (g9C C' me0 none 0 0 nx).toArray) ∧ w' = y.val ∧ F nx C' ∧ i < nx ∧ ClOk C' y.val ∧ ∀ p : Nat → Prop, BlkC p C → (∀ b, W.heap.size ≤ b → b < y.val.heap.size → p b) → BlkC p C') :
    Calls Tryz.prog 25 #[T, .int .i64 0, .int .i64 0] w fun e w' => ∃ (y : Ext w) (C : Cl), e = .returned (.agg (g9C C me0 none 0 0 21).toArray) ∧ w' = y.val ∧ F 20 C ∧ ClOk C y.val := by
  have HT0 := hide ht0
  have HT1 := hide ht1
  have HLt := hide hlt
  have HEx := hide hex
  have HOb := hide hob
  have HCb := hide hcb
  have HMem := hide hmem
  have HLo := hide hlo
  have H5 := hide h5
  unfold Gives at HT0 HT1 HLt HEx HOb HCb
  clear ht0 ht1 hlt hex hob hcb hmem hlo h5
  have q2 := fld_tk k0 cp x0
  have q1 := fld_tk1 1 p1 cn
  have q0 := fld_tk0 1 p1 cn
  go_enter Tryz.func25, Tryz.ntmps25
  go_upto_region 1 with fail
  change Code.wp _ _ _ _ (w.alloc (.cells (g9C cl0 me0 none 0 0 0).toArray 88))
  obtain ⟨W1, hW1⟩ : ∃ W1, W1 = w.alloc (.cells (g9C cl0 me0 none 0 0 0).toArray 88) := ⟨_, rfl⟩
  have hB : Hid (Below w.heap.size w W1) := by show Below _ _ _; rw [hW1]; exact (Below.refl _ _).alloc (Nat.le_refl _) _
  have hr6 : Hid (W1.heap[w.heap.size]? = some (.cells (g9C cl0 me0 none 0 0 0).toArray 88 (0, 0))) := by show _ = _; rw [hW1]; exact heap_alloc_new w _
  rw [← hW1]
  clear hW1
  go_upto_region 2 with (first | (go_at_call 23; ((with_reducible refine (HT0.out _ hB.out).mono ?_); rintro _ _ ⟨y, rfl, rfl⟩)) | (refine wpList_buildV rfl 35 [(6, .tmp 14)] rfl [(6, .int .i64 cp)] (by kernel_rfl) _ (built_cl9 _) ?_) | (refine wpList_store_new rfl 35 (.tmp 7) (.tmp 15) rfl _ _ (exCl ⟨#[]⟩ none 0 [] none 0 [] cp).cells.toArray _ rfl rfl rfl (by kernel_rfl) rfl (fun u hu => Cl.cells_one _ u (by simpa using hu)) ?_))
  obtain ⟨g7, hg7⟩ : ∃ g, g = y.val.heap.size := ⟨_, rfl⟩
  obtain ⟨W2, hW2⟩ : ∃ W, W = y.val.alloc (.cells (exCl ⟨#[]⟩ none 0 [] none 0 [] cp).cells.toArray 35) := ⟨_, rfl⟩
  have hBx := hB.out.trans (y.below.mono hB.out.size)
  have hB2 : Hid (Below w.heap.size w W2) := by show Below _ _ _; rw [hW2]; exact hBx.alloc hBx.size _
  have hr6b : Hid (W2.heap[w.heap.size]? = some (.cells (g9C cl0 me0 none 0 0 0).toArray 88 (0, 0))) := by show _ = _; rw [hW2]; exact (Below.heap_alloc _ _ _ (row_lt (row_up y hr6.out))).trans (row_up y hr6.out)
  have hr7 : Hid (W2.heap[g7]? = some (.cells (exCl ⟨#[]⟩ none 0 [] none 0 [] cp).cells.toArray 35 (0, 0))) := by show _ = _; rw [hW2, hg7]; exact heap_alloc_new _ _
  have hg7w : w.heap.size < g7 := by rw [hg7]; exact row_lt (row_up y hr6.out)
  rw [← hW2, ← hg7]
  clear hW2 hg7 hBx hB hr6 HT0 q2 y
  go_upto_region 4 with (go_at_call 23; ((with_reducible refine (HT1.out _ hB2.out).mono ?_); rintro _ _ ⟨y, rfl, rfl⟩))
  have hB3 := hide (hB2.out.trans (y.below.mono hB2.out.size))
  have hr6c := hide (row_up y hr6b.out)
  have hr7c := hide (row_up y hr7.out)
  generalize y.val = W3 at hB3 hr6c hr7c ⊢
  clear hB2 hr6b hr7 y
  go_upto_region 5 with (go_at_call 23; ((with_reducible refine (HT1.out _ hB3.out).mono ?_); rintro _ _ ⟨y, rfl, rfl⟩; have hr7y := hide (row_up y hr7c.out); obtain ⟨e0, f0⟩ := row_cell hr7y.out (j := 0) (u := .string ⟨#[]⟩) rfl))
  have hBy := hB3.out.trans (y.below.mono hB3.out.size)
  have hB4 : Hid (Below w.heap.size w (y.val.setCell ⟨g7, 0, none⟩ (.string cn))) := hBy.setCell (p := ⟨g7, 0, none⟩) (show w.heap.size ≤ g7 by omega) _
  have hr6d := hide ((Below.heap_setCell y.val ⟨g7, 0, none⟩ (.string cn) w.heap.size (show w.heap.size ≠ g7 by omega)).trans (row_up y hr6c.out))
  have hr7d : Hid ((y.val.setCell ⟨g7, 0, none⟩ (.string cn)).heap[g7]? = some (.cells (exCl cn none 0 [] none 0 [] cp).cells.toArray 35 (0, 0))) := by
    show _ = _
    rw [row_store hr7y.out 0 (.string cn)]
    rfl
  generalize (y.val.setCell ⟨g7, 0, none⟩ (.string cn)) = W4 at hB4 hr6d hr7d ⊢
  clear hBy hB3 hr6c hr7c hr7y e0 f0 HT1 q0 q1 y
  go_wp2_with (go_at_call 24; first | ((with_reducible refine (HLt.out _ hB4.out).mono ?_); rintro _ _ ⟨y, rfl, rfl⟩; have hBy := hide (hB4.out.trans (y.below.mono hB4.out.size))) | ((with_reducible refine (HEx.out _ hBy.out).mono ?_); rintro _ _ ⟨z, rfl, rfl⟩; have hBz := hide (hBy.out.trans (z.below.mono hBy.out.size))) | ((with_reducible refine (HOb.out _ hBz.out).mono ?_); rintro _ _ ⟨v, rfl, rfl⟩))
  have hB5 := hide (hBz.out.trans (v.below.mono hBz.out.size))
  have hr6e := hide (row_up v (row_up z (row_up y hr6d.out)))
  have hr7e := hide (row_up v (row_up z (row_up y hr7d.out)))
  generalize v.val = W5 at hB5 hr6e hr7e ⊢
  clear hBy hBz hB4 hr6d hr7d HLt HEx HOb v z y
  go_loopw [1] (fun s1 wr => ∃ (i : Int) (C : Cl), s1 = .int .i64 i ∧ F i C ∧ Hid (Below w.heap.size w wr) ∧ Hid (wr.heap[w.heap.size]? = some (.cells (g9C cl0 me0 none 0 0 0).toArray 88 (0, 0))) ∧ Hid (wr.heap[g7]? = some (.cells C.cells.toArray 35 (0, 0))) ∧ Hid (ClOk C wr) ∧ Hid (BlkC (fun b => b < wr.heap.size ∧ b ≠ w.heap.size ∧ b ≠ g7) C)) (fun s1 _ => (20 - intOf s1).toNat)
  case atStart => exact ⟨3, _, rfl, hF3, hB5, hr6e, hr7e, ⟨Lies.nil, Lies.nil, fun m hm => (by cases hm), fun m hm => (by cases hm)⟩, ⟨fun a e => (by cases e), fun a e => (by cases e), fun m hm => (by cases hm)⟩⟩
  case round =>
    clear hB5 hr6e hr7e
    obtain ⟨i, C, rfl, hFi, hB6, hr6f, hr7f, hok5, hblk5⟩ := hrel
    by_cases hi20 : i = 20
    · subst hi20
      have HC1 : Hid (∀ W, Below w.heap.size w W → Calls Tryz.prog 24 #[T, .int .i64 20, .string ⟨#[125]⟩] W fun e w' => ∃ x : Ext W, e = .returned (.bool true) ∧ w' = x.val) := fun W hW => HCb.out W 20 C hW hFi
      clear HCb HMem
      have hr7y : Hid (∀ y : Ext wr, y.val.heap[g7]? = some (.cells C.cells.toArray 35 (0, 0))) := fun y => row_up y hr7f.out
      have harm : Hid (∀ y : Ext wr, y.val.there w.heap.size 0 29) := fun y => row_there (row_up y hr6f.out) 29 (Nat.le_refl _)
      go_wp2_with (first | (go_at_call 24; ((with_reducible refine (HC1.out _ hB6.out).mono ?_); rintro _ _ ⟨y, rfl, rfl⟩)) | (refine wpList_load_row rfl 35 (.tmp 7) rfl g7 rfl 35 C.cells.toArray (0, 0) _ (hr7y.out y) Tryz.underlying35 rfl (by rw [List.size_toArray, Cl.cells_len]; kernel_rfl) ?_) | (refine wpList_buildV rfl 88 [(0, .tmp 96), (4, .tmp 98)] rfl [(0, .agg C.cells.toArray), (4, .int .i64 21)] (by kernel_rfl) _ (built_g9c _ _) ?_) | (refine wpList_store_mid rfl 88 (.tmp 6) (.tmp 99) rfl w.heap.size 0 (g9C C me0 none 0 0 21).toArray rfl rfl (harm.out _) (by kernel_rfl) (all_oneCell_toArray (g9C_one _ _ _ _ _ _)) ?_))
      have hrow := hide (row_fill (cs := (g9C C me0 none 0 0 21).toArray) (row_up y hr6f.out) rfl)
      refine bodyPost_ret (v := .agg (g9C C me0 none 0 0 21).toArray) (results_cell_row (p := 6) (ty := 88) Tryz.results25 _ _ w.heap.size 88 _ (0, 0) _ rfl hrow.out Tryz.underlying88 rfl (by kernel_rfl)) rfl ?_
      have hBy := hB6.out.trans (y.below.mono hB6.out.size)
      obtain ⟨x', hx'⟩ := Ext.of (hBy.trans (setCells_below (Nat.le_refl _) (g9C C me0 none 0 0 21) 0 _))
      refine ⟨x', C, rfl, hx', hFi, ?_⟩
      rw [← hx']
      exact (hok5.out.into ⟨y, rfl⟩).set (hblk5.out.mono fun b hb => hb.2.1) 0 _
    · have hi20b : decide (i = 20) = false := by simp [hi20]
      have HC0 : Hid (∀ W, Below w.heap.size w W → Calls Tryz.prog 24 #[T, .int .i64 i, .string ⟨#[125]⟩] W fun e w' => ∃ x : Ext W, e = .returned (.bool false) ∧ w' = x.val) := fun W hW => by rw [← hi20b]; exact HCb.out W i C hW hFi
      have HS : Hid (∀ W, Calls Tryz.prog 26 #[.agg C.cells.toArray] W fun e w' => ∃ x : Ext W, e = .returned (.int .i64 0) ∧ w' = x.val) := fun W => stmts0 W C (H5.out i C hFi hi20)
      clear HCb hi20b
      go_upto_region 22 with (go_at_call 24; ((with_reducible refine (HC0.out _ hB6.out).mono ?_); rintro _ _ ⟨y, rfl, rfl⟩))
      have hB7 := hide (hB6.out.trans (y.below.mono hB6.out.size))
      have hr6 := hide (row_up y hr6f.out)
      have hr7 := hide (row_up y hr7f.out)
      have hok6 := hide (hok5.out.into ⟨y, rfl⟩)
      have hblk : Hid (BlkC (fun b => b < y.val.heap.size ∧ b ≠ w.heap.size ∧ b ≠ g7) C) := hblk5.out.mono fun b hb => ⟨Nat.lt_of_lt_of_le hb.1 y.below.size, hb.2⟩
      generalize y.val = W6 at hB7 hr6 hr7 hok6 hblk ⊢
      clear HC0 hB6 hr6f hr7f hok5 hblk5 y
      have hB6 := hB7
      clear hB7
      go_cut [10] (fun s10 wx => ∃ (g : Nat) (z : Ext W6) (C' : Cl) (nx : Int), s10 = .pointer (some ⟨g, 0, none⟩) ∧ wx = z.val ∧ Hid (z.val.heap[g]? = some (.cells (g9C C' me0 none 0 0 nx).toArray 88 (0, 0))) ∧ F nx C' ∧ i < nx ∧ Hid (ClOk C' z.val) ∧ Hid (BlkC (fun b => b < z.val.heap.size ∧ b ≠ w.heap.size ∧ b ≠ g7) C'))
      case first =>
        let S : World → Prop := fun X => Below W6.heap.size W6 X
        have hS0 : S W6.drew := (Below.refl _ _).drew
        have hSh : S W6 := Below.refl _ _
        have hS := hS0
        have hw0 : IntKind.i64.wrap ((0 : Int) + 0) = 0 := rfl
        refine wp_region_till S 99 (by kernel_rfl) ?_
        simp only [List.size_toArray, List.length_cons, List.length_nil, Nat.reduceAdd]
        refine AnyTill.takeG (i := 0) (v := ?_) rfl (by kernel_rfl) (fun _ _ _ h => h) hS ?_ rfl ?_
        rotate_left
        · intro X hSX
          skip
          go_simp
          all_goals with_reducible rfl
        try simp only [Act.put, List.getElem_toArray, List.getElem_cons_succ, List.getElem_cons_zero, List.setIfInBounds_toArray, List.set_cons_zero, List.set_cons_succ]
        refine AnyTill.takeG (i := 1) (v := ?_) rfl (by kernel_rfl) (fun _ _ _ h => h) hS ?_ rfl ?_
        rotate_left
        · intro X hSX
          skip
          go_simp
          all_goals with_reducible rfl
        try simp only [Act.put, List.getElem_toArray, List.getElem_cons_succ, List.getElem_cons_zero, List.setIfInBounds_toArray, List.set_cons_zero, List.set_cons_succ]
        refine AnyTill.takeG (i := 2) (v := .agg (C.cells).toArray) rfl (by kernel_rfl) (fun _ _ _ h => h) hS (fun X hX => run_load_block (g := g7) rfl rfl ((hX.block _ (row_lt hr7.out)).trans hr7.out) Tryz.underlying35 rfl (by rw [List.size_toArray, Cl.cells_len]; kernel_rfl)) rfl ?_
        try simp only [Act.put, List.getElem_toArray, List.getElem_cons_succ, List.getElem_cons_zero, List.setIfInBounds_toArray, List.set_cons_zero, List.set_cons_succ]
        refine AnyTill.takeG (i := 3) (v := ?_) rfl (by kernel_rfl) (fun _ _ _ h => h) hS ?_ rfl ?_
        rotate_left
        · intro X hSX
          skip
          go_simp
          all_goals with_reducible rfl
        try simp only [Act.put, List.getElem_toArray, List.getElem_cons_succ, List.getElem_cons_zero, List.setIfInBounds_toArray, List.set_cons_zero, List.set_cons_succ]
        refine AnyTill.takeG (i := 4) (v := .agg (C.cells).toArray) rfl (by kernel_rfl) (fun _ _ _ h => h) hS (fun X hX => run_load_block (g := g7) rfl rfl ((hX.block _ (row_lt hr7.out)).trans hr7.out) Tryz.underlying35 rfl (by rw [List.size_toArray, Cl.cells_len]; kernel_rfl)) rfl ?_
        try simp only [Act.put, List.getElem_toArray, List.getElem_cons_succ, List.getElem_cons_zero, List.setIfInBounds_toArray, List.set_cons_zero, List.set_cons_succ]
        refine AnyTill.twoK (i := 5) (j := 8) rfl rfl (by kernel_rfl) rfl rfl ?_ ?_
        · intro K hK
          go_simp
          refine (HS.out _).mono ?_
          rintro _ _ ⟨y1, rfl, rfl⟩
          have hS1 : S y1.val := hS0.trans (y1.below.mono hS0.size)
          refine hK _ _ (fun _ => hS1) ?_
          clear hK K
          have hS := hS1
          refine AnyTill.takeG (i := 6) (v := ?_) rfl (by kernel_rfl) (fun _ _ _ h => h) hS ?_ rfl ?_
          rotate_left
          · intro X hSX
            skip
            go_simp
            all_goals with_reducible rfl
          try simp only [Act.put, List.getElem_toArray, List.getElem_cons_succ, List.getElem_cons_zero, List.setIfInBounds_toArray, List.set_cons_zero, List.set_cons_succ]
          refine AnyTill.twoK (i := 7) (j := 8) rfl rfl (by kernel_rfl) rfl rfl ?_ ?_
          · intro K hK
            go_simp
            refine (HMem.out y1.val i C (hB6.out.trans (hS1.mono hB6.out.size)) hFi hi20 (hok6.out.into ⟨⟨_, hS1⟩, rfl⟩)).mono ?_
            rintro _ _ ⟨y2, C', nx, rfl, rfl, f1, f2, f3, f4⟩
            have hS2 : S y2.val := hS1.trans (y2.below.mono hS1.size)
            refine hK _ _ (fun _ => hS2) ?_
            clear hK K
            refine AnyTill.oneK (i := 8) rfl (by kernel_rfl) rfl ?_
            intro K hK
            go_simp
            generalize hcs : (Obj.cells _ 88) = ob
            obtain ⟨cs, hcs2, hcz⟩ : ∃ cs : Array Value, ob = .cells cs 88 (0, 0) ∧ cs.size = 29 := ⟨_, hcs.symm, rfl⟩
            clear hcs
            subst hcs2
            have hcz9 := hide hcz
            have hS3 : S (y2.val.alloc (Obj.cells cs 88 (0, 0))) := hS2.alloc hS2.size _
            refine hK _ _ (fun _ => hS3) ?_
            clear hK K
            have hnew : (y2.val.alloc (Obj.cells cs 88 (0, 0))).heap[y2.val.heap.size]? = some (.cells cs 88 (0, 0)) := heap_alloc_new _ _
            have hth : Hid ((y2.val.alloc (Obj.cells cs 88 (0, 0))).there y2.val.heap.size 0 29) := row_there hnew 29 (by omega)
            have hrow : Hid ((y2.val.alloc (Obj.cells cs 88 (0, 0))).heap[y2.val.heap.size]? = some (.cells cs 88 (0, 0))) := hnew
            have hgo : Below y2.val.heap.size y2.val ((y2.val.alloc (Obj.cells cs 88 (0, 0))).setCells y2.val.heap.size 0 (g9C C' me0 none 0 0 nx).toArray.toList) := ((Below.refl _ _).alloc (Nat.le_refl _) _).trans (setCells_below (Nat.le_refl _) _ _ _)
            have hSe : Hid (Below W6.heap.size W6 ((y2.val.alloc (Obj.cells cs 88 (0, 0))).setCells y2.val.heap.size 0 (g9C C' me0 none 0 0 nx).toArray.toList)) := hS2.trans (hgo.mono hS2.size)
            have hok : Hid (ClOk C' ((y2.val.alloc (Obj.cells cs 88 (0, 0))).setCells y2.val.heap.size 0 (g9C C' me0 none 0 0 nx).toArray.toList)) := f3.into ⟨⟨_, hgo⟩, rfl⟩
            have hbk : Hid (BlkC (fun b => b < ((y2.val.alloc (Obj.cells cs 88 (0, 0))).setCells y2.val.heap.size 0 (g9C C' me0 none 0 0 nx).toArray.toList).heap.size ∧ b ≠ w.heap.size ∧ b ≠ g7) C') := by
              have e1 := hgo.size
              have e2 := y2.below.size
              have e3 := hS1.size
              have e4 := row_lt hr7.out
              exact f4 _ (hblk.out.mono fun b hb => ⟨by omega, hb.2⟩) (fun b h1 h2 => ⟨by omega, by omega, by omega⟩)
            clear hnew hcz hgo hS1 hS2 hS3 f3 f4
            refine AnyTill.oneK (i := 9) rfl (by kernel_rfl) rfl ?_
            intro K hK
            refine wp_store_mid 88 (.tmp 10) (.tmp 86) rfl y2.val.heap.size 0 (g9C C' me0 none 0 0 nx).toArray rfl rfl hth.out (by kernel_rfl) (all_oneCell_toArray (g9C_one _ _ _ _ _ _)) ?_
            refine hK _ _ (fun _ => hSe.out) ?_
            clear hK K
            refine AnyTill.done (by kernel_rfl) ?_ _
            go_wp2_with fail
            go_meet
            case rel =>
              obtain ⟨z, hz⟩ := Ext.of hSe.out
              refine ⟨y2.val.heap.size, z, C', nx, rfl, hz, ?_, f1, f2, ?_, ?_⟩
              · show _ = _
                rw [← hz]
                exact row_fill (cs := (g9C C' me0 none 0 0 nx).toArray) hrow.out (hcz9.out.trans (by rw [List.size_toArray, g9C_len]))
              · show ClOk _ _
                rw [← hz]
                exact hok.out
              · show BlkC _ _
                rw [← hz]
                exact hbk.out
          · intro K hK
            go_simp
            generalize hcs : (Obj.cells _ 88) = ob
            obtain ⟨cs, hcs2, hcz⟩ : ∃ cs : Array Value, ob = .cells cs 88 (0, 0) ∧ cs.size = 29 := ⟨_, hcs.symm, rfl⟩
            clear hcs
            subst hcs2
            have hcz9 := hide hcz
            have hS3 : S (y1.val.alloc (Obj.cells cs 88 (0, 0))) := hS1.alloc hS1.size _
            refine hK _ _ (fun _ => hS3) ?_
            clear hK K
            have hnew : (y1.val.alloc (Obj.cells cs 88 (0, 0))).heap[y1.val.heap.size]? = some (.cells cs 88 (0, 0)) := heap_alloc_new _ _
            refine AnyTill.oneK (i := 7) rfl (by kernel_rfl) rfl ?_
            intro K hK
            go_simp
            refine (HMem.out (y1.val.alloc (Obj.cells cs 88 (0, 0))) i C (hB6.out.trans (hS3.mono hB6.out.size)) hFi hi20 (hok6.out.into ⟨⟨_, hS3⟩, rfl⟩)).mono ?_
            rintro _ _ ⟨y2, C', nx, rfl, rfl, f1, f2, f3, f4⟩
            have hS2 : S y2.val := hS3.trans (y2.below.mono hS3.size)
            refine hK _ _ (fun _ => hS2) ?_
            clear hK K
            have hlt8 : y1.val.heap.size < (y1.val.alloc (Obj.cells cs 88 (0, 0))).heap.size := by simp
            have hnew2 : y2.val.heap[y1.val.heap.size]? = some (.cells cs 88 (0, 0)) := row_up y2 hnew
            have hth : Hid (y2.val.there y1.val.heap.size 0 29) := row_there hnew2 29 (by omega)
            have hrow : Hid (y2.val.heap[y1.val.heap.size]? = some (.cells cs 88 (0, 0))) := hnew2
            have hSe : Hid (Below W6.heap.size W6 (y2.val.setCells y1.val.heap.size 0 (g9C C' me0 none 0 0 nx).toArray.toList)) := hS2.trans (setCells_below hS1.size _ _ _)
            have hsz9 : (y2.val.setCells y1.val.heap.size 0 (g9C C' me0 none 0 0 nx).toArray.toList).heap.size = y2.val.heap.size := setCells_size _ _ _ _
            have hbq : BlkC (fun b => (b < y2.val.heap.size ∧ b ≠ w.heap.size ∧ b ≠ g7) ∧ b ≠ y1.val.heap.size) C' := by
              have e2 := y2.below.size
              have e3 := hS1.size
              have e4 := row_lt hr7.out
              exact f4 _ (hblk.out.mono fun b hb => ⟨⟨by omega, hb.2⟩, by omega⟩) (fun b h1 h2 => ⟨⟨by omega, by omega, by omega⟩, by omega⟩)
            have hok : Hid (ClOk C' (y2.val.setCells y1.val.heap.size 0 (g9C C' me0 none 0 0 nx).toArray.toList)) := f3.set (hbq.mono fun b hb => hb.2) _ _
            have hbk : Hid (BlkC (fun b => b < (y2.val.setCells y1.val.heap.size 0 (g9C C' me0 none 0 0 nx).toArray.toList).heap.size ∧ b ≠ w.heap.size ∧ b ≠ g7) C') := by
              show BlkC _ _
              rw [hsz9]
              exact hbq.mono fun b hb => hb.1
            clear hnew hnew2 hcz hS1 hS2 hS3 f3 f4 hbq hsz9 hlt8
            refine AnyTill.oneK (i := 9) rfl (by kernel_rfl) rfl ?_
            intro K hK
            refine wp_store_mid 88 (.tmp 10) (.tmp 86) rfl y1.val.heap.size 0 (g9C C' me0 none 0 0 nx).toArray rfl rfl hth.out (by kernel_rfl) (all_oneCell_toArray (g9C_one _ _ _ _ _ _)) ?_
            refine hK _ _ (fun _ => hSe.out) ?_
            clear hK K
            refine AnyTill.done (by kernel_rfl) ?_ _
            go_wp2_with fail
            go_meet
            case rel =>
              obtain ⟨z, hz⟩ := Ext.of hSe.out
              refine ⟨y1.val.heap.size, z, C', nx, rfl, hz, ?_, f1, f2, ?_, ?_⟩
              · show _ = _
                rw [← hz]
                exact row_fill (cs := (g9C C' me0 none 0 0 nx).toArray) hrow.out (hcz9.out.trans (by rw [List.size_toArray, g9C_len]))
              · show ClOk _ _
                rw [← hz]
                exact hok.out
              · show BlkC _ _
                rw [← hz]
                exact hbk.out
        · intro K hK
          go_simp
          generalize hcs : (Obj.cells _ 88) = ob
          obtain ⟨cs, hcs2, hcz⟩ : ∃ cs : Array Value, ob = .cells cs 88 (0, 0) ∧ cs.size = 29 := ⟨_, hcs.symm, rfl⟩
          clear hcs
          subst hcs2
          have hcz9 := hide hcz
          have hS3 : S (W6.alloc (Obj.cells cs 88 (0, 0))).drew := (hSh.alloc hSh.size _).drew
          refine hK _ _ (fun _ => hS3) ?_
          clear hK K
          have hnew : (W6.alloc (Obj.cells cs 88 (0, 0))).drew.heap[W6.heap.size]? = some (.cells cs 88 (0, 0)) := heap_alloc_new _ _
          refine AnyTill.oneK (i := 5) rfl (by kernel_rfl) rfl ?_
          intro K hK
          go_simp
          refine (HS.out _).mono ?_
          rintro _ _ ⟨y1, rfl, rfl⟩
          have hS1 : S y1.val := hS3.trans (y1.below.mono hS3.size)
          refine hK _ _ (fun _ => hS1) ?_
          clear hK K
          have hS := hS1
          refine AnyTill.takeG (i := 6) (v := ?_) rfl (by kernel_rfl) (fun _ _ _ h => h) hS ?_ rfl ?_
          rotate_left
          · intro X hSX
            skip
            go_simp
            all_goals with_reducible rfl
          try simp only [Act.put, List.getElem_toArray, List.getElem_cons_succ, List.getElem_cons_zero, List.setIfInBounds_toArray, List.set_cons_zero, List.set_cons_succ]
          refine AnyTill.oneK (i := 7) rfl (by kernel_rfl) rfl ?_
          intro K hK
          go_simp
          refine (HMem.out y1.val i C (hB6.out.trans (hS1.mono hB6.out.size)) hFi hi20 (hok6.out.into ⟨⟨_, hS1⟩, rfl⟩)).mono ?_
          rintro _ _ ⟨y2, C', nx, rfl, rfl, f1, f2, f3, f4⟩
          have hS2 : S y2.val := hS1.trans (y2.below.mono hS1.size)
          refine hK _ _ (fun _ => hS2) ?_
          clear hK K
          have hlt8 : W6.heap.size < (W6.alloc (Obj.cells cs 88 (0, 0))).drew.heap.size := by simp
          have hnew2 : y2.val.heap[W6.heap.size]? = some (.cells cs 88 (0, 0)) := row_up y2 (row_up y1 hnew)
          have hth : Hid (y2.val.there W6.heap.size 0 29) := row_there hnew2 29 (by omega)
          have hrow : Hid (y2.val.heap[W6.heap.size]? = some (.cells cs 88 (0, 0))) := hnew2
          have hSe : Hid (Below W6.heap.size W6 (y2.val.setCells W6.heap.size 0 (g9C C' me0 none 0 0 nx).toArray.toList)) := hS2.trans (setCells_below (Nat.le_refl _) _ _ _)
          have hsz9 : (y2.val.setCells W6.heap.size 0 (g9C C' me0 none 0 0 nx).toArray.toList).heap.size = y2.val.heap.size := setCells_size _ _ _ _
          have hbq : BlkC (fun b => (b < y2.val.heap.size ∧ b ≠ w.heap.size ∧ b ≠ g7) ∧ b ≠ W6.heap.size) C' := by
            have e2 := y2.below.size
            have e3 : (W6.alloc (Obj.cells cs 88 (0, 0))).drew.heap.size ≤ y1.val.heap.size := y1.below.size
            have e4 := row_lt hr7.out
            exact f4 _ (hblk.out.mono fun b hb => ⟨⟨by omega, hb.2⟩, by omega⟩) (fun b h1 h2 => ⟨⟨by omega, by omega, by omega⟩, by omega⟩)
          have hok : Hid (ClOk C' (y2.val.setCells W6.heap.size 0 (g9C C' me0 none 0 0 nx).toArray.toList)) := f3.set (hbq.mono fun b hb => hb.2) _ _
          have hbk : Hid (BlkC (fun b => b < (y2.val.setCells W6.heap.size 0 (g9C C' me0 none 0 0 nx).toArray.toList).heap.size ∧ b ≠ w.heap.size ∧ b ≠ g7) C') := by
            show BlkC _ _
            rw [hsz9]
            exact hbq.mono fun b hb => hb.1
          clear hnew hnew2 hcz hS1 hS2 hS3 f3 f4 hbq hsz9 hlt8
          refine AnyTill.oneK (i := 9) rfl (by kernel_rfl) rfl ?_
          intro K hK
          refine wp_store_mid 88 (.tmp 10) (.tmp 86) rfl W6.heap.size 0 (g9C C' me0 none 0 0 nx).toArray rfl rfl hth.out (by kernel_rfl) (all_oneCell_toArray (g9C_one _ _ _ _ _ _)) ?_
          refine hK _ _ (fun _ => hSe.out) ?_
          clear hK K
          refine AnyTill.done (by kernel_rfl) ?_ _
          go_wp2_with fail
          go_meet
          case rel =>
            obtain ⟨z, hz⟩ := Ext.of hSe.out
            refine ⟨W6.heap.size, z, C', nx, rfl, hz, ?_, f1, f2, ?_, ?_⟩
            · show _ = _
              rw [← hz]
              exact row_fill (cs := (g9C C' me0 none 0 0 nx).toArray) hrow.out (hcz9.out.trans (by rw [List.size_toArray, g9C_len]))
            · show ClOk _ _
              rw [← hz]
              exact hok.out
            · show BlkC _ _
              rw [← hz]
              exact hbk.out
      case rest =>
        obtain ⟨g, z, C', nx, rfl, rfl, hrg, hF2, hin, hok2, hblk2⟩ := hcut
        have hr6z := hide (row_up z hr6.out)
        have hr7z := hide (row_up z hr7.out)
        have hBz := hide (hB6.out.trans (z.below.mono hB6.out.size))
        generalize z.val = W8 at hrg hok2 hblk2 hr6z hr7z hBz ⊢
        have HLo2 := HLo.out nx C' hF2
        clear hB6 hr6 hr7 hok6 hblk HS HMem z
        have d27 : W8.cell? ⟨g, 27, none⟩ = some (.int .i64 0) := (row_cell hrg.out (j := 27) rfl).1
        have d26 : W8.cell? ⟨g, 26, none⟩ = some (.int .i64 nx) := (row_cell hrg.out (j := 26) rfl).1
        go_upto_region 25 with fail
        have hgg7 : Hid (g ≠ g7) := fun e => by
          have h1 := hrg.out
          rw [e] at h1
          have h2 := hr7z.out
          rw [h1] at h2
          injection h2 with h2
          injection h2 with h2 h3
          exact absurd h3 (by decide)
        have hrC : Hid (W8.rangeAt g 0 C'.cells) := fun j u hj => (row_cell hrg.out (j := 0 + j) (by rw [Nat.zero_add]; exact g9_cl _ _ _ _ _ _ hj)).1
        have hth : Hid (W8.there g7 0 C'.cells.toArray.size) := row_there hr7z.out _ (by rw [List.size_toArray, List.size_toArray, Cl.cells_len, Cl.cells_len]; exact Nat.le_refl _)
        clear d27 d26
        go_upto_region 26 with (first | (refine wpList_load_mid rfl 35 (.tmp 92) rfl g 0 rfl C'.cells _ hrC.out Tryz.underlying35 rfl (by rw [Cl.cells_len]; kernel_rfl) ?_) | (refine wpList_store_mid rfl 35 (.tmp 7) (.tmp 93) rfl g7 0 C'.cells.toArray rfl rfl hth.out (by rw [List.size_toArray, Cl.cells_len]; kernel_rfl) (all_oneCell_toArray (Cl.cells_one _)) ?_))
        have hB9 := hide (hBz.out.trans (setCells_below (show w.heap.size ≤ g7 by omega) C'.cells.toArray.toList 0 W8))
        have hr6g := hide ((setCells_other g7 C'.cells.toArray.toList 0 W8 w.heap.size (by omega)).trans hr6z.out)
        have hr7g : Hid ((W8.setCells g7 0 C'.cells.toArray.toList).heap[g7]? = some (.cells C'.cells.toArray 35 (0, 0))) := row_fill hr7z.out (by rw [List.size_toArray, List.size_toArray, Cl.cells_len, Cl.cells_len])
        have hrg2 := hide ((setCells_other g7 C'.cells.toArray.toList 0 W8 g hgg7.out).trans hrg.out)
        have hok3 := hide (hok2.out.set (g := g7) (hblk2.out.mono fun b hb => hb.2.2) 0 C'.cells.toArray.toList)
        have hbk3 : Hid (BlkC (fun b => b < (W8.setCells g7 0 C'.cells.toArray.toList).heap.size ∧ b ≠ w.heap.size ∧ b ≠ g7) C') := by
          show BlkC _ _
          rw [setCells_size]
          exact hblk2.out
        generalize (W8.setCells g7 0 C'.cells.toArray.toList) = W9 at hB9 hr6g hr7g hrg2 hok3 hbk3 ⊢
        clear hrC hth hrg hok2 hblk2 hr6z hr7z hBz
        have d26 : W9.cell? ⟨g, 26, none⟩ = some (.int .i64 nx) := (row_cell hrg2.out (j := 26) rfl).1
        go_wp2_with fail
        go_roundw
        case rel => exact ⟨nx, C', rfl, hF2, hB9, hr6g, hr7g, hok3, hbk3⟩
        case measure =>
          rw [intOf_int, intOf_int]
          omega
end Go.Proofs.YtmpdmelkbemabaaGreat
