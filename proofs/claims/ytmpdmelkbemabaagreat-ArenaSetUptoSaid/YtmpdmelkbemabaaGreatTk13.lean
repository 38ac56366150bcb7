/- A statement that makes an object, read. -/
import Derived.Test.YtmpdmelkbemabaaGreatTk7
import Derived.Test.YtmpdmelkbemabaaGreatTwoG
set_option linter.unusedSimpArgs false
set_option linter.unusedVariables false
namespace Go.Proofs.YtmpdmelkbemabaaGreat
open Go.RowKit Go.Proofs.Grow

theorem isT_name {t : Tk} (h : t.k = 1) (s : ByteArray) : isT t s = false := by
  unfold isT; rw [h]; rfl
def ownW : List ByteArray := [⟨#[114, 101, 112]⟩, ⟨#[112, 101, 101, 114]⟩, ⟨#[]⟩, ⟨#[119, 111, 114, 108, 100]⟩, ⟨#[97, 110, 121]⟩, ⟨#[117, 110, 105, 113, 117, 101]⟩]

set_option maxHeartbeats 2000000 in
set_option maxRecDepth 100000 in
theorem word_name (t : Tk) (h : t.k = 1) (w : World) : Gives Tryz.prog 67 #[.agg t.cells.toArray] w (.agg #[.int .i64 0, .int .i64 0]) := by
  refine Gives.mk ?_
  have HI := hide (fun (s : ByteArray) (W : World) => is_any t s W)
  have HF := hide (fun s => isT_name h s)
  obtain ⟨k, tx, pos⟩ := t
  simp only [Tk.cells] at HI ⊢
  clear h
  go_enter Tryz.func67, Tryz.ntmps67
  go_wp2_with fail
  obtain ⟨w1, hw1⟩ : ∃ w1, w1 = ((w.alloc (.cells #[.int .i64 k, .string tx, .int .i64 pos] 84)).alloc (.cells #[.int .i64 0, .int .i64 0] 37)).alloc (.cells #[.string ⟨#[114, 101, 112]⟩, .string ⟨#[112, 101, 101, 114]⟩, .string ⟨#[]⟩, .string ⟨#[119, 111, 114, 108, 100]⟩, .string ⟨#[97, 110, 121]⟩, .string ⟨#[117, 110, 105, 113, 117, 101]⟩] 9) := ⟨_, rfl⟩
  have hr0 : Hid (w1.heap[w.heap.size]? = some (.cells #[.int .i64 k, .string tx, .int .i64 pos] 84 (0, 0))) := by
    show _ = _
    rw [hw1]
    exact (Below.heap_alloc _ _ _ (by simp; omega)).trans ((Below.heap_alloc _ _ _ (by simp)).trans (heap_alloc_new w _))
  have hr1 : Hid (w1.heap[w.heap.size + 1]? = some (.cells #[.int .i64 0, .int .i64 0] 37 (0, 0))) := by
    show _ = _
    rw [hw1]
    refine (Below.heap_alloc _ _ _ (by simp)).trans ?_
    have := heap_alloc_new (w.alloc (.cells #[.int .i64 k, .string tx, .int .i64 pos] 84)) (.cells #[.int .i64 0, .int .i64 0] 37)
    simpa using this
  have hL : Hid (Lies w1 1 encStr (some ⟨w.heap.size + 1 + 1, 0, none⟩) ownW) := by
    show Lies _ _ _ _ _
    rw [hw1]
    have h := Lies.fresh (enc := encStr) (e := 9) ((w.alloc (.cells #[.int .i64 k, .string tx, .int .i64 pos] 84)).alloc (.cells #[.int .i64 0, .int .i64 0] 37)) ownW #[.string ⟨#[114, 101, 112]⟩, .string ⟨#[112, 101, 101, 114]⟩, .string ⟨#[]⟩, .string ⟨#[119, 111, 114, 108, 100]⟩, .string ⟨#[97, 110, 121]⟩, .string ⟨#[117, 110, 105, 113, 117, 101]⟩] encStr_len rfl
    simpa using h
  have hB : Hid (Below w.heap.size w w1) := by
    show Below _ _ _
    rw [hw1]
    exact (((Below.refl _ _).alloc (Nat.le_refl _) _).alloc (by simp) _).alloc (by simp; omega) _
  have hsz : w1.heap.size = w.heap.size + 3 := by rw [hw1]; simp
  rw [← hw1]
  clear hw1
  go_loopw [4] (fun s4 wr => ∃ j : Nat, s4 = .int .i64 j ∧ j ≤ 6 ∧ ∃ x : Ext w1, wr = x.val) (fun s4 _ => 6 - (intOf s4).toNat)
  case atStart => exact ⟨0, rfl, Nat.zero_le _, Ext.here w1, rfl⟩
  case round =>
    obtain ⟨j, rfl, hj, x, rfl⟩ := hrel
    have hx1 := x.below.size
    by_cases hlt : j < 6
    · have hlt' : (j : Int) < 6 := by omega
      have hr0x := (x.below.block _ (row_lt hr0.out)).trans hr0.out
      have c0 := (row_cell (cs := [_, _, _]) hr0x (j := 0) rfl).1
      have c1 := (row_cell (cs := [_, _, _]) hr0x (j := 1) rfl).1
      have c2 := (row_cell (cs := [_, _, _]) hr0x (j := 2) rfl).1
      obtain ⟨b, off, hA, hb, hc⟩ := hL.out j hlt
      obtain ⟨s, hs⟩ : ∃ s, s = ownW[j] := ⟨_, rfl⟩
      rw [← hs] at hc
      cases hA
      have d0 : x.val.cell? ⟨w.heap.size + 1 + 1, j, none⟩ = some (.string s) := (x.cell hb).trans (by have := hc 0 _ rfl; simpa using this)
      have hb0 : w.heap.size < x.val.heap.size := by omega
      have hb2 : w.heap.size + 1 + 1 < x.val.heap.size := by omega
      have HS := hide (HI.out s)
      rw [HF.out s] at HS
      have hlt9 := hide hlt
      clear hr0x hc hs hlt
      go_wp2_with fail
      refine wp_region_ext (by kernel_rfl) (by kernel_rfl) ?_
      repeat (go_big_quiet_step ((first | (go_at_call 39; exact (HS.out _).ext))))
      refine wpQuiet_nil ?_
      intro _ hw'
      obtain ⟨u, hw''⟩ := hw'
      subst hw''
      go_wp2_with fail
      go_roundw
      case rel => exact ⟨j + 1, by go_num, Nat.succ_le_of_lt hlt9.out, x.step u.below, rfl⟩
      case measure => have := hlt9.out; simp [intOf]; omega
    · obtain rfl : j = 6 := by omega
      have hr1x := (x.below.block _ (row_lt hr1.out)).trans hr1.out
      have hth := hide (row_there hr1x 2 (Nat.le_refl _))
      have HR := hide hr1x
      clear hr1x hlt
      go_wp2_with (first | (refine wpList_buildV rfl 37 [] rfl [] rfl #[.int .i64 0, .int .i64 0] (by kernel_rfl) ?_) | (refine wpList_store_mid rfl 37 (.tmp 2) (.tmp 28) rfl (w.heap.size + 1) 0 (#[.int .i64 0, .int .i64 0]) rfl rfl hth.out (by kernel_rfl) (by simp [Value.oneCell']) ?_))
      have hr3 := row_fill (cs := #[.int .i64 0, .int .i64 0]) HR.out rfl
      have q0 := (row_cell (cs := [_, _]) hr3 (j := 0) rfl).1
      have q1 := (row_cell (cs := [_, _]) hr3 (j := 1) rfl).1
      refine bodyPost_ret (v := .agg #[.int .i64 0, .int .i64 0]) ?_ ?_ ?_
      · simp [results, Tryz.f67, go_sem] at q0 q1 ⊢
        simp [q0, q1]
      · rfl
      · exact ⟨rfl, (hB.out.trans (x.below.mono hB.out.size)).trans (setCells_below (Nat.le_succ _) _ 0 _)⟩
end Go.Proofs.YtmpdmelkbemabaaGreat
set_option linter.unusedSimpArgs false
set_option linter.unusedVariables false
namespace Go.Proofs.YtmpdmelkbemabaaGreat
open Go.RowKit Go.Proofs.Grow

set_option maxHeartbeats 2000000 in
set_option maxRecDepth 100000 in
theorem ahead_no (w : World) (A : Option Addr) (c : Nat) (l : List Tk) (hl : Lies w 3 Tk.cells A l) (hm : l.length ≤ 1000000) (i : Nat) (hi : i + 2 < l.length) (f : Bool)
    (h : (l[i + 1]'(by omega)).k ≠ 1 ∨ (f = true ∧ (l[i + 2]'hi).k ≠ 1 ∧ isT (l[i + 2]'hi) ⟨#[60]⟩ = false ∧ isT (l[i + 2]'hi) ⟨#[116, 104, 105, 115]⟩ = false ∧ isT (l[i + 2]'hi) ⟨#[110, 117, 108, 108]⟩ = false)) :
    Gives Tryz.prog 69 #[.slice A l.length c, .int .i64 i, .bool f] w (.bool false) := by
  refine Gives.mk ?_
  have hi63 : (i : Int) ≤ 1000000 := by omega
  have HT1 : Hid (Gives Tryz.prog 38 #[.slice A l.length c, .int .i64 ((i : Int) + 1)] w (.agg (l[i + 1]'(by omega)).cells.toArray)) := tok_any w A c l hl hm (i + 1) (by omega)
  have HT2 : Hid (∀ x : Ext w, Gives Tryz.prog 38 #[.slice A l.length c, .int .i64 ((i : Int) + 2)] x.val (.agg (l[i + 2]'hi).cells.toArray)) := fun x => tok_any x.val A c l (hl.ext x) hm (i + 2) hi
  have HI := hide (fun (s : ByteArray) (W : World) => is_any (l[i + 2]'hi) s W)
  obtain ⟨b, hb⟩ : ∃ b, b = l[i + 1]'(by omega) := ⟨_, rfl⟩
  obtain ⟨d, hd⟩ : ∃ d, d = l[i + 2]'hi := ⟨_, rfl⟩
  rw [← hb] at HT1 h
  rw [← hd] at HT2 HI h
  obtain ⟨bk, bt, bp⟩ := b
  obtain ⟨dk, dt, dp⟩ := d
  simp only [Tk.cells] at HT1 HT2 HI
  simp only at h
  unfold Gives at HT1 HT2
  clear hb hd hl hm hi
  rcases h with h | ⟨rfl, h1, h2, h3, h4⟩
  · have h1 : (bk == 1) = false := by simpa using h
    clear h
    go_enter Tryz.func69, Tryz.ntmps69
    go_upto_region 2 with (first | (go_at_call 38; first | ((with_reducible refine HT1.out.mono ?_); rintro _ _ ⟨x, rfl, rfl⟩) | ((with_reducible refine (HT2.out _).mono ?_); rintro _ _ ⟨y, rfl, rfl⟩)))
    go_wp2_with fail
    go_ret
    exact ⟨rfl, ((x.below.trans (y.below.mono x.below.size)).alloc (by first | exact x.le (Nat.le_refl _) | (have := x.below.size; have := y.below.size; omega)) _).alloc (by have := x.below.size; have := y.below.size; simp; omega) _⟩
  · have h1 : (dk == 1) = false := by simpa using h1
    have HS2 := hide (HI.out ⟨#[60]⟩)
    have HS3 := hide (HI.out ⟨#[116, 104, 105, 115]⟩)
    have HS4 := hide (HI.out ⟨#[110, 117, 108, 108]⟩)
    rw [h2] at HS2
    rw [h3] at HS3
    rw [h4] at HS4
    unfold Gives at HS2 HS3 HS4
    clear h2 h3 h4 HI
    obtain ⟨b1, hb1⟩ : ∃ b1, (bk == 1) = b1 := ⟨_, rfl⟩
    go_enter Tryz.func69, Tryz.ntmps69
    go_upto_region 2 with (first | (go_at_call 38; first | ((with_reducible refine HT1.out.mono ?_); rintro _ _ ⟨x, rfl, rfl⟩) | ((with_reducible refine (HT2.out _).mono ?_); rintro _ _ ⟨y, rfl, rfl⟩)))
    cases b1
    · go_wp2_with fail
      go_ret
      exact ⟨rfl, ((x.below.trans (y.below.mono x.below.size)).alloc (by have := x.below.size; have := y.below.size; omega) _).alloc (by have := x.below.size; have := y.below.size; simp; omega) _⟩
    · go_wp2_with (go_at_call 39; first | ((with_reducible refine (HS2.out _).mono ?_); rintro _ _ ⟨z2, rfl, rfl⟩) | ((with_reducible refine (HS3.out _).mono ?_); rintro _ _ ⟨z3, rfl, rfl⟩) | ((with_reducible refine (HS4.out _).mono ?_); rintro _ _ ⟨z4, rfl, rfl⟩))
      go_ret
      refine ⟨rfl, ?_⟩
      repeat (first | exact Below.refl _ _ | exact Nat.le_refl _ | assumption | refine below_ext ?_ ?_ _ | refine Below.alloc ?_ ?_ _ | refine Below.drew ?_ | refine Below.setCell ?_ ?_ _ | refine Ext.le _ ?_ | refine le_alloc ?_ | refine le_drew ?_ | refine le_setCell ?_)
      all_goals omega
end Go.Proofs.YtmpdmelkbemabaaGreat
set_option linter.unusedSimpArgs false
set_option linter.unusedVariables false
namespace Go.Proofs.YtmpdmelkbemabaaGreat
open Go.RowKit Go.Proofs.Grow

def ty0 : Ty := ⟨0, ⟨#[]⟩, 0, ⟨0, 0⟩, ⟨0, 0⟩, ⟨0, 0⟩, ⟨0, 0⟩⟩
def tyOf (tx : ByteArray) : Ty := ⟨2, tx, 0, ⟨7, 0⟩, ⟨0, 0⟩, ⟨0, 0⟩, ⟨0, 0⟩⟩
def tyInt : Ty := ⟨1, ⟨#[]⟩, 0, ⟨0, 0⟩, ⟨0, 0⟩, ⟨0, 0⟩, ⟨0, 0⟩⟩
def va0 : Va := ⟨⟨#[]⟩, ty0, 0⟩
/-- demesneref07.Got -/
def g7C (ty : Ty) (v : Va) (nx : Int) : List Value := .slice none 0 0 :: (ty.cells ++ (v.cells ++ [.int .i64 nx, .int .i64 0, .int .i64 0]))
theorem g7C_len (ty : Ty) (v : Va) (nx : Int) : (g7C ty v nx).length = 28 := rfl
theorem g7C_one (ty : Ty) (v : Va) (nx : Int) : ∀ u ∈ g7C ty v nx, u.oneCell' = true := by
  obtain ⟨tk, tc, tn, ⟨k0, n0⟩, ⟨k1, n1⟩, ⟨k2, n2⟩, ⟨k3, n3⟩⟩ := ty
  obtain ⟨vn, ⟨vk, vc, vm, ⟨l0, m0⟩, ⟨l1, m1⟩, ⟨l2, m2⟩, ⟨l3, m3⟩⟩, vp⟩ := v
  intro u hu
  simp only [g7C, Ty.cells, Va.cells, List.cons_append, List.nil_append, List.mem_cons, List.not_mem_nil, or_false] at hu
  rcases hu with rfl | rfl | rfl | rfl | rfl | rfl | rfl | rfl | rfl | rfl | rfl | rfl | rfl | rfl | rfl | rfl | rfl | rfl | rfl | rfl | rfl | rfl | rfl | rfl | rfl | rfl | rfl | rfl <;> rfl
theorem built_g7 (ty : Ty) (nx : Int) : Tryz.prog.built 120 [(1, .agg ty.cells.toArray), (3, .int .i64 nx)] = some (g7C ty va0 nx).toArray := by
  obtain ⟨tk, tc, tn, ⟨k0, n0⟩, ⟨k1, n1⟩, ⟨k2, n2⟩, ⟨k3, n3⟩⟩ := ty
  kernel_rfl
theorem built_ty2 : Tryz.prog.built 40 [(0, .int .i64 2)] = some #[.int .i64 2, .string ⟨#[]⟩, .int .i64 0, .int .i64 0, .int .i64 0, .int .i64 0, .int .i64 0, .int .i64 0, .int .i64 0, .int .i64 0, .int .i64 0] := by kernel_rfl
theorem built_ow7 : Tryz.prog.built 37 [(0, .int .i64 7)] = some #[.int .i64 7, .int .i64 0] := by kernel_rfl
theorem built_ty (k : Int) : Tryz.prog.built 40 [(0, .int .i64 k)] = some (Ty.mk k ⟨#[]⟩ 0 ⟨0, 0⟩ ⟨0, 0⟩ ⟨0, 0⟩ ⟨0, 0⟩).cells.toArray := by kernel_rfl

theorem fld_ow (a b : Int) (W : World) : (Instr.field 37 (.agg #[.int .i64 a, .int .i64 b]) 0).run Tryz.prog W = .ok (.int .i64 a) W := by kernel_rfl

set_option maxHeartbeats 4000000 in
set_option maxRecDepth 100000 in
theorem parse_name (w : World) (A : Option Addr) (c : Nat) (l : List Tk) (hl : Lies w 3 Tk.cells A l) (hm : l.length ≤ 1000000) (i : Nat) (hi : i + 2 < l.length) (f : Bool) (B : Value) (h1 : (l[i]'(by omega)).k = 1) (hlt : isT (l[i + 1]'(by omega)) ⟨#[60]⟩ = false)
    (h : (l[i + 1]'(by omega)).k ≠ 1 ∨ (f = true ∧ (l[i + 2]'hi).k ≠ 1 ∧ isT (l[i + 2]'hi) ⟨#[60]⟩ = false ∧ isT (l[i + 2]'hi) ⟨#[116, 104, 105, 115]⟩ = false ∧ isT (l[i + 2]'hi) ⟨#[110, 117, 108, 108]⟩ = false)) :
    Gives Tryz.prog 56 #[.slice A l.length c, .int .i64 i, B, .bool f] w (.agg (g7C (tyOf (l[i]'(by omega)).tx) va0 (i + 1)).toArray) := by
  refine Gives.mk ?_
  have hi63 : (i : Int) ≤ 1000000 := by omega
  have HT0 : Hid (∀ W, Below w.heap.size w W → Gives Tryz.prog 38 #[.slice A l.length c, .int .i64 i] W (.agg (l[i]'(by omega)).cells.toArray)) := fun W hW => tok_any W A c l (hl.below hW) hm i (by omega)
  have HT1 : Hid (∀ W, Below w.heap.size w W → Gives Tryz.prog 38 #[.slice A l.length c, .int .i64 ((i : Int) + 1)] W (.agg (l[i + 1]'(by omega)).cells.toArray)) := fun W hW => tok_any W A c l (hl.below hW) hm (i + 1) (by omega)
  have HA : Hid (∀ W, Below w.heap.size w W → Gives Tryz.prog 69 #[.slice A l.length c, .int .i64 i, .bool f] W (.bool false)) := fun W hW => ahead_no W A c l (hl.below hW) hm i hi f h
  have HI := hide (fun (s : ByteArray) (W : World) => is_any (l[i]'(by omega)) s W)
  have HI1 := hide (fun (W : World) => is_any (l[i + 1]'(by omega)) ⟨#[60]⟩ W)
  rw [hlt] at HI1
  have HF := hide (fun s => isT_name h1 s)
  have HW := hide (fun W => word_name (l[i]'(by omega)) h1 W)
  obtain ⟨t, ht⟩ : ∃ t, t = l[i]'(by omega) := ⟨_, rfl⟩
  obtain ⟨t1, ht1⟩ : ∃ t1, t1 = l[i + 1]'(by omega) := ⟨_, rfl⟩
  rw [← ht] at HT0 HI HF HW h1 ⊢
  rw [← ht1] at HT1 HI1
  obtain ⟨tk, tx, tp⟩ := t
  obtain ⟨uk, ux, up⟩ := t1
  simp only [Tk.cells] at HT0 HT1 HI HI1 HW
  simp only at h1
  subst h1
  unfold Gives at HT0 HT1 HA HW HI1
  have HI : Hid (∀ (s : ByteArray) (W : World), Calls Tryz.prog 39 #[.agg #[.int .i64 1, .string tx, .int .i64 tp], .string s] W fun e w' => ∃ x : Ext W, e = .returned (.bool false) ∧ w' = x.val) := fun s W => by
    have h9 := HI.out s W
    rw [HF.out s] at h9
    exact h9
  clear ht ht1 hl hm hi h hlt HF
  go_enter Tryz.func56, Tryz.ntmps56
  go_upto_region 2 with (go_at_call 38; ((with_reducible refine (HT0.out _ (by repeat (first | exact Below.refl _ _ | exact Nat.le_refl _ | assumption | refine below_ext ?_ ?_ _ | refine Below.alloc ?_ ?_ _ | refine Below.drew ?_ | refine Below.setCell ?_ ?_ _ | refine Ext.le _ ?_ | refine le_alloc ?_ | refine le_drew ?_ | refine le_setCell ?_))).mono ?_); rintro _ _ ⟨y, rfl, rfl⟩))
  obtain ⟨g9, hg9⟩ : ∃ g, g = y.val.heap.size := ⟨_, rfl⟩
  obtain ⟨W1, hW1⟩ : ∃ W, W = y.val.alloc (.cells #[.int .i64 1, .string tx, .int .i64 tp] 84) := ⟨_, rfl⟩
  have hB : Hid (Below w.heap.size w W1) := by
    show Below _ _ _
    rw [hW1]
    exact (((Below.refl _ _).alloc (Nat.le_refl _) _).trans (y.below.mono (by simp))).alloc (by have := y.below.size; simp at this; omega) _
  have hr8 : Hid (W1.heap[w.heap.size]? = some (.cells (g7C ty0 va0 0).toArray 120 (0, 0))) := by
    show _ = _
    rw [hW1]
    exact (Below.heap_alloc _ _ _ (by have := y.below.size; simp at this; omega)).trans ((y.below.block _ (by simp)).trans (heap_alloc_new w _))
  have hr9 : Hid (W1.heap[g9]? = some (.cells #[.int .i64 1, .string tx, .int .i64 tp] 84 (0, 0))) := by
    show _ = _
    rw [hW1, hg9]; exact heap_alloc_new _ _
  have hg89 : w.heap.size ≠ g9 := by have := y.below.size; simp at this; omega
  rw [← hW1, ← hg9]
  clear hW1 hg9 y
  have c0 := (row_cell (cs := [_, _, _]) hr9.out (j := 0) rfl).1
  have c1 := (row_cell (cs := [_, _, _]) hr9.out (j := 1) rfl).1
  have c2 := (row_cell (cs := [_, _, _]) hr9.out (j := 2) rfl).1
  go_upto_region 4 with (go_at_call 39; ((with_reducible refine (HI.out _ _).mono ?_); rintro _ _ ⟨x, rfl, rfl⟩))
  have hB := hide (hB.out.trans (x.below.mono hB.out.size))
  have hr8 := hide ((x.below.block _ (row_lt hr8.out)).trans hr8.out)
  have hr9 := hide ((x.below.block _ (row_lt hr9.out)).trans hr9.out)
  generalize x.val = W2 at hB hr8 hr9 ⊢
  clear c0 c1 c2 x
  have c0 := (row_cell (cs := [_, _, _]) hr9.out (j := 0) rfl).1
  have c1 := (row_cell (cs := [_, _, _]) hr9.out (j := 1) rfl).1
  have c2 := (row_cell (cs := [_, _, _]) hr9.out (j := 2) rfl).1
  go_upto_region 8 with (first | (go_at_call 39; ((with_reducible refine (HI.out _ _).mono ?_); rintro _ _ ⟨x, rfl, rfl⟩)) | (refine wpList_buildV rfl 40 [(0, .const (.int .i64 2))] rfl [(0, .int .i64 2)] (by kernel_rfl) _ built_ty2 ?_) | (refine wpList_buildV rfl 37 [(0, .const (.int .i64 7))] rfl [(0, .int .i64 7)] (by kernel_rfl) _ built_ow7 ?_))
  obtain ⟨g10, hg10⟩ : ∃ g, g = x.val.heap.size := ⟨_, rfl⟩
  obtain ⟨W3, hW3⟩ : ∃ W, W = x.val.alloc (.cells #[.int .i64 2, .string ⟨#[]⟩, .int .i64 0, .int .i64 7, .int .i64 0, .int .i64 0, .int .i64 0, .int .i64 0, .int .i64 0, .int .i64 0, .int .i64 0] 40) := ⟨_, rfl⟩
  have hBx := hB.out.trans (x.below.mono hB.out.size)
  have hB3 : Hid (Below w.heap.size w W3) := by show Below _ _ _; rw [hW3]; exact hBx.alloc hBx.size _
  have hr8x := (x.below.block _ (row_lt hr8.out)).trans hr8.out
  have hr9x := (x.below.block _ (row_lt hr9.out)).trans hr9.out
  have hr83 : Hid (W3.heap[w.heap.size]? = some (.cells (g7C ty0 va0 0).toArray 120 (0, 0))) := by show _ = _; rw [hW3]; exact (Below.heap_alloc _ _ _ (row_lt hr8x)).trans hr8x
  have hr93 : Hid (W3.heap[g9]? = some (.cells #[.int .i64 1, .string tx, .int .i64 tp] 84 (0, 0))) := by show _ = _; rw [hW3]; exact (Below.heap_alloc _ _ _ (row_lt hr9x)).trans hr9x
  have hr10 : Hid (W3.heap[g10]? = some (.cells #[.int .i64 2, .string ⟨#[]⟩, .int .i64 0, .int .i64 7, .int .i64 0, .int .i64 0, .int .i64 0, .int .i64 0, .int .i64 0, .int .i64 0, .int .i64 0] 40 (0, 0))) := by show _ = _; rw [hW3, hg10]; exact heap_alloc_new _ _
  have hg810 : w.heap.size < g10 := by have := row_lt hr8x; omega
  rw [← hW3, ← hg10]
  clear hW3 hg10 hBx hr8x hr9x c0 c1 c2 hB hr8 hr9 x
  have c0 := (row_cell (cs := [_, _, _]) hr93.out (j := 0) rfl).1
  have c1 := (row_cell (cs := [_, _, _]) hr93.out (j := 1) rfl).1
  have c2 := (row_cell (cs := [_, _, _]) hr93.out (j := 2) rfl).1
  have hfld := fld_ow 0 0
  go_upto_region 11 with (go_at_call 67; ((with_reducible refine (HW.out _).mono ?_); rintro _ _ ⟨x, rfl, rfl⟩))
  have hB := hide (hB3.out.trans (x.below.mono hB3.out.size))
  have hr8 := hide ((x.below.block _ (row_lt hr83.out)).trans hr83.out)
  have hr9 := hide ((x.below.block _ (row_lt hr93.out)).trans hr93.out)
  have hrt := hide ((x.below.block _ (row_lt hr10.out)).trans hr10.out)
  generalize x.val = W4 at hB hr8 hr9 hrt ⊢
  clear c0 c1 c2 x hB3 hr83 hr93 hr10
  have c0 := (row_cell (cs := [_, _, _]) hr9.out (j := 0) rfl).1
  go_upto_region 16 with (go_at_call 69; ((with_reducible refine (HA.out _ hB.out).mono ?_); rintro _ _ ⟨x, rfl, rfl⟩))
  have hB5 := hide (hB.out.trans (x.below.mono hB.out.size))
  have hr8 := hide ((x.below.block _ (row_lt hr8.out)).trans hr8.out)
  have hrt := hide ((x.below.block _ (row_lt hrt.out)).trans hrt.out)
  generalize x.val = W5 at hB5 hr8 hrt ⊢
  clear c0 x hB hr9
  go_upto_region 17 with (go_at_call 38; ((with_reducible refine (HT0.out _ hB5.out).mono ?_); rintro _ _ ⟨x, rfl, rfl⟩))
  obtain ⟨g11, hg11⟩ : ∃ g, g = x.val.heap.size := ⟨_, rfl⟩
  obtain ⟨W6, hW6⟩ : ∃ W, W = x.val.alloc (.cells #[.int .i64 1, .string tx, .int .i64 tp] 84) := ⟨_, rfl⟩
  have hBx := hB5.out.trans (x.below.mono hB5.out.size)
  have hB6 : Hid (Below w.heap.size w W6) := by show Below _ _ _; rw [hW6]; exact hBx.alloc hBx.size _
  have hr8x := (x.below.block _ (row_lt hr8.out)).trans hr8.out
  have hrtx := (x.below.block _ (row_lt hrt.out)).trans hrt.out
  have hr86 : Hid (W6.heap[w.heap.size]? = some (.cells (g7C ty0 va0 0).toArray 120 (0, 0))) := by show _ = _; rw [hW6]; exact (Below.heap_alloc _ _ _ (row_lt hr8x)).trans hr8x
  have hrt6 : W6.heap[g10]? = some (.cells #[.int .i64 2, .string ⟨#[]⟩, .int .i64 0, .int .i64 7, .int .i64 0, .int .i64 0, .int .i64 0, .int .i64 0, .int .i64 0, .int .i64 0, .int .i64 0] 40 (0, 0)) := by rw [hW6]; exact (Below.heap_alloc _ _ _ (row_lt hrtx)).trans hrtx
  have hr11 : Hid (W6.heap[g11]? = some (.cells #[.int .i64 1, .string tx, .int .i64 tp] 84 (0, 0))) := by show _ = _; rw [hW6, hg11]; exact heap_alloc_new _ _
  rw [← hW6, ← hg11]
  clear hW6 hg11 hBx hr8x hrtx hB5 hr8 hrt x
  have c0 := (row_cell (cs := [_, _, _]) hr11.out (j := 0) rfl).1
  have c1 := (row_cell (cs := [_, _, _]) hr11.out (j := 1) rfl).1
  obtain ⟨d1, f1⟩ := row_cell (cs := [_, _, _, _, _, _, _, _, _, _, _]) hrt6 (j := 1) rfl
  have hrt6 := hide hrt6
  go_upto_region 20 with fail
  have hB7 : Hid (Below w.heap.size w (W6.setCell ⟨g10, 1, none⟩ (.string tx))) := hB6.out.setCell (p := ⟨g10, 1, none⟩) (Nat.le_of_lt hg810) _
  have hr87 : Hid ((W6.setCell ⟨g10, 1, none⟩ (.string tx)).heap[w.heap.size]? = some (.cells (g7C ty0 va0 0).toArray 120 (0, 0))) := (Below.heap_setCell W6 ⟨g10, 1, none⟩ _ w.heap.size (by show w.heap.size ≠ g10; omega)).trans hr86.out
  have hrt7 : Hid ((W6.setCell ⟨g10, 1, none⟩ (.string tx)).heap[g10]? = some (.cells (tyOf tx).cells.toArray 40 (0, 0))) := by
    show _ = _
    rw [row_store hrt6.out 1 (.string tx)]
    rfl
  generalize W6.setCell ⟨g10, 1, none⟩ (.string tx) = W7 at hB7 hr87 hrt7 ⊢
  clear c0 c1 d1 f1 hB6 hr86 hrt6 hr11
  go_upto_region 22 with (first | (go_at_call 38; ((with_reducible refine (HT1.out _ hB7.out).mono ?_); rintro _ _ ⟨x, rfl, rfl⟩)) | (go_at_call 39; ((with_reducible refine (HI1.out _).mono ?_); rintro _ _ ⟨x2, rfl, rfl⟩)))
  have hBx := hB7.out.trans (x.below.mono hB7.out.size)
  have hB9 := hide (hBx.trans (x2.below.mono hBx.size))
  have hr9a := hide ((x2.below.block _ (row_lt ((x.below.block _ (row_lt hr87.out)).trans hr87.out))).trans ((x.below.block _ (row_lt hr87.out)).trans hr87.out))
  have hrt9 := hide ((x2.below.block _ (row_lt ((x.below.block _ (row_lt hrt7.out)).trans hrt7.out))).trans ((x.below.block _ (row_lt hrt7.out)).trans hrt7.out))
  generalize x2.val = W9 at hB9 hr9a hrt9 ⊢
  clear hBx hB7 hr87 hrt7 x2 x
  have hth := hide (row_there hr9a.out 28 (Nat.le_refl _))
  have hrow := hide (row_fill (cs := (g7C (tyOf tx) va0 ((i : Int) + 1)).toArray) hr9a.out rfl)
  go_wp2_with (first | (refine wpList_load_row rfl 40 (.tmp 10) rfl g10 rfl 40 (tyOf tx).cells.toArray (0, 0) _ hrt9.out Tryz.underlying40 rfl (by kernel_rfl) ?_) | (refine wpList_buildV rfl 120 [(1, .tmp 85), (3, .tmp 86)] rfl [(1, .agg (tyOf tx).cells.toArray), (3, .int .i64 ((i : Int) + 1))] (by kernel_rfl) _ (built_g7 _ _) ?_) | (refine wpList_store_mid rfl 120 (.tmp 8) (.tmp 87) rfl w.heap.size 0 (g7C (tyOf tx) va0 ((i : Int) + 1)).toArray rfl rfl hth.out (by kernel_rfl) (all_oneCell_toArray (g7C_one _ _ _)) ?_))
  refine bodyPost_ret (v := .agg (g7C (tyOf tx) va0 ((i : Int) + 1)).toArray) (results_cell_row (p := 8) (ty := 120) Tryz.results56 _ _ w.heap.size 120 _ (0, 0) _ rfl hrow.out Tryz.underlying120 rfl (by kernel_rfl)) rfl ⟨rfl, ?_⟩
  exact hB9.out.trans (setCells_below (Nat.le_refl _) _ 0 _)
end Go.Proofs.YtmpdmelkbemabaaGreat
set_option linter.unusedSimpArgs false
set_option linter.unusedVariables false
namespace Go.Proofs.YtmpdmelkbemabaaGreat
open Go.RowKit Go.Proofs.Grow

set_option maxHeartbeats 4000000 in
set_option maxRecDepth 100000 in
theorem parse_int (w : World) (A : Option Addr) (c : Nat) (l : List Tk) (hl : Lies w 3 Tk.cells A l) (hm : l.length ≤ 1000000) (i : Nat) (hi : i < l.length) (f : Bool) (B : Value) (h1 : isT (l[i]'hi) ⟨#[118, 111, 105, 100]⟩ = false) (h2 : isT (l[i]'hi) ⟨#[105, 110, 116]⟩ = true) :
    Gives Tryz.prog 56 #[.slice A l.length c, .int .i64 i, B, .bool f] w (.agg (g7C tyInt va0 (i + 1)).toArray) := by
  refine Gives.mk ?_
  have hi63 : (i : Int) ≤ 1000000 := by omega
  have HT0 : Hid (∀ W, Below w.heap.size w W → Gives Tryz.prog 38 #[.slice A l.length c, .int .i64 i] W (.agg (l[i]'hi).cells.toArray)) := fun W hW => tok_any W A c l (hl.below hW) hm i hi
  have HI1 := hide (fun (W : World) => is_any (l[i]'hi) ⟨#[118, 111, 105, 100]⟩ W)
  have HI2 := hide (fun (W : World) => is_any (l[i]'hi) ⟨#[105, 110, 116]⟩ W)
  rw [h1] at HI1
  rw [h2] at HI2
  obtain ⟨t, ht⟩ : ∃ t, t = l[i]'hi := ⟨_, rfl⟩
  rw [← ht] at HT0 HI1 HI2
  obtain ⟨tk, tx, tp⟩ := t
  simp only [Tk.cells] at HT0 HI1 HI2
  unfold Gives at HT0 HI1 HI2
  clear ht hl hm hi h1 h2
  go_enter Tryz.func56, Tryz.ntmps56
  go_upto_region 2 with (go_at_call 38; ((with_reducible refine (HT0.out _ (by repeat (first | exact Below.refl _ _ | exact Nat.le_refl _ | assumption | refine below_ext ?_ ?_ _ | refine Below.alloc ?_ ?_ _ | refine Below.drew ?_ | refine Below.setCell ?_ ?_ _ | refine Ext.le _ ?_ | refine le_alloc ?_ | refine le_drew ?_ | refine le_setCell ?_))).mono ?_); rintro _ _ ⟨y, rfl, rfl⟩))
  obtain ⟨g9, hg9⟩ : ∃ g, g = y.val.heap.size := ⟨_, rfl⟩
  obtain ⟨W1, hW1⟩ : ∃ W, W = y.val.alloc (.cells #[.int .i64 tk, .string tx, .int .i64 tp] 84) := ⟨_, rfl⟩
  have hB : Hid (Below w.heap.size w W1) := by
    show Below _ _ _
    rw [hW1]
    exact (((Below.refl _ _).alloc (Nat.le_refl _) _).trans (y.below.mono (by simp))).alloc (by have := y.below.size; simp at this; omega) _
  have hr8 : Hid (W1.heap[w.heap.size]? = some (.cells (g7C ty0 va0 0).toArray 120 (0, 0))) := by
    show _ = _
    rw [hW1]
    exact (Below.heap_alloc _ _ _ (by have := y.below.size; simp at this; omega)).trans ((y.below.block _ (by simp)).trans (heap_alloc_new w _))
  have hr9 : Hid (W1.heap[g9]? = some (.cells #[.int .i64 tk, .string tx, .int .i64 tp] 84 (0, 0))) := by
    show _ = _
    rw [hW1, hg9]; exact heap_alloc_new _ _
  rw [← hW1, ← hg9]
  clear hW1 hg9 y
  have c0 := (row_cell (cs := [_, _, _]) hr9.out (j := 0) rfl).1
  have c1 := (row_cell (cs := [_, _, _]) hr9.out (j := 1) rfl).1
  have c2 := (row_cell (cs := [_, _, _]) hr9.out (j := 2) rfl).1
  go_upto_region 4 with (go_at_call 39; ((with_reducible refine (HI1.out _).mono ?_); rintro _ _ ⟨x, rfl, rfl⟩))
  have hB := hide (hB.out.trans (x.below.mono hB.out.size))
  have hr8 := hide ((x.below.block _ (row_lt hr8.out)).trans hr8.out)
  have hr9 := hide ((x.below.block _ (row_lt hr9.out)).trans hr9.out)
  generalize x.val = W2 at hB hr8 hr9 ⊢
  clear c0 c1 c2 x
  have c0 := (row_cell (cs := [_, _, _]) hr9.out (j := 0) rfl).1
  have c1 := (row_cell (cs := [_, _, _]) hr9.out (j := 1) rfl).1
  have c2 := (row_cell (cs := [_, _, _]) hr9.out (j := 2) rfl).1
  have harm : Hid (∀ x : Ext W2, x.val.there w.heap.size 0 28) := fun x => row_there ((x.below.block _ (row_lt hr8.out)).trans hr8.out) 28 (Nat.le_refl _)
  go_wp2_with (first | (go_at_call 39; ((with_reducible refine (HI2.out _).mono ?_); rintro _ _ ⟨x, rfl, rfl⟩)) | (refine wpList_buildV rfl 40 [(0, .const (.int .i64 1))] rfl [(0, .int .i64 1)] (by kernel_rfl) _ (built_ty 1) ?_) | (refine wpList_buildV rfl 120 [(1, .tmp 24), (3, .tmp 26)] rfl [(1, .agg tyInt.cells.toArray), (3, .int .i64 ((i : Int) + 1))] (by kernel_rfl) _ (built_g7 _ _) ?_) | (refine wpList_store_mid rfl 120 (.tmp 8) (.tmp 27) rfl w.heap.size 0 (g7C tyInt va0 ((i : Int) + 1)).toArray rfl rfl (harm.out _) (by kernel_rfl) (all_oneCell_toArray (g7C_one _ _ _)) ?_))
  have hrow := hide (row_fill (cs := (g7C tyInt va0 ((i : Int) + 1)).toArray) ((x.below.block _ (row_lt hr8.out)).trans hr8.out) rfl)
  refine bodyPost_ret (v := .agg (g7C tyInt va0 ((i : Int) + 1)).toArray) (results_cell_row (p := 8) (ty := 120) Tryz.results56 _ _ w.heap.size 120 _ (0, 0) _ rfl hrow.out Tryz.underlying120 rfl (by kernel_rfl)) rfl ⟨rfl, ?_⟩
  exact (hB.out.trans (x.below.mono hB.out.size)).trans (setCells_below (Nat.le_refl _) _ 0 _)
end Go.Proofs.YtmpdmelkbemabaaGreat
set_option linter.unusedSimpArgs false
set_option linter.unusedVariables false
namespace Go.Proofs.YtmpdmelkbemabaaGreat
open Go.RowKit Go.Proofs.Grow

theorem row_up {W : World} (x : Ext W) {g : Nat} {o : Obj} (h : W.heap[g]? = some o) : x.val.heap[g]? = some o := (x.below.block _ (row_lt h)).trans h

set_option maxHeartbeats 4000000 in
set_option maxRecDepth 100000 in
theorem begins_name (w : World) (A : Option Addr) (c : Nat) (l : List Tk) (hl : Lies w 3 Tk.cells A l) (hm : l.length ≤ 1000000) (i : Nat) (hi : i + 1 < l.length) (h1 : (l[i]'(by omega)).k = 1) (hlt : isT (l[i + 1]'hi) ⟨#[60]⟩ = false) (b : Bool) (hb : ((l[i + 1]'hi).k == 1) = b) :
    Gives Tryz.prog 78 #[.slice A l.length c, .int .i64 i] w (.bool b) := by
  refine Gives.mk ?_
  have hi63 : (i : Int) ≤ 1000000 := by omega
  have HT0 : Hid (∀ W, Below w.heap.size w W → Gives Tryz.prog 38 #[.slice A l.length c, .int .i64 i] W (.agg (l[i]'(by omega)).cells.toArray)) := fun W hW => tok_any W A c l (hl.below hW) hm i (by omega)
  have HT1 : Hid (∀ W, Below w.heap.size w W → Gives Tryz.prog 38 #[.slice A l.length c, .int .i64 ((i : Int) + 1)] W (.agg (l[i + 1]'hi).cells.toArray)) := fun W hW => tok_any W A c l (hl.below hW) hm (i + 1) hi
  have HI := hide (fun (W : World) => is_any (l[i]'(by omega)) ⟨#[105, 110, 116]⟩ W)
  rw [isT_name h1] at HI
  have HI1 := hide (fun (W : World) => is_any (l[i + 1]'hi) ⟨#[60]⟩ W)
  rw [hlt] at HI1
  have HW := hide (fun W => word_name (l[i]'(by omega)) h1 W)
  obtain ⟨t, ht⟩ : ∃ t, t = l[i]'(by omega) := ⟨_, rfl⟩
  obtain ⟨t1, ht1⟩ : ∃ t1, t1 = l[i + 1]'hi := ⟨_, rfl⟩
  rw [← ht] at HT0 HI HW h1
  rw [← ht1] at HT1 HI1 hb
  obtain ⟨tk, tx, tp⟩ := t
  obtain ⟨uk, ux, up⟩ := t1
  simp only [Tk.cells] at HT0 HT1 HI HI1 HW
  simp only at h1 hb
  subst h1
  unfold Gives at HT0 HT1 HI HI1 HW
  clear ht ht1 hl hm hi hlt
  have hfld := fld_ow 0 0
  go_enter Tryz.func78, Tryz.ntmps78
  cases b
  all_goals
    go_wp2_with (first | (go_at_call 38; first | ((with_reducible refine (HT0.out _ (by repeat (first | exact Below.refl _ _ | exact Nat.le_refl _ | assumption | refine below_ext ?_ ?_ _ | refine Below.alloc ?_ ?_ _ | refine Below.drew ?_ | refine Below.setCell ?_ ?_ _ | refine Ext.le _ ?_ | refine le_alloc ?_ | refine le_drew ?_ | refine le_setCell ?_))).mono ?_); rintro _ _ ⟨y, rfl, rfl⟩) | ((with_reducible refine (HT1.out _ (by repeat (first | exact Below.refl _ _ | exact Nat.le_refl _ | assumption | refine below_ext ?_ ?_ _ | refine Below.alloc ?_ ?_ _ | refine Below.drew ?_ | refine Below.setCell ?_ ?_ _ | refine Ext.le _ ?_ | refine le_alloc ?_ | refine le_drew ?_ | refine le_setCell ?_))).mono ?_); rintro _ _ ⟨y3, rfl, rfl⟩)) | (go_at_call 39; first | ((with_reducible refine (HI.out _).mono ?_); rintro _ _ ⟨y1, rfl, rfl⟩) | ((with_reducible refine (HI1.out _).mono ?_); rintro _ _ ⟨y4, rfl, rfl⟩)) | (go_at_call 67; ((with_reducible refine (HW.out _).mono ?_); rintro _ _ ⟨y2, rfl, rfl⟩)))
    go_ret
    refine ⟨rfl, ?_⟩
    repeat (first | exact Below.refl _ _ | exact Nat.le_refl _ | assumption | refine below_ext ?_ ?_ _ | refine Below.alloc ?_ ?_ _ | refine Below.drew ?_ | refine Below.setCell ?_ ?_ _ | refine Ext.le _ ?_ | refine le_alloc ?_ | refine le_drew ?_ | refine le_setCell ?_)
    all_goals omega

/-- A token's place out of its value. -/
theorem fld_tk (k p : Int) (x : ByteArray) (W : World) : (Instr.field 84 (.agg #[.int .i64 k, .string x, .int .i64 p]) 2).run Tryz.prog W = .ok (.int .i64 p) W := by kernel_rfl
theorem built_va (n : ByteArray) (ty : Ty) (p : Int) : Tryz.prog.built 78 [(0, .string n), (1, .agg ty.cells.toArray), (2, .int .i64 p)] = some (Va.mk n ty p).cells.toArray := by
  obtain ⟨tk, tc, tn, ⟨k0, n0⟩, ⟨k1, n1⟩, ⟨k2, n2⟩, ⟨k3, n3⟩⟩ := ty
  kernel_rfl
theorem built_g7v (v : Va) (nx : Int) : Tryz.prog.built 120 [(2, .agg v.cells.toArray), (3, .int .i64 nx)] = some (g7C ty0 v nx).toArray := by
  obtain ⟨vn, ⟨vk, vc, vm, ⟨l0, m0⟩, ⟨l1, m1⟩, ⟨l2, m2⟩, ⟨l3, m3⟩⟩, vp⟩ := v
  kernel_rfl
theorem g7_ty (ty : Ty) (v : Va) (nx : Int) {j : Nat} {u : Value} (h : ty.cells[j]? = some u) : (g7C ty v nx)[1 + j]? = some u := by
  unfold g7C
  rw [Nat.add_comm, List.getElem?_cons_succ, List.getElem?_append_left (List.getElem?_eq_some_iff.1 h).1]
  exact h

set_option maxHeartbeats 4000000 in
set_option maxRecDepth 100000 in
/-- A variable of a class that is named alone. -/
theorem var_name (w : World) (A : Option Addr) (c : Nat) (l : List Tk) (hl : Lies w 3 Tk.cells A l) (hm : l.length ≤ 1000000) (i : Nat) (hi : i + 2 < l.length) (B : Value) (h1 : (l[i]'(by omega)).k = 1) (h2 : (l[i + 1]'(by omega)).k = 1) (hlt : isT (l[i + 1]'(by omega)) ⟨#[60]⟩ = false)
    (h : (l[i + 2]'hi).k ≠ 1 ∧ isT (l[i + 2]'hi) ⟨#[60]⟩ = false ∧ isT (l[i + 2]'hi) ⟨#[116, 104, 105, 115]⟩ = false ∧ isT (l[i + 2]'hi) ⟨#[110, 117, 108, 108]⟩ = false) :
    Gives Tryz.prog 77 #[.slice A l.length c, .int .i64 i, B] w (.agg (g7C ty0 ⟨(l[i + 1]'(by omega)).tx, tyOf (l[i]'(by omega)).tx, (l[i]'(by omega)).pos⟩ (i + 2)).toArray) := by
  refine Gives.mk ?_
  have hi63 : (i : Int) ≤ 1000000 := by omega
  have HT0 : Hid (∀ W, Below w.heap.size w W → Gives Tryz.prog 38 #[.slice A l.length c, .int .i64 i] W (.agg (l[i]'(by omega)).cells.toArray)) := fun W hW => tok_any W A c l (hl.below hW) hm i (by omega)
  have HT1 : Hid (∀ W, Below w.heap.size w W → Gives Tryz.prog 38 #[.slice A l.length c, .int .i64 ((i : Int) + 1)] W (.agg (l[i + 1]'(by omega)).cells.toArray)) := fun W hW => tok_any W A c l (hl.below hW) hm (i + 1) (by omega)
  have HP := parse_name (w.alloc (.cells (g7C ty0 va0 0).toArray 120)) A c l (hl.alloc _) hm i hi true B h1 hlt (.inr ⟨rfl, h.1, h.2.1, h.2.2.1, h.2.2.2⟩)
  obtain ⟨t, ht⟩ : ∃ t, t = l[i]'(by omega) := ⟨_, rfl⟩
  obtain ⟨t1, ht1⟩ : ∃ t1, t1 = l[i + 1]'(by omega) := ⟨_, rfl⟩
  rw [← ht] at HT0 HP ⊢
  rw [← ht1] at HT1 h2 ⊢
  obtain ⟨tk, tx, tp⟩ := t
  obtain ⟨uk, ux, up⟩ := t1
  simp only [Tk.cells] at HT0 HT1
  simp only at h2 HP
  subst h2
  unfold Gives at HT0 HT1 HP
  have HP := hide HP
  clear ht ht1 hl hm hi hlt h h1
  go_enter Tryz.func77, Tryz.ntmps77
  go_upto_region 2 with (first | (go_at_call 56; refine HP.out.mono ?_; rintro _ _ ⟨y, rfl, rfl⟩) | (refine wpList_store_new rfl 120 (.tmp 7) (.tmp 12) rfl _ _ (g7C (tyOf tx) va0 ((i : Int) + 1)).toArray _ rfl rfl rfl (by kernel_rfl) rfl (fun u hu => g7C_one _ _ _ u (by simpa using hu)) ?_))
  obtain ⟨g7, hg7⟩ : ∃ g, g = y.val.heap.size := ⟨_, rfl⟩
  obtain ⟨W1, hW1⟩ : ∃ W, W = y.val.alloc (.cells (g7C (tyOf tx) va0 ((i : Int) + 1)).toArray 120) := ⟨_, rfl⟩
  have hB0 : Below w.heap.size w y.val := ((Below.refl _ _).alloc (Nat.le_refl _) _).trans (y.below.mono (by simp))
  have hB : Hid (Below w.heap.size w W1) := by show Below _ _ _; rw [hW1]; exact hB0.alloc hB0.size _
  have hr6 : Hid (W1.heap[w.heap.size]? = some (.cells (g7C ty0 va0 0).toArray 120 (0, 0))) := by
    show _ = _
    rw [hW1]
    have h9 := row_up y (heap_alloc_new w (.cells (g7C ty0 va0 0).toArray 120))
    exact (Below.heap_alloc _ _ _ (row_lt h9)).trans h9
  have hr7 : Hid (W1.heap[g7]? = some (.cells (g7C (tyOf tx) va0 ((i : Int) + 1)).toArray 120 (0, 0))) := by show _ = _; rw [hW1, hg7]; exact heap_alloc_new _ _
  rw [← hW1, ← hg7]
  clear hW1 hg7 hB0 HP y
  have c26 : W1.cell? ⟨g7, 26, none⟩ = some (.int .i64 0) := (row_cell hr7.out (j := 26) rfl).1
  have c1 : W1.cell? ⟨g7, 1, none⟩ = some (.int .i64 2) := (row_cell hr7.out (j := 1) rfl).1
  have c25 : W1.cell? ⟨g7, 25, none⟩ = some (.int .i64 ((i : Int) + 1)) := (row_cell hr7.out (j := 25) rfl).1
  go_upto_region 7 with (go_at_call 38; ((with_reducible refine (HT1.out _ hB.out).mono ?_); rintro _ _ ⟨x, rfl, rfl⟩))
  obtain ⟨g8, hg8⟩ : ∃ g, g = x.val.heap.size := ⟨_, rfl⟩
  obtain ⟨W2, hW2⟩ : ∃ W, W = x.val.alloc (.cells #[.int .i64 1, .string ux, .int .i64 up] 84) := ⟨_, rfl⟩
  have hBx := hB.out.trans (x.below.mono hB.out.size)
  have hB2 : Hid (Below w.heap.size w W2) := by show Below _ _ _; rw [hW2]; exact hBx.alloc hBx.size _
  have hr6b : Hid (W2.heap[w.heap.size]? = some (.cells (g7C ty0 va0 0).toArray 120 (0, 0))) := by show _ = _; rw [hW2]; exact (Below.heap_alloc _ _ _ (row_lt (row_up x hr6.out))).trans (row_up x hr6.out)
  have hr7b : Hid (W2.heap[g7]? = some (.cells (g7C (tyOf tx) va0 ((i : Int) + 1)).toArray 120 (0, 0))) := by show _ = _; rw [hW2]; exact (Below.heap_alloc _ _ _ (row_lt (row_up x hr7.out))).trans (row_up x hr7.out)
  have hr8 : Hid (W2.heap[g8]? = some (.cells #[.int .i64 1, .string ux, .int .i64 up] 84 (0, 0))) := by show _ = _; rw [hW2, hg8]; exact heap_alloc_new _ _
  have hrt : Hid (W2.rangeAt g7 1 (tyOf tx).cells) := fun j u hj => by
    exact (row_cell hr7b.out (j := 1 + j) (g7_ty _ _ _ hj)).1
  rw [← hW2, ← hg8]
  clear hW2 hg8 hBx hB hr6 hr7 c26 c1 c25 x
  have d0 : W2.cell? ⟨g8, 0, none⟩ = some (.int .i64 1) := (row_cell (cs := [_, _, _]) hr8.out (j := 0) rfl).1
  go_upto_region 9 with fail
  let S : World → Prop := fun X => Below w.heap.size w X ∧ X.heap[g7]? = some (.cells (g7C (tyOf tx) va0 ((i : Int) + 1)).toArray 120 (0, 0)) ∧ X.heap[g8]? = some (.cells #[.int .i64 1, .string ux, .int .i64 up] 84 (0, 0))
  have hS : S W2.drew := ⟨hB2.out.drew, hr7b.out, hr8.out⟩
  have hsum : IntKind.i64.wrap ((i : Int) + 1 + 1) = (i : Int) + 2 := by rw [IntKind.wrap_i64]; omega
  have hSc : Hid (∀ X, S X → X.cell? ⟨g8, 1, none⟩ = some (.string ux) ∧ X.cell? ⟨g7, 25, none⟩ = some (.int .i64 ((i : Int) + 1)) ∧ X.rangeAt g7 1 (tyOf tx).cells) := fun X hX =>
    ⟨(row_cell (cs := [_, _, _]) hX.2.2 (j := 1) rfl).1, (row_cell hX.2.1 (j := 25) rfl).1, fun j u hj => (row_cell hX.2.1 (j := 1 + j) (g7_ty _ _ _ hj)).1⟩
  clear d0
  refine wp_region_till S 99 (by kernel_rfl) ?_
  simp only [List.size_toArray, List.length_cons, List.length_nil, Nat.reduceAdd]
  refine AnyTill.takeG (i := 0) (v := ?_) rfl (by kernel_rfl) (fun _ _ _ h => h) hS ?_ rfl ?_
  rotate_left
  · intro X hSX
    skip
    go_simp
    all_goals with_reducible rfl
  try simp only [Act.put, List.getElem_toArray, List.getElem_cons_succ, List.getElem_cons_zero, List.setIfInBounds_toArray, List.set_cons_zero, List.set_cons_succ]
  refine AnyTill.takeG (i := 1) (v := ?_) rfl (by kernel_rfl) (fun _ _ _ h => h) hS ?_ rfl ?_
  rotate_left
  · intro X hSX
    obtain ⟨h1, h2, _⟩ := hSc.out X hSX
    go_simp
    all_goals with_reducible rfl
  try simp only [Act.put, List.getElem_toArray, List.getElem_cons_succ, List.getElem_cons_zero, List.setIfInBounds_toArray, List.set_cons_zero, List.set_cons_succ]
  refine AnyTill.takeG (i := 2) (v := ?_) rfl (by kernel_rfl) (fun _ _ _ h => h) hS ?_ rfl ?_
  rotate_left
  · intro X hSX
    skip
    go_simp
    all_goals with_reducible rfl
  try simp only [Act.put, List.getElem_toArray, List.getElem_cons_succ, List.getElem_cons_zero, List.setIfInBounds_toArray, List.set_cons_zero, List.set_cons_succ]
  refine AnyTill.takeG (i := 3) (v := .agg (tyOf tx).cells.toArray) rfl (by kernel_rfl) (fun _ _ _ h => h) hS (fun X hX => by
    have hc := (hSc.out X hX).2.2
    have e := run_loadVar_mid X g7 1 40 (tyOf tx).cells _ hc Tryz.underlying40 rfl (by kernel_rfl)
    unfold execOp
    simp [Instr.loadAt, Instr.sureAddr, Act.eval, e]) rfl ?_
  try simp only [Act.put, List.getElem_toArray, List.getElem_cons_succ, List.getElem_cons_zero, List.setIfInBounds_toArray, List.set_cons_zero, List.set_cons_succ]
  refine AnyTill.takeG (i := 4) (v := ?_) rfl (by kernel_rfl) (fun _ _ _ h => h) hS ?_ rfl ?_
  rotate_left
  · intro X hSX
    skip
    go_simp
    all_goals with_reducible rfl
  try simp only [Act.put, List.getElem_toArray, List.getElem_cons_succ, List.getElem_cons_zero, List.setIfInBounds_toArray, List.set_cons_zero, List.set_cons_succ]
  refine AnyTill.takeG (i := 5) (v := ?_) rfl (by kernel_rfl) (fun _ _ _ h => h) hS ?_ rfl ?_
  rotate_left
  · intro X hSX
    skip
    go_simp
    all_goals with_reducible rfl
  try simp only [Act.put, List.getElem_toArray, List.getElem_cons_succ, List.getElem_cons_zero, List.setIfInBounds_toArray, List.set_cons_zero, List.set_cons_succ]
  refine AnyTill.takeG (i := 9) (v := ?_) rfl (by kernel_rfl) (fun _ _ _ h => h) hS ?_ rfl ?_
  rotate_left
  · intro X hSX
    skip
    go_simp
    all_goals with_reducible rfl
  try simp only [Act.put, List.getElem_toArray, List.getElem_cons_succ, List.getElem_cons_zero, List.setIfInBounds_toArray, List.set_cons_zero, List.set_cons_succ]
  refine AnyTill.takeG (i := 10) (v := ?_) rfl (by kernel_rfl) (fun _ _ _ h => h) hS ?_ rfl ?_
  rotate_left
  · intro X hSX
    obtain ⟨h1, h2, _⟩ := hSc.out X hSX
    go_simp
    all_goals with_reducible rfl
  try simp only [Act.put, List.getElem_toArray, List.getElem_cons_succ, List.getElem_cons_zero, List.setIfInBounds_toArray, List.set_cons_zero, List.set_cons_succ]
  refine AnyTill.takeG (i := 11) (v := ?_) rfl (by kernel_rfl) (fun _ _ _ h => h) hS ?_ rfl ?_
  rotate_left
  · intro X hSX
    skip
    go_simp
    all_goals with_reducible rfl
  try simp only [Act.put, List.getElem_toArray, List.getElem_cons_succ, List.getElem_cons_zero, List.setIfInBounds_toArray, List.set_cons_zero, List.set_cons_succ]
  have HTk := hide (HT0.out _ hS.1)
  refine AnyTill.oneG (i := 6) rfl (by kernel_rfl) rfl ?_
  intro K hK
  go_simp
  refine HTk.out.mono ?_
  clear HTk
  rintro _ _ ⟨x, rfl, rfl⟩
  have hSx : S x.val := ⟨hS.1.trans (x.below.mono hS.1.size), row_up x hS.2.1, row_up x hS.2.2⟩
  have hr6x : x.val.heap[w.heap.size]? = some (.cells (g7C ty0 va0 0).toArray 120 (0, 0)) := row_up x hr6b.out
  have hr6x := hide hr6x
  refine hK _ _ (fun _ => hSx) ?_
  clear hK K hS
  have hS := hSx
  clear hSx
  refine AnyTill.oneG (i := 7) rfl (by kernel_rfl) rfl ?_
  intro K hK
  have hfld := fld_tk 1 tp tx
  go_simp
  refine hK _ _ (fun _ => hS) ?_
  clear hK K hfld
  refine AnyTill.takeG (i := 8) (v := .agg (Va.mk ux (tyOf tx) tp).cells.toArray) rfl (by kernel_rfl) (fun _ _ _ h => h) hS (fun X _ => run_buildV 78 [(0, .tmp 37), (1, .tmp 39), (2, .tmp 43)] rfl [(0, .string ux), (1, .agg (tyOf tx).cells.toArray), (2, .int .i64 tp)] (by kernel_rfl) _ (built_va _ _ _)) rfl ?_
  try simp only [Act.put, List.getElem_toArray, List.getElem_cons_succ, List.getElem_cons_zero, List.setIfInBounds_toArray, List.set_cons_zero, List.set_cons_succ]
  refine AnyTill.takeG (i := 12) (v := .agg (g7C ty0 ⟨ux, tyOf tx, tp⟩ ((i : Int) + 2)).toArray) rfl (by kernel_rfl) (fun _ _ _ h => h) hS (fun X _ => run_buildV 120 [(2, .tmp 44), (3, .tmp 47)] rfl [(2, .agg (Va.mk ux (tyOf tx) tp).cells.toArray), (3, .int .i64 ((i : Int) + 2))] (by kernel_rfl) _ (built_g7v _ _)) rfl ?_
  try simp only [Act.put, List.getElem_toArray, List.getElem_cons_succ, List.getElem_cons_zero, List.setIfInBounds_toArray, List.set_cons_zero, List.set_cons_succ]
  have hr6x := hr6x.out
  have hBx := hS.1
  have hrow := hide (row_fill (cs := (g7C ty0 ⟨ux, tyOf tx, tp⟩ ((i : Int) + 2)).toArray) hr6x rfl)
  have hth := hide (row_there hr6x 28 (Nat.le_refl _))
  have hBend := hide (hBx.trans (setCells_below (Nat.le_refl w.heap.size) (g7C ty0 ⟨ux, tyOf tx, tp⟩ ((i : Int) + 2)) 0 x.val))
  have hne7 : w.heap.size ≠ g7 := fun e => by
    have h8 := hS.2.1
    rw [← e, hr6x] at h8
    have h9 := congrArg (fun o : Option Obj => match o with | some (.cells cs _ _) => cs[1]? | _ => none) h8
    simp [g7C, ty0, tyOf, Ty.cells] at h9
  have hne8 : w.heap.size ≠ g8 := fun e => by
    have h8 := hS.2.2
    rw [← e, hr6x] at h8
    simp at h8
  have hS9 : S (x.val.setCells w.heap.size 0 (g7C ty0 ⟨ux, tyOf tx, tp⟩ ((i : Int) + 2)).toArray.toList) := ⟨hBend.out, (setCells_other _ _ _ _ _ (Ne.symm hne7)).trans hS.2.1, (setCells_other _ _ _ _ _ (Ne.symm hne8)).trans hS.2.2⟩
  refine AnyTill.one (i := 13) rfl (by kernel_rfl) rfl ?_
  refine wp_store_mid 120 (.tmp 6) (.tmp 48) rfl w.heap.size 0 (g7C ty0 ⟨ux, tyOf tx, tp⟩ ((i : Int) + 2)).toArray rfl rfl hth.out (by kernel_rfl) (all_oneCell_toArray (g7C_one _ _ _)) ?_
  refine ⟨fun _ => hS9, ?_⟩
  refine AnyTill.done (by kernel_rfl) ?_ _
  clear hS9 hS hne7 hne8 hr6x hBx
  go_wp2_with fail
  refine bodyPost_ret (v := .agg (g7C ty0 ⟨ux, tyOf tx, tp⟩ ((i : Int) + 2)).toArray) (results_cell_row (p := 6) (ty := 120) Tryz.results77 _ _ w.heap.size 120 _ (0, 0) _ rfl hrow.out Tryz.underlying120 rfl (by kernel_rfl)) rfl ⟨rfl, hBend.out⟩
end Go.Proofs.YtmpdmelkbemabaaGreat
set_option linter.unusedSimpArgs false
set_option linter.unusedVariables false
namespace Go.Proofs.YtmpdmelkbemabaaGreat
open Go.RowKit Go.Proofs.Grow

def ex0 : Ex := .mk 0 0 ⟨#[]⟩ none 0 []
def exSt (k : Int) (x : ByteArray) (ty : Ty) (pos : Int) : St := .mk k x ⟨#[]⟩ ⟨#[]⟩ ty ex0 none 0 [] none 0 [] none 0 [] pos
/-- demesneref08.Got -/
def g8C (s : St) (nx : Int) : List Value := s.cells ++ [.slice none 0 0, .slice none 0 0, .int .i64 nx, .int .i64 0, .int .i64 0]
theorem g8C_len (s : St) (nx : Int) : (g8C s nx).length = 28 := by simp [g8C, St.cells_len]
theorem st_one (s : St) : ∀ u ∈ s.cells, u.oneCell' = true := by
  obtain ⟨k, x, y, name, ⟨tk, tc, tn, ⟨k0, n0⟩, ⟨k1, n1⟩, ⟨k2, n2⟩, ⟨k3, n3⟩⟩, ⟨ek, en, ename, eA, ec, kids⟩, aA, ac, args, bA, bc, body, lA, lc, els, pos⟩ := s
  intro u hu
  simp only [St.cells, Ty.cells, Ex.cells, List.cons_append, List.nil_append, List.mem_cons, List.not_mem_nil, or_false] at hu
  rcases hu with rfl | rfl | rfl | rfl | rfl | rfl | rfl | rfl | rfl | rfl | rfl | rfl | rfl | rfl | rfl | rfl | rfl | rfl | rfl | rfl | rfl | rfl | rfl <;> rfl
theorem g8C_one (s : St) (nx : Int) : ∀ u ∈ g8C s nx, u.oneCell' = true := by
  intro u hu
  rcases List.mem_append.1 hu with hu | hu
  · exact st_one s u hu
  · simp only [List.mem_cons, List.not_mem_nil, or_false] at hu
    rcases hu with rfl | rfl | rfl | rfl | rfl <;> rfl
theorem built_g8 (s : St) (nx : Int) : Tryz.prog.built 138 [(0, .agg s.cells.toArray), (3, .int .i64 nx)] = some (g8C s nx).toArray := by
  obtain ⟨k, x, y, name, ⟨tk, tc, tn, ⟨k0, n0⟩, ⟨k1, n1⟩, ⟨k2, n2⟩, ⟨k3, n3⟩⟩, ⟨ek, en, ename, eA, ec, kids⟩, aA, ac, args, bA, bc, body, lA, lc, els, pos⟩ := s
  kernel_rfl
theorem g8_info (s : St) (nx : Int) : (Tryz.prog.info? 138).map (·.size) = some (g8C s nx).toArray.size := by rw [List.size_toArray, g8C_len]; kernel_rfl
theorem g8_size (s r : St) (nx mx : Int) : (g8C s nx).toArray.size = (g8C r mx).toArray.size := by rw [List.size_toArray, List.size_toArray, g8C_len, g8C_len]
theorem g8_there {W : World} {g : Nat} {t : TypeId} {s : St} {nx : Int} (h : W.heap[g]? = some (.cells (g8C s nx).toArray t (0, 0))) (r : St) (mx : Int) : W.there g 0 (g8C r mx).toArray.size := row_there h _ (Nat.le_of_eq (g8_size r s mx nx))
theorem fld_tk0 (k p : Int) (x : ByteArray) (W : World) : (Instr.field 84 (.agg #[.int .i64 k, .string x, .int .i64 p]) 0).run Tryz.prog W = .ok (.int .i64 k) W := by kernel_rfl
theorem fld_tk1 (k p : Int) (x : ByteArray) (W : World) : (Instr.field 84 (.agg #[.int .i64 k, .string x, .int .i64 p]) 1).run Tryz.prog W = .ok (.string x) W := by kernel_rfl

set_option maxHeartbeats 1000000 in
theorem whose_name (w : World) (A : Option Addr) (c : Nat) (l : List Tk) (hl : Lies w 3 Tk.cells A l) (hm : l.length ≤ 1000000) (i : Nat) (hi : i < l.length) (h1 : (l[i]'hi).k = 1) : Gives Tryz.prog 81 #[.slice A l.length c, .int .i64 i] w (.bool true) := by
  refine Gives.mk ?_
  have HT := hide (tok08_any w A c l hl hm i hi)
  obtain ⟨t, ht⟩ : ∃ t, t = l[i]'hi := ⟨_, rfl⟩
  rw [← ht] at HT h1
  obtain ⟨k, tx, tp⟩ := t
  simp only [Tk.cells] at HT
  simp only at h1
  subst h1
  have hfld := fld_tk0 1 tp tx
  clear ht hl hm hi
  go_enter Tryz.func81, Tryz.ntmps81
  go_wp2_with (go_at_call 79; refine HT.out.mono ?_; rintro _ _ ⟨y, rfl, rfl⟩)
  go_ret
  exact ⟨rfl, y.below⟩

set_option maxHeartbeats 2000000 in
set_option maxRecDepth 100000 in
theorem ends_any (w : World) (A : Option Addr) (c : Nat) (l : List Tk) (hl : Lies w 3 Tk.cells A l) (hm : l.length ≤ 1000000) (i : Nat) (hi : i < l.length) (s : St) (h1 : isT (l[i]'hi) ⟨#[59]⟩ = true) : Gives Tryz.prog 85 #[.slice A l.length c, .int .i64 i, .agg s.cells.toArray] w (.agg (g8C s (i + 1)).toArray) := by
  refine Gives.mk ?_
  have hi63 : (i : Int) ≤ 1000000 := by omega
  have HI : Hid (∀ W, Below w.heap.size w W → Gives Tryz.prog 82 #[.slice A l.length c, .int .i64 i, .string ⟨#[59]⟩] W (.bool true)) := fun W hW => by
    have h := is08_any W A c l (hl.below hW) hm i hi ⟨#[59]⟩
    rw [h1] at h
    exact h
  clear hl hm hi h1
  go_enter Tryz.func85, Tryz.ntmps85
  go_upto_region 1 with fail
  obtain ⟨W1, hW1⟩ : ∃ W1, W1 = (w.alloc (.cells s.cells.toArray 50)).alloc (.cells (g8C (exSt 0 ⟨#[]⟩ ty0 0) 0).toArray 138) := ⟨_, rfl⟩
  have hB : Hid (Below w.heap.size w W1) := by show Below _ _ _; rw [hW1]; exact ((Below.refl _ _).alloc (Nat.le_refl _) _).alloc (by simp) _
  have hr5 : Hid (W1.heap[w.heap.size]? = some (.cells s.cells.toArray 50 (0, 0))) := by show _ = _; rw [hW1]; exact (Below.heap_alloc _ _ _ (by simp)).trans (heap_alloc_new w _)
  have hr6 : Hid (W1.heap[w.heap.size + 1]? = some (.cells (g8C (exSt 0 ⟨#[]⟩ ty0 0) 0).toArray 138 (0, 0))) := by
    show _ = _
    rw [hW1]
    have := heap_alloc_new (w.alloc (.cells s.cells.toArray 50)) (.cells (g8C (exSt 0 ⟨#[]⟩ ty0 0) 0).toArray 138)
    simpa using this
  change Code.wp _ _ _ _ ((w.alloc (.cells s.cells.toArray 50)).alloc (.cells (g8C (exSt 0 ⟨#[]⟩ ty0 0) 0).toArray 138))
  rw [← hW1]
  clear hW1
  have HI9 := HI.out W1 hB.out
  unfold Gives at HI9
  have HI9 := hide HI9
  go_upto_region 3 with (go_at_call 82; ((with_reducible refine HI9.out.mono ?_); rintro _ _ ⟨x, rfl, rfl⟩))
  have hr5x := hide (row_up x hr5.out)
  have hr6x := hide (row_up x hr6.out)
  have hth := hide (g8_there hr6x.out s ((i : Int) + 1))
  have hrow := hide (row_fill (cs := (g8C s ((i : Int) + 1)).toArray) hr6x.out (g8_size _ _ _ _))
  go_wp2_with (first | (refine wpList_load_row rfl 50 (.tmp 5) rfl w.heap.size rfl 50 s.cells.toArray (0, 0) _ hr5x.out Tryz.underlying50 rfl (by rw [List.size_toArray, St.cells_len]; kernel_rfl) ?_) | (refine wpList_buildV rfl 138 [(0, .tmp 14), (3, .tmp 16)] rfl [(0, .agg s.cells.toArray), (3, .int .i64 ((i : Int) + 1))] (by kernel_rfl) _ (built_g8 _ _) ?_) | (refine wpList_store_mid rfl 138 (.tmp 6) (.tmp 17) rfl (w.heap.size + 1) 0 (g8C s ((i : Int) + 1)).toArray rfl rfl hth.out (g8_info _ _) (all_oneCell_toArray (g8C_one _ _)) ?_))
  refine bodyPost_ret (v := .agg (g8C s ((i : Int) + 1)).toArray) (results_cell_row (p := 6) (ty := 138) Tryz.results85 _ _ (w.heap.size + 1) 138 _ (0, 0) _ rfl hrow.out Tryz.underlying138 rfl (g8_info _ _)) rfl ⟨rfl, ?_⟩
  exact (hB.out.trans (x.below.mono hB.out.size)).trans (setCells_below (Nat.le_succ _) _ 0 _)

theorem tyc_one (t : Ty) : ∀ u ∈ t.cells, u.oneCell' = true := by
  intro u hu
  simp only [Ty.cells, List.mem_cons, List.not_mem_nil, or_false] at hu
  rcases hu with rfl | rfl | rfl | rfl | rfl | rfl | rfl | rfl | rfl | rfl | rfl <;> rfl
theorem st_typed {W : World} {g : Nat} {x : ByteArray} {pos : Int} (ty : Ty) (h : W.heap[g]? = some (.cells (exSt 5 x ty0 pos).cells.toArray 50 (0, 0))) : (W.setCells g 4 ty.cells).heap[g]? = some (.cells (exSt 5 x ty pos).cells.toArray 50 (0, 0)) := by
  obtain ⟨cur', h1, h2⟩ := setCells_row g 50 ty.cells 4 W _ h (by rw [Ty.cells_len, List.size_toArray, St.cells_len]; decide)
  have e : cur' = (exSt 5 x ty pos).cells.toArray := by
    apply Array.toList_inj.1
    rw [h2, Ty.cells_len]
    obtain ⟨tk, tc, tn, ⟨k0, n0⟩, ⟨k1, n1⟩, ⟨k2, n2⟩, ⟨k3, n3⟩⟩ := ty
    rfl
  rw [e] at h1
  exact h1

set_option maxHeartbeats 4000000 in
set_option maxRecDepth 100000 in
theorem typed_new (w : World) (A : Option Addr) (c : Nat) (l : List Tk) (hl : Lies w 3 Tk.cells A l) (hm : l.length ≤ 1000000) (i : Nat) (hi : i + 3 < l.length) (B : Value) (x : ByteArray) (pos : Int) (h0 : isT (l[i]'(by omega)) ⟨#[99, 97, 115, 116]⟩ = false) (h1 : (l[i + 1]'(by omega)).k = 1) (h2 : (l[i + 2]'(by omega)).k ≠ 1) (h3 : isT (l[i + 2]'(by omega)) ⟨#[60]⟩ = false) (h4 : isT (l[i + 2]'(by omega)) ⟨#[59]⟩ = true) :
    Gives Tryz.prog 92 #[.slice A l.length c, .int .i64 i, .agg (exSt 0 x ty0 pos).cells.toArray, B] w (.agg (g8C (exSt 5 x (tyOf (l[i + 1]'(by omega)).tx) pos) (i + 3)).toArray) := by
  refine Gives.mk ?_
  have hi63 : (i : Int) ≤ 1000000 := by omega
  have HI : Hid (∀ W, Below w.heap.size w W → Gives Tryz.prog 82 #[.slice A l.length c, .int .i64 i, .string ⟨#[99, 97, 115, 116]⟩] W (.bool false)) := fun W hW => by
    have h := is08_any W A c l (hl.below hW) hm i (by omega) ⟨#[99, 97, 115, 116]⟩
    rw [h0] at h
    exact h
  have HP : Hid (∀ W, Below w.heap.size w W → Gives Tryz.prog 56 #[.slice A l.length c, .int .i64 ((i : Int) + 1), B, .bool false] W (.agg (g7C (tyOf (l[i + 1]'(by omega)).tx) va0 ((i : Int) + 1 + 1)).toArray)) := fun W hW => parse_name W A c l (hl.below hW) hm (i + 1) (by omega) false B h1 h3 (.inl h2)
  obtain ⟨tx, htx⟩ : ∃ tx, tx = (l[i + 1]'(by omega)).tx := ⟨_, rfl⟩
  rw [← htx] at HP ⊢
  have HE : Hid (∀ W, Below w.heap.size w W → Gives Tryz.prog 85 #[.slice A l.length c, .int .i64 ((i : Int) + 1 + 1), .agg (exSt 5 x (tyOf tx) pos).cells.toArray] W (.agg (g8C (exSt 5 x (tyOf tx) pos) ((i : Int) + 3)).toArray)) := fun W hW => ends_any W A c l (hl.below hW) hm (i + 2) (by omega) _ h4
  unfold Gives at HI HP HE
  clear htx hl hm hi h0 h1 h2 h3 h4
  have hs0 : (exSt 0 x ty0 pos).cells.toArray = #[.int .i64 0, .string x, .string ⟨#[]⟩, .string ⟨#[]⟩, .int .i64 0, .string ⟨#[]⟩, .int .i64 0, .int .i64 0, .int .i64 0, .int .i64 0, .int .i64 0, .int .i64 0, .int .i64 0, .int .i64 0, .int .i64 0, .int .i64 0, .int .i64 0, .string ⟨#[]⟩, .slice none 0 0, .slice none 0 0, .slice none 0 0, .slice none 0 0, .int .i64 pos] := rfl
  rw [hs0]
  clear hs0
  go_enter Tryz.func92, Tryz.ntmps92
  go_upto_region 2 with fail
  change Code.wp _ _ _ _ ((w.alloc (.cells (exSt 5 x ty0 pos).cells.toArray 50)).alloc (.cells (g8C (exSt 0 ⟨#[]⟩ ty0 0) 0).toArray 138))
  obtain ⟨W1, hW1⟩ : ∃ W1, W1 = (w.alloc (.cells (exSt 5 x ty0 pos).cells.toArray 50)).alloc (.cells (g8C (exSt 0 ⟨#[]⟩ ty0 0) 0).toArray 138) := ⟨_, rfl⟩
  have hB : Hid (Below w.heap.size w W1) := by show Below _ _ _; rw [hW1]; exact ((Below.refl _ _).alloc (Nat.le_refl _) _).alloc (by simp) _
  have hr6 : Hid (W1.heap[w.heap.size]? = some (.cells (exSt 5 x ty0 pos).cells.toArray 50 (0, 0))) := by show _ = _; rw [hW1]; exact (Below.heap_alloc _ _ _ (by simp)).trans (heap_alloc_new w _)
  have hr8 : Hid (W1.heap[w.heap.size + 1]? = some (.cells (g8C (exSt 0 ⟨#[]⟩ ty0 0) 0).toArray 138 (0, 0))) := by
    show _ = _
    rw [hW1]
    have := heap_alloc_new (w.alloc (.cells (exSt 5 x ty0 pos).cells.toArray 50)) (.cells (g8C (exSt 0 ⟨#[]⟩ ty0 0) 0).toArray 138)
    simpa using this
  rw [← hW1]
  clear hW1
  go_upto_region 4 with (go_at_call 82; ((with_reducible refine (HI.out _ hB.out).mono ?_); rintro _ _ ⟨y, rfl, rfl⟩))
  have hB2 := hide (hB.out.trans (y.below.mono hB.out.size))
  have hr6b := hide (row_up y hr6.out)
  have hr8b := hide (row_up y hr8.out)
  generalize y.val = W2 at hB2 hr6b hr8b ⊢
  clear hB hr6 hr8 HI y
  have c0 : W2.cell? ⟨w.heap.size, 0, none⟩ = some (.int .i64 5) := (row_cell hr6b.out (j := 0) rfl).1
  go_upto_region 5 with (first | (go_at_call 56; ((with_reducible refine (HP.out _ hB2.out).mono ?_); rintro _ _ ⟨y, rfl, rfl⟩)) | (refine wpList_store_new rfl 120 (.tmp 9) (.tmp 23) rfl _ _ (g7C (tyOf tx) va0 ((i : Int) + 1 + 1)).toArray _ rfl rfl rfl (by kernel_rfl) rfl (fun u hu => g7C_one _ _ _ u (by simpa using hu)) ?_))
  obtain ⟨g9, hg9⟩ : ∃ g, g = y.val.heap.size := ⟨_, rfl⟩
  obtain ⟨W3, hW3⟩ : ∃ W, W = y.val.alloc (.cells (g7C (tyOf tx) va0 ((i : Int) + 1 + 1)).toArray 120) := ⟨_, rfl⟩
  have hBx := hB2.out.trans (y.below.mono hB2.out.size)
  have hB3 : Hid (Below w.heap.size w W3) := by show Below _ _ _; rw [hW3]; exact hBx.alloc hBx.size _
  have hr6c : Hid (W3.heap[w.heap.size]? = some (.cells (exSt 5 x ty0 pos).cells.toArray 50 (0, 0))) := by show _ = _; rw [hW3]; exact (Below.heap_alloc _ _ _ (row_lt (row_up y hr6b.out))).trans (row_up y hr6b.out)
  have hr8c : Hid (W3.heap[w.heap.size + 1]? = some (.cells (g8C (exSt 0 ⟨#[]⟩ ty0 0) 0).toArray 138 (0, 0))) := by show _ = _; rw [hW3]; exact (Below.heap_alloc _ _ _ (row_lt (row_up y hr8b.out))).trans (row_up y hr8b.out)
  have hr9 : Hid (W3.heap[g9]? = some (.cells (g7C (tyOf tx) va0 ((i : Int) + 1 + 1)).toArray 120 (0, 0))) := by show _ = _; rw [hW3, hg9]; exact heap_alloc_new _ _
  have hg9w : w.heap.size + 1 < g9 := by rw [hg9]; exact row_lt (row_up y hr8b.out)
  rw [← hW3, ← hg9]
  clear hW3 hg9 hBx hB2 hr6b hr8b HP c0 y
  have d26 : W3.cell? ⟨g9, 26, none⟩ = some (.int .i64 0) := (row_cell hr9.out (j := 26) rfl).1
  have d1 : W3.cell? ⟨g9, 1, none⟩ = some (.int .i64 2) := (row_cell hr9.out (j := 1) rfl).1
  have hrt : Hid (W3.rangeAt g9 1 (tyOf tx).cells) := fun j u hj => (row_cell hr9.out (j := 1 + j) (g7_ty _ _ _ hj)).1
  have hth : Hid (W3.there w.heap.size 4 (tyOf tx).cells.toArray.size) := fun j hj => by
    have hj : j < 11 := hj
    have hlt : 4 + j < (exSt 5 x ty0 pos).cells.toArray.size := by rw [List.size_toArray, St.cells_len]; omega
    rw [cell_of_row W3 w.heap.size _ _ _ _ hr6c.out]
    exact ⟨by rw [Array.getElem?_eq_getElem hlt]; rfl, by simp [World.frozen?, hr6c.out]⟩
  go_upto_region 10 with (first | (refine wpList_load_mid rfl 40 (.tmp 39) rfl g9 1 rfl (tyOf tx).cells _ hrt.out Tryz.underlying40 rfl (by kernel_rfl) ?_) | (refine wpList_store_mid rfl 40 (.tmp 41) (.tmp 40) rfl w.heap.size 4 (tyOf tx).cells.toArray rfl rfl hth.out (by kernel_rfl) (all_oneCell_toArray (tyc_one _)) ?_))
  have hB4 := hide (hB3.out.trans (setCells_below (Nat.le_refl w.heap.size) (tyOf tx).cells.toArray.toList 4 W3))
  have hr6d := hide (st_typed (tyOf tx) hr6c.out)
  have hr8d := hide ((setCells_other w.heap.size (tyOf tx).cells.toArray.toList 4 W3 (w.heap.size + 1) (by omega)).trans hr8c.out)
  have hr9d := hide ((setCells_other w.heap.size (tyOf tx).cells.toArray.toList 4 W3 g9 (by omega)).trans hr9.out)
  generalize (W3.setCells w.heap.size 4 (tyOf tx).cells.toArray.toList) = W4 at hB4 hr6d hr8d hr9d ⊢
  clear hB3 hr6c hr8c hr9 d26 d1 hrt hth
  have c0 : W4.cell? ⟨w.heap.size, 0, none⟩ = some (.int .i64 5) := (row_cell hr6d.out (j := 0) rfl).1
  have d25 : W4.cell? ⟨g9, 25, none⟩ = some (.int .i64 ((i : Int) + 1 + 1)) := (row_cell hr9d.out (j := 25) rfl).1
  have harm : Hid (∀ y : Ext W4, y.val.there (w.heap.size + 1) 0 (g8C (exSt 5 x (tyOf tx) pos) ((i : Int) + 3)).toArray.size) := fun y => g8_there (row_up y hr8d.out) _ _
  have hsum : (i : Int) + 1 + 1 = (i : Int) + 2 := by omega
  have HE4 := hide (HE.out W4 hB4.out)
  rw [hsum] at d25 HE4
  clear hsum HE
  go_wp2_with (first | (refine wpList_load_row rfl 50 (.tmp 6) rfl w.heap.size rfl 50 (exSt 5 x (tyOf tx) pos).cells.toArray (0, 0) _ hr6d.out Tryz.underlying50 rfl (by rw [List.size_toArray, St.cells_len]; kernel_rfl) ?_) | (go_at_call 85; ((with_reducible refine HE4.out.mono ?_); rintro _ _ ⟨y, rfl, rfl⟩)) | (refine wpList_store_mid rfl 138 (.tmp 8) (.tmp 49) rfl (w.heap.size + 1) 0 (g8C (exSt 5 x (tyOf tx) pos) ((i : Int) + 3)).toArray rfl rfl (harm.out _) (g8_info _ _) (all_oneCell_toArray (g8C_one _ _)) ?_))
  have hrow := hide (row_fill (cs := (g8C (exSt 5 x (tyOf tx) pos) ((i : Int) + 3)).toArray) (row_up y hr8d.out) (g8_size _ _ _ _))
  refine bodyPost_ret (v := .agg (g8C (exSt 5 x (tyOf tx) pos) ((i : Int) + 3)).toArray) (results_cell_row (p := 8) (ty := 138) Tryz.results92 _ _ (w.heap.size + 1) 138 _ (0, 0) _ rfl hrow.out Tryz.underlying138 rfl (g8_info _ _)) rfl ⟨rfl, ?_⟩
  exact (hB4.out.trans (y.below.mono hB4.out.size)).trans (setCells_below (Nat.le_succ _) _ 0 _)
end Go.Proofs.YtmpdmelkbemabaaGreat
