/- A class, read: its members by a contract. -/
import Derived.Test.YtmpdmelkbemabaaTk17
set_option linter.unusedSimpArgs false
set_option linter.unusedVariables false
namespace Go.Proofs.Ytmpdmelkbemabaa
open Go.RowKit Go.Proofs.Grow

def exCl (cn : ByteArray) (fA : Option Addr) (fc : Nat) (fs : List Va) (mA : Option Addr) (mc : Nat) (ms : List Me) (cp : Int) : Cl := ⟨cn, none, 0, [], ⟨#[]⟩, none, 0, [], fA, fc, fs, mA, mc, ms, cp⟩
theorem built_me9 (tp : Int) : Try.prog.built 63 [(6, .int .i64 tp), (1, .bool false)] = some (exMe ⟨#[]⟩ ty0 tp none 0 [] none 0 []).cells.toArray := by kernel_rfl
theorem built_va9 (nm : ByteArray) (tp : Int) : Try.prog.built 79 [(0, .string nm), (1, .agg tyInt.cells.toArray), (2, .int .i64 tp)] = some (Va.cells ⟨nm, tyInt, tp⟩).toArray := by kernel_rfl
theorem built_g9c (c : Cl) (nx : Int) : Try.prog.built 101 [(0, .agg c.cells.toArray), (4, .int .i64 nx)] = some (g9C c me0 none 0 0 nx).toArray := by kernel_rfl
theorem me_typed {W : World} {g : Nat} {pos : Int} (ty : Ty) (h : W.heap[g]? = some (.cells (exMe ⟨#[]⟩ ty0 pos none 0 [] none 0 []).cells.toArray 63 (0, 0))) : (W.setCells g 2 ty.cells.toArray.toList).heap[g]? = some (.cells (exMe ⟨#[]⟩ ty pos none 0 [] none 0 []).cells.toArray 63 (0, 0)) := by
  obtain ⟨cur', h1, h2⟩ := setCells_row g 63 ty.cells 2 W _ h (by rw [Ty.cells_len, List.size_toArray, Me.cells_len]; decide)
  have e : cur' = (exMe ⟨#[]⟩ ty pos none 0 [] none 0 []).cells.toArray := by
    apply Array.toList_inj.1
    rw [h2, Ty.cells_len]
    obtain ⟨tk, tc, tn, ⟨k0, n0⟩, ⟨k1, n1⟩, ⟨k2, n2⟩, ⟨k3, n3⟩⟩ := ty
    rfl
  rw [e] at h1
  exact h1
theorem infoMeK : (Try.prog.info? 63).map (fun i => (i.zero.map (·.cells.size), i.size, i.bytes)) = some (some 17, 17, 200) := by kernel_rfl
theorem g9_cl (c : Cl) (m : Me) (vA : Option Addr) (vn vc : Nat) (nx : Int) {j : Nat} {u : Value} (h : c.cells[j]? = some u) : (g9C c m vA vn vc nx)[j]? = some u := by
  unfold g9C
  rw [List.getElem?_append_left (List.getElem?_eq_some_iff.1 h).1]
  exact h
theorem g9_me (c : Cl) (m : Me) (vA : Option Addr) (vn vc : Nat) (nx : Int) {j : Nat} {u : Value} (h : m.cells[j]? = some u) : (g9C c m vA vn vc nx)[7 + j]? = some u := by
  have h1 := (List.getElem?_eq_some_iff.1 h).1
  have hc := Cl.cells_len c
  unfold g9C
  rw [List.getElem?_append_right (by omega), show 7 + j - c.cells.length = j by omega, List.getElem?_append_left h1]
  exact h
end Go.Proofs.Ytmpdmelkbemabaa
set_option linter.unusedSimpArgs false
set_option linter.unusedVariables false
namespace Go.Proofs.Ytmpdmelkbemabaa
open Go.RowKit Go.Proofs.Grow

set_option maxHeartbeats 2000000 in
set_option maxRecDepth 100000 in
theorem stmts0 (w : World) (c : Cl) (h5 : c.cells[5]? = some (.slice none 0 0)) : Gives Try.prog 32 #[.agg c.cells.toArray] w (.int .i64 0) := by
  refine Gives.mk ?_
  go_enter Try.func32, Try.ntmps32
  go_upto_region 1 with fail
  obtain ⟨w1, hw1⟩ : ∃ w1, w1 = w.alloc (.cells c.cells.toArray 61) := ⟨_, rfl⟩
  rw [← hw1]
  have hB1 : Hid (Below w.heap.size w w1) := by
    show Below _ _ _
    rw [hw1]
    exact (Below.refl _ _).alloc (Nat.le_refl _) _
  have hr : w1.heap[w.heap.size]? = some (.cells c.cells.toArray 61 (0, 0)) := by rw [hw1]; exact heap_alloc_new _ _
  have a5 : w1.cell? ⟨w.heap.size, 5, none⟩ = some (.slice none 0 0) := (row_cell hr h5).1
  clear hw1 hr h5
  go_wp2_with fail
  go_loopw [3, 4] (fun v i wr => v = .int .i64 0 ∧ i = .int .i64 0 ∧ wr = w1) (fun _ _ _ => 0)
  case atStart => exact ⟨rfl, rfl, rfl⟩
  case round =>
    obtain ⟨rfl, rfl, rfl⟩ := hrel
    go_wp2_with fail
    go_ret
    exact ⟨rfl, hB1.out⟩

set_option maxHeartbeats 2000000 in
set_option maxRecDepth 100000 in
theorem stmts1 (w : World) (c : Cl) (mA : Option Addr) (mc : Nat) (m : Me) (bA : Option Addr) (bc : Nat) (s : St) (h5 : c.cells[5]? = some (.slice mA 1 mc)) (hl : Lies w 17 Me.cells mA [m]) (h15 : m.cells[15]? = some (.slice bA 1 bc)) (hb : Lies w 23 St.cells bA [s])
    (hs : ∀ W, Gives Try.prog 16 #[.agg s.cells.toArray] W (.int .i64 1)) : Gives Try.prog 32 #[.agg c.cells.toArray] w (.int .i64 1) := by
  refine Gives.mk ?_
  go_enter Try.func32, Try.ntmps32
  go_upto_region 1 with fail
  obtain ⟨w1, hw1⟩ : ∃ w1, w1 = w.alloc (.cells c.cells.toArray 61) := ⟨_, rfl⟩
  rw [← hw1]
  have hB1 : Hid (Below w.heap.size w w1) := by
    show Below _ _ _
    rw [hw1]
    exact (Below.refl _ _).alloc (Nat.le_refl _) _
  have hr : Hid (w1.heap[w.heap.size]? = some (.cells c.cells.toArray 61 (0, 0))) := by show _ = _; rw [hw1]; exact heap_alloc_new _ _
  have hL1 := hl.below hB1.out
  have hL2 := hb.below hB1.out
  obtain ⟨mb, mo, rfl, hmb, hmc⟩ := hL1 0 (by simp)
  obtain ⟨bb, bo, rfl, hbb, hbr⟩ := hL2 0 (by simp)
  simp only [List.getElem_cons_zero, Nat.zero_mul, Nat.add_zero] at hmc hbr
  have HC : Hid (∀ x : Ext w1, x.val.cell? ⟨w.heap.size, 5, none⟩ = some (.slice (some ⟨mb, mo, none⟩) 1 mc) ∧ x.val.cell? ⟨mb, mo + 15, none⟩ = some (.slice (some ⟨bb, bo, none⟩) 1 bc) ∧ x.val.rangeAt bb bo s.cells) := fun x =>
    ⟨(row_cell (row_up x hr.out) h5).1, (x.cell hmb).trans (hmc 15 _ h15), fun j u hj => (x.cell hbb).trans (hbr j u hj)⟩
  have HS := hide hs
  unfold Gives at HS
  clear hw1 hr h5 hL1 hL2 hmc hbr hl hb h15 hs hmb hbb
  go_wp2_with fail
  go_loopw [3, 4] (fun v i wr => ∃ x : Ext w1, wr = x.val ∧ ((v = .int .i64 0 ∧ i = .int .i64 0) ∨ (v = .int .i64 1 ∧ i = .int .i64 1))) (fun _ i _ => 1 - (intOf i).toNat)
  case atStart => exact ⟨Ext.here w1, rfl, .inl ⟨rfl, rfl⟩⟩
  case round =>
    obtain ⟨x, rfl, ⟨rfl, rfl⟩ | ⟨rfl, rfl⟩⟩ := hrel
    · obtain ⟨c1, c2, c3⟩ := HC.out x
      clear c3
      go_wp2_with fail
      go_loopw [3, 5] (fun v i wr => ∃ x : Ext w1, wr = x.val ∧ ((v = .int .i64 0 ∧ i = .int .i64 0) ∨ (v = .int .i64 1 ∧ i = .int .i64 1))) (fun _ i _ => 1 - (intOf i).toNat)
      case atStart => exact ⟨x, rfl, .inl ⟨rfl, rfl⟩⟩
      case round =>
        clear c1 c2
        obtain ⟨x2, rfl, ⟨rfl, rfl⟩ | ⟨rfl, rfl⟩⟩ := hrel
        · obtain ⟨c1, c2, c3⟩ := HC.out x2
          have hrs := hide c3
          clear c3
          go_wp2_with (first | (refine wpList_load_mid rfl 46 (.tmp 32) rfl bb bo rfl s.cells _ hrs.out Try.underlying46 rfl (by rw [St.cells_len]; kernel_rfl) ?_) | (go_at_call 16; (with_reducible refine (HS.out _).mono ?_); rintro _ _ ⟨y, rfl, rfl⟩))
          obtain ⟨z, hz⟩ := x2.over y
          rw [hz]
          go_wp2_with fail
          go_roundw
          case rel => exact ⟨z, rfl, .inr ⟨rfl, rfl⟩⟩
          case measure => simp [intOf]
        · obtain ⟨c1, c2, c3⟩ := HC.out x2
          clear c3
          go_wp2_with fail
          go_roundw
          case rel => exact ⟨x2, rfl, .inr ⟨rfl, rfl⟩⟩
          case measure => simp [intOf]
    · obtain ⟨c1, c2, c3⟩ := HC.out x
      clear c3 c2
      go_wp2_with fail
      go_ret
      exact ⟨rfl, hB1.out.trans (x.below.mono hB1.out.size)⟩
end Go.Proofs.Ytmpdmelkbemabaa
set_option linter.unusedSimpArgs false
set_option linter.unusedVariables false
namespace Go.Proofs.Ytmpdmelkbemabaa
open Go.RowKit Go.Proofs.Grow

/-- What a class of the example holds lies in memory. -/
structure ClOk (C : Cl) (X : World) : Prop where
  f : Lies X 13 Va.cells C.fA C.fields
  m : Lies X 17 Me.cells C.mA C.methods
  l : ∀ m ∈ C.methods, Lies X 13 Va.cells m.lA m.locals
  b : ∀ m ∈ C.methods, Lies X 23 St.cells m.bA m.body
/-- The blocks of what it holds. -/
def BlkC (p : Nat → Prop) (C : Cl) : Prop := (∀ a, C.fA = some a → p a.block) ∧ (∀ a, C.mA = some a → p a.block) ∧ ∀ m ∈ C.methods, (∀ a, m.lA = some a → p a.block) ∧ ∀ a, m.bA = some a → p a.block
theorem BlkC.mono {p q : Nat → Prop} {C : Cl} (h : BlkC p C) (hpq : ∀ b, p b → q b) : BlkC q C := ⟨fun a e => hpq _ (h.1 a e), fun a e => hpq _ (h.2.1 a e), fun m hm => ⟨fun a e => hpq _ ((h.2.2 m hm).1 a e), fun a e => hpq _ ((h.2.2 m hm).2 a e)⟩⟩
theorem ClOk.into {C : Cl} {X Y : World} (h : ClOk C X) (hy : ∃ y : Ext X, y.val = Y) : ClOk C Y := by
  obtain ⟨y, rfl⟩ := hy
  exact ⟨h.f.ext y, h.m.ext y, fun m hm => (h.l m hm).ext y, fun m hm => (h.b m hm).ext y⟩
theorem ClOk.set {C : Cl} {X : World} {g : Nat} (h : ClOk C X) (hb : BlkC (fun b => b ≠ g) C) (o : Nat) (vs : List Value) : ClOk C (X.setCells g o vs) :=
  ⟨h.f.setCells hb.1 o vs, h.m.setCells hb.2.1 o vs, fun m hm => (h.l m hm).setCells (hb.2.2 m hm).1 o vs, fun m hm => (h.b m hm).setCells (hb.2.2 m hm).2 o vs⟩
theorem built_cl9 (cp : Int) : Try.prog.built 61 [(6, .int .i64 cp)] = some (exCl ⟨#[]⟩ none 0 [] none 0 [] cp).cells.toArray := by kernel_rfl

set_option maxHeartbeats 40000000 in
set_option maxRecDepth 100000 in
theorem class_ex (w : World) (T : Value) (cn x0 : ByteArray) (cp k0 p1 : Int) (F : Int → Cl → Prop) (hF3 : F 3 (exCl cn none 0 [] none 0 [] cp)) (hlo : ∀ i C, F i C → 3 ≤ i ∧ i ≤ 20) (h5 : ∀ i C, F i C → i ≠ 20 → C.cells[5]? = some (.slice none 0 0))
    (ht0 : ∀ W, Below w.heap.size w W → Gives Try.prog 29 #[T, .int .i64 0] W (.agg #[.int .i64 k0, .string x0, .int .i64 cp]))
    (ht1 : ∀ W, Below w.heap.size w W → Gives Try.prog 29 #[T, .int .i64 1] W (.agg #[.int .i64 1, .string cn, .int .i64 p1]))
    (hlt : ∀ W, Below w.heap.size w W → Gives Try.prog 30 #[T, .int .i64 2, .string ⟨#[60]⟩] W (.bool false))
    (hex : ∀ W, Below w.heap.size w W → Gives Try.prog 30 #[T, .int .i64 2, .string ⟨#[101, 120, 116, 101, 110, 100, 115]⟩] W (.bool false))
    (hob : ∀ W, Below w.heap.size w W → Gives Try.prog 30 #[T, .int .i64 2, .string ⟨#[123]⟩] W (.bool true))
    (hcb : ∀ W i C, Below w.heap.size w W → F i C → Gives Try.prog 30 #[T, .int .i64 i, .string ⟨#[125]⟩] W (.bool (decide (i = 20))))
    (hmem : ∀ W i C, Below w.heap.size w W → F i C → i ≠ 20 → ClOk C W → Calls Try.prog 50 #[T, .int .i64 i, .agg C.cells.toArray, .int .i64 0] W fun e w' => ∃ (y : Ext W) (C' : Cl) (nx : Int), e = .returned (.agg (g9C C' me0 none 0 0 nx).toArray) ∧ w' = y.val ∧ F nx C' ∧ i < nx ∧ ClOk C' y.val ∧ ∀ p : Nat → Prop, BlkC p C → (∀ b, W.heap.size ≤ b → b < y.val.heap.size → p b) → BlkC p C') :
    Calls Try.prog 31 #[T, .int .i64 0, .int .i64 0] w fun e w' => ∃ (y : Ext w) (C : Cl), e = .returned (.agg (g9C C me0 none 0 0 21).toArray) ∧ w' = y.val ∧ F 20 C ∧ ClOk C y.val := by
  have HT0 := hide ht0
  have HT1 := hide ht1
  have HLt := hide hlt
  have HEx := hide hex
  have HOb := hide hob
  have HCb := hide hcb
  have HMem := hide hmem
  have HLo := hide hlo
  have H5 := hide h5
  unfold Gives at HT0 HT1 HLt HEx HOb HCb
  clear ht0 ht1 hlt hex hob hcb hmem hlo h5
  have q2 := fld_tk k0 cp x0
  have q1 := fld_tk1 1 p1 cn
  have q0 := fld_tk0 1 p1 cn
  go_enter Try.func31, Try.ntmps31
  go_upto_region 1 with fail
  change Code.wp _ _ _ _ (w.alloc (.cells (g9C cl0 me0 none 0 0 0).toArray 101))
  obtain ⟨W1, hW1⟩ : ∃ W1, W1 = w.alloc (.cells (g9C cl0 me0 none 0 0 0).toArray 101) := ⟨_, rfl⟩
  have hB : Hid (Below w.heap.size w W1) := by show Below _ _ _; rw [hW1]; exact (Below.refl _ _).alloc (Nat.le_refl _) _
  have hr6 : Hid (W1.heap[w.heap.size]? = some (.cells (g9C cl0 me0 none 0 0 0).toArray 101 (0, 0))) := by show _ = _; rw [hW1]; exact heap_alloc_new w _
  rw [← hW1]
  clear hW1
  go_upto_region 2 with (first | (go_at_call 29; ((with_reducible refine (HT0.out _ hB.out).mono ?_); rintro _ _ ⟨y, rfl, rfl⟩)) | (refine wpList_buildV rfl 61 [(6, .tmp 14)] rfl [(6, .int .i64 cp)] (by kernel_rfl) _ (built_cl9 _) ?_) | (refine wpList_store_new rfl 61 (.tmp 7) (.tmp 15) rfl _ _ (exCl ⟨#[]⟩ none 0 [] none 0 [] cp).cells.toArray _ rfl rfl rfl (by kernel_rfl) rfl (fun u hu => Cl.cells_one _ u (by simpa using hu)) ?_))
  obtain ⟨g7, hg7⟩ : ∃ g, g = y.val.heap.size := ⟨_, rfl⟩
  obtain ⟨W2, hW2⟩ : ∃ W, W = y.val.alloc (.cells (exCl ⟨#[]⟩ none 0 [] none 0 [] cp).cells.toArray 61) := ⟨_, rfl⟩
  have hBx := hB.out.trans (y.below.mono hB.out.size)
  have hB2 : Hid (Below w.heap.size w W2) := by show Below _ _ _; rw [hW2]; exact hBx.alloc hBx.size _
  have hr6b : Hid (W2.heap[w.heap.size]? = some (.cells (g9C cl0 me0 none 0 0 0).toArray 101 (0, 0))) := by show _ = _; rw [hW2]; exact (Below.heap_alloc _ _ _ (row_lt (row_up y hr6.out))).trans (row_up y hr6.out)
  have hr7 : Hid (W2.heap[g7]? = some (.cells (exCl ⟨#[]⟩ none 0 [] none 0 [] cp).cells.toArray 61 (0, 0))) := by show _ = _; rw [hW2, hg7]; exact heap_alloc_new _ _
  have hg7w : w.heap.size < g7 := by rw [hg7]; exact row_lt (row_up y hr6.out)
  rw [← hW2, ← hg7]
  clear hW2 hg7 hBx hB hr6 HT0 q2 y
  go_upto_region 4 with (go_at_call 29; ((with_reducible refine (HT1.out _ hB2.out).mono ?_); rintro _ _ ⟨y, rfl, rfl⟩))
  have hB3 := hide (hB2.out.trans (y.below.mono hB2.out.size))
  have hr6c := hide (row_up y hr6b.out)
  have hr7c := hide (row_up y hr7.out)
  generalize y.val = W3 at hB3 hr6c hr7c ⊢
  clear hB2 hr6b hr7 y
  go_upto_region 5 with (go_at_call 29; ((with_reducible refine (HT1.out _ hB3.out).mono ?_); rintro _ _ ⟨y, rfl, rfl⟩; have hr7y := hide (row_up y hr7c.out); obtain ⟨e0, f0⟩ := row_cell hr7y.out (j := 0) (u := .string ⟨#[]⟩) rfl))
  have hBy := hB3.out.trans (y.below.mono hB3.out.size)
  have hB4 : Hid (Below w.heap.size w (y.val.setCell ⟨g7, 0, none⟩ (.string cn))) := hBy.setCell (p := ⟨g7, 0, none⟩) (show w.heap.size ≤ g7 by omega) _
  have hr6d := hide ((Below.heap_setCell y.val ⟨g7, 0, none⟩ (.string cn) w.heap.size (show w.heap.size ≠ g7 by omega)).trans (row_up y hr6c.out))
  have hr7d : Hid ((y.val.setCell ⟨g7, 0, none⟩ (.string cn)).heap[g7]? = some (.cells (exCl cn none 0 [] none 0 [] cp).cells.toArray 61 (0, 0))) := by
    show _ = _
    rw [row_store hr7y.out 0 (.string cn)]
    rfl
  generalize (y.val.setCell ⟨g7, 0, none⟩ (.string cn)) = W4 at hB4 hr6d hr7d ⊢
  clear hBy hB3 hr6c hr7c hr7y e0 f0 HT1 q0 q1 y
  go_wp2_with (go_at_call 30; first | ((with_reducible refine (HLt.out _ hB4.out).mono ?_); rintro _ _ ⟨y, rfl, rfl⟩; have hBy := hide (hB4.out.trans (y.below.mono hB4.out.size))) | ((with_reducible refine (HEx.out _ hBy.out).mono ?_); rintro _ _ ⟨z, rfl, rfl⟩; have hBz := hide (hBy.out.trans (z.below.mono hBy.out.size))) | ((with_reducible refine (HOb.out _ hBz.out).mono ?_); rintro _ _ ⟨v, rfl, rfl⟩))
  have hB5 := hide (hBz.out.trans (v.below.mono hBz.out.size))
  have hr6e := hide (row_up v (row_up z (row_up y hr6d.out)))
  have hr7e := hide (row_up v (row_up z (row_up y hr7d.out)))
  generalize v.val = W5 at hB5 hr6e hr7e ⊢
  clear hBy hBz hB4 hr6d hr7d HLt HEx HOb v z y
  go_loopw [1] (fun s1 wr => ∃ (i : Int) (C : Cl), s1 = .int .i64 i ∧ F i C ∧ Hid (Below w.heap.size w wr) ∧ Hid (wr.heap[w.heap.size]? = some (.cells (g9C cl0 me0 none 0 0 0).toArray 101 (0, 0))) ∧ Hid (wr.heap[g7]? = some (.cells C.cells.toArray 61 (0, 0))) ∧ Hid (ClOk C wr) ∧ Hid (BlkC (fun b => b < wr.heap.size ∧ b ≠ w.heap.size ∧ b ≠ g7) C)) (fun s1 _ => (20 - intOf s1).toNat)
  case atStart => exact ⟨3, _, rfl, hF3, hB5, hr6e, hr7e, ⟨Lies.nil, Lies.nil, fun m hm => (by cases hm), fun m hm => (by cases hm)⟩, ⟨fun a e => (by cases e), fun a e => (by cases e), fun m hm => (by cases hm)⟩⟩
  case round =>
    clear hB5 hr6e hr7e
    obtain ⟨i, C, rfl, hFi, hB6, hr6f, hr7f, hok5, hblk5⟩ := hrel
    by_cases hi20 : i = 20
    · subst hi20
      have HC1 : Hid (∀ W, Below w.heap.size w W → Calls Try.prog 30 #[T, .int .i64 20, .string ⟨#[125]⟩] W fun e w' => ∃ x : Ext W, e = .returned (.bool true) ∧ w' = x.val) := fun W hW => HCb.out W 20 C hW hFi
      clear HCb HMem
      have hr7y : Hid (∀ y : Ext wr, y.val.heap[g7]? = some (.cells C.cells.toArray 61 (0, 0))) := fun y => row_up y hr7f.out
      have harm : Hid (∀ y : Ext wr, y.val.there w.heap.size 0 29) := fun y => row_there (row_up y hr6f.out) 29 (Nat.le_refl _)
      go_wp2_with (first | (go_at_call 30; ((with_reducible refine (HC1.out _ hB6.out).mono ?_); rintro _ _ ⟨y, rfl, rfl⟩)) | (refine wpList_load_row rfl 61 (.tmp 7) rfl g7 rfl 61 C.cells.toArray (0, 0) _ (hr7y.out y) Try.underlying61 rfl (by rw [List.size_toArray, Cl.cells_len]; kernel_rfl) ?_) | (refine wpList_buildV rfl 101 [(0, .tmp 96), (4, .tmp 98)] rfl [(0, .agg C.cells.toArray), (4, .int .i64 21)] (by kernel_rfl) _ (built_g9c _ _) ?_) | (refine wpList_store_mid rfl 101 (.tmp 6) (.tmp 99) rfl w.heap.size 0 (g9C C me0 none 0 0 21).toArray rfl rfl (harm.out _) (by kernel_rfl) (all_oneCell_toArray (g9C_one _ _ _ _ _ _)) ?_))
      have hrow := hide (row_fill (cs := (g9C C me0 none 0 0 21).toArray) (row_up y hr6f.out) rfl)
      refine bodyPost_ret (v := .agg (g9C C me0 none 0 0 21).toArray) (results_cell_row (p := 6) (ty := 101) Try.results31 _ _ w.heap.size 101 _ (0, 0) _ rfl hrow.out Try.underlying101 rfl (by kernel_rfl)) rfl ?_
      have hBy := hB6.out.trans (y.below.mono hB6.out.size)
      obtain ⟨x', hx'⟩ := Ext.of (hBy.trans (setCells_below (Nat.le_refl _) (g9C C me0 none 0 0 21) 0 _))
      refine ⟨x', C, rfl, hx', hFi, ?_⟩
      rw [← hx']
      exact (hok5.out.into ⟨y, rfl⟩).set (hblk5.out.mono fun b hb => hb.2.1) 0 _
    · have hi20b : decide (i = 20) = false := by simp [hi20]
      have HC0 : Hid (∀ W, Below w.heap.size w W → Calls Try.prog 30 #[T, .int .i64 i, .string ⟨#[125]⟩] W fun e w' => ∃ x : Ext W, e = .returned (.bool false) ∧ w' = x.val) := fun W hW => by rw [← hi20b]; exact HCb.out W i C hW hFi
      have HS : Hid (∀ W, Calls Try.prog 32 #[.agg C.cells.toArray] W fun e w' => ∃ x : Ext W, e = .returned (.int .i64 0) ∧ w' = x.val) := fun W => stmts0 W C (H5.out i C hFi hi20)
      clear HCb hi20b
      go_upto_region 22 with (go_at_call 30; ((with_reducible refine (HC0.out _ hB6.out).mono ?_); rintro _ _ ⟨y, rfl, rfl⟩))
      have hB7 := hide (hB6.out.trans (y.below.mono hB6.out.size))
      have hr6 := hide (row_up y hr6f.out)
      have hr7 := hide (row_up y hr7f.out)
      have hok6 := hide (hok5.out.into ⟨y, rfl⟩)
      have hblk : Hid (BlkC (fun b => b < y.val.heap.size ∧ b ≠ w.heap.size ∧ b ≠ g7) C) := hblk5.out.mono fun b hb => ⟨Nat.lt_of_lt_of_le hb.1 y.below.size, hb.2⟩
      generalize y.val = W6 at hB7 hr6 hr7 hok6 hblk ⊢
      clear HC0 hB6 hr6f hr7f hok5 hblk5 y
      have hB6 := hB7
      clear hB7
      go_cut [10] (fun s10 wx => ∃ (g : Nat) (z : Ext W6) (C' : Cl) (nx : Int), s10 = .pointer (some ⟨g, 0, none⟩) ∧ wx = z.val ∧ Hid (z.val.heap[g]? = some (.cells (g9C C' me0 none 0 0 nx).toArray 101 (0, 0))) ∧ F nx C' ∧ i < nx ∧ Hid (ClOk C' z.val) ∧ Hid (BlkC (fun b => b < z.val.heap.size ∧ b ≠ w.heap.size ∧ b ≠ g7) C'))
      case first =>
        let S : World → Prop := fun X => Below W6.heap.size W6 X
        have hS0 : S W6.drew := (Below.refl _ _).drew
        have hSh : S W6 := Below.refl _ _
        have hS := hS0
        have hw0 : IntKind.i64.wrap ((0 : Int) + 0) = 0 := rfl
        refine wp_region_till S 99 (by kernel_rfl) ?_
        simp only [List.size_toArray, List.length_cons, List.length_nil, Nat.reduceAdd]
        refine AnyTill.takeG (i := 0) (v := ?_) rfl (by kernel_rfl) (fun _ _ _ h => h) hS ?_ rfl ?_
        rotate_left
        · intro X hSX
          skip
          go_simp
          all_goals with_reducible rfl
        try simp only [Act.put, List.getElem_toArray, List.getElem_cons_succ, List.getElem_cons_zero, List.setIfInBounds_toArray, List.set_cons_zero, List.set_cons_succ]
        refine AnyTill.takeG (i := 1) (v := ?_) rfl (by kernel_rfl) (fun _ _ _ h => h) hS ?_ rfl ?_
        rotate_left
        · intro X hSX
          skip
          go_simp
          all_goals with_reducible rfl
        try simp only [Act.put, List.getElem_toArray, List.getElem_cons_succ, List.getElem_cons_zero, List.setIfInBounds_toArray, List.set_cons_zero, List.set_cons_succ]
        refine AnyTill.takeG (i := 2) (v := .agg (C.cells).toArray) rfl (by kernel_rfl) (fun _ _ _ h => h) hS (fun X hX => run_load_block (g := g7) rfl rfl ((hX.block _ (row_lt hr7.out)).trans hr7.out) Try.underlying61 rfl (by rw [List.size_toArray, Cl.cells_len]; kernel_rfl)) rfl ?_
        try simp only [Act.put, List.getElem_toArray, List.getElem_cons_succ, List.getElem_cons_zero, List.setIfInBounds_toArray, List.set_cons_zero, List.set_cons_succ]
        refine AnyTill.takeG (i := 3) (v := ?_) rfl (by kernel_rfl) (fun _ _ _ h => h) hS ?_ rfl ?_
        rotate_left
        · intro X hSX
          skip
          go_simp
          all_goals with_reducible rfl
        try simp only [Act.put, List.getElem_toArray, List.getElem_cons_succ, List.getElem_cons_zero, List.setIfInBounds_toArray, List.set_cons_zero, List.set_cons_succ]
        refine AnyTill.takeG (i := 4) (v := .agg (C.cells).toArray) rfl (by kernel_rfl) (fun _ _ _ h => h) hS (fun X hX => run_load_block (g := g7) rfl rfl ((hX.block _ (row_lt hr7.out)).trans hr7.out) Try.underlying61 rfl (by rw [List.size_toArray, Cl.cells_len]; kernel_rfl)) rfl ?_
        try simp only [Act.put, List.getElem_toArray, List.getElem_cons_succ, List.getElem_cons_zero, List.setIfInBounds_toArray, List.set_cons_zero, List.set_cons_succ]
        refine AnyTill.twoK (i := 5) (j := 8) rfl rfl (by kernel_rfl) rfl rfl ?_ ?_
        · intro K hK
          go_simp
          refine (HS.out _).mono ?_
          rintro _ _ ⟨y1, rfl, rfl⟩
          have hS1 : S y1.val := hS0.trans (y1.below.mono hS0.size)
          refine hK _ _ (fun _ => hS1) ?_
          clear hK K
          have hS := hS1
          refine AnyTill.takeG (i := 6) (v := ?_) rfl (by kernel_rfl) (fun _ _ _ h => h) hS ?_ rfl ?_
          rotate_left
          · intro X hSX
            skip
            go_simp
            all_goals with_reducible rfl
          try simp only [Act.put, List.getElem_toArray, List.getElem_cons_succ, List.getElem_cons_zero, List.setIfInBounds_toArray, List.set_cons_zero, List.set_cons_succ]
          refine AnyTill.twoK (i := 7) (j := 8) rfl rfl (by kernel_rfl) rfl rfl ?_ ?_
          · intro K hK
            go_simp
            refine (HMem.out y1.val i C (hB6.out.trans (hS1.mono hB6.out.size)) hFi hi20 (hok6.out.into ⟨⟨_, hS1⟩, rfl⟩)).mono ?_
            rintro _ _ ⟨y2, C', nx, rfl, rfl, f1, f2, f3, f4⟩
            have hS2 : S y2.val := hS1.trans (y2.below.mono hS1.size)
            refine hK _ _ (fun _ => hS2) ?_
            clear hK K
            refine AnyTill.oneK (i := 8) rfl (by kernel_rfl) rfl ?_
            intro K hK
            go_simp
            generalize hcs : (Obj.cells _ 101) = ob
            obtain ⟨cs, hcs2, hcz⟩ : ∃ cs : Array Value, ob = .cells cs 101 (0, 0) ∧ cs.size = 29 := ⟨_, hcs.symm, rfl⟩
            clear hcs
            subst hcs2
            have hcz9 := hide hcz
            have hS3 : S (y2.val.alloc (Obj.cells cs 101 (0, 0))) := hS2.alloc hS2.size _
            refine hK _ _ (fun _ => hS3) ?_
            clear hK K
            have hnew : (y2.val.alloc (Obj.cells cs 101 (0, 0))).heap[y2.val.heap.size]? = some (.cells cs 101 (0, 0)) := heap_alloc_new _ _
            have hth : Hid ((y2.val.alloc (Obj.cells cs 101 (0, 0))).there y2.val.heap.size 0 29) := row_there hnew 29 (by omega)
            have hrow : Hid ((y2.val.alloc (Obj.cells cs 101 (0, 0))).heap[y2.val.heap.size]? = some (.cells cs 101 (0, 0))) := hnew
            have hgo : Below y2.val.heap.size y2.val ((y2.val.alloc (Obj.cells cs 101 (0, 0))).setCells y2.val.heap.size 0 (g9C C' me0 none 0 0 nx).toArray.toList) := ((Below.refl _ _).alloc (Nat.le_refl _) _).trans (setCells_below (Nat.le_refl _) _ _ _)
            have hSe : Hid (Below W6.heap.size W6 ((y2.val.alloc (Obj.cells cs 101 (0, 0))).setCells y2.val.heap.size 0 (g9C C' me0 none 0 0 nx).toArray.toList)) := hS2.trans (hgo.mono hS2.size)
            have hok : Hid (ClOk C' ((y2.val.alloc (Obj.cells cs 101 (0, 0))).setCells y2.val.heap.size 0 (g9C C' me0 none 0 0 nx).toArray.toList)) := f3.into ⟨⟨_, hgo⟩, rfl⟩
            have hbk : Hid (BlkC (fun b => b < ((y2.val.alloc (Obj.cells cs 101 (0, 0))).setCells y2.val.heap.size 0 (g9C C' me0 none 0 0 nx).toArray.toList).heap.size ∧ b ≠ w.heap.size ∧ b ≠ g7) C') := by
              have e1 := hgo.size
              have e2 := y2.below.size
              have e3 := hS1.size
              have e4 := row_lt hr7.out
              exact f4 _ (hblk.out.mono fun b hb => ⟨by omega, hb.2⟩) (fun b h1 h2 => ⟨by omega, by omega, by omega⟩)
            clear hnew hcz hgo hS1 hS2 hS3 f3 f4
            refine AnyTill.oneK (i := 9) rfl (by kernel_rfl) rfl ?_
            intro K hK
            refine wp_store_mid 101 (.tmp 10) (.tmp 86) rfl y2.val.heap.size 0 (g9C C' me0 none 0 0 nx).toArray rfl rfl hth.out (by kernel_rfl) (all_oneCell_toArray (g9C_one _ _ _ _ _ _)) ?_
            refine hK _ _ (fun _ => hSe.out) ?_
            clear hK K
            refine AnyTill.done (by kernel_rfl) ?_ _
            go_wp2_with fail
            go_meet
            case rel =>
              obtain ⟨z, hz⟩ := Ext.of hSe.out
              refine ⟨y2.val.heap.size, z, C', nx, rfl, hz, ?_, f1, f2, ?_, ?_⟩
              · show _ = _
                rw [← hz]
                exact row_fill (cs := (g9C C' me0 none 0 0 nx).toArray) hrow.out (hcz9.out.trans (by rw [List.size_toArray, g9C_len]))
              · show ClOk _ _
                rw [← hz]
                exact hok.out
              · show BlkC _ _
                rw [← hz]
                exact hbk.out
          · intro K hK
            go_simp
            generalize hcs : (Obj.cells _ 101) = ob
            obtain ⟨cs, hcs2, hcz⟩ : ∃ cs : Array Value, ob = .cells cs 101 (0, 0) ∧ cs.size = 29 := ⟨_, hcs.symm, rfl⟩
            clear hcs
            subst hcs2
            have hcz9 := hide hcz
            have hS3 : S (y1.val.alloc (Obj.cells cs 101 (0, 0))) := hS1.alloc hS1.size _
            refine hK _ _ (fun _ => hS3) ?_
            clear hK K
            have hnew : (y1.val.alloc (Obj.cells cs 101 (0, 0))).heap[y1.val.heap.size]? = some (.cells cs 101 (0, 0)) := heap_alloc_new _ _
            refine AnyTill.oneK (i := 7) rfl (by kernel_rfl) rfl ?_
            intro K hK
            go_simp
            refine (HMem.out (y1.val.alloc (Obj.cells cs 101 (0, 0))) i C (hB6.out.trans (hS3.mono hB6.out.size)) hFi hi20 (hok6.out.into ⟨⟨_, hS3⟩, rfl⟩)).mono ?_
            rintro _ _ ⟨y2, C', nx, rfl, rfl, f1, f2, f3, f4⟩
            have hS2 : S y2.val := hS3.trans (y2.below.mono hS3.size)
            refine hK _ _ (fun _ => hS2) ?_
            clear hK K
            have hlt8 : y1.val.heap.size < (y1.val.alloc (Obj.cells cs 101 (0, 0))).heap.size := by simp
            have hnew2 : y2.val.heap[y1.val.heap.size]? = some (.cells cs 101 (0, 0)) := row_up y2 hnew
            have hth : Hid (y2.val.there y1.val.heap.size 0 29) := row_there hnew2 29 (by omega)
            have hrow : Hid (y2.val.heap[y1.val.heap.size]? = some (.cells cs 101 (0, 0))) := hnew2
            have hSe : Hid (Below W6.heap.size W6 (y2.val.setCells y1.val.heap.size 0 (g9C C' me0 none 0 0 nx).toArray.toList)) := hS2.trans (setCells_below hS1.size _ _ _)
            have hsz9 : (y2.val.setCells y1.val.heap.size 0 (g9C C' me0 none 0 0 nx).toArray.toList).heap.size = y2.val.heap.size := setCells_size _ _ _ _
            have hbq : BlkC (fun b => (b < y2.val.heap.size ∧ b ≠ w.heap.size ∧ b ≠ g7) ∧ b ≠ y1.val.heap.size) C' := by
              have e2 := y2.below.size
              have e3 := hS1.size
              have e4 := row_lt hr7.out
              exact f4 _ (hblk.out.mono fun b hb => ⟨⟨by omega, hb.2⟩, by omega⟩) (fun b h1 h2 => ⟨⟨by omega, by omega, by omega⟩, by omega⟩)
            have hok : Hid (ClOk C' (y2.val.setCells y1.val.heap.size 0 (g9C C' me0 none 0 0 nx).toArray.toList)) := f3.set (hbq.mono fun b hb => hb.2) _ _
            have hbk : Hid (BlkC (fun b => b < (y2.val.setCells y1.val.heap.size 0 (g9C C' me0 none 0 0 nx).toArray.toList).heap.size ∧ b ≠ w.heap.size ∧ b ≠ g7) C') := by
              show BlkC _ _
              rw [hsz9]
              exact hbq.mono fun b hb => hb.1
            clear hnew hnew2 hcz hS1 hS2 hS3 f3 f4 hbq hsz9 hlt8
            refine AnyTill.oneK (i := 9) rfl (by kernel_rfl) rfl ?_
            intro K hK
            refine wp_store_mid 101 (.tmp 10) (.tmp 86) rfl y1.val.heap.size 0 (g9C C' me0 none 0 0 nx).toArray rfl rfl hth.out (by kernel_rfl) (all_oneCell_toArray (g9C_one _ _ _ _ _ _)) ?_
            refine hK _ _ (fun _ => hSe.out) ?_
            clear hK K
            refine AnyTill.done (by kernel_rfl) ?_ _
            go_wp2_with fail
            go_meet
            case rel =>
              obtain ⟨z, hz⟩ := Ext.of hSe.out
              refine ⟨y1.val.heap.size, z, C', nx, rfl, hz, ?_, f1, f2, ?_, ?_⟩
              · show _ = _
                rw [← hz]
                exact row_fill (cs := (g9C C' me0 none 0 0 nx).toArray) hrow.out (hcz9.out.trans (by rw [List.size_toArray, g9C_len]))
              · show ClOk _ _
                rw [← hz]
                exact hok.out
              · show BlkC _ _
                rw [← hz]
                exact hbk.out
        · intro K hK
          go_simp
          generalize hcs : (Obj.cells _ 101) = ob
          obtain ⟨cs, hcs2, hcz⟩ : ∃ cs : Array Value, ob = .cells cs 101 (0, 0) ∧ cs.size = 29 := ⟨_, hcs.symm, rfl⟩
          clear hcs
          subst hcs2
          have hcz9 := hide hcz
          have hS3 : S (W6.alloc (Obj.cells cs 101 (0, 0))).drew := (hSh.alloc hSh.size _).drew
          refine hK _ _ (fun _ => hS3) ?_
          clear hK K
          have hnew : (W6.alloc (Obj.cells cs 101 (0, 0))).drew.heap[W6.heap.size]? = some (.cells cs 101 (0, 0)) := heap_alloc_new _ _
          refine AnyTill.oneK (i := 5) rfl (by kernel_rfl) rfl ?_
          intro K hK
          go_simp
          refine (HS.out _).mono ?_
          rintro _ _ ⟨y1, rfl, rfl⟩
          have hS1 : S y1.val := hS3.trans (y1.below.mono hS3.size)
          refine hK _ _ (fun _ => hS1) ?_
          clear hK K
          have hS := hS1
          refine AnyTill.takeG (i := 6) (v := ?_) rfl (by kernel_rfl) (fun _ _ _ h => h) hS ?_ rfl ?_
          rotate_left
          · intro X hSX
            skip
            go_simp
            all_goals with_reducible rfl
          try simp only [Act.put, List.getElem_toArray, List.getElem_cons_succ, List.getElem_cons_zero, List.setIfInBounds_toArray, List.set_cons_zero, List.set_cons_succ]
          refine AnyTill.oneK (i := 7) rfl (by kernel_rfl) rfl ?_
          intro K hK
          go_simp
          refine (HMem.out y1.val i C (hB6.out.trans (hS1.mono hB6.out.size)) hFi hi20 (hok6.out.into ⟨⟨_, hS1⟩, rfl⟩)).mono ?_
          rintro _ _ ⟨y2, C', nx, rfl, rfl, f1, f2, f3, f4⟩
          have hS2 : S y2.val := hS1.trans (y2.below.mono hS1.size)
          refine hK _ _ (fun _ => hS2) ?_
          clear hK K
          have hlt8 : W6.heap.size < (W6.alloc (Obj.cells cs 101 (0, 0))).drew.heap.size := by simp
          have hnew2 : y2.val.heap[W6.heap.size]? = some (.cells cs 101 (0, 0)) := row_up y2 (row_up y1 hnew)
          have hth : Hid (y2.val.there W6.heap.size 0 29) := row_there hnew2 29 (by omega)
          have hrow : Hid (y2.val.heap[W6.heap.size]? = some (.cells cs 101 (0, 0))) := hnew2
          have hSe : Hid (Below W6.heap.size W6 (y2.val.setCells W6.heap.size 0 (g9C C' me0 none 0 0 nx).toArray.toList)) := hS2.trans (setCells_below (Nat.le_refl _) _ _ _)
          have hsz9 : (y2.val.setCells W6.heap.size 0 (g9C C' me0 none 0 0 nx).toArray.toList).heap.size = y2.val.heap.size := setCells_size _ _ _ _
          have hbq : BlkC (fun b => (b < y2.val.heap.size ∧ b ≠ w.heap.size ∧ b ≠ g7) ∧ b ≠ W6.heap.size) C' := by
            have e2 := y2.below.size
            have e3 : (W6.alloc (Obj.cells cs 101 (0, 0))).drew.heap.size ≤ y1.val.heap.size := y1.below.size
            have e4 := row_lt hr7.out
            exact f4 _ (hblk.out.mono fun b hb => ⟨⟨by omega, hb.2⟩, by omega⟩) (fun b h1 h2 => ⟨⟨by omega, by omega, by omega⟩, by omega⟩)
          have hok : Hid (ClOk C' (y2.val.setCells W6.heap.size 0 (g9C C' me0 none 0 0 nx).toArray.toList)) := f3.set (hbq.mono fun b hb => hb.2) _ _
          have hbk : Hid (BlkC (fun b => b < (y2.val.setCells W6.heap.size 0 (g9C C' me0 none 0 0 nx).toArray.toList).heap.size ∧ b ≠ w.heap.size ∧ b ≠ g7) C') := by
            show BlkC _ _
            rw [hsz9]
            exact hbq.mono fun b hb => hb.1
          clear hnew hnew2 hcz hS1 hS2 hS3 f3 f4 hbq hsz9 hlt8
          refine AnyTill.oneK (i := 9) rfl (by kernel_rfl) rfl ?_
          intro K hK
          refine wp_store_mid 101 (.tmp 10) (.tmp 86) rfl W6.heap.size 0 (g9C C' me0 none 0 0 nx).toArray rfl rfl hth.out (by kernel_rfl) (all_oneCell_toArray (g9C_one _ _ _ _ _ _)) ?_
          refine hK _ _ (fun _ => hSe.out) ?_
          clear hK K
          refine AnyTill.done (by kernel_rfl) ?_ _
          go_wp2_with fail
          go_meet
          case rel =>
            obtain ⟨z, hz⟩ := Ext.of hSe.out
            refine ⟨W6.heap.size, z, C', nx, rfl, hz, ?_, f1, f2, ?_, ?_⟩
            · show _ = _
              rw [← hz]
              exact row_fill (cs := (g9C C' me0 none 0 0 nx).toArray) hrow.out (hcz9.out.trans (by rw [List.size_toArray, g9C_len]))
            · show ClOk _ _
              rw [← hz]
              exact hok.out
            · show BlkC _ _
              rw [← hz]
              exact hbk.out
      case rest =>
        obtain ⟨g, z, C', nx, rfl, rfl, hrg, hF2, hin, hok2, hblk2⟩ := hcut
        have hr6z := hide (row_up z hr6.out)
        have hr7z := hide (row_up z hr7.out)
        have hBz := hide (hB6.out.trans (z.below.mono hB6.out.size))
        generalize z.val = W8 at hrg hok2 hblk2 hr6z hr7z hBz ⊢
        have HLo2 := HLo.out nx C' hF2
        clear hB6 hr6 hr7 hok6 hblk HS HMem z
        have d27 : W8.cell? ⟨g, 27, none⟩ = some (.int .i64 0) := (row_cell hrg.out (j := 27) rfl).1
        have d26 : W8.cell? ⟨g, 26, none⟩ = some (.int .i64 nx) := (row_cell hrg.out (j := 26) rfl).1
        go_upto_region 25 with fail
        have hgg7 : Hid (g ≠ g7) := fun e => by
          have h1 := hrg.out
          rw [e] at h1
          have h2 := hr7z.out
          rw [h1] at h2
          injection h2 with h2
          injection h2 with h2 h3
          exact absurd h3 (by decide)
        have hrC : Hid (W8.rangeAt g 0 C'.cells) := fun j u hj => (row_cell hrg.out (j := 0 + j) (by rw [Nat.zero_add]; exact g9_cl _ _ _ _ _ _ hj)).1
        have hth : Hid (W8.there g7 0 C'.cells.toArray.size) := row_there hr7z.out _ (by rw [List.size_toArray, List.size_toArray, Cl.cells_len, Cl.cells_len]; exact Nat.le_refl _)
        clear d27 d26
        go_upto_region 26 with (first | (refine wpList_load_mid rfl 61 (.tmp 92) rfl g 0 rfl C'.cells _ hrC.out Try.underlying61 rfl (by rw [Cl.cells_len]; kernel_rfl) ?_) | (refine wpList_store_mid rfl 61 (.tmp 7) (.tmp 93) rfl g7 0 C'.cells.toArray rfl rfl hth.out (by rw [List.size_toArray, Cl.cells_len]; kernel_rfl) (all_oneCell_toArray (Cl.cells_one _)) ?_))
        have hB9 := hide (hBz.out.trans (setCells_below (show w.heap.size ≤ g7 by omega) C'.cells.toArray.toList 0 W8))
        have hr6g := hide ((setCells_other g7 C'.cells.toArray.toList 0 W8 w.heap.size (by omega)).trans hr6z.out)
        have hr7g : Hid ((W8.setCells g7 0 C'.cells.toArray.toList).heap[g7]? = some (.cells C'.cells.toArray 61 (0, 0))) := row_fill hr7z.out (by rw [List.size_toArray, List.size_toArray, Cl.cells_len, Cl.cells_len])
        have hrg2 := hide ((setCells_other g7 C'.cells.toArray.toList 0 W8 g hgg7.out).trans hrg.out)
        have hok3 := hide (hok2.out.set (g := g7) (hblk2.out.mono fun b hb => hb.2.2) 0 C'.cells.toArray.toList)
        have hbk3 : Hid (BlkC (fun b => b < (W8.setCells g7 0 C'.cells.toArray.toList).heap.size ∧ b ≠ w.heap.size ∧ b ≠ g7) C') := by
          show BlkC _ _
          rw [setCells_size]
          exact hblk2.out
        generalize (W8.setCells g7 0 C'.cells.toArray.toList) = W9 at hB9 hr6g hr7g hrg2 hok3 hbk3 ⊢
        clear hrC hth hrg hok2 hblk2 hr6z hr7z hBz
        have d26 : W9.cell? ⟨g, 26, none⟩ = some (.int .i64 nx) := (row_cell hrg2.out (j := 26) rfl).1
        go_wp2_with fail
        go_roundw
        case rel => exact ⟨nx, C', rfl, hF2, hB9, hr6g, hr7g, hok3, hbk3⟩
        case measure =>
          rw [intOf_int, intOf_int]
          omega
end Go.Proofs.Ytmpdmelkbemabaa
