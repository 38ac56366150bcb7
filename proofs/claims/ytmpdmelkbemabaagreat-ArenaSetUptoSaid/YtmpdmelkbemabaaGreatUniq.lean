/- The walk of demesneref10.uniques: that it gives an answer. -/
import Derived.Test.YtmpdmelkbemabaaGreatRows
import Derived.Test.YtmpdmelkbemabaaGreatAcc
import Derived.Test.YtmpdmelkbemabaaGreatIdx
import Derived.BigGuardPart
import Derived.Deep.DeepCutAuto
import Derived.Test.YtmpdmelkbemabaaGreatSet
import Derived.BigQuiet
set_option linter.unusedSimpArgs false
set_option linter.unusedVariables false
namespace Go.Proofs.Grow
open Go.RowKit
def AnsB (w : World) (e : Ending) (w' : World) : Prop := ∃ (x : Ext w) (b : Bool), e = .returned (.bool b) ∧ w' = x.val
def AnsI (w : World) (e : Ending) (w' : World) : Prop := ∃ (x : Ext w) (n : Int), e = .returned (.int .i64 n) ∧ w' = x.val
def SomeBool (P : Program) (f : FuncId) (args : Array Value) (w : World) : Prop := Calls P f args w fun e w' => AnsB w e w'
def SomeInt (P : Program) (f : FuncId) (args : Array Value) (w : World) : Prop := Calls P f args w fun e w' => AnsI w e w'
theorem SomeBool.over {P : Program} {f : FuncId} {args : Array Value} {w1 : World} (z : Ext w1) (h : SomeBool P f args z.val) :
    Calls P f args z.val fun e w' => ∃ (y : Ext w1) (b : Bool), (∃ y' : Ext z.val, y'.val = y.val) ∧ e = .returned (.bool b) ∧ w' = y.val :=
  Calls.mono h fun _ _ ⟨x, b, he, hw⟩ => ⟨z.step x.below, b, ⟨x, rfl⟩, he, hw⟩
theorem SomeInt.over {P : Program} {f : FuncId} {args : Array Value} {w1 : World} (z : Ext w1) (h : SomeInt P f args z.val) :
    Calls P f args z.val fun e w' => ∃ (y : Ext w1) (n : Int), (∃ y' : Ext z.val, y'.val = y.val) ∧ e = .returned (.int .i64 n) ∧ w' = y.val :=
  Calls.mono h fun _ _ ⟨x, b, he, hw⟩ => ⟨z.step x.below, b, ⟨x, rfl⟩, he, hw⟩
theorem wrap_next {n : Nat} {c : Nat} (h : n < c) (hm : c ≤ maxLen) : wrap64 ((n : Int) + 1) = ((n + 1 : Nat) : Int) := by
  unfold maxLen at hm
  unfold wrap64
  omega
theorem below_two {w w1 : World} (h : Below w.heap.size w w1) (x : Ext w1) : ∃ u : Ext w, x.val = u.val := Ext.of (h.trans (x.below.mono h.size))
theorem step_lt {n l : Nat} (h : n < l) : l - (n + 1) < l - n := Nat.sub_lt_sub_left h (Nat.lt_succ_self n)
end Go.Proofs.Grow
namespace Go.Proofs.YtmpdmelkbemabaaGreat
open Go.RowKit Go.Proofs.Grow

def Kids (e : Ex) : Prop := ∀ (w : World) (left : Int), ExIn w e → SomeBool Tryz.prog 21 #[.agg e.cells.toArray, .int .i64 left] w

set_option maxHeartbeats 1000000 in
set_option maxRecDepth 100000 in
theorem kids_step (k num : Int) (name : ByteArray) (A : Option Addr) (c : Nat) (kids : List Ex) (ih : ∀ e ∈ kids, Kids e) : Kids (.mk k num name A c kids) := by
  intro w left hin
  unfold SomeBool
  cases hin with
  | mk h hc hm hn hk =>
  have HL := hide h
  have HK := hide hk
  have IH := hide ih
  clear h hk ih
  obtain ⟨t, ht⟩ : ∃ t, Hid (t = Ex.mk k num name A c kids) := ⟨_, rfl⟩
  rw [← ht.out]
  go_enter Tryz.func21, Tryz.ntmps21
  go_upto_region 1 with fail
  obtain ⟨w1, hw1⟩ : ∃ w1, w1 = w.alloc (.cells t.cells.toArray 48) := ⟨_, rfl⟩
  rw [← hw1]
  have hB1 : Hid (Below w.heap.size w w1) := by
    show Below _ _ _
    rw [hw1]
    exact (Below.refl _ _).alloc (Nat.le_refl _) _
  have hsz : w.heap.size < w1.heap.size := by rw [hw1]; simp
  have a3 : w1.cell? ⟨w.heap.size, 3, none⟩ = some (.slice A kids.length c) := by rw [hw1, cell_of_row _ _ _ _ _ _ (heap_alloc_new w _), ht.out]; rfl
  clear hw1
  go_wp2_with fail
  · go_ret
    exact ⟨⟨w1, hB1.out⟩, _, rfl, rfl⟩
  · go_ret
    exact ⟨⟨w1, hB1.out⟩, _, rfl, rfl⟩
  go_loopw [5] (fun i wr => ∃ n : Nat, i = .int .i64 n ∧ n ≤ kids.length ∧ ∃ x : Ext w1, wr = x.val) (fun i _ => kids.length - (intOf i).toNat)
  case atStart => exact ⟨0, rfl, Nat.zero_le _, Ext.here w1, rfl⟩
  case round =>
    obtain ⟨n, rfl, hn2, x, rfl⟩ := hrel
    by_cases hlt : n < kids.length
    · obtain ⟨b, off, rfl, hb, hcell⟩ := HL.out n hlt
      have hlt' : (n : Int) < (kids.length : Int) := by omega
      have hb1 : b < w1.heap.size := by omega
      have hkx := hide (((HK.out _ (List.getElem_mem hlt)).ext ⟨w1, hB1.out⟩).ext x)
      have IHx := hide (IH.out _ (List.getElem_mem hlt))
      obtain ⟨e, he⟩ : ∃ e, e = kids[n] := ⟨_, rfl⟩
      rw [← he] at hkx IHx hcell
      have hrange : Hid (x.val.rangeAt b (off + n * 4) e.cells) := fun j u h => (x.cell hb1).trans ((Ext.cell ⟨w1, hB1.out⟩ hb).trans (hcell j u h))
      have HKW := hide (wrap_next (Nat.lt_of_lt_of_le hlt hc) hm)
      have hlt9 := hide hlt
      clear hcell he hlt
      go_wp2_with (first | (refine wpList_load_mid rfl 48 (.tmp 24) rfl b (off + n * 4) rfl e.cells _ hrange.out Tryz.underlying48 rfl (by rw [Ex.cells_len]; kernel_rfl) ?_) | (go_at_call 21; refine ((IHx.out x.val _ hkx.out).over x).mono ?_; rintro _ _ ⟨y, u, hy, rfl, rfl⟩; cases u))
      · go_roundw
        case rel => exact ⟨n + 1, (by first | rw [HKW.out] | simp), Nat.succ_le_of_lt hlt9.out, y, rfl⟩
        case measure =>
          first
            | (rw [HKW.out, intOf_int, intOf_int, Int.toNat_natCast, Int.toNat_natCast]; exact step_lt hlt9.out)
            | (rw [intOf_int, intOf_int]; have := hlt9.out; omega)
      · go_ret
        obtain ⟨u, hu⟩ := below_two hB1.out y
        exact ⟨u, _, rfl, hu⟩
    · have hlt' : ¬ (n : Int) < (kids.length : Int) := by omega
      go_wp2_with fail
      go_ret
      obtain ⟨u, hu⟩ := below_two hB1.out x
      exact ⟨u, _, rfl, hu⟩

theorem kids_any : ∀ e : Ex, Kids e
  | .mk k num name A c kids => kids_step k num name A c kids fun e he => kids_any e
end Go.Proofs.YtmpdmelkbemabaaGreat
set_option linter.unusedSimpArgs false
set_option linter.unusedVariables false
namespace Go.Proofs.YtmpdmelkbemabaaGreat
open Go.RowKit Go.Proofs.Grow

def Sizes (s : St) : Prop := ∀ (w : World), StIn w s → SomeInt Tryz.prog 11 #[.agg s.cells.toArray] w

set_option maxHeartbeats 2000000 in
set_option maxRecDepth 100000 in
theorem size_step (s : St) (ih : ∀ t ∈ s.body, Sizes t) (ihl : ∀ t ∈ s.els, Sizes t) : Sizes s := by
  intro w  hin
  unfold SomeInt
  obtain ⟨kd, x, y, name, tk, tc, tn, k0, n0, k1, n1, k2, n2, k3, n3, ek, en, ename, eA, ec, kids, aA, ac, args, bA, bc, body, lA, lc, els, pos, hse⟩ : ∃ kd x y name tk tc tn k0 n0 k1 n1 k2 n2 k3 n3 ek en ename eA ec kids aA ac args bA bc body lA lc els pos, Hid (s = .mk kd x y name ⟨tk, tc, tn, ⟨k0, n0⟩, ⟨k1, n1⟩, ⟨k2, n2⟩, ⟨k3, n3⟩⟩ (.mk ek en ename eA ec kids) aA ac args bA bc body lA lc els pos) := by
    obtain ⟨kd, x, y, name, ⟨tk, tc, tn, ⟨k0, n0⟩, ⟨k1, n1⟩, ⟨k2, n2⟩, ⟨k3, n3⟩⟩, ⟨ek, en, ename, eA, ec, kids⟩, aA, ac, args, bA, bc, body, lA, lc, els, pos⟩ := s
    exact ⟨_, _, _, _, _, _, _, _, _, _, _, _, _, _, _, _, _, _, _, _, _, _, _, _, _, _, _, _, _, _, _, rfl⟩
  have IHb : Hid (∀ t ∈ body, Sizes t) := by have h := ih; rw [hse.out] at h; exact h
  have IHl : Hid (∀ t ∈ els, Sizes t) := by have h := ihl; rw [hse.out] at h; exact h
  rw [hse.out] at hin
  cases hin with
  | mk he ha hac ham hai hb hbc hbm hbi hl hlc hlm hli hs =>
  have HE := hide he
  have HA := hide (And.intro ha hai)
  have HBd := hide (And.intro hb hbi)
  have HLd := hide (And.intro hl hli)
  clear he ha hai hb hbi hl hli hs ih ihl
  go_enter Tryz.func11, Tryz.ntmps11
  go_upto_region 1 with fail
  obtain ⟨w1, hw1⟩ : ∃ w1, w1 = w.alloc (.cells s.cells.toArray 50) := ⟨_, rfl⟩
  rw [← hw1]
  have hB1 : Hid (Below w.heap.size w w1) := by
    show Below _ _ _
    rw [hw1]
    exact (Below.refl _ _).alloc (Nat.le_refl _) _
  have hsz : w.heap.size < w1.heap.size := by rw [hw1]; simp
  have a20 : w1.cell? ⟨w.heap.size, 20, none⟩ = some (.slice bA body.length bc) := by rw [hw1, cell_of_row _ _ _ _ _ _ (heap_alloc_new w _), hse.out]; rfl
  have a21 : w1.cell? ⟨w.heap.size, 21, none⟩ = some (.slice lA els.length lc) := by rw [hw1, cell_of_row _ _ _ _ _ _ (heap_alloc_new w _), hse.out]; rfl
  clear hw1
  go_wp2_with fail
  go_loopw [3, 4] (fun v i wr => ∃ n : Nat, i = .int .i64 n ∧ n ≤ body.length ∧ ∃ q : Int, v = .int .i64 q ∧ ∃ x : Ext w1, wr = x.val) (fun v i _ => body.length - (intOf i).toNat)
  case atStart => exact ⟨0, rfl, Nat.zero_le _, 1, rfl, Ext.here w1, rfl⟩
  case round =>
    obtain ⟨n, rfl, hn2, q, rfl, x, rfl⟩ := hrel
    by_cases hlt : n < body.length
    · obtain ⟨b, off, rfl, hb, hcell⟩ := HBd.out.1 n hlt
      have hlt' : (n : Int) < (body.length : Int) := by omega
      have hb1 : b < w1.heap.size := by omega
      have hkx := hide (((HBd.out.2 _ (List.getElem_mem hlt)).ext ⟨w1, hB1.out⟩).ext x)
      have IHx := hide (IHb.out _ (List.getElem_mem hlt))
      obtain ⟨e, he⟩ : ∃ e, e = body[n] := ⟨_, rfl⟩
      rw [← he] at hkx IHx hcell
      have hrange : Hid (x.val.rangeAt b (off + n * 23) e.cells) := fun j u h => (x.cell hb1).trans ((Ext.cell ⟨w1, hB1.out⟩ hb).trans (hcell j u h))
      have HKW := hide (wrap_next (Nat.lt_of_lt_of_le hlt hbc) hbm)
      have hlt9 := hide hlt
      clear hcell he hlt
      as_aux_lemma =>
        go_wp2_with (first | (refine wpList_load_mid rfl 50 (.tmp 17) rfl b (off + n * 23) rfl e.cells _ hrange.out Tryz.underlying50 rfl (by rw [St.cells_len]; kernel_rfl) ?_) | (go_at_call 11; refine ((IHx.out x.val hkx.out).over x).mono ?_; rintro _ _ ⟨z, u, hz, rfl, rfl⟩))
        go_roundw
        case rel => exact ⟨n + 1, (by first | rw [HKW.out] | simp), Nat.succ_le_of_lt hlt9.out, _, rfl, z, rfl⟩
        case measure =>
          first
            | (rw [HKW.out, intOf_int, intOf_int, Int.toNat_natCast, Int.toNat_natCast]; exact step_lt hlt9.out)
            | (rw [intOf_int, intOf_int]; have := hlt9.out; omega)
    have hlt' : ¬ (n : Int) < (body.length : Int) := by omega
    clear hlt
    go_wp2_with fail
    go_loopw [3, 5] (fun v i wr => ∃ n : Nat, i = .int .i64 n ∧ n ≤ els.length ∧ ∃ q : Int, v = .int .i64 q ∧ ∃ x : Ext w1, wr = x.val) (fun v i _ => els.length - (intOf i).toNat)
    case atStart => exact ⟨0, rfl, Nat.zero_le _, q, rfl, x, rfl⟩
    case round =>
      obtain ⟨n, rfl, hn2, q, rfl, x, rfl⟩ := hrel
      by_cases hlt : n < els.length
      · obtain ⟨b, off, rfl, hb, hcell⟩ := HLd.out.1 n hlt
        have hlt' : (n : Int) < (els.length : Int) := by omega
        have hb1 : b < w1.heap.size := by omega
        have hkx := hide (((HLd.out.2 _ (List.getElem_mem hlt)).ext ⟨w1, hB1.out⟩).ext x)
        have IHx := hide (IHl.out _ (List.getElem_mem hlt))
        obtain ⟨e, he⟩ : ∃ e, e = els[n] := ⟨_, rfl⟩
        rw [← he] at hkx IHx hcell
        have hrange : Hid (x.val.rangeAt b (off + n * 23) e.cells) := fun j u h => (x.cell hb1).trans ((Ext.cell ⟨w1, hB1.out⟩ hb).trans (hcell j u h))
        have HKW := hide (wrap_next (Nat.lt_of_lt_of_le hlt hlc) hlm)
        have hlt9 := hide hlt
        clear hcell he hlt
        as_aux_lemma =>
          go_wp2_with (first | (refine wpList_load_mid rfl 50 (.tmp 32) rfl b (off + n * 23) rfl e.cells _ hrange.out Tryz.underlying50 rfl (by rw [St.cells_len]; kernel_rfl) ?_) | (go_at_call 11; refine ((IHx.out x.val hkx.out).over x).mono ?_; rintro _ _ ⟨z, u, hz, rfl, rfl⟩))
          go_roundw
          case rel => exact ⟨n + 1, (by first | rw [HKW.out] | simp), Nat.succ_le_of_lt hlt9.out, _, rfl, z, rfl⟩
          case measure =>
            first
              | (rw [HKW.out, intOf_int, intOf_int, Int.toNat_natCast, Int.toNat_natCast]; exact step_lt hlt9.out)
              | (rw [intOf_int, intOf_int]; have := hlt9.out; omega)
      have hlt' : ¬ (n : Int) < (els.length : Int) := by omega
      clear hlt
      go_wp2_with fail
      go_ret
      obtain ⟨u, hu⟩ := below_two hB1.out x
      exact ⟨u, _, rfl, hu⟩

theorem size_any (s : St) : Sizes s := size_step s
  (fun t ht => have h := List.sizeOf_lt_of_mem ht; have h1 : SizeOf.sizeOf s.body < SizeOf.sizeOf s := by (cases s; simp [St.body]; omega)
               size_any t)
  (fun t ht => have h := List.sizeOf_lt_of_mem ht; have h1 : SizeOf.sizeOf s.els < SizeOf.sizeOf s := by (cases s; simp [St.els]; omega)
               size_any t)
termination_by SizeOf.sizeOf s
end Go.Proofs.YtmpdmelkbemabaaGreat
set_option linter.unusedSimpArgs false
set_option linter.unusedVariables false
namespace Go.Proofs.YtmpdmelkbemabaaGreat
open Go.RowKit Go.Proofs.Grow

def Muchs (s : St) : Prop := ∀ (w : World) (left : Int), StIn w s → SomeBool Tryz.prog 10 #[.agg s.cells.toArray, .int .i64 left] w

set_option maxHeartbeats 2000000 in
set_option maxRecDepth 100000 in
theorem much_step (s : St) (ih : ∀ t ∈ s.body, Muchs t) (ihl : ∀ t ∈ s.els, Muchs t) : Muchs s := by
  intro w left hin
  unfold SomeBool
  obtain ⟨kd, x, y, name, tk, tc, tn, k0, n0, k1, n1, k2, n2, k3, n3, ek, en, ename, eA, ec, kids, aA, ac, args, bA, bc, body, lA, lc, els, pos, hse⟩ : ∃ kd x y name tk tc tn k0 n0 k1 n1 k2 n2 k3 n3 ek en ename eA ec kids aA ac args bA bc body lA lc els pos, Hid (s = .mk kd x y name ⟨tk, tc, tn, ⟨k0, n0⟩, ⟨k1, n1⟩, ⟨k2, n2⟩, ⟨k3, n3⟩⟩ (.mk ek en ename eA ec kids) aA ac args bA bc body lA lc els pos) := by
    obtain ⟨kd, x, y, name, ⟨tk, tc, tn, ⟨k0, n0⟩, ⟨k1, n1⟩, ⟨k2, n2⟩, ⟨k3, n3⟩⟩, ⟨ek, en, ename, eA, ec, kids⟩, aA, ac, args, bA, bc, body, lA, lc, els, pos⟩ := s
    exact ⟨_, _, _, _, _, _, _, _, _, _, _, _, _, _, _, _, _, _, _, _, _, _, _, _, _, _, _, _, _, _, _, rfl⟩
  have IHb : Hid (∀ t ∈ body, Muchs t) := by have h := ih; rw [hse.out] at h; exact h
  have IHl : Hid (∀ t ∈ els, Muchs t) := by have h := ihl; rw [hse.out] at h; exact h
  rw [hse.out] at hin
  cases hin with
  | mk he ha hac ham hai hb hbc hbm hbi hl hlc hlm hli hs =>
  have HE := hide he
  have HA := hide (And.intro ha hai)
  have HBd := hide (And.intro hb hbi)
  have HLd := hide (And.intro hl hli)
  clear he ha hai hb hbi hl hli hs ih ihl
  go_enter Tryz.func10, Tryz.ntmps10
  go_upto_region 1 with fail
  obtain ⟨w1, hw1⟩ : ∃ w1, w1 = w.alloc (.cells s.cells.toArray 50) := ⟨_, rfl⟩
  rw [← hw1]
  have hB1 : Hid (Below w.heap.size w w1) := by
    show Below _ _ _
    rw [hw1]
    exact (Below.refl _ _).alloc (Nat.le_refl _) _
  have hsz : w.heap.size < w1.heap.size := by rw [hw1]; simp
  have a15 : w1.cell? ⟨w.heap.size, 15, none⟩ = some (.int .i64 ek) := by rw [hw1, cell_of_row _ _ _ _ _ _ (heap_alloc_new w _), hse.out]; rfl
  have a16 : w1.cell? ⟨w.heap.size, 16, none⟩ = some (.int .i64 en) := by rw [hw1, cell_of_row _ _ _ _ _ _ (heap_alloc_new w _), hse.out]; rfl
  have a17 : w1.cell? ⟨w.heap.size, 17, none⟩ = some (.string ename) := by rw [hw1, cell_of_row _ _ _ _ _ _ (heap_alloc_new w _), hse.out]; rfl
  have a18 : w1.cell? ⟨w.heap.size, 18, none⟩ = some (.slice eA kids.length ec) := by rw [hw1, cell_of_row _ _ _ _ _ _ (heap_alloc_new w _), hse.out]; rfl
  have a19 : w1.cell? ⟨w.heap.size, 19, none⟩ = some (.slice aA args.length ac) := by rw [hw1, cell_of_row _ _ _ _ _ _ (heap_alloc_new w _), hse.out]; rfl
  have a20 : w1.cell? ⟨w.heap.size, 20, none⟩ = some (.slice bA body.length bc) := by rw [hw1, cell_of_row _ _ _ _ _ _ (heap_alloc_new w _), hse.out]; rfl
  have a21 : w1.cell? ⟨w.heap.size, 21, none⟩ = some (.slice lA els.length lc) := by rw [hw1, cell_of_row _ _ _ _ _ _ (heap_alloc_new w _), hse.out]; rfl
  clear hw1
  have H0 : Hid (SomeBool Tryz.prog 21 #[.agg #[.int .i64 ek, .int .i64 en, .string ename, .slice eA kids.length ec], .int .i64 25] w1) := kids_any (.mk ek en ename eA ec kids) w1 25 (HE.out.ext ⟨w1, hB1.out⟩)
  go_upto_region 3 with (go_at_call 21; refine (H0.out.over (Ext.here w1)).mono ?_; rintro _ _ ⟨z0, u0, hz0, rfl, rfl⟩; cases u0)
  iterate 4
    · go_ret
      exact ⟨⟨w1, hB1.out⟩, _, rfl, rfl⟩
  rotate_left
  · go_ret
    obtain ⟨u, hu⟩ := below_two hB1.out z0
    exact ⟨u, _, rfl, hu⟩
  clear H0 a15 a16 a17 a18
  go_wp2_with fail
  go_loopw [5] (fun i wr => ∃ n : Nat, i = .int .i64 n ∧ n ≤ args.length ∧ ∃ x : Ext w1, wr = x.val) (fun i _ => args.length - (intOf i).toNat)
  case atStart => exact ⟨0, rfl, Nat.zero_le _, z0, rfl⟩
  case round =>
    obtain ⟨n, rfl, hn2, x, rfl⟩ := hrel
    by_cases hlt : n < args.length
    · obtain ⟨b, off, rfl, hb, hcell⟩ := HA.out.1 n hlt
      have hlt' : (n : Int) < (args.length : Int) := by omega
      have hb1 : b < w1.heap.size := by omega
      have hkx := hide (((HA.out.2 _ (List.getElem_mem hlt)).ext ⟨w1, hB1.out⟩).ext x)
      have IHx := hide (kids_any args[n])
      obtain ⟨e, he⟩ : ∃ e, e = args[n] := ⟨_, rfl⟩
      rw [← he] at hkx IHx hcell
      have hrange : Hid (x.val.rangeAt b (off + n * 4) e.cells) := fun j u h => (x.cell hb1).trans ((Ext.cell ⟨w1, hB1.out⟩ hb).trans (hcell j u h))
      have HKW := hide (wrap_next (Nat.lt_of_lt_of_le hlt hac) ham)
      have hlt9 := hide hlt
      clear hcell he hlt
      as_aux_lemma =>
        go_wp2_with (first | (refine wpList_load_mid rfl 48 (.tmp 43) rfl b (off + n * 4) rfl e.cells _ hrange.out Tryz.underlying48 rfl (by rw [Ex.cells_len]; kernel_rfl) ?_) | (go_at_call 21; refine ((IHx.out x.val _ hkx.out).over x).mono ?_; rintro _ _ ⟨z, u, hz, rfl, rfl⟩; cases u))
        · go_roundw
          case rel => exact ⟨n + 1, (by first | rw [HKW.out] | simp), Nat.succ_le_of_lt hlt9.out, z, rfl⟩
          case measure =>
            first
              | (rw [HKW.out, intOf_int, intOf_int, Int.toNat_natCast, Int.toNat_natCast]; exact step_lt hlt9.out)
              | (rw [intOf_int, intOf_int]; have := hlt9.out; omega)
        · go_ret
          obtain ⟨u, hu⟩ := below_two hB1.out z
          exact ⟨u, _, rfl, hu⟩
    have hlt' : ¬ (n : Int) < (args.length : Int) := by omega
    clear hlt
    go_wp2_with fail
    go_loopw [6] (fun i wr => ∃ n : Nat, i = .int .i64 n ∧ n ≤ body.length ∧ ∃ x : Ext w1, wr = x.val) (fun i _ => body.length - (intOf i).toNat)
    case atStart => exact ⟨0, rfl, Nat.zero_le _, x, rfl⟩
    case round =>
      obtain ⟨n, rfl, hn2, x, rfl⟩ := hrel
      by_cases hlt : n < body.length
      · obtain ⟨b, off, rfl, hb, hcell⟩ := HBd.out.1 n hlt
        have hlt' : (n : Int) < (body.length : Int) := by omega
        have hb1 : b < w1.heap.size := by omega
        have hkx := hide (((HBd.out.2 _ (List.getElem_mem hlt)).ext ⟨w1, hB1.out⟩).ext x)
        have IHx := hide (IHb.out _ (List.getElem_mem hlt))
        obtain ⟨e, he⟩ : ∃ e, e = body[n] := ⟨_, rfl⟩
        rw [← he] at hkx IHx hcell
        have hrange : Hid (x.val.rangeAt b (off + n * 23) e.cells) := fun j u h => (x.cell hb1).trans ((Ext.cell ⟨w1, hB1.out⟩ hb).trans (hcell j u h))
        have HKW := hide (wrap_next (Nat.lt_of_lt_of_le hlt hbc) hbm)
        have hlt9 := hide hlt
        clear hcell he hlt
        as_aux_lemma =>
          go_wp2_with (first | (refine wpList_load_mid rfl 50 (.tmp 56) rfl b (off + n * 23) rfl e.cells _ hrange.out Tryz.underlying50 rfl (by rw [St.cells_len]; kernel_rfl) ?_) | (go_at_call 10; refine ((IHx.out x.val _ hkx.out).over x).mono ?_; rintro _ _ ⟨z, u, hz, rfl, rfl⟩; cases u))
          · go_roundw
            case rel => exact ⟨n + 1, (by first | rw [HKW.out] | simp), Nat.succ_le_of_lt hlt9.out, z, rfl⟩
            case measure =>
              first
                | (rw [HKW.out, intOf_int, intOf_int, Int.toNat_natCast, Int.toNat_natCast]; exact step_lt hlt9.out)
                | (rw [intOf_int, intOf_int]; have := hlt9.out; omega)
          · go_ret
            obtain ⟨u, hu⟩ := below_two hB1.out z
            exact ⟨u, _, rfl, hu⟩
      have hlt' : ¬ (n : Int) < (body.length : Int) := by omega
      clear hlt
      go_wp2_with fail
      go_loopw [7] (fun i wr => ∃ n : Nat, i = .int .i64 n ∧ n ≤ els.length ∧ ∃ x : Ext w1, wr = x.val) (fun i _ => els.length - (intOf i).toNat)
      case atStart => exact ⟨0, rfl, Nat.zero_le _, x, rfl⟩
      case round =>
        obtain ⟨n, rfl, hn2, x, rfl⟩ := hrel
        by_cases hlt : n < els.length
        · obtain ⟨b, off, rfl, hb, hcell⟩ := HLd.out.1 n hlt
          have hlt' : (n : Int) < (els.length : Int) := by omega
          have hb1 : b < w1.heap.size := by omega
          have hkx := hide (((HLd.out.2 _ (List.getElem_mem hlt)).ext ⟨w1, hB1.out⟩).ext x)
          have IHx := hide (IHl.out _ (List.getElem_mem hlt))
          obtain ⟨e, he⟩ : ∃ e, e = els[n] := ⟨_, rfl⟩
          rw [← he] at hkx IHx hcell
          have hrange : Hid (x.val.rangeAt b (off + n * 23) e.cells) := fun j u h => (x.cell hb1).trans ((Ext.cell ⟨w1, hB1.out⟩ hb).trans (hcell j u h))
          have HKW := hide (wrap_next (Nat.lt_of_lt_of_le hlt hlc) hlm)
          have hlt9 := hide hlt
          clear hcell he hlt
          as_aux_lemma =>
            go_wp2_with (first | (refine wpList_load_mid rfl 50 (.tmp 71) rfl b (off + n * 23) rfl e.cells _ hrange.out Tryz.underlying50 rfl (by rw [St.cells_len]; kernel_rfl) ?_) | (go_at_call 10; refine ((IHx.out x.val _ hkx.out).over x).mono ?_; rintro _ _ ⟨z, u, hz, rfl, rfl⟩; cases u))
            · go_roundw
              case rel => exact ⟨n + 1, (by first | rw [HKW.out] | simp), Nat.succ_le_of_lt hlt9.out, z, rfl⟩
              case measure =>
                first
                  | (rw [HKW.out, intOf_int, intOf_int, Int.toNat_natCast, Int.toNat_natCast]; exact step_lt hlt9.out)
                  | (rw [intOf_int, intOf_int]; have := hlt9.out; omega)
            · go_ret
              obtain ⟨u, hu⟩ := below_two hB1.out z
              exact ⟨u, _, rfl, hu⟩
        have hlt' : ¬ (n : Int) < (els.length : Int) := by omega
        clear hlt
        go_wp2_with fail
        go_ret
        obtain ⟨u, hu⟩ := below_two hB1.out x
        exact ⟨u, _, rfl, hu⟩

theorem much_any (s : St) : Muchs s := much_step s
  (fun t ht => have h := List.sizeOf_lt_of_mem ht; have h1 : SizeOf.sizeOf s.body < SizeOf.sizeOf s := by (cases s; simp [St.body]; omega)
               much_any t)
  (fun t ht => have h := List.sizeOf_lt_of_mem ht; have h1 : SizeOf.sizeOf s.els < SizeOf.sizeOf s := by (cases s; simp [St.els]; omega)
               much_any t)
termination_by SizeOf.sizeOf s
end Go.Proofs.YtmpdmelkbemabaaGreat
set_option linter.unusedSimpArgs false
set_option linter.unusedVariables false
namespace Go.Proofs.YtmpdmelkbemabaaGreat
open Go.RowKit Go.Proofs.Grow

set_option maxHeartbeats 1000000 in
set_option maxRecDepth 100000 in
theorem uniques_any (m : Me) (w : World) (hm : MeIn w m) : SomeInt Tryz.prog 9 #[.agg m.cells.toArray] w := by
  unfold SomeInt
  have HM := hide hm
  clear hm
  have hb13 : m.cells.toArray[13]? = some (.slice m.pA m.params.length m.pc) := rfl
  have hb14 : m.cells.toArray[14]? = some (.slice m.lA m.locals.length m.lc) := rfl
  go_enter Tryz.func9, Tryz.ntmps9
  go_upto_region 1 with fail
  obtain ⟨w1, hw1⟩ : ∃ w1, w1 = w.alloc (.cells m.cells.toArray 43) := ⟨_, rfl⟩
  rw [← hw1]
  have hB1 : Hid (Below w.heap.size w w1) := by
    show Below _ _ _
    rw [hw1]
    exact (Below.refl _ _).alloc (Nat.le_refl _) _
  have hsz : w.heap.size < w1.heap.size := by rw [hw1]; simp
  have a13 : w1.cell? ⟨w.heap.size, 13, none⟩ = some (.slice m.pA m.params.length m.pc) := by rw [hw1, cell_of_row _ _ _ _ _ _ (heap_alloc_new w _)]; exact hb13
  have a14 : w1.cell? ⟨w.heap.size, 14, none⟩ = some (.slice m.lA m.locals.length m.lc) := by rw [hw1, cell_of_row _ _ _ _ _ _ (heap_alloc_new w _)]; exact hb14
  clear hw1 hb13 hb14
  obtain ⟨P, hP⟩ : ∃ P, P = m.params := ⟨_, rfl⟩
  obtain ⟨L, hL⟩ : ∃ L, L = m.locals := ⟨_, rfl⟩
  have HP : Hid (Lies w 13 Va.cells m.pA P ∧ P.length ≤ m.pc ∧ m.pc ≤ maxLen) := by rw [hP]; exact ⟨HM.out.params, HM.out.pc, HM.out.pm⟩
  have HL : Hid (Lies w 13 Va.cells m.lA L ∧ L.length ≤ m.lc ∧ m.lc ≤ maxLen) := by rw [hL]; exact ⟨HM.out.locals, HM.out.lc, HM.out.lm⟩
  rw [← hP] at a13
  rw [← hL] at a14
  obtain ⟨pA, hpA⟩ : ∃ pA, m.pA = pA := ⟨_, rfl⟩
  obtain ⟨lA, hlA⟩ : ∃ lA, m.lA = lA := ⟨_, rfl⟩
  rw [hpA] at a13 HP
  rw [hlA] at a14 HL
  clear hP hL hpA hlA
  go_wp2_with fail
  go_loopw [3, 4] (fun v i wr => ∃ n : Nat, i = .int .i64 n ∧ n ≤ P.length ∧ ∃ q : Int, v = .int .i64 q ∧ wr = w1) (fun v i _ => P.length - (intOf i).toNat)
  case atStart => exact ⟨0, rfl, Nat.zero_le _, 0, rfl, rfl⟩
  case round =>
    obtain ⟨n, rfl, hn2, q, rfl, rfl⟩ := hrel
    by_cases hlt : n < P.length
    · obtain ⟨b, off, rfl, hb, hcell⟩ := HP.out.1 n hlt
      obtain ⟨e, he⟩ : ∃ e, e = P[n] := ⟨_, rfl⟩
      rw [← he] at hcell
      have hlt' : (n : Int) < (P.length : Int) := by omega
      have hc : wr.cell? ⟨b, off + n * 13 + 1 + 3, none⟩ = some (.int .i64 (e.ty.o0.k)) := (Ext.cell ⟨wr, hB1.out⟩ hb).trans (hcell 4 _ rfl)
      have hc' : wr.cell? ⟨b, off + n * 13 + 4, none⟩ = some (.int .i64 (e.ty.o0.k)) := hc
      have HKW := hide (wrap_next (Nat.lt_of_lt_of_le hlt HP.out.2.1) HP.out.2.2)
      have hlt9 := hide hlt
      obtain ⟨u, hu⟩ : ∃ u, e.ty.o0.k = u := ⟨_, rfl⟩
      rw [hu] at hc hc'
      clear hcell hlt hu he
      go_wp2_with fail
      all_goals
        go_roundw
        case rel => exact ⟨n + 1, (by first | rw [HKW.out] | simp), Nat.succ_le_of_lt hlt9.out, _, rfl, (by first | exact trivial | rfl)⟩
        case measure =>
          first
            | (rw [HKW.out, intOf_int, intOf_int, Int.toNat_natCast, Int.toNat_natCast]; exact step_lt hlt9.out)
            | (rw [intOf_int, intOf_int]; have := hlt9.out; omega)
    have hlt' : ¬ (n : Int) < (P.length : Int) := by omega
    clear hlt
    go_wp2_with fail
    go_loopw [3, 5] (fun v i w9 => ∃ n : Nat, i = .int .i64 n ∧ n ≤ L.length ∧ ∃ q : Int, v = .int .i64 q ∧ w9 = wr) (fun v i _ => L.length - (intOf i).toNat)
    case atStart => exact ⟨0, rfl, Nat.zero_le _, _, rfl, rfl⟩
    case round =>
      obtain ⟨n, rfl, hn2, q, rfl, rfl⟩ := hrel
      by_cases hlt : n < L.length
      · obtain ⟨b, off, rfl, hb, hcell⟩ := HL.out.1 n hlt
        obtain ⟨e, he⟩ : ∃ e, e = L[n] := ⟨_, rfl⟩
        rw [← he] at hcell
        have hlt' : (n : Int) < (L.length : Int) := by omega
        have hc : wr.cell? ⟨b, off + n * 13 + 1 + 3, none⟩ = some (.int .i64 (e.ty.o0.k)) := (Ext.cell ⟨wr, hB1.out⟩ hb).trans (hcell 4 _ rfl)
        have hc' : wr.cell? ⟨b, off + n * 13 + 4, none⟩ = some (.int .i64 (e.ty.o0.k)) := hc
        have HKW := hide (wrap_next (Nat.lt_of_lt_of_le hlt HL.out.2.1) HL.out.2.2)
        have hlt9 := hide hlt
        obtain ⟨u, hu⟩ : ∃ u, e.ty.o0.k = u := ⟨_, rfl⟩
        rw [hu] at hc hc'
        clear hcell hlt hu he
        go_wp2_with fail
        all_goals
          go_roundw
          case rel => exact ⟨n + 1, (by first | rw [HKW.out] | simp), Nat.succ_le_of_lt hlt9.out, _, rfl, (by first | exact trivial | rfl)⟩
          case measure =>
            first
              | (rw [HKW.out, intOf_int, intOf_int, Int.toNat_natCast, Int.toNat_natCast]; exact step_lt hlt9.out)
              | (rw [intOf_int, intOf_int]; have := hlt9.out; omega)
      have hlt' : ¬ (n : Int) < (L.length : Int) := by omega
      clear hlt
      go_wp2_with fail
      go_ret
      exact ⟨⟨wr, hB1.out⟩, _, rfl, rfl⟩
end Go.Proofs.YtmpdmelkbemabaaGreat
