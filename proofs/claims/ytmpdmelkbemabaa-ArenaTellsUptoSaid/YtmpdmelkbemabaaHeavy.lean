/- The walks of demesneref10.kids, much, uniques, demesneref08.Size: that they give an answer, whatever it is. -/
import Derived.Test.YtmpdmelkbemabaaRows
import Derived.Test.YtmpdmelkbemabaaAcc
import Derived.Test.YtmpdmelkbemabaaIdx
import Derived.BigGuardPart
import Derived.Deep.DeepCutAuto
import Derived.Test.YtmpdmelkbemabaaSet
import Derived.BigQuiet
set_option linter.unusedSimpArgs false
set_option linter.unusedVariables false
namespace Go.Proofs.Grow
open Go.RowKit
def AnsB (w : World) (e : Ending) (w' : World) : Prop := ∃ (x : Ext w) (b : Bool), e = .returned (.bool b) ∧ w' = x.val
def AnsI (w : World) (e : Ending) (w' : World) : Prop := ∃ (x : Ext w) (n : Int), e = .returned (.int .i64 n) ∧ w' = x.val
def SomeBool (P : Program) (f : FuncId) (args : Array Value) (w : World) : Prop := Calls P f args w fun e w' => AnsB w e w'
def SomeInt (P : Program) (f : FuncId) (args : Array Value) (w : World) : Prop := Calls P f args w fun e w' => AnsI w e w'
theorem SomeBool.over {P : Program} {f : FuncId} {args : Array Value} {w1 : World} (z : Ext w1) (h : SomeBool P f args z.val) :
    Calls P f args z.val fun e w' => ∃ (y : Ext w1) (b : Bool), (∃ y' : Ext z.val, y'.val = y.val) ∧ e = .returned (.bool b) ∧ w' = y.val :=
  Calls.mono h fun _ _ ⟨x, b, he, hw⟩ => ⟨z.step x.below, b, ⟨x, rfl⟩, he, hw⟩
theorem SomeInt.over {P : Program} {f : FuncId} {args : Array Value} {w1 : World} (z : Ext w1) (h : SomeInt P f args z.val) :
    Calls P f args z.val fun e w' => ∃ (y : Ext w1) (n : Int), (∃ y' : Ext z.val, y'.val = y.val) ∧ e = .returned (.int .i64 n) ∧ w' = y.val :=
  Calls.mono h fun _ _ ⟨x, b, he, hw⟩ => ⟨z.step x.below, b, ⟨x, rfl⟩, he, hw⟩
theorem wrap_next {n : Nat} {c : Nat} (h : n < c) (hm : c ≤ maxLen) : wrap64 ((n : Int) + 1) = ((n + 1 : Nat) : Int) := by
  unfold maxLen at hm
  unfold wrap64
  omega
theorem below_two {w w1 : World} (h : Below w.heap.size w w1) (x : Ext w1) : ∃ u : Ext w, x.val = u.val := Ext.of (h.trans (x.below.mono h.size))
theorem step_lt {n l : Nat} (h : n < l) : l - (n + 1) < l - n := Nat.sub_lt_sub_left h (Nat.lt_succ_self n)
end Go.Proofs.Grow
namespace Go.Proofs.Ytmpdmelkbemabaa
open Go.RowKit Go.Proofs.Grow

def Kids (e : Ex) : Prop := ∀ (w : World) (left : Int), ExIn w e → SomeBool Try.prog 27 #[.agg e.cells.toArray, .int .i64 left] w

set_option maxHeartbeats 1000000 in
set_option maxRecDepth 100000 in
theorem kids_step (k num : Int) (name : ByteArray) (A : Option Addr) (c : Nat) (kids : List Ex) (ih : ∀ e ∈ kids, Kids e) : Kids (.mk k num name A c kids) := by
  intro w left hin
  unfold SomeBool
  cases hin with
  | mk h hc hm hn hk =>
  have HL := hide h
  have HK := hide hk
  have IH := hide ih
  clear h hk ih
  obtain ⟨t, ht⟩ : ∃ t, Hid (t = Ex.mk k num name A c kids) := ⟨_, rfl⟩
  rw [← ht.out]
  go_enter Try.func27, Try.ntmps27
  go_upto_region 1 with fail
  obtain ⟨w1, hw1⟩ : ∃ w1, w1 = w.alloc (.cells t.cells.toArray 43) := ⟨_, rfl⟩
  rw [← hw1]
  have hB1 : Hid (Below w.heap.size w w1) := by
    show Below _ _ _
    rw [hw1]
    exact (Below.refl _ _).alloc (Nat.le_refl _) _
  have hsz : w.heap.size < w1.heap.size := by rw [hw1]; simp
  have a3 : w1.cell? ⟨w.heap.size, 3, none⟩ = some (.slice A kids.length c) := by rw [hw1, cell_of_row _ _ _ _ _ _ (heap_alloc_new w _), ht.out]; rfl
  clear hw1
  go_wp2_with fail
  · go_ret
    exact ⟨⟨w1, hB1.out⟩, _, rfl, rfl⟩
  · go_ret
    exact ⟨⟨w1, hB1.out⟩, _, rfl, rfl⟩
  go_loopw [5] (fun i wr => ∃ n : Nat, i = .int .i64 n ∧ n ≤ kids.length ∧ ∃ x : Ext w1, wr = x.val) (fun i _ => kids.length - (intOf i).toNat)
  case atStart => exact ⟨0, rfl, Nat.zero_le _, Ext.here w1, rfl⟩
  case round =>
    obtain ⟨n, rfl, hn2, x, rfl⟩ := hrel
    by_cases hlt : n < kids.length
    · obtain ⟨b, off, rfl, hb, hcell⟩ := HL.out n hlt
      have hlt' : (n : Int) < (kids.length : Int) := by omega
      have hb1 : b < w1.heap.size := by omega
      have hkx := hide (((HK.out _ (List.getElem_mem hlt)).ext ⟨w1, hB1.out⟩).ext x)
      have IHx := hide (IH.out _ (List.getElem_mem hlt))
      obtain ⟨e, he⟩ : ∃ e, e = kids[n] := ⟨_, rfl⟩
      rw [← he] at hkx IHx hcell
      have hrange : Hid (x.val.rangeAt b (off + n * 4) e.cells) := fun j u h => (x.cell hb1).trans ((Ext.cell ⟨w1, hB1.out⟩ hb).trans (hcell j u h))
      have HKW := hide (wrap_next (Nat.lt_of_lt_of_le hlt hc) hm)
      have hlt9 := hide hlt
      clear hcell he hlt
      go_wp2_with (first | (refine wpList_load_mid rfl 43 (.tmp 24) rfl b (off + n * 4) rfl e.cells _ hrange.out Try.underlying43 rfl (by rw [Ex.cells_len]; kernel_rfl) ?_) | (go_at_call 27; refine ((IHx.out x.val _ hkx.out).over x).mono ?_; rintro _ _ ⟨y, u, hy, rfl, rfl⟩; cases u))
      · go_roundw
        case rel => exact ⟨n + 1, (by first | rw [HKW.out] | simp), Nat.succ_le_of_lt hlt9.out, y, rfl⟩
        case measure =>
          first
            | (rw [HKW.out, intOf_int, intOf_int, Int.toNat_natCast, Int.toNat_natCast]; exact step_lt hlt9.out)
            | (rw [intOf_int, intOf_int]; have := hlt9.out; omega)
      · go_ret
        obtain ⟨u, hu⟩ := below_two hB1.out y
        exact ⟨u, _, rfl, hu⟩
    · have hlt' : ¬ (n : Int) < (kids.length : Int) := by omega
      go_wp2_with fail
      go_ret
      obtain ⟨u, hu⟩ := below_two hB1.out x
      exact ⟨u, _, rfl, hu⟩

theorem kids_any : ∀ e : Ex, Kids e
  | .mk k num name A c kids => kids_step k num name A c kids fun e he => kids_any e
end Go.Proofs.Ytmpdmelkbemabaa
