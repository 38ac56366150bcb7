/- The walks of demesneref06.Same and demesneref08.Same, at two that are the same. -/
import Derived.Test.YtlgnjbocdmbeiaaRefOf
import Derived.BigQuiet
set_option linter.unusedSimpArgs false
set_option linter.unusedVariables false
namespace Go.Proofs.Ytlgnjbocdmbeiaa
open Go.RowKit Go.Proofs.Grow

def SameE (e : Ex) : Prop := ∀ w : World, ExIn w e → Gives Try.prog 19 #[.agg e.cells.toArray, .agg e.cells.toArray] w (.bool true)

set_option maxHeartbeats 1000000 in
set_option maxRecDepth 100000 in
theorem sameE_step (k num : Int) (name : ByteArray) (A : Option Addr) (c : Nat) (kids : List Ex) (ih : ∀ e ∈ kids, SameE e) : SameE (.mk k num name A c kids) := by
  intro w hin
  refine Gives.mk ?_
  cases hin with
  | mk h hc hm hn hk =>
  have HL := hide h
  have HK := hide hk
  have IH := hide ih
  clear h hk ih
  simp only [Ex.cells]
  go_enter Try.func19, Try.ntmps19
  go_upto_region 1 with fail
  obtain ⟨w1, hw1⟩ : ∃ w1, w1 = (w.alloc (.cells #[.int .i64 k, .int .i64 num, .string name, .slice A kids.length c] 39)).alloc (.cells #[.int .i64 k, .int .i64 num, .string name, .slice A kids.length c] 39) := ⟨_, rfl⟩
  rw [← hw1]
  have hB1 : Hid (Below w.heap.size w w1) := by
    show Below _ _ _
    rw [hw1]
    exact ((Below.refl _ _).alloc (Nat.le_refl _) _).alloc (by simp) _
  have hsz : w.heap.size < w1.heap.size := by rw [hw1]; simp; omega
  have hsz2 : w.heap.size + 1 < w1.heap.size := by rw [hw1]; simp
  have hA : w1.heap[w.heap.size]? = some (.cells #[.int .i64 k, .int .i64 num, .string name, .slice A kids.length c] 39 (0, 0)) := by
    rw [hw1]
    exact (Below.heap_alloc _ _ w.heap.size (by simp)).trans (heap_alloc_new w _)
  have hBb : w1.heap[w.heap.size + 1]? = some (.cells #[.int .i64 k, .int .i64 num, .string name, .slice A kids.length c] 39 (0, 0)) := by
    rw [hw1]
    have := heap_alloc_new (w.alloc (.cells #[.int .i64 k, .int .i64 num, .string name, .slice A kids.length c] 39)) (.cells #[.int .i64 k, .int .i64 num, .string name, .slice A kids.length c] 39)
    simpa using this
  have a0 : w1.cell? ⟨w.heap.size, 0, none⟩ = some (.int .i64 k) := (cell_of_row _ _ _ _ _ _ hA).trans rfl
  have a1 : w1.cell? ⟨w.heap.size, 1, none⟩ = some (.int .i64 num) := (cell_of_row _ _ _ _ _ _ hA).trans rfl
  have a2 : w1.cell? ⟨w.heap.size, 2, none⟩ = some (.string name) := (cell_of_row _ _ _ _ _ _ hA).trans rfl
  have a3 : w1.cell? ⟨w.heap.size, 3, none⟩ = some (.slice A kids.length c) := (cell_of_row _ _ _ _ _ _ hA).trans rfl
  have b0 : w1.cell? ⟨w.heap.size + 1, 0, none⟩ = some (.int .i64 k) := (cell_of_row _ _ _ _ _ _ hBb).trans rfl
  have b1 : w1.cell? ⟨w.heap.size + 1, 1, none⟩ = some (.int .i64 num) := (cell_of_row _ _ _ _ _ _ hBb).trans rfl
  have b2 : w1.cell? ⟨w.heap.size + 1, 2, none⟩ = some (.string name) := (cell_of_row _ _ _ _ _ _ hBb).trans rfl
  have b3 : w1.cell? ⟨w.heap.size + 1, 3, none⟩ = some (.slice A kids.length c) := (cell_of_row _ _ _ _ _ _ hBb).trans rfl
  clear hw1 hA hBb
  go_wp2_with fail
  go_loopw [5] (fun i wr => ∃ n : Nat, i = .int .i64 n ∧ n ≤ kids.length ∧ ∃ x : Ext w1, wr = x.val) (fun i _ => kids.length - (intOf i).toNat)
  case atStart => exact ⟨0, rfl, Nat.zero_le _, Ext.here w1, rfl⟩
  case round =>
    obtain ⟨n, rfl, hn2, x, rfl⟩ := hrel
    by_cases hlt : n < kids.length
    · obtain ⟨b, off, rfl, hb, hcell⟩ := HL.out n hlt
      have hlt' : (n : Int) < (kids.length : Int) := by omega
      have hb1 : b < w1.heap.size := by omega
      have hkx := hide (((HK.out _ (List.getElem_mem hlt)).ext ⟨w1, hB1.out⟩).ext x)
      have IHx := hide (IH.out _ (List.getElem_mem hlt))
      obtain ⟨e, he⟩ : ∃ e, e = kids[n] := ⟨_, rfl⟩
      rw [← he] at hkx IHx hcell
      obtain ⟨ek, en, ename, eA, ec, ekids⟩ := e
      simp only [Ex.cells] at hcell
      have d0 : w1.cell? ⟨b, off + n * 4, none⟩ = _ := (Ext.cell ⟨w1, hB1.out⟩ hb).trans (hcell 0 _ rfl)
      have d1 : w1.cell? ⟨b, off + n * 4 + 1, none⟩ = _ := (Ext.cell ⟨w1, hB1.out⟩ hb).trans (hcell 1 _ rfl)
      have d2 : w1.cell? ⟨b, off + n * 4 + 2, none⟩ = _ := (Ext.cell ⟨w1, hB1.out⟩ hb).trans (hcell 2 _ rfl)
      have d3 : w1.cell? ⟨b, off + n * 4 + 3, none⟩ = _ := (Ext.cell ⟨w1, hB1.out⟩ hb).trans (hcell 3 _ rfl)
      have HKW : Hid (wrap64 ((n : Int) + 1) = ((n + 1 : Nat) : Int)) := by
        have := hm
        unfold maxLen at this
        show wrap64 _ = _
        unfold wrap64
        omega
      have hlt9 := hide hlt
      clear hcell he hlt
      have H1 : Hid (∀ z : Ext x.val, Gives Try.prog 19 #[.agg #[.int .i64 ek, .int .i64 en, .string ename, .slice eA ekids.length ec], .agg #[.int .i64 ek, .int .i64 en, .string ename, .slice eA ekids.length ec]] z.val (.bool true)) := fun z => IHx.out _ (hkx.out.ext z)
      clear IHx hkx
      go_wp2_with fail
      refine wp_region_ext (by kernel_rfl) (by kernel_rfl) ?_
      repeat (go_big_quiet_step ((first | (go_at_call 19; with_reducible exact (H1.out _).ext))))
      refine wpQuiet_nil ?_
      intro _ hw'
      obtain ⟨y, hw''⟩ := hw'
      subst hw''
      obtain ⟨z, hz⟩ := x.over y
      rw [hz]
      go_wp2_with fail
      go_roundw
      case rel => exact ⟨n + 1, by rw [HKW.out], Nat.succ_le_of_lt hlt9.out, z, rfl⟩
      case measure =>
        rw [HKW.out, intOf_int, intOf_int, Int.toNat_natCast, Int.toNat_natCast]
        exact Nat.sub_lt_sub_left hlt9.out (Nat.lt_succ_self n)
    · have hlt' : ¬ (n : Int) < (kids.length : Int) := by omega
      go_wp2_with fail
      go_ret
      exact ⟨rfl, hB1.out.trans (x.below.mono hB1.out.size)⟩
theorem sameE_any : ∀ e : Ex, SameE e
  | .mk k num name A c kids => sameE_step k num name A c kids fun e he => sameE_any e
end Go.Proofs.Ytlgnjbocdmbeiaa
