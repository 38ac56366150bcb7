/- The walk of demesneref10.much: that it gives an answer. -/
import Derived.Test.YtmpdmelkbemabaaSize
set_option linter.unusedSimpArgs false
set_option linter.unusedVariables false
namespace Go.Proofs.Ytmpdmelkbemabaa
open Go.RowKit Go.Proofs.Grow

def Muchs (s : St) : Prop := ∀ (w : World) (left : Int), StIn w s → SomeBool Try.prog 15 #[.agg s.cells.toArray, .int .i64 left] w

set_option maxHeartbeats 2000000 in
set_option maxRecDepth 100000 in
theorem much_step (s : St) (ih : ∀ t ∈ s.body, Muchs t) (ihl : ∀ t ∈ s.els, Muchs t) : Muchs s := by
  intro w left hin
  unfold SomeBool
  obtain ⟨kd, x, y, name, tk, tc, tn, k0, n0, k1, n1, k2, n2, k3, n3, ek, en, ename, eA, ec, kids, aA, ac, args, bA, bc, body, lA, lc, els, pos, hse⟩ : ∃ kd x y name tk tc tn k0 n0 k1 n1 k2 n2 k3 n3 ek en ename eA ec kids aA ac args bA bc body lA lc els pos, Hid (s = .mk kd x y name ⟨tk, tc, tn, ⟨k0, n0⟩, ⟨k1, n1⟩, ⟨k2, n2⟩, ⟨k3, n3⟩⟩ (.mk ek en ename eA ec kids) aA ac args bA bc body lA lc els pos) := by
    obtain ⟨kd, x, y, name, ⟨tk, tc, tn, ⟨k0, n0⟩, ⟨k1, n1⟩, ⟨k2, n2⟩, ⟨k3, n3⟩⟩, ⟨ek, en, ename, eA, ec, kids⟩, aA, ac, args, bA, bc, body, lA, lc, els, pos⟩ := s
    exact ⟨_, _, _, _, _, _, _, _, _, _, _, _, _, _, _, _, _, _, _, _, _, _, _, _, _, _, _, _, _, _, _, rfl⟩
  have IHb : Hid (∀ t ∈ body, Muchs t) := by have h := ih; rw [hse.out] at h; exact h
  have IHl : Hid (∀ t ∈ els, Muchs t) := by have h := ihl; rw [hse.out] at h; exact h
  rw [hse.out] at hin
  cases hin with
  | mk he ha hac ham hai hb hbc hbm hbi hl hlc hlm hli hs =>
  have HE := hide he
  have HA := hide (And.intro ha hai)
  have HBd := hide (And.intro hb hbi)
  have HLd := hide (And.intro hl hli)
  clear he ha hai hb hbi hl hli hs ih ihl
  go_enter Try.func15, Try.ntmps15
  go_upto_region 1 with fail
  obtain ⟨w1, hw1⟩ : ∃ w1, w1 = w.alloc (.cells s.cells.toArray 46) := ⟨_, rfl⟩
  rw [← hw1]
  have hB1 : Hid (Below w.heap.size w w1) := by
    show Below _ _ _
    rw [hw1]
    exact (Below.refl _ _).alloc (Nat.le_refl _) _
  have hsz : w.heap.size < w1.heap.size := by rw [hw1]; simp
  have a15 : w1.cell? ⟨w.heap.size, 15, none⟩ = some (.int .i64 ek) := by rw [hw1, cell_of_row _ _ _ _ _ _ (heap_alloc_new w _), hse.out]; rfl
  have a16 : w1.cell? ⟨w.heap.size, 16, none⟩ = some (.int .i64 en) := by rw [hw1, cell_of_row _ _ _ _ _ _ (heap_alloc_new w _), hse.out]; rfl
  have a17 : w1.cell? ⟨w.heap.size, 17, none⟩ = some (.string ename) := by rw [hw1, cell_of_row _ _ _ _ _ _ (heap_alloc_new w _), hse.out]; rfl
  have a18 : w1.cell? ⟨w.heap.size, 18, none⟩ = some (.slice eA kids.length ec) := by rw [hw1, cell_of_row _ _ _ _ _ _ (heap_alloc_new w _), hse.out]; rfl
  have a19 : w1.cell? ⟨w.heap.size, 19, none⟩ = some (.slice aA args.length ac) := by rw [hw1, cell_of_row _ _ _ _ _ _ (heap_alloc_new w _), hse.out]; rfl
  have a20 : w1.cell? ⟨w.heap.size, 20, none⟩ = some (.slice bA body.length bc) := by rw [hw1, cell_of_row _ _ _ _ _ _ (heap_alloc_new w _), hse.out]; rfl
  have a21 : w1.cell? ⟨w.heap.size, 21, none⟩ = some (.slice lA els.length lc) := by rw [hw1, cell_of_row _ _ _ _ _ _ (heap_alloc_new w _), hse.out]; rfl
  clear hw1
  have H0 : Hid (SomeBool Try.prog 27 #[.agg #[.int .i64 ek, .int .i64 en, .string ename, .slice eA kids.length ec], .int .i64 25] w1) := kids_any (.mk ek en ename eA ec kids) w1 25 (HE.out.ext ⟨w1, hB1.out⟩)
  go_upto_region 3 with (go_at_call 27; refine (H0.out.over (Ext.here w1)).mono ?_; rintro _ _ ⟨z0, u0, hz0, rfl, rfl⟩; cases u0)
  iterate 4
    · go_ret
      exact ⟨⟨w1, hB1.out⟩, _, rfl, rfl⟩
  rotate_left
  · go_ret
    obtain ⟨u, hu⟩ := below_two hB1.out z0
    exact ⟨u, _, rfl, hu⟩
  clear H0 a15 a16 a17 a18
  go_wp2_with fail
  go_loopw [5] (fun i wr => ∃ n : Nat, i = .int .i64 n ∧ n ≤ args.length ∧ ∃ x : Ext w1, wr = x.val) (fun i _ => args.length - (intOf i).toNat)
  case atStart => exact ⟨0, rfl, Nat.zero_le _, z0, rfl⟩
  case round =>
    obtain ⟨n, rfl, hn2, x, rfl⟩ := hrel
    by_cases hlt : n < args.length
    · obtain ⟨b, off, rfl, hb, hcell⟩ := HA.out.1 n hlt
      have hlt' : (n : Int) < (args.length : Int) := by omega
      have hb1 : b < w1.heap.size := by omega
      have hkx := hide (((HA.out.2 _ (List.getElem_mem hlt)).ext ⟨w1, hB1.out⟩).ext x)
      have IHx := hide (kids_any args[n])
      obtain ⟨e, he⟩ : ∃ e, e = args[n] := ⟨_, rfl⟩
      rw [← he] at hkx IHx hcell
      have hrange : Hid (x.val.rangeAt b (off + n * 4) e.cells) := fun j u h => (x.cell hb1).trans ((Ext.cell ⟨w1, hB1.out⟩ hb).trans (hcell j u h))
      have HKW := hide (wrap_next (Nat.lt_of_lt_of_le hlt hac) ham)
      have hlt9 := hide hlt
      clear hcell he hlt
      as_aux_lemma =>
        go_wp2_with (first | (refine wpList_load_mid rfl 43 (.tmp 43) rfl b (off + n * 4) rfl e.cells _ hrange.out Try.underlying43 rfl (by rw [Ex.cells_len]; kernel_rfl) ?_) | (go_at_call 27; refine ((IHx.out x.val _ hkx.out).over x).mono ?_; rintro _ _ ⟨z, u, hz, rfl, rfl⟩; cases u))
        · go_roundw
          case rel => exact ⟨n + 1, (by first | rw [HKW.out] | simp), Nat.succ_le_of_lt hlt9.out, z, rfl⟩
          case measure =>
            first
              | (rw [HKW.out, intOf_int, intOf_int, Int.toNat_natCast, Int.toNat_natCast]; exact step_lt hlt9.out)
              | (rw [intOf_int, intOf_int]; have := hlt9.out; omega)
        · go_ret
          obtain ⟨u, hu⟩ := below_two hB1.out z
          exact ⟨u, _, rfl, hu⟩
    have hlt' : ¬ (n : Int) < (args.length : Int) := by omega
    clear hlt
    go_wp2_with fail
    go_loopw [6] (fun i wr => ∃ n : Nat, i = .int .i64 n ∧ n ≤ body.length ∧ ∃ x : Ext w1, wr = x.val) (fun i _ => body.length - (intOf i).toNat)
    case atStart => exact ⟨0, rfl, Nat.zero_le _, x, rfl⟩
    case round =>
      obtain ⟨n, rfl, hn2, x, rfl⟩ := hrel
      by_cases hlt : n < body.length
      · obtain ⟨b, off, rfl, hb, hcell⟩ := HBd.out.1 n hlt
        have hlt' : (n : Int) < (body.length : Int) := by omega
        have hb1 : b < w1.heap.size := by omega
        have hkx := hide (((HBd.out.2 _ (List.getElem_mem hlt)).ext ⟨w1, hB1.out⟩).ext x)
        have IHx := hide (IHb.out _ (List.getElem_mem hlt))
        obtain ⟨e, he⟩ : ∃ e, e = body[n] := ⟨_, rfl⟩
        rw [← he] at hkx IHx hcell
        have hrange : Hid (x.val.rangeAt b (off + n * 23) e.cells) := fun j u h => (x.cell hb1).trans ((Ext.cell ⟨w1, hB1.out⟩ hb).trans (hcell j u h))
        have HKW := hide (wrap_next (Nat.lt_of_lt_of_le hlt hbc) hbm)
        have hlt9 := hide hlt
        clear hcell he hlt
        as_aux_lemma =>
          go_wp2_with (first | (refine wpList_load_mid rfl 46 (.tmp 56) rfl b (off + n * 23) rfl e.cells _ hrange.out Try.underlying46 rfl (by rw [St.cells_len]; kernel_rfl) ?_) | (go_at_call 15; refine ((IHx.out x.val _ hkx.out).over x).mono ?_; rintro _ _ ⟨z, u, hz, rfl, rfl⟩; cases u))
          · go_roundw
            case rel => exact ⟨n + 1, (by first | rw [HKW.out] | simp), Nat.succ_le_of_lt hlt9.out, z, rfl⟩
            case measure =>
              first
                | (rw [HKW.out, intOf_int, intOf_int, Int.toNat_natCast, Int.toNat_natCast]; exact step_lt hlt9.out)
                | (rw [intOf_int, intOf_int]; have := hlt9.out; omega)
          · go_ret
            obtain ⟨u, hu⟩ := below_two hB1.out z
            exact ⟨u, _, rfl, hu⟩
      have hlt' : ¬ (n : Int) < (body.length : Int) := by omega
      clear hlt
      go_wp2_with fail
      go_loopw [7] (fun i wr => ∃ n : Nat, i = .int .i64 n ∧ n ≤ els.length ∧ ∃ x : Ext w1, wr = x.val) (fun i _ => els.length - (intOf i).toNat)
      case atStart => exact ⟨0, rfl, Nat.zero_le _, x, rfl⟩
      case round =>
        obtain ⟨n, rfl, hn2, x, rfl⟩ := hrel
        by_cases hlt : n < els.length
        · obtain ⟨b, off, rfl, hb, hcell⟩ := HLd.out.1 n hlt
          have hlt' : (n : Int) < (els.length : Int) := by omega
          have hb1 : b < w1.heap.size := by omega
          have hkx := hide (((HLd.out.2 _ (List.getElem_mem hlt)).ext ⟨w1, hB1.out⟩).ext x)
          have IHx := hide (IHl.out _ (List.getElem_mem hlt))
          obtain ⟨e, he⟩ : ∃ e, e = els[n] := ⟨_, rfl⟩
          rw [← he] at hkx IHx hcell
          have hrange : Hid (x.val.rangeAt b (off + n * 23) e.cells) := fun j u h => (x.cell hb1).trans ((Ext.cell ⟨w1, hB1.out⟩ hb).trans (hcell j u h))
          have HKW := hide (wrap_next (Nat.lt_of_lt_of_le hlt hlc) hlm)
          have hlt9 := hide hlt
          clear hcell he hlt
          as_aux_lemma =>
            go_wp2_with (first | (refine wpList_load_mid rfl 46 (.tmp 71) rfl b (off + n * 23) rfl e.cells _ hrange.out Try.underlying46 rfl (by rw [St.cells_len]; kernel_rfl) ?_) | (go_at_call 15; refine ((IHx.out x.val _ hkx.out).over x).mono ?_; rintro _ _ ⟨z, u, hz, rfl, rfl⟩; cases u))
            · go_roundw
              case rel => exact ⟨n + 1, (by first | rw [HKW.out] | simp), Nat.succ_le_of_lt hlt9.out, z, rfl⟩
              case measure =>
                first
                  | (rw [HKW.out, intOf_int, intOf_int, Int.toNat_natCast, Int.toNat_natCast]; exact step_lt hlt9.out)
                  | (rw [intOf_int, intOf_int]; have := hlt9.out; omega)
            · go_ret
              obtain ⟨u, hu⟩ := below_two hB1.out z
              exact ⟨u, _, rfl, hu⟩
        have hlt' : ¬ (n : Int) < (els.length : Int) := by omega
        clear hlt
        go_wp2_with fail
        go_ret
        obtain ⟨u, hu⟩ := below_two hB1.out x
        exact ⟨u, _, rfl, hu⟩

theorem much_any (s : St) : Muchs s := much_step s
  (fun t ht => have h := List.sizeOf_lt_of_mem ht; have h1 : SizeOf.sizeOf s.body < SizeOf.sizeOf s := by (cases s; simp [St.body]; omega)
               much_any t)
  (fun t ht => have h := List.sizeOf_lt_of_mem ht; have h1 : SizeOf.sizeOf s.els < SizeOf.sizeOf s := by (cases s; simp [St.els]; omega)
               much_any t)
termination_by SizeOf.sizeOf s
end Go.Proofs.Ytmpdmelkbemabaa
