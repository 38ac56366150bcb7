/- The walk of demesneref37.Give. -/
import Derived.Test.YtglgoegabihngaaGive
set_option linter.unusedSimpArgs false
set_option linter.unusedVariables false
namespace Go.Proofs.Grow
open Go.RowKit

def giveT (k o : Int) (c : Ce) (j : Nat) : Ce := if k < 0 then giveTo k o c j else c
def giveR (k o : Int) (c : Ce) : Ce := if k < 0 then giveC k o c else c
theorem give_eq (l : List Ce) (k o : Int) : give l k o = l.map (giveR k o) := by
  unfold give giveR
  by_cases h : k < 0 <;> simp [h]
theorem giveT_zero (k o : Int) (c : Ce) : giveT k o c 0 = c := by unfold giveT; split <;> simp [giveTo_zero]
theorem giveT_four (k o : Int) (c : Ce) : giveT k o c 4 = giveR k o c := by unfold giveT giveR; split <;> simp [giveTo_four]
theorem giveT_keep {k o x : Int} {c : Ce} {j : Nat} (hj : j < 4) (hx : c.ownV[j]? = some (.int .i64 x)) (h : ¬ k < 0 ∨ x ≠ k ∨ c.dead = true) : giveT k o c (j + 1) = giveT k o c j := by
  unfold giveT
  by_cases hk : k < 0
  · rw [if_pos hk, if_pos hk]
    exact giveTo_keep hj hx (h.elim (fun h => absurd hk h) id)
  · rw [if_neg hk, if_neg hk]
theorem giveT_set {k o x : Int} {c : Ce} {j : Nat} (hj : j < 4) (hx : c.ownV[j]? = some (.int .i64 x)) (hk : k < 0) (h : x = k) (hd : c.dead = false) : (giveT k o c (j + 1)).cells = (giveT k o c j).cells.set (1 + j) (.int .i64 o) := by
  unfold giveT
  rw [if_pos hk, if_pos hk]
  exact giveTo_set hj hx h hd
theorem giveT_at (k o : Int) (c : Ce) {j : Nat} (hj : j < 4) : (giveT k o c j).cells[1 + j]? = c.ownV[j]? := by
  unfold giveT
  split
  · rcases (show j = 0 ∨ j = 1 ∨ j = 2 ∨ j = 3 by omega) with rfl | rfl | rfl | rfl <;> simp [giveTo, Ce.cells, Ce.ownV]
  · rcases (show j = 0 ∨ j = 1 ∨ j = 2 ∨ j = 3 by omega) with rfl | rfl | rfl | rfl <;> simp [Ce.cells, Ce.ownV]
theorem giveT_dead (k o : Int) (c : Ce) (j : Nat) : (giveT k o c j).cells[6]? = some (.bool c.dead) := by
  unfold giveT; split <;> rfl
end Go.Proofs.Grow
namespace Go.Proofs.Ytglgoegabihngaa
open Go.RowKit Go.Proofs.Grow

set_option maxHeartbeats 4000000 in
set_option maxRecDepth 100000 in
theorem refGive_any (w : World) (A : Option Addr) (c : Nat) (l : List Ce) (K O : Int) (hl : l.length ≤ 1000000000) (hs : Lies w 7 Ce.cells A l) : GivesOwn Try.prog 26 #[.slice A l.length c, .int .i64 K, .int .i64 O] w 47 7 Ce.cells (give l K O) := by
  unfold GivesOwn
  rw [give_eq]
  obtain ⟨i0, z0, hi, hz0, hz1, hz2, hzs⟩ := info_row infoCe
  have HS := hide hs
  clear hs
  go_enter Try.func26, Try.ntmps26
  go_wp2_with fail
  go_loopw [7, 8] (fun v s8 wr => ∃ k : Nat, k ≤ l.length ∧ s8 = .int .i64 k ∧ ∃ x : Ext w, wr = x.val ∧ Hid (Grow.Own x.val w.heap.size 47 7 Ce.cells v ((l.take k).map (giveR K O)))) (fun _ s8 _ => l.length - (intOf s8).toNat)
  case atStart => exact ⟨0, Nat.zero_le _, rfl, Ext.here w, rfl, (show Grow.Own _ _ _ _ _ _ _ by simpa using Grow.Own.nil)⟩
  case round =>
    obtain ⟨k, hk, rfl, x, rfl, hown⟩ := hrel
    obtain ⟨A', c', rfl, _, _, _⟩ := hown.out.lies Ce.cells_len
    have hlen : ((l.take k).map (giveR K O)).length = k := by rw [List.length_map, List.length_take]; omega
    rw [hlen] at hown ⊢
    by_cases hlt : k < l.length
    · obtain ⟨b, off, rfl, hb, hcell⟩ := HS.out k hlt
      have hlt' : (k : Int) < (l.length : Int) := by omega
      have HT := hide (show (l.take (k + 1)).map (giveR K O) = (l.take k).map (giveR K O) ++ [giveR K O l[k]] by rw [List.take_succ_eq_append_getElem hlt, List.map_append]; rfl)
      obtain ⟨e, he⟩ : ∃ e, e = l[k] := ⟨_, rfl⟩
      rw [← he] at hcell HT
      have hrange : Hid (x.val.rangeAt b (off + k * 7) e.cells) := fun j u h => (x.cell hb).trans (hcell j u h)
      have hone := hide (Ce.cells_one e)
      have HK := hide hlt
      have Hlen := hide hlen
      clear hcell he hlt hlen
      go_upto_region 6 with (first | (refine wpList_load_mid rfl 47 (.tmp 19) rfl b (off + k * 7) rfl e.cells _ hrange.out Try.underlying47 rfl (by rw [Ce.cells_len]; kernel_rfl) ?_) | (refine wpList_store_new rfl 47 (.tmp 9) (.tmp 20) rfl _ _ _ _ rfl rfl rfl (by rw [List.size_toArray, Ce.cells_len]; kernel_rfl) rfl (fun u hu => hone.out u (by simpa using hu)) ?_))
      obtain ⟨g, hg⟩ : ∃ g, g = x.val.heap.size := ⟨_, rfl⟩
      obtain ⟨x1, hx1⟩ : ∃ x1 : Ext w, x.val.alloc (.cells e.cells.toArray 47) = x1.val := ⟨⟨_, x.below.alloc (x.le (Nat.le_refl _)) _⟩, rfl⟩
      have hrow : Hid (x1.val.heap[g]? = some (.cells (giveT K O e 0).cells.toArray 47 (0, 0))) := by
        show _ = _
        rw [← hx1, hg, giveT_zero]; exact heap_alloc_new _ _
      have hown1 : Hid (Grow.Own x1.val w.heap.size 47 7 Ce.cells (.slice A' k c') ((l.take k).map (giveR K O))) := by
        show Grow.Own _ _ _ _ _ _ _
        rw [← hx1]; exact hown.out.alloc _
      have hne : Hid ((Value.slice A' k c').ownBlock ≠ some g) := fun e => by have := (hown.out.from_ _ e).2; omega
      have hgw : w.heap.size ≤ g := by have := x.below.size; omega
      rw [← hg, hx1]
      clear hx1 hg hown hrange hone
      go_wp2_with fail
      go_loopw [10] (fun s10 wr => ∃ j : Nat, j ≤ 4 ∧ s10 = .int .i64 j ∧ ∃ y : Ext w, wr = y.val ∧ Hid (Grow.Own y.val w.heap.size 47 7 Ce.cells (.slice A' k c') ((l.take k).map (giveR K O))) ∧ Hid (y.val.heap[g]? = some (.cells (giveT K O e j).cells.toArray 47 (0, 0)))) (fun s10 _ => 4 - (intOf s10).toNat)
      case atStart => exact ⟨0, by omega, rfl, x1, rfl, hown1, hrow⟩
      case round =>
        obtain ⟨j, hj, rfl, y, rfl, hown, hr⟩ := hrel
        clear hown1 hrow
        by_cases hj4 : j = 4
        · subst hj4
          have hr4 : Hid (y.val.heap[g]? = some (.cells (giveR K O e).cells.toArray 47 (0, 0))) := by
            have := hr.out
            rw [giveT_four] at this
            exact this
          clear hr
          go_wp2_with (first | (refine wpList_load_row rfl 47 (.tmp 9) rfl g rfl 47 (giveR K O e).cells.toArray (0, 0) _ hr4.out Try.underlying47 rfl (by rw [List.size_toArray, Ce.cells_len]; kernel_rfl) ?_) | (refine wpList_lit_one rfl 22 47 (.tmp 45) rfl _ rfl i0 z0 7 Try.underlying22 hi hz0 hz1 (by rw [List.size_toArray, Ce.cells_len]) (by omega) (by omega) ?_) | (at_builtin; refine wpList_append_list (w1 := w) _ rfl (.tmp 44) (.tmp 46) 22 rfl 47 i0 z0 7 80 Try.underlying22 hi hz0 hz1 hz2 hzs (by omega) Ce.cells_len Ce.cells_one (y.below.alloc (y.le (Nat.le_refl _)) _) _ ((l.take k).map (giveR K O)) rfl (hown.out.alloc _) _ _ _ [giveR K O e] rfl rfl (Lies.one _ (giveR K O e) _ rfl) (by have := Hlen.out; simp [maxLen]; omega) (by have := Hlen.out; simp; omega) ?_; intro v' z hown2 hgr hat; have HO2 := hide hown2; clear hown2 hgr hat))
          go_roundw
          case rel => exact ⟨k + 1, HK.out, by go_num, z, rfl, by show Grow.Own _ _ _ _ _ _ _; rw [HT.out]; exact HO2.out⟩
          case measure => have := HK.out; simp [intOf]; omega
        · have hjl : j < 4 := by omega
          have hj4' : (j : Int) < 4 := by omega
          obtain ⟨o, hv⟩ := ownV_at e hjl
          have Hj := hide hjl
          have HV := hide hv
          obtain ⟨b1, f1⟩ := row_cell hr.out ((giveT_at K O e hjl).trans hv)
          have a6 : y.val.cell? ⟨g, 6, none⟩ = some (.bool e.dead) := (row_cell hr.out (giveT_dead K O e j)).1
          clear hv hjl hj4
          by_cases hK : K < 0
          · cases hd : e.dead
            · by_cases hx : o = K
              · have hx' : (o == K) = true := beq_iff_eq.2 hx
                have HSET := hide (giveT_set (o := O) Hj.out HV.out hK hx hd)
                rw [hd] at a6
                clear hx hd
                go_wp2_with fail
                obtain ⟨y2, hy2⟩ : ∃ y2 : Ext w, y.val.setCell ⟨g, 1 + j, none⟩ (.int .i64 O) = y2.val := ⟨⟨_, y.below.setCell (p := ⟨g, 1 + j, none⟩) hgw _⟩, rfl⟩
                have hO4 : Hid (Grow.Own y2.val w.heap.size 47 7 Ce.cells (.slice A' k c') ((l.take k).map (giveR K O))) := by
                  show Grow.Own _ _ _ _ _ _ _
                  rw [← hy2]; exact own_store2 hown.out hne.out _
                have hR4 : Hid (y2.val.heap[g]? = some (.cells (giveT K O e (j + 1)).cells.toArray 47 (0, 0))) := by
                  show _ = _
                  rw [← hy2, row_store hr.out, HSET.out]; simp
                rw [hy2]
                clear hy2 b1 f1 a6
                go_roundw
                case rel => exact ⟨j + 1, Hj.out, by go_num, y2, rfl, hO4, hR4⟩
                case measure => have := Hj.out; simp [intOf]; omega
              · have hx' : (o == K) = false := beq_eq_false_iff_ne.2 hx
                have hR4 : Hid (y.val.heap[g]? = some (.cells (giveT K O e (j + 1)).cells.toArray 47 (0, 0))) := by
                  show _ = _
                  rw [giveT_keep Hj.out HV.out (.inr (.inl hx))]; exact hr.out
                rw [hd] at a6
                clear hx hd
                go_wp2_with fail
                go_roundw
                case rel => exact ⟨j + 1, Hj.out, by go_num, y, rfl, hown, hR4⟩
                case measure => have := Hj.out; simp [intOf]; omega
            · have hR4 : Hid (y.val.heap[g]? = some (.cells (giveT K O e (j + 1)).cells.toArray 47 (0, 0))) := by
                show _ = _
                rw [giveT_keep Hj.out HV.out (.inr (.inr hd))]; exact hr.out
              rw [hd] at a6
              clear hd
              go_wp2_with fail
              go_roundw
              case rel => exact ⟨j + 1, Hj.out, by go_num, y, rfl, hown, hR4⟩
              case measure => have := Hj.out; simp [intOf]; omega
          · have hR4 : Hid (y.val.heap[g]? = some (.cells (giveT K O e (j + 1)).cells.toArray 47 (0, 0))) := by
              show _ = _
              rw [giveT_keep Hj.out HV.out (.inl hK)]; exact hr.out
            go_wp2_with fail
            go_roundw
            case rel => exact ⟨j + 1, Hj.out, by go_num, y, rfl, hown, hR4⟩
            case measure => have := Hj.out; simp [intOf]; omega
    · obtain rfl : k = l.length := by omega
      have hlt' : ¬ (l.length : Int) < (l.length : Int) := by omega
      go_wp2_with fail
      go_ret
      exact ⟨x, .slice A' l.length c', rfl, rfl, by have := hown.out; rwa [List.take_length] at this⟩
end Go.Proofs.Ytglgoegabihngaa
