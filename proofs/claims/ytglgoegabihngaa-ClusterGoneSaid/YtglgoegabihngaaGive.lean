/- The walk of cluster.Give. -/
import Derived.Test.YtglgoegabihngaaClone
import Derived.Test.YtglgoegabihngaaClu
set_option linter.unusedSimpArgs false
set_option linter.unusedVariables false
namespace Go.Proofs.Grow
open Go.RowKit

def gq (k o : Int) (c : Ce) (x : Int) : Int := if c.dead then x else gv k o x
/-- A cell of which the first j owners have been gone through. -/
def giveTo (k o : Int) (c : Ce) (j : Nat) : Ce := { c with o0 := if 0 < j then gq k o c c.o0 else c.o0, o1 := if 1 < j then gq k o c c.o1 else c.o1, o2 := if 2 < j then gq k o c c.o2 else c.o2, o3 := if 3 < j then gq k o c c.o3 else c.o3 }
theorem giveTo_zero (k o : Int) (c : Ce) : giveTo k o c 0 = c := by cases c; simp [giveTo]
theorem giveTo_four (k o : Int) (c : Ce) : giveTo k o c 4 = giveC k o c := by
  unfold giveTo giveC gq gv
  cases c with
  | mk cls o0 o1 o2 o3 fA fc fields dead => cases dead <;> simp
theorem giveTo_dead (k o : Int) (c : Ce) (j : Nat) : (giveTo k o c j).dead = c.dead := rfl
def Ce.ownV (c : Ce) : Array Value := #[.int .i64 c.o0, .int .i64 c.o1, .int .i64 c.o2, .int .i64 c.o3]
theorem ownV_at (c : Ce) {j : Nat} (h : j < 4) : ∃ x, c.ownV[j]? = some (.int .i64 x) := by
  rcases (show j = 0 ∨ j = 1 ∨ j = 2 ∨ j = 3 by omega) with rfl | rfl | rfl | rfl <;> exact ⟨_, rfl⟩
theorem giveTo_keep {k o x : Int} {c : Ce} {j : Nat} (hj : j < 4) (hx : c.ownV[j]? = some (.int .i64 x)) (h : x ≠ k ∨ c.dead = true) : giveTo k o c (j + 1) = giveTo k o c j := by
  have key : gq k o c x = x := by
    unfold gq gv
    rcases h with h | h
    · simp [h]
    · simp [h]
  rcases (show j = 0 ∨ j = 1 ∨ j = 2 ∨ j = 3 by omega) with rfl | rfl | rfl | rfl <;> (simp [Ce.ownV] at hx; subst hx; simp [giveTo, key])
theorem giveTo_set {k o x : Int} {c : Ce} {j : Nat} (hj : j < 4) (hx : c.ownV[j]? = some (.int .i64 x)) (h : x = k) (hd : c.dead = false) : (giveTo k o c (j + 1)).cells = (giveTo k o c j).cells.set (1 + j) (.int .i64 o) := by
  have key : gq k o c x = o := by
    unfold gq gv
    simp [h, hd]
  rcases (show j = 0 ∨ j = 1 ∨ j = 2 ∨ j = 3 by omega) with rfl | rfl | rfl | rfl <;> (simp [Ce.ownV] at hx; subst hx; simp [giveTo, key, Ce.cells])

/-- A heap of which the first i cells have been gone through. -/
def curI (k o : Int) (l : List Ce) (i : Nat) : List Ce := (l.take i).map (giveC k o) ++ l.drop i
theorem curI_len (k o : Int) (l : List Ce) (i : Nat) : (curI k o l i).length = l.length := by simp [curI]; omega
theorem curI_zero (k o : Int) (l : List Ce) : curI k o l 0 = l := by simp [curI]
theorem curI_all {k o : Int} (hk : k < 0) (l : List Ce) : curI k o l l.length = give l k o := by simp [curI, give, hk]
theorem curI_at {k o : Int} {l : List Ce} {i : Nat} (h : i < l.length) : (curI k o l i)[i]? = some l[i] := by
  unfold curI
  have hl : ((l.take i).map (giveC k o)).length = i := by rw [List.length_map, List.length_take]; omega
  rw [List.getElem?_append_right (by rw [hl]; exact Nat.le_refl _), hl, Nat.sub_self, List.getElem?_drop, Nat.add_zero, List.getElem?_eq_getElem h]
theorem curI_succ {k o : Int} {l : List Ce} {i : Nat} (h : i < l.length) : (curI k o l i).set i (giveC k o l[i]) = curI k o l (i + 1) := by
  unfold curI
  have hl : ((l.take i).map (giveC k o)).length = i := by rw [List.length_map, List.length_take]; omega
  rw [List.set_append_right _ _ (by rw [hl]; exact Nat.le_refl _), hl, Nat.sub_self, List.take_succ_eq_append_getElem h, List.map_append, List.drop_eq_getElem_cons h, List.set_cons_zero, List.append_assoc]
  rfl
theorem set_same {α : Type} {l : List α} {i : Nat} {a : α} (h : l[i]? = some a) : l.set i a = l := by
  obtain ⟨hi, rfl⟩ := List.getElem?_eq_some_iff.1 h
  exact List.set_getElem_self hi
end Go.Proofs.Grow
namespace Go.Proofs.Ytglgoegabihngaa
open Go.RowKit Go.Proofs.Grow

theorem infoIn : (Try.prog.info? 3).map (fun i => (i.zero.map (·.cells.size), i.size, i.bytes)) = some (some 1, 1, 8) := by kernel_rfl

set_option maxHeartbeats 4000000 in
set_option maxRecDepth 100000 in
theorem give_any (w : World) (A : Option Addr) (c : Nat) (l : List Ce) (K O : Int) (hl : l.length ≤ 1000000000) (hs : Lies w 7 Ce.cells A l) : GivesOwn Try.prog 25 #[.slice A l.length c, .int .i64 K, .int .i64 O] w 47 7 Ce.cells (give l K O) := by
  unfold GivesOwn
  obtain ⟨i0, z0, hi, hz0, hz1, hz2, hzs⟩ := info_row infoIn
  have HC := hide (clone_any w A c l hl hs)
  clear hs
  by_cases hK : 0 ≤ K
  · have HE : Hid (give l K O = l) := by show _ = _; unfold give; rw [if_neg (by omega)]
    go_enter Try.func25, Try.ntmps25
    go_wp2_with (go_at_call 32; refine HC.out.mono ?_; rintro _ _ ⟨x, v, rfl, rfl, ho⟩; have HO := hide ho; clear ho)
    go_ret
    exact ⟨x, v, rfl, rfl, by rw [HE.out]; exact HO.out⟩
  have hK' : K < 0 := by omega
  have HE := hide (curI_all (o := O) hK' l)
  go_enter Try.func25, Try.ntmps25
  go_upto_region 4 with (go_at_call 32; refine HC.out.mono ?_; rintro _ _ ⟨x, v, rfl, rfl, ho⟩; have HO := hide ho; clear ho)
  clear HC
  by_cases hl0 : l.length = 0
  · obtain rfl : l = [] := List.eq_nil_of_length_eq_zero hl0
    obtain ⟨A', c', rfl, _, _, _⟩ := HO.out.lies Ce.cells_len
    clear hl0
    go_wp2_with fail
    go_loop [18] (fun s18 => s18 = .int .i64 0) (fun _ => 0)
    case atStart => rfl
    case round =>
      obtain rfl := hrel
      go_wp2_with fail
      go_ret
      exact ⟨x, _, rfl, rfl, by rw [← HE.out]; exact HO.out⟩
  · obtain ⟨g, cap, rfl, hg⟩ := HO.out.some_pos (by omega)
    obtain ⟨n, hn⟩ : ∃ n, n = l.length := ⟨_, rfl⟩
    have HO2 : Hid (Grow.Own x.val w.heap.size 47 7 Ce.cells (.slice (some ⟨g, 0, none⟩) n cap) (curI K O l 0)) := by
      have := HO.out
      show Grow.Own _ _ _ _ _ _ _
      rw [curI_zero, hn]; exact this
    rw [← hn] at HE ⊢
    have hnl : n ≤ 1000000000 := by omega
    have HN := hide hn
    clear HO hl0 hn
    go_wp2_with fail
    go_loopw [18] (fun s18 wr => ∃ k : Nat, k ≤ n ∧ s18 = .int .i64 k ∧ ∃ z : Ext w, wr = z.val ∧ Hid (Grow.Own z.val w.heap.size 47 7 Ce.cells (.slice (some ⟨g, 0, none⟩) n cap) (curI K O l k))) (fun s18 _ => n - (intOf s18).toNat)
    case atStart => exact ⟨0, Nat.zero_le _, rfl, x, rfl, HO2⟩
    case round =>
      obtain ⟨k, hk, rfl, z, rfl, hown⟩ := hrel
      clear HO2
      by_cases hlt : k < n
      · have hlt' : (k : Int) < (n : Int) := by omega
        have hkl : k < l.length := by have := HN.out; omega
        have HS := hide (curI_succ (k := K) (o := O) hkl)
        have HA := hide (curI_at (k := K) (o := O) hkl)
        obtain ⟨e, he⟩ : ∃ e, e = l[k] := ⟨_, rfl⟩
        rw [← he] at HS HA
        have HK := hide hlt
        have HL : Hid (k < (curI K O l k).length) := by show _ < _; rw [curI_len]; exact hkl
        have HO3 : Hid (Grow.Own z.val w.heap.size 47 7 Ce.cells (.slice (some ⟨g, 0, none⟩) n cap) ((curI K O l k).set k (giveTo K O e 0))) := by
          show Grow.Own _ _ _ _ _ _ _
          rw [giveTo_zero, set_same HA.out]; exact hown.out
        have hrange : Hid (z.val.rangeAt g (k * 7 + 1) e.ownV.toList) := fun j u h => by
          have hj : j < 4 := by have := (List.getElem?_eq_some_iff.1 h).1; simpa [Ce.ownV] using this
          obtain ⟨A', c', hv, _, _, hL⟩ := hown.out.lies Ce.cells_len
          obtain ⟨b, off, hA, hb, hcell⟩ := hL k HL.out
          obtain ⟨rfl, rfl⟩ : b = g ∧ off = 0 := by
            simp only [Value.slice.injEq] at hv
            rw [hA] at hv
            have := hv.1
            simp at this
            exact ⟨this.1.symm, this.2.symm⟩
          have := hcell (1 + j) u (by
            rw [(List.getElem?_eq_some_iff.1 HA.out).2]
            rcases (show j = 0 ∨ j = 1 ∨ j = 2 ∨ j = 3 by omega) with rfl | rfl | rfl | rfl <;> exact h)
          rw [show k * 7 + 1 + j = 0 + k * 7 + (1 + j) by omega]
          exact this
        have HKL := hide hkl
        clear he hkl hlt hown
        go_wp2_with (refine wpList_load_mid rfl 45 (.tmp 24) rfl g (k * 7 + 1) rfl e.ownV.toList _ hrange.out Try.underlying45 rfl (by kernel_rfl) ?_; simp only [Array.toArray_toList])
        go_loopw [26] (fun s26 wr => ∃ j : Nat, j ≤ 4 ∧ s26 = .int .i64 j ∧ ∃ y : Ext w, wr = y.val ∧ Hid (Grow.Own y.val w.heap.size 47 7 Ce.cells (.slice (some ⟨g, 0, none⟩) n cap) ((curI K O l k).set k (giveTo K O e j)))) (fun s26 _ => 4 - (intOf s26).toNat)
        case atStart => exact ⟨0, by omega, rfl, z, rfl, HO3⟩
        case round =>
          obtain ⟨j, hj, rfl, y, rfl, hown⟩ := hrel
          clear HO3 hrange
          by_cases hj4 : j = 4
          · subst hj4
            go_wp2_with fail
            go_roundw
            case rel => exact ⟨k + 1, HK.out, by go_num, y, rfl, by show Grow.Own _ _ _ _ _ _ _; rw [← HS.out, ← giveTo_four]; exact hown.out⟩
            case measure => have := HK.out; simp [intOf]; omega
          · have hjl : j < 4 := by omega
            have hj4' : (j : Int) < 4 := by omega
            obtain ⟨o, hv⟩ := ownV_at e hjl
            have Hj := hide hjl
            have HV := hide hv
            have hat : ((curI K O l k).set k (giveTo K O e j))[k]? = some (giveTo K O e j) := List.getElem?_set_self HL.out
            have a6 : y.val.cell? ⟨g, k * 7 + 6, none⟩ = some (.bool e.dead) := (hown.out.cellAt Ce.cells_len hat (j := 6) rfl).1
            have HAT := hide hat
            clear hat hv hjl hj4
            by_cases hx : o = K
            · have hx' : (o == K) = true := beq_iff_eq.2 hx
              have HX := hide hx
              clear hx
              cases hd : e.dead
              · rw [hd] at a6
                have HD := hide hd
                obtain ⟨u, hu⟩ : ∃ u, (giveTo K O e j).cells[1 + j]? = some u := ⟨_, List.getElem?_eq_getElem (by rw [Ce.cells_len]; have := Hj.out; omega)⟩
                obtain ⟨b1, b2⟩ := hown.out.cellAt Ce.cells_len HAT.out hu
                rw [← Nat.add_assoc] at b1 b2
                clear hd
                go_wp2_with (refine wpList_index_arr rfl 45 3 4 (.tmp 25) (.tmp 26) rfl _ .i64 j rfl rfl i0 Try.underlying45 .i64 Try.underlying3 hi hz1 Hj.out _ HV.out ?_)
                obtain ⟨y2, hy2⟩ : ∃ y2 : Ext w, y.val.setCell ⟨g, k * 7 + 1 + j, none⟩ (.int .i64 O) = y2.val := ⟨⟨_, y.below.setCell (p := ⟨g, k * 7 + 1 + j, none⟩) hown.out.below _⟩, rfl⟩
                have HO4 : Hid (Grow.Own y2.val w.heap.size 47 7 Ce.cells (.slice (some ⟨g, 0, none⟩) n cap) ((curI K O l k).set k (giveTo K O e (j + 1)))) := by
                  show Grow.Own _ _ _ _ _ _ _
                  rw [← hy2, Nat.add_assoc]
                  have := hown.out.setCell Ce.cells_len k (1 + j) (by rw [List.length_set]; exact HL.out) (by have := Hj.out; omega) (.int .i64 O) (giveTo K O e (j + 1)) (by rw [(List.getElem?_eq_some_iff.1 HAT.out).2]; exact giveTo_set Hj.out HV.out HX.out HD.out) rfl
                  rwa [List.set_set] at this
                rw [hy2]
                clear hy2 b1 b2 a6
                go_roundw
                case rel => exact ⟨j + 1, Hj.out, by go_num, y2, rfl, HO4.out⟩
                case measure => have := Hj.out; simp [intOf]; omega
              · rw [hd] at a6
                have HE4 := hide (giveTo_keep (k := K) (o := O) Hj.out HV.out (.inr hd))
                clear hd
                go_wp2_with (refine wpList_index_arr rfl 45 3 4 (.tmp 25) (.tmp 26) rfl _ .i64 j rfl rfl i0 Try.underlying45 .i64 Try.underlying3 hi hz1 Hj.out _ HV.out ?_)
                go_roundw
                case rel => exact ⟨j + 1, Hj.out, by go_num, y, rfl, by show Grow.Own _ _ _ _ _ _ _; rw [HE4.out]; exact hown.out⟩
                case measure => have := Hj.out; simp [intOf]; omega
            · have hx' : (o == K) = false := beq_eq_false_iff_ne.2 hx
              have HE4 := hide (giveTo_keep (k := K) (o := O) Hj.out HV.out (.inl hx))
              clear hx a6
              go_wp2_with (refine wpList_index_arr rfl 45 3 4 (.tmp 25) (.tmp 26) rfl _ .i64 j rfl rfl i0 Try.underlying45 .i64 Try.underlying3 hi hz1 Hj.out _ HV.out ?_)
              go_roundw
              case rel => exact ⟨j + 1, Hj.out, by go_num, y, rfl, by show Grow.Own _ _ _ _ _ _ _; rw [HE4.out]; exact hown.out⟩
              case measure => have := Hj.out; simp [intOf]; omega
      · obtain rfl : k = n := by omega
        have hlt' : ¬ (k : Int) < (k : Int) := by omega
        go_wp2_with fail
        go_ret
        exact ⟨z, .slice (some ⟨g, 0, none⟩) k cap, rfl, rfl, by rw [← HE.out]; exact hown.out⟩
end Go.Proofs.Ytglgoegabihngaa
