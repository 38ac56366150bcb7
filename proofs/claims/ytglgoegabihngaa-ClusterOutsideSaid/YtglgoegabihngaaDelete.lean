/- The walk of cluster.Delete. -/
import Derived.Test.YtglgoegabihngaaClone
import Derived.Test.YtglgoegabihngaaDel
import Derived.Test.YtglgoegabihngaaMem
import Derived.Deep.CutBlock
set_option linter.unusedSimpArgs false
set_option linter.unusedVariables false
namespace Go.Proofs.Ytglgoegabihngaa
open Go.RowKit Go.Proofs.Grow

/-- A list in memory of the call's own, and a number. -/
def GivesOwnN (P : Program) (f : FuncId) (args : Array Value) (w : World) (l : List Ce) (n : Nat) : Prop :=
  Calls P f args w fun e w' => ∃ (x : Ext w) (v : Value), e = .returned (.tuple #[v, .int .i64 n]) ∧ w' = x.val ∧ Grow.Own x.val w.heap.size 47 7 Ce.cells v l

set_option maxHeartbeats 4000000 in
set_option maxRecDepth 100000 in
theorem delete_any (w : World) (A : Option Addr) (c : Nat) (l : List Ce) (o : Int) (hl : l.length ≤ 100000000) (hs : Lies w 7 Ce.cells A l) : GivesOwnN Try.prog 22 #[.slice A l.length c, .int .i64 o] w (dels l o) (delN l o) := by
  unfold GivesOwnN
  obtain ⟨i0, z0, hi, hz0, hz1, hz2, hzs⟩ := info_row infoI
  have HC := hide (clone_any w A c l (by omega) hs)
  have HM := hide (fun x : Ext w => mem_any x.val A c l o (by omega) (hs.ext x))
  clear hs
  by_cases ho : o = 0
  · have HE : Hid (dels l o = l) := by show _ = _; unfold dels; rw [if_pos ho]
    have HN : Hid (delN l o = 0) := by show _ = _; unfold delN; rw [if_pos ho]
    subst ho
    go_enter Try.func22, Try.ntmps22
    go_wp2_with (go_at_call 32; refine HC.out.mono ?_; rintro _ _ ⟨x, v, rfl, rfl, ho⟩; have HO := hide ho; clear ho)
    go_ret2
    exact ⟨x, v, by rw [HN.out]; rfl, rfl, by rw [HE.out]; exact HO.out⟩
  have ho' : (o == 0) = false := beq_eq_false_iff_ne.2 ho
  have HE := hide (delTo_all (l := l) ho)
  have HN := hide (cntTo_all (l := l) ho)
  have hml : (members l o).length ≤ l.length := by rw [← memTo_all]; exact memTo_len l o _
  have hal := allOf_len l o
  have HAI := hide (fun x (h : x ∈ allOf l o) => allOf_in h)
  have HAL : Hid (allOf l o = members l o ++ if 0 < o ∧ o ≤ l.length then [o] else []) := rfl
  clear ho
  have HML := hide hml
  have HALN := hide hal
  clear hml hal
  by_cases hin : 0 < o ∧ o ≤ (l.length : Int)
  · obtain ⟨hin1, hin2⟩ := hin
    go_enter Try.func22, Try.ntmps22
    go_upto_region 7 with (first | (go_at_call 32; refine HC.out.mono ?_; rintro _ _ ⟨x, v, rfl, rfl, ho⟩; have HO := hide ho; clear ho) | (go_at_call 17; refine (HM.out x).mono ?_; rintro _ _ ⟨y, v8, rfl, rfl, hom⟩; have HO8 := hide hom; clear hom) | (at_builtin; refine wpList_append_list (w1 := x.val) _ rfl (.tmp 27) (.tmp 29) 29 rfl 3 i0 z0 1 8 Try.underlying29 hi hz0 hz1 hz2 hzs (by omega) encI_len encI_one (y.below.alloc (y.le (Nat.le_refl _)) _) _ (members l o) rfl (HO8.out.alloc _) _ _ _ [o] rfl rfl (Lies.one _ o _ rfl) (by have := HML.out; simp [maxLen]; omega) (by have := HML.out; simp; omega) ?_; intro v' z hown2 hgr hat; have HO9 := hide hown2; clear hown2 hgr hat))
    clear HO8
    clear HC HM
    obtain ⟨yy, hyy⟩ : ∃ yy : Ext w, z.val = yy.val := ⟨x.step z.below, rfl⟩
    have HO6 : Hid (Grow.Own yy.val w.heap.size 47 7 Ce.cells v (delTo l [])) := by
      show Grow.Own _ _ _ _ _ _ _
      rw [delTo_nil, ← hyy]; exact HO.out.ext z
    have HO8 : Hid (Grow.Own yy.val x.val.heap.size 3 1 encI v' (allOf l o)) := by
      show Grow.Own _ _ _ _ _ _ _
      rw [HAL.out, if_pos ⟨hin1, hin2⟩, ← hyy]; exact HO9.out
    rw [hyy]
    clear hyy HAL
    obtain ⟨A8, c8, rfl, _, _, _⟩ := HO8.out.lies encI_len
    obtain ⟨ps, hps⟩ : ∃ ps, ps = allOf l o := ⟨_, rfl⟩
    rw [← hps] at HE HN HAI HALN HO8 ⊢
    clear hps
    by_cases hl0 : l.length = 0
    · have hp0 : ps = [] := by
        cases ps with
        | nil => rfl
        | cons a ps =>
          obtain ⟨i, hi, _⟩ := HAI.out a (by simp)
          omega
      subst hp0
      obtain rfl : l = [] := List.eq_nil_of_length_eq_zero hl0
      clear hl0 HAI HALN HO
      go_wp2_with fail
      go_loop [7, 33] (fun s7 s33 => s7 = .int .i64 0 ∧ s33 = .int .i64 0) (fun _ _ => 0)
      case atStart => exact ⟨rfl, rfl⟩
      case round =>
        obtain ⟨rfl, rfl⟩ := hrel
        go_wp2_with fail
        go_ret2
        exact ⟨yy, v, by rw [← HN.out, cntTo_nil]; rfl, rfl, by rw [← HE.out]; exact HO6.out⟩
    · obtain ⟨g, cap, rfl, hg⟩ := HO.out.some_pos (by omega)
      have hgx : g < x.val.heap.size := (HO.out.from_ g rfl).2
      have HL0 := hide hl0
      have HNE : Hid ((Value.slice A8 ps.length c8).ownBlock ≠ some g) := fun e => by have := (HO8.out.from_ _ e).1; omega
      clear hl0 HO
      go_wp2_with fail
      go_loopw [7, 33] (fun s7 s33 wr => ∃ k : Nat, k ≤ ps.length ∧ s33 = .int .i64 k ∧ s7 = .int .i64 (cntTo l (ps.take k)) ∧ ∃ z : Ext w, wr = z.val ∧ Hid (Grow.Own z.val w.heap.size 47 7 Ce.cells (.slice (some ⟨g, 0, none⟩) l.length cap) (delTo l (ps.take k))) ∧ Hid (Grow.Own z.val x.val.heap.size 3 1 encI (.slice A8 ps.length c8) ps)) (fun _ s33 _ => ps.length - (intOf s33).toNat)
      case atStart => exact ⟨0, Nat.zero_le _, rfl, by rw [List.take_zero, cntTo_nil]; rfl, yy, rfl, by rw [List.take_zero]; exact HO6, HO8⟩
      case round =>
        obtain ⟨k, hk, rfl, rfl, z, rfl, hO6, hO8⟩ := hrel
        have hals := HALN.out
        clear HO6 HO8
        by_cases hlt : k < ps.length
        · have hlt' : (k : Int) < (ps.length : Int) := by omega
          obtain ⟨i, hi, hpi⟩ := HAI.out _ (List.getElem_mem hlt)
          have hpk : ps[k]? = some ((i : Int) + 1) := by rw [List.getElem?_eq_getElem hlt, hpi]
          obtain ⟨A9, c9, hv9, _, _, hL9⟩ := hO8.out.lies encI_len
          obtain ⟨b9, off9, hA9, hb9, hcell9⟩ := hL9 k hlt
          obtain rfl : A8 = some ⟨b9, off9, none⟩ := by simp only [Value.slice.injEq] at hv9; rw [← hA9]; exact hv9.1
          have a1 : z.val.cell? ⟨b9, off9 + k, none⟩ = some (.int .i64 ((i : Int) + 1)) := by
            have := hcell9 0 (.int .i64 ((i : Int) + 1)) (by rw [hpi]; rfl)
            simpa using this
          have hat := delTo_at (ps := ps.take k) hi
          obtain ⟨e, he⟩ : ∃ e, e = deadAt (ps.take k) (l[i], i) := ⟨_, rfl⟩
          have HTK := hide (show ps.take (k + 1) = ps.take k ++ [(i : Int) + 1] by rw [List.take_succ_eq_append_getElem hlt, hpi])
          have hsd := step_dead (ps := ps.take k) hi
          have hsl := step_live (ps := ps.take k) hi
          rw [← he] at hat hsd hsl
          have HSD := hide hsd
          have HSL := hide hsl
          have HAT := hide hat
          obtain ⟨a6, f6⟩ := hO6.out.cellAt Ce.cells_len hat (j := 6) (v := .bool e.dead) rfl
          have HK := hide hlt
          have hi' : (i : Int) < (l.length : Int) := by omega
          have HIL := hide hi
          have hcnt : cntTo l (ps.take k) ≤ 100000000 := by
            unfold cntTo
            exact Nat.le_trans (List.length_filter_le _ _) (by simpa using hl)
          obtain ⟨n, hn⟩ : ∃ n, n = cntTo l (ps.take k) := ⟨_, rfl⟩
          rw [← hn] at hcnt HSD HSL ⊢
          clear hpi hpk hA9 hcell9 hL9 hv9 hat hsd hsl he hlt hi hn
          cases hd : e.dead
          · rw [hd] at a6
            have HS2 := hide (HSL.out hd)
            clear hd HSL HSD
            go_wp2_with fail
            obtain ⟨y2, hy2⟩ : ∃ y2 : Ext w, z.val.setCell ⟨g, i * 7 + 6, none⟩ (.bool true) = y2.val := ⟨⟨_, z.below.setCell (p := ⟨g, i * 7 + 6, none⟩) hg _⟩, rfl⟩
            have HO4 : Hid (Grow.Own y2.val w.heap.size 47 7 Ce.cells (.slice (some ⟨g, 0, none⟩) l.length cap) (delTo l (ps.take (k + 1)))) := by
              show Grow.Own _ _ _ _ _ _ _
              rw [← hy2, HTK.out, HS2.out.1]
              exact hO6.out.setCell Ce.cells_len i 6 (by rw [delTo_len]; exact HIL.out) (by omega) (.bool true) (kill e) (by rw [(List.getElem?_eq_some_iff.1 HAT.out).2]; rfl) rfl
            have HO5 : Hid (Grow.Own y2.val x.val.heap.size 3 1 encI (.slice (some ⟨b9, off9, none⟩) ps.length c8) ps) := by
              show Grow.Own _ _ _ _ _ _ _
              rw [← hy2]; exact own_store2 hO8.out HNE.out _
            rw [hy2]
            clear hy2 a1 a6 f6
            go_roundw
            case rel => exact ⟨k + 1, HK.out, by go_num, by rw [HTK.out, HS2.out.2]; go_num, y2, rfl, HO4, HO5⟩
            case measure => have := HK.out; simp [intOf]; omega
          · rw [hd] at a6
            have HS2 := hide (HSD.out hd)
            clear hd HSL HSD
            go_wp2_with fail
            go_roundw
            case rel => exact ⟨k + 1, HK.out, by go_num, by rw [HTK.out, HS2.out.2], z, rfl, by rw [HTK.out, HS2.out.1]; exact hO6, hO8⟩
            case measure => have := HK.out; simp [intOf]; omega
        · obtain rfl : k = ps.length := by omega
          have hlt' : ¬ (ps.length : Int) < (ps.length : Int) := by omega
          rw [List.take_length, HE.out] at hO6
          rw [List.take_length, HN.out]
          go_wp2_with fail
          go_ret2
          exact ⟨z, .slice (some ⟨g, 0, none⟩) l.length cap, rfl, rfl, hO6.out⟩
  · rcases (show o ≤ 0 ∨ (0 < o ∧ (l.length : Int) < o) by omega) with hin1 | ⟨hin1, hin2⟩
    all_goals
      go_enter Try.func22, Try.ntmps22
      go_upto_region 7 with (first | (go_at_call 32; refine HC.out.mono ?_; rintro _ _ ⟨x, v, rfl, rfl, ho⟩; have HO := hide ho; clear ho) | (go_at_call 17; refine (HM.out x).mono ?_; rintro _ _ ⟨y, v8, rfl, rfl, hom⟩; have HO8 := hide hom; clear hom))
      clear HC HM
      obtain ⟨yy, hyy⟩ : ∃ yy : Ext w, y.val = yy.val := ⟨x.step y.below, rfl⟩
      have HO6 : Hid (Grow.Own yy.val w.heap.size 47 7 Ce.cells v (delTo l [])) := by
        show Grow.Own _ _ _ _ _ _ _
        rw [delTo_nil, ← hyy]; exact HO.out.ext y
      replace HO8 : Hid (Grow.Own yy.val x.val.heap.size 3 1 encI v8 (allOf l o)) := by
        show Grow.Own _ _ _ _ _ _ _
        rw [HAL.out, if_neg (by omega), List.append_nil, ← hyy]; exact HO8.out
      rw [hyy]
      clear hyy HAL
      obtain ⟨A8, c8, rfl, _, _, _⟩ := HO8.out.lies encI_len
      obtain ⟨ps, hps⟩ : ∃ ps, ps = allOf l o := ⟨_, rfl⟩
      rw [← hps] at HE HN HAI HALN HO8 ⊢
      clear hps
      by_cases hl0 : l.length = 0
      · have hp0 : ps = [] := by
          cases ps with
          | nil => rfl
          | cons a ps =>
            obtain ⟨i, hi, _⟩ := HAI.out a (by simp)
            omega
        subst hp0
        obtain rfl : l = [] := List.eq_nil_of_length_eq_zero hl0
        clear hl0 HAI HALN HO
        go_wp2_with fail
        go_loop [7, 33] (fun s7 s33 => s7 = .int .i64 0 ∧ s33 = .int .i64 0) (fun _ _ => 0)
        case atStart => exact ⟨rfl, rfl⟩
        case round =>
          obtain ⟨rfl, rfl⟩ := hrel
          go_wp2_with fail
          go_ret2
          exact ⟨yy, v, by rw [← HN.out, cntTo_nil]; rfl, rfl, by rw [← HE.out]; exact HO6.out⟩
      · obtain ⟨g, cap, rfl, hg⟩ := HO.out.some_pos (by omega)
        have hgx : g < x.val.heap.size := (HO.out.from_ g rfl).2
        have HL0 := hide hl0
        have HNE : Hid ((Value.slice A8 ps.length c8).ownBlock ≠ some g) := fun e => by have := (HO8.out.from_ _ e).1; omega
        clear hl0 HO
        go_wp2_with fail
        go_loopw [7, 33] (fun s7 s33 wr => ∃ k : Nat, k ≤ ps.length ∧ s33 = .int .i64 k ∧ s7 = .int .i64 (cntTo l (ps.take k)) ∧ ∃ z : Ext w, wr = z.val ∧ Hid (Grow.Own z.val w.heap.size 47 7 Ce.cells (.slice (some ⟨g, 0, none⟩) l.length cap) (delTo l (ps.take k))) ∧ Hid (Grow.Own z.val x.val.heap.size 3 1 encI (.slice A8 ps.length c8) ps)) (fun _ s33 _ => ps.length - (intOf s33).toNat)
        case atStart => exact ⟨0, Nat.zero_le _, rfl, by rw [List.take_zero, cntTo_nil]; rfl, yy, rfl, by rw [List.take_zero]; exact HO6, HO8⟩
        case round =>
          obtain ⟨k, hk, rfl, rfl, z, rfl, hO6, hO8⟩ := hrel
          have hals := HALN.out
          clear HO6 HO8
          by_cases hlt : k < ps.length
          · have hlt' : (k : Int) < (ps.length : Int) := by omega
            obtain ⟨i, hi, hpi⟩ := HAI.out _ (List.getElem_mem hlt)
            have hpk : ps[k]? = some ((i : Int) + 1) := by rw [List.getElem?_eq_getElem hlt, hpi]
            obtain ⟨A9, c9, hv9, _, _, hL9⟩ := hO8.out.lies encI_len
            obtain ⟨b9, off9, hA9, hb9, hcell9⟩ := hL9 k hlt
            obtain rfl : A8 = some ⟨b9, off9, none⟩ := by simp only [Value.slice.injEq] at hv9; rw [← hA9]; exact hv9.1
            have a1 : z.val.cell? ⟨b9, off9 + k, none⟩ = some (.int .i64 ((i : Int) + 1)) := by
              have := hcell9 0 (.int .i64 ((i : Int) + 1)) (by rw [hpi]; rfl)
              simpa using this
            have hat := delTo_at (ps := ps.take k) hi
            obtain ⟨e, he⟩ : ∃ e, e = deadAt (ps.take k) (l[i], i) := ⟨_, rfl⟩
            have HTK := hide (show ps.take (k + 1) = ps.take k ++ [(i : Int) + 1] by rw [List.take_succ_eq_append_getElem hlt, hpi])
            have hsd := step_dead (ps := ps.take k) hi
            have hsl := step_live (ps := ps.take k) hi
            rw [← he] at hat hsd hsl
            have HSD := hide hsd
            have HSL := hide hsl
            have HAT := hide hat
            obtain ⟨a6, f6⟩ := hO6.out.cellAt Ce.cells_len hat (j := 6) (v := .bool e.dead) rfl
            have HK := hide hlt
            have hi' : (i : Int) < (l.length : Int) := by omega
            have HIL := hide hi
            have hcnt : cntTo l (ps.take k) ≤ 100000000 := by
              unfold cntTo
              exact Nat.le_trans (List.length_filter_le _ _) (by simpa using hl)
            obtain ⟨n, hn⟩ : ∃ n, n = cntTo l (ps.take k) := ⟨_, rfl⟩
            rw [← hn] at hcnt HSD HSL ⊢
            clear hpi hpk hA9 hcell9 hL9 hv9 hat hsd hsl he hlt hi hn
            cases hd : e.dead
            · rw [hd] at a6
              have HS2 := hide (HSL.out hd)
              clear hd HSL HSD
              go_wp2_with fail
              obtain ⟨y2, hy2⟩ : ∃ y2 : Ext w, z.val.setCell ⟨g, i * 7 + 6, none⟩ (.bool true) = y2.val := ⟨⟨_, z.below.setCell (p := ⟨g, i * 7 + 6, none⟩) hg _⟩, rfl⟩
              have HO4 : Hid (Grow.Own y2.val w.heap.size 47 7 Ce.cells (.slice (some ⟨g, 0, none⟩) l.length cap) (delTo l (ps.take (k + 1)))) := by
                show Grow.Own _ _ _ _ _ _ _
                rw [← hy2, HTK.out, HS2.out.1]
                exact hO6.out.setCell Ce.cells_len i 6 (by rw [delTo_len]; exact HIL.out) (by omega) (.bool true) (kill e) (by rw [(List.getElem?_eq_some_iff.1 HAT.out).2]; rfl) rfl
              have HO5 : Hid (Grow.Own y2.val x.val.heap.size 3 1 encI (.slice (some ⟨b9, off9, none⟩) ps.length c8) ps) := by
                show Grow.Own _ _ _ _ _ _ _
                rw [← hy2]; exact own_store2 hO8.out HNE.out _
              rw [hy2]
              clear hy2 a1 a6 f6
              go_roundw
              case rel => exact ⟨k + 1, HK.out, by go_num, by rw [HTK.out, HS2.out.2]; go_num, y2, rfl, HO4, HO5⟩
              case measure => have := HK.out; simp [intOf]; omega
            · rw [hd] at a6
              have HS2 := hide (HSD.out hd)
              clear hd HSL HSD
              go_wp2_with fail
              go_roundw
              case rel => exact ⟨k + 1, HK.out, by go_num, by rw [HTK.out, HS2.out.2], z, rfl, by rw [HTK.out, HS2.out.1]; exact hO6, hO8⟩
              case measure => have := HK.out; simp [intOf]; omega
          · obtain rfl : k = ps.length := by omega
            have hlt' : ¬ (ps.length : Int) < (ps.length : Int) := by omega
            rw [List.take_length, HE.out] at hO6
            rw [List.take_length, HN.out]
            go_wp2_with fail
            go_ret2
            exact ⟨z, .slice (some ⟨g, 0, none⟩) l.length cap, rfl, rfl, hO6.out⟩
end Go.Proofs.Ytglgoegabihngaa
