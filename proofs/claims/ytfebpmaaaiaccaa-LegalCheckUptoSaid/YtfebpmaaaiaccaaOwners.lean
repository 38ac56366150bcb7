/- The walks of kind.Owners, demesneref05.Owners. -/
import Derived.Test.YtfebpmaaaiaccaaIn
import Derived.Test.YtfebpmaaaiaccaaApp
import Derived.WalkSpells
import Derived.Deep.DeepCutAuto
import Derived.BigGuardPart
set_option linter.unusedSimpArgs false
set_option linter.unusedVariables false
namespace Go.Proofs.Ytfebpmaaaiaccaa
open Go.RowKit Go.Proofs.Grow

set_option maxRecDepth 100000 in
theorem own_any (t : Ty) (w : World) (b : Nat) (hb : w.cell? ⟨b, 2, none⟩ = some (.int .i64 t.n)) : Gives Try.prog 48 #[.pointer (some ⟨b, 0, none⟩)] w (.slice (some ⟨b, 3, none⟩) (t.count.toNat + 1) (t.count.toNat + 1)) := by
  refine Gives.mk ?_
  obtain ⟨n, hn⟩ : ∃ n, t.n = n := ⟨_, rfl⟩
  rw [hn] at hb
  rcases t.count_cases with ⟨h, e⟩ | ⟨h, e⟩ | ⟨h, e⟩ | ⟨h, e⟩ | ⟨h, e⟩
  all_goals
    rw [e]
    rw [hn] at h
    clear hn e
    (try subst h)
    go_enter Try.func48, Try.ntmps48
    go_wp2
    go_ret
    exact ⟨rfl, Below.refl _ _⟩

theorem info23 : (Try.prog.info? 23).map (fun i => (i.zero, i.size, i.bytes)) = some (some (.agg #[.int .i64 0, .int .i64 0]), 2, 16) := by kernel_rfl

set_option maxHeartbeats 1000000 in
set_option maxRecDepth 100000 in
theorem clone_any (w : World) (A : Option Addr) (c : Nat) (l : List Ow) (hl : l.length ≤ 4) (hs : Lies w 2 Ow.cells A l) (hA : A.isNone = false) : GivesList Try.prog 47 #[.slice A l.length c] w 2 Ow.cells l := by
  unfold GivesList
  have Hs := hide hs
  obtain ⟨i0, hi, hz0, hz1, hz2⟩ := info_parts info23
  have heq := fun (w : World) (a : Option Addr) (n c n' c' : Nat) => Lib.run_eql_slice_nil (P := Try.prog) w 27 23 a n c n' c' Try.underlying27
  clear hs
  go_enter Try.func47, Try.ntmps47
  go_wp2_with (at_builtin; (refine wpList_append_list (w1 := w) _ rfl (.tmp 5) (.tmp 6) 27 rfl 23 i0 _ 2 16 Try.underlying27 hi hz0 hz1 hz2 rfl (by omega) Ow.cells_len Ow.cells_one ((Below.refl _ _).alloc (Nat.le_refl _) _) (.slice (some ⟨w.heap.size, 0, none⟩) 0 0) [] rfl (Own.empty w) A l.length c l rfl rfl (Hs.out.alloc _) (by simp [maxLen]; omega) (by simp; omega) ?_); intro v' y hown hgr hat)
  go_ret
  obtain ⟨A', c', hv, h1, h2, h3⟩ := hown.lies Ow.cells_len
  exact ⟨y, A', c', congrArg Ending.returned (by simpa using hv), rfl, by simpa using h1, h2, by simpa using h3⟩

set_option maxHeartbeats 1000000 in
set_option maxRecDepth 100000 in
theorem owners_any (t : Ty) (w : World) : GivesList Try.prog 34 #[.agg t.cells.toArray] w 2 Ow.cells t.owners := by
  unfold GivesList Ty.cells
  by_cases hk : t.k = 2
  · have hko : t.owners = t.own.take (t.count.toNat + 1) := by simp [Ty.owners, hk]
    have hlen : (t.own.take (t.count.toNat + 1)).length = t.count.toNat + 1 := by
      rw [List.length_take, Ty.own_len]; rcases t.count_cases with h | h | h | h | h <;> omega
    have hl : ∀ W : World, (∀ j v, t.cells[j]? = some v → W.cell? ⟨w.heap.size, j, none⟩ = some v) → w.heap.size < W.heap.size → Lies W 2 Ow.cells (some ⟨w.heap.size, 3, none⟩) (t.own.take (t.count.toNat + 1)) := fun W h hlt i hi => by
      refine ⟨_, _, rfl, hlt, fun j v hv => h _ _ ?_⟩
      have hi4 : i < 4 := by rw [hlen] at hi; rcases t.count_cases with h | h | h | h | h <;> omega
      have hj : j < 2 := by have := (List.getElem?_eq_some_iff.1 hv).1; simpa [Ow.cells] using this
      rw [List.getElem_take] at hv
      have : j = 0 ∨ j = 1 := by omega
      rcases (show i = 0 ∨ i = 1 ∨ i = 2 ∨ i = 3 by omega) with rfl | rfl | rfl | rfl <;> rcases this with rfl | rfl <;> simpa [Ow.cells, Ty.own, Ty.cells] using hv
    rw [hko]
    have H1 := hide (fun (W : World) (h : Lies W 2 Ow.cells (some ⟨w.heap.size, 3, none⟩) (t.own.take (t.count.toNat + 1))) => clone_any W (some ⟨w.heap.size, 3, none⟩) (t.own.take (t.count.toNat + 1)).length _ (by rw [hlen]; rcases t.count_cases with h | h | h | h | h <;> omega) h rfl)
    have H2 := hide hl
    have H3 := hide (fun (W : World) (hb : W.cell? ⟨w.heap.size, 2, none⟩ = some (.int .i64 t.n)) => show Gives Try.prog 48 #[.pointer (some ⟨w.heap.size, 0, none⟩)] W (.slice (some ⟨w.heap.size, 3, none⟩) (t.own.take (t.count.toNat + 1)).length (t.own.take (t.count.toNat + 1)).length) by
      rw [hlen]; exact own_any t W _ hb)
    have hkb : (t.k != 2) = false := by simp [hk]
    clear hko hlen hl hk
    generalize t.own.take (t.count.toNat + 1) = l at *
    go_enter Try.func34, Try.ntmps34
    go_wp2_with fail
    refine (H3.out _ (by simp [go_sem])).mono ?_
    rintro _ _ ⟨y, rfl, rfl⟩
    have hsz : w.heap.size < y.val.heap.size := y.lt (by simp)
    go_wp2_with fail
    refine (H1.out _ (H2.out _ (fun j v hv => ?_) hsz)).mono ?_
    · rw [y.cell (by simp), World.cell?_alloc_at _ _ _ _ rfl]
      simpa [Ty.cells] using hv
    rintro _ _ ⟨z, A', c', rfl, rfl, h1, h2, h3⟩
    go_wp2_with fail
    go_ret
    have hB : Below w.heap.size w z.val := by
      repeat (first | exact Below.refl _ _ | exact Nat.le_refl _ | assumption | refine below_ext ?_ ?_ _ | refine Below.alloc ?_ ?_ _ | refine Below.drew ?_ | refine Below.setCell ?_ ?_ _ | refine Ext.le _ ?_ | refine le_alloc ?_ | refine le_drew ?_ | refine le_setCell ?_)
      all_goals omega
    obtain ⟨x, hx⟩ := Ext.of hB
    exact ⟨x, A', c', rfl, hx, h1, h2, hx ▸ h3⟩
  · have hko : t.owners = [] := by simp [Ty.owners, hk]
    have hkb : (t.k != 2) = true := by simp [hk]
    rw [hko]
    clear hko hk
    go_enter Try.func34, Try.ntmps34
    go_wp2_with fail
    go_ret
    obtain ⟨x, hx⟩ := Ext.of (show Below w.heap.size w (w.alloc (.cells t.cells.toArray 35)) from (Below.refl _ _).alloc (Nat.le_refl _) _)
    exact ⟨x, none, 0, rfl, hx, Nat.le_refl _, Nat.zero_le _, Lies.nil⟩

theorem count_any (t : Ty) (w : World) : Gives Try.prog 40 #[.agg t.cells.toArray] w (.int .i64 t.count) := by
  refine Gives.mk ?_
  unfold Ty.cells
  obtain ⟨n, hn⟩ : ∃ n, t.n = n := ⟨_, rfl⟩
  simp only [hn]
  rcases t.count_cases with ⟨h, e⟩ | ⟨h, e⟩ | ⟨h, e⟩ | ⟨h, e⟩ | ⟨h, e⟩
  all_goals
    rw [e]
    rw [hn] at h
    clear hn e
    (try subst h)
    go_enter Try.func40, Try.ntmps40
    go_wp2
    go_ret
    exact ⟨rfl, (Below.refl _ _).alloc (Nat.le_refl _) _⟩

set_option maxHeartbeats 1000000 in
set_option maxRecDepth 100000 in
theorem refOwners_any (t : Ty) (w : World) : GivesList Try.prog 26 #[.agg t.cells.toArray] w 2 Ow.cells t.owners := by
  unfold GivesList
  obtain ⟨i0, hi, hz0, hz1, hz2⟩ := info_parts info23
  have Hc := hide (count_any t)
  unfold Ty.cells at Hc ⊢
  go_enter Try.func26, Try.ntmps26
  go_wp2_with fail
  have hbw : Below w.heap.size w (w.alloc (.cells #[.int .i64 t.k, .string t.cls, .int .i64 t.n, .int .i64 t.o0.k, .int .i64 t.o0.n, .int .i64 t.o1.k, .int .i64 t.o1.n, .int .i64 t.o2.k, .int .i64 t.o2.n, .int .i64 t.o3.k, .int .i64 t.o3.n] 35)) := (Below.refl _ _).alloc (Nat.le_refl _) _
  have hcell : ∀ j v, t.cells[j]? = some v → (w.alloc (.cells #[.int .i64 t.k, .string t.cls, .int .i64 t.n, .int .i64 t.o0.k, .int .i64 t.o0.n, .int .i64 t.o1.k, .int .i64 t.o1.n, .int .i64 t.o2.k, .int .i64 t.o2.n, .int .i64 t.o3.k, .int .i64 t.o3.n] 35)).cell? ⟨w.heap.size, j, none⟩ = some v := fun j v hv => by
    rw [World.cell?_alloc_at _ _ _ _ rfl]; simpa [Ty.cells] using hv
  have hsz : w.heap.size < (w.alloc (.cells #[.int .i64 t.k, .string t.cls, .int .i64 t.n, .int .i64 t.o0.k, .int .i64 t.o0.n, .int .i64 t.o1.k, .int .i64 t.o1.n, .int .i64 t.o2.k, .int .i64 t.o2.n, .int .i64 t.o3.k, .int .i64 t.o3.n] 35)).heap.size := by simp
  generalize w.alloc (.cells #[.int .i64 t.k, .string t.cls, .int .i64 t.n, .int .i64 t.o0.k, .int .i64 t.o0.n, .int .i64 t.o1.k, .int .i64 t.o1.n, .int .i64 t.o2.k, .int .i64 t.o2.n, .int .i64 t.o3.k, .int .i64 t.o3.n] 35) = w1 at *
  have hown4 : ∀ k (h : k < t.own.length), w1.cell? ⟨w.heap.size, 3 + k * 2, none⟩ = some (.int .i64 t.own[k].k) ∧ w1.cell? ⟨w.heap.size, 3 + k * 2 + 1, none⟩ = some (.int .i64 t.own[k].n) := fun k h => by
    rw [Ty.own_len] at h
    rcases (show k = 0 ∨ k = 1 ∨ k = 2 ∨ k = 3 by omega) with rfl | rfl | rfl | rfl <;> exact ⟨hcell _ _ rfl, hcell _ _ rfl⟩
  have c0 : w1.cell? ⟨w.heap.size, 0, none⟩ = some (.int .i64 t.k) := hcell 0 _ rfl
  have c1 : w1.cell? ⟨w.heap.size, 1, none⟩ = some (.string t.cls) := hcell 1 _ rfl
  have c2 : w1.cell? ⟨w.heap.size, 2, none⟩ = some (.int .i64 t.n) := hcell 2 _ rfl
  have c3 : w1.cell? ⟨w.heap.size, 3, none⟩ = some (.int .i64 t.o0.k) := hcell 3 _ rfl
  have c4 : w1.cell? ⟨w.heap.size, 4, none⟩ = some (.int .i64 t.o0.n) := hcell 4 _ rfl
  have c5 : w1.cell? ⟨w.heap.size, 5, none⟩ = some (.int .i64 t.o1.k) := hcell 5 _ rfl
  have c6 : w1.cell? ⟨w.heap.size, 6, none⟩ = some (.int .i64 t.o1.n) := hcell 6 _ rfl
  have c7 : w1.cell? ⟨w.heap.size, 7, none⟩ = some (.int .i64 t.o2.k) := hcell 7 _ rfl
  have c8 : w1.cell? ⟨w.heap.size, 8, none⟩ = some (.int .i64 t.o2.n) := hcell 8 _ rfl
  have c9 : w1.cell? ⟨w.heap.size, 9, none⟩ = some (.int .i64 t.o3.k) := hcell 9 _ rfl
  have c10 : w1.cell? ⟨w.heap.size, 10, none⟩ = some (.int .i64 t.o3.n) := hcell 10 _ rfl
  have HB := hide hbw
  have H4 := hide hown4
  clear hbw hcell hown4
  go_loopw [3, 4] (fun v i wr => ∃ k : Nat, i = .int .i64 k ∧ (k = 0 ∨ t.k = 2 ∧ (k : Int) ≤ t.count + 1) ∧ ∃ x : Ext w1, wr = x.val ∧ Own x.val w1.heap.size 23 2 Ow.cells v (t.own.take k)) (fun _ i _ => 5 - (intOf i).toNat)
  case atStart => exact ⟨0, rfl, .inl rfl, Ext.here w1, rfl, Own.nil⟩
  case round =>
    obtain ⟨k, rfl, hk, x, rfl, hown⟩ := hrel
    have hsx := x.lt hsz
    have hcc := t.count_cases
    by_cases hc : (k : Int) ≤ t.count ∧ t.k = 2
    · have hk4 : k < t.own.length := by rw [Ty.own_len]; omega
      obtain ⟨g0, g1⟩ := H4.out k hk4
      obtain ⟨o, ho⟩ : ∃ o, t.own[k] = o := ⟨_, rfl⟩
      rw [ho] at g0 g1
      have HO := hide ho
      clear ho
      have d1 : decide ((k : Int) ≤ t.count) = true := by simp [hc.1]
      have d2 : (t.k == 2) = true := by simp [hc.2]
      have hk4' : (k : Int) < 4 := by rw [Ty.own_len] at hk4; omega
      have HC := hide hc
      have HN := hide hown
      have HK : Hid (k < t.own.length) := hk4
      have htake : t.own.take k ++ [o] = t.own.take (k + 1) := by rw [← HO.out, List.take_append_getElem]
      have HT := hide htake
      clear hc hcc hown hk HK HO htake
      have hlk : (t.own.take k).length ≤ 4 := by simp [Ty.own]; omega
      clear hk4
      go_wp2_with (first | (go_at_call 40; refine (Hc.out _).mono ?_; rintro _ _ ⟨y, rfl, rfl⟩; have hsy := y.lt hsx) | (at_builtin; refine wpList_append_list (w1 := w1) _ rfl (.tmp 16) (.tmp 21) 27 rfl 23 i0 _ 2 16 Try.underlying27 hi hz0 hz1 hz2 rfl (by omega) Ow.cells_len Ow.cells_one ((below_ext (below_ext (Below.refl _ _) (Nat.le_refl _) x) (x.le (Nat.le_refl _)) y).alloc (y.le (x.le (Nat.le_refl _))) _) _ (t.own.take k) rfl ((HN.out.ext y).alloc _) _ 1 1 [o] rfl rfl (Lies.one _ _ _ rfl) (by simp [maxLen]; omega) (by simp; omega) ?_; intro v' z hown' hgr hat))
      go_roundw
      case rel => exact ⟨k + 1, by go_num, .inr ⟨HC.out.2, by have := HC.out.1; omega⟩, z, rfl, HT.out ▸ hown'⟩
      case measure => simp [intOf]; omega
    · have ho : t.owners = t.own.take k := by
        unfold Ty.owners
        split
        · rename_i h2
          have : k = t.count.toNat + 1 := by omega
          rw [this]
        · rename_i h2
          have : k = 0 := by omega
          rw [this]; rfl
      have HO := hide ho
      have HN := hide hown
      have fin : ∀ y : Ext x.val, ∃ (u : Ext w) (A : Option Addr) (c : Nat), u3 = .slice A t.owners.length c ∧ y.val = u.val ∧ t.owners.length ≤ c ∧ c ≤ maxLen ∧ Lies u.val 2 Ow.cells A t.owners := fun y => by
        obtain ⟨A', c', hv, h1, h2, h3⟩ := (HN.out.ext y).lies Ow.cells_len
        have hB : Below w.heap.size w y.val := (HB.out.trans (x.below.mono HB.out.size)).trans (y.below.mono (Nat.le_trans HB.out.size x.below.size))
        obtain ⟨u, hu⟩ := Ext.of hB
        rw [HO.out]
        exact ⟨u, A', c', hv, hu, h1, h2, hu ▸ h3⟩
      have Fin := hide fin
      have hd : (decide ((k : Int) ≤ t.count) = true ∧ (t.k == 2) = false) ∨ decide ((k : Int) ≤ t.count) = false := by
        by_cases h : (k : Int) ≤ t.count
        · exact .inl ⟨by simp [h], by simp; omega⟩
        · exact .inr (by simp; omega)
      clear fin hc hcc hown hk ho
      rcases hd with ⟨d1, d2⟩ | d1
      all_goals
        go_wp2_with (go_at_call 40; refine (Hc.out _).mono ?_; rintro _ _ ⟨y, rfl, rfl⟩; have hsy := y.lt hsx)
        go_ret
        obtain ⟨u, A', c', hv, hu, h1, h2, h3⟩ := Fin.out y
        exact ⟨u, A', c', congrArg Ending.returned hv, hu, h1, h2, h3⟩
end Go.Proofs.Ytfebpmaaaiaccaa
