/- The walk of demesneref05.With. -/
import Derived.Test.YtfebpmaaaiaccaaOwnNew
import Derived.Test.YtfebpmaaaiaccaaPutTyp
import Derived.Test.YtfebpmaaaiaccaaIdx
set_option linter.unusedSimpArgs false
set_option linter.unusedVariables false
namespace Go.Proofs.Ytfebpmaaaiaccaa
open Go.RowKit Go.Proofs.Grow

/-- With, the first k owners put. -/
def withTo (t : Ty) (l : List Ow) (k : Nat) : Ty := ⟨t.k, t.cls, t.n, if 0 < k then put t.o0 l else t.o0, if 1 < k then put t.o1 l else t.o1, if 2 < k then put t.o2 l else t.o2, if 3 < k then put t.o3 l else t.o3⟩
theorem withTo_zero (t : Ty) (l : List Ow) : withTo t l 0 = t := by cases t; rfl
theorem withTo_all (t : Ty) (l : List Ow) : withTo t l t.owners.length = withT t l := by
  obtain ⟨k, cls, n, o0, o1, o2, o3⟩ := t
  unfold withTo withT Ty.owners Ty.count Ty.own
  simp only
  by_cases hk : k = 2
  · rcases (show n ≤ 0 ∨ n = 1 ∨ n = 2 ∨ 3 ≤ n by omega) with h | rfl | rfl | h
    · have e : max 0 (min n 3) = 0 := by omega
      simp [hk, e, show ¬ (1 : Int) ≤ n by omega, show ¬ (2 : Int) ≤ n by omega, show ¬ (3 : Int) ≤ n by omega]
    · simp [hk, show max 0 (min (1 : Int) 3) = 1 from rfl]
    · simp [hk, show max 0 (min (2 : Int) 3) = 2 from rfl]
    · have e : max 0 (min n 3) = 3 := by omega
      simp [hk, e, show (1 : Int) ≤ n by omega, show (2 : Int) ≤ n by omega, h]
  · simp [hk]

/-- The box after the k-th owner was put. -/
theorem with_row {W : World} {g : Nat} {t : Ty} {l : List Ow} {k : Nat} (hk : k < 4) (o : Ow) (ho : t.own[k]? = some o) (h : W.heap[g]? = some (.cells (withTo t l k).cells.toArray 35 (0, 0))) :
    (W.setCells g (3 + k * 2) [.int .i64 (put o l).k, .int .i64 (put o l).n]).heap[g]? = some (.cells (withTo t l (k + 1)).cells.toArray 35 (0, 0)) := by
  show ((W.setCell ⟨g, 3 + k * 2, none⟩ _).setCell ⟨g, 3 + k * 2 + 1, none⟩ _).heap[g]? = _
  rw [row_store (row_store h _ _)]
  rcases (show k = 0 ∨ k = 1 ∨ k = 2 ∨ k = 3 by omega) with rfl | rfl | rfl | rfl <;> (cases ho; rfl)
theorem with_there {W : World} {g : Nat} {t : Ty} {k : Nat} (hk : k < 4) (h : W.heap[g]? = some (.cells t.cells.toArray 35 (0, 0))) : W.there g (3 + k * 2) 2 := fun j hj => by
  have hlt : 3 + k * 2 + j < t.cells.length := by rw [Ty.cells_len]; omega
  have := row_cell h (List.getElem?_eq_getElem hlt)
  exact ⟨by rw [this.1]; rfl, this.2⟩

theorem ow_one (a b : Int) : (#[.int .i64 a, .int .i64 b] : Array Value).all (·.oneCell') = true :=
  all_oneCell_toArray (cs := [.int .i64 a, .int .i64 b]) (by intro v hv; simp only [List.mem_cons, List.not_mem_nil, or_false] at hv; rcases hv with rfl | rfl <;> rfl)
theorem ty_one (t : Ty) : t.cells.toArray.all (·.oneCell') = true :=
  all_oneCell_toArray (by unfold Ty.cells; intro v hv; simp only [List.mem_cons, List.not_mem_nil, or_false] at hv; rcases hv with rfl | rfl | rfl | rfl | rfl | rfl | rfl | rfl | rfl | rfl | rfl <;> rfl)
theorem with_there2 {y : World} {g : Nat} (hrow : y.heap[g]? = some (.cells #[.int .i64 0, .string ⟨#[]⟩, .int .i64 0, .int .i64 0, .int .i64 0, .int .i64 0, .int .i64 0, .int .i64 0, .int .i64 0, .int .i64 0, .int .i64 0] 35 (0, 0))) (t : Ty) : y.there g 0 t.cells.length := fun j hj => by
  rw [Ty.cells_len] at hj
  rw [Nat.zero_add]
  have h := row_cell (cs := [.int .i64 0, .string ⟨#[]⟩, .int .i64 0, .int .i64 0, .int .i64 0, .int .i64 0, .int .i64 0, .int .i64 0, .int .i64 0, .int .i64 0, .int .i64 0]) hrow (List.getElem?_eq_getElem (l := ([.int .i64 0, .string ⟨#[]⟩, .int .i64 0, .int .i64 0, .int .i64 0, .int .i64 0, .int .i64 0, .int .i64 0, .int .i64 0, .int .i64 0, .int .i64 0] : List Value)) (show j < 11 from hj))
  exact ⟨by rw [h.1]; rfl, h.2⟩
theorem with_fin {y : World} {g : Nat} (hrow : y.heap[g]? = some (.cells #[.int .i64 0, .string ⟨#[]⟩, .int .i64 0, .int .i64 0, .int .i64 0, .int .i64 0, .int .i64 0, .int .i64 0, .int .i64 0, .int .i64 0, .int .i64 0] 35 (0, 0))) (t : Ty) (j : Nat) (v : Value) (hv : t.cells[j]? = some v) : (y.setCells g 0 t.cells).cell? ⟨g, j, none⟩ = some v := by
  have := World.rangeAt_setCells_same y g 0 t.cells (with_there2 hrow t) j v hv
  simpa using this
theorem zero_one : ∀ u ∈ (#[.int .i64 0, .string ⟨#[]⟩, .int .i64 0, .int .i64 0, .int .i64 0, .int .i64 0, .int .i64 0, .int .i64 0, .int .i64 0, .int .i64 0, .int .i64 0] : Array Value).toList, u.oneCell' = true := by
  intro v hv
  simp only [List.mem_cons, List.not_mem_nil, or_false] at hv
  rcases hv with rfl | rfl | rfl | rfl | rfl | rfl | rfl | rfl | rfl | rfl | rfl <;> rfl

set_option maxHeartbeats 4000000 in
set_option maxRecDepth 100000 in
theorem with_any (t : Ty) (w : World) (A : Option Addr) (c : Nat) (l : List Ow) (hl : l.length ≤ 9223372036854775807) (hs : Lies w 2 Ow.cells A l) :
    Gives Try.prog 25 #[.agg t.cells.toArray, .slice A l.length c] w (.agg (withT t l).cells.toArray) := by
  refine Gives.mk ?_
  have Ho := hide (fun W => refOwners_new t W)
  have HP := hide (fun (W : World) (hb : Below w.heap.size w W) (o : Ow) => put_any o W A c l hl (hs.below hb))
  obtain ⟨L, hL⟩ : ∃ L, L = t.owners := ⟨_, rfl⟩
  have hLl : L.length ≤ 4 := by rw [hL]; exact owners_le t
  have HE : Hid (∀ (i : Nat) (h : i < L.length), t.own[i]? = some L[i]) := by
    intro i h
    subst hL
    simp only [Ty.owners] at h ⊢
    by_cases hk : t.k = 2
    · have h4 : i < t.own.length := by simp [hk] at h; omega
      simp [hk, List.getElem?_eq_getElem h4]
    · simp [hk] at h
  have HW := hide (show withTo t l L.length = withT t l by rw [hL]; exact withTo_all t l)
  have HZ : Hid ((w.alloc (.cells t.cells.toArray 35)).heap[w.heap.size]? = some (.cells (withTo t l 0).cells.toArray 35 (0, 0))) := by
    rw [withTo_zero]; exact heap_alloc_new w _
  rw [← hL] at Ho
  clear hs hL
  unfold Ty.cells at Ho
  rw [show (#[.agg t.cells.toArray, .slice A l.length c] : Array Value) = #[.agg #[.int .i64 t.k, .string t.cls, .int .i64 t.n, .int .i64 t.o0.k, .int .i64 t.o0.n, .int .i64 t.o1.k, .int .i64 t.o1.n, .int .i64 t.o2.k, .int .i64 t.o2.n, .int .i64 t.o3.k, .int .i64 t.o3.n], .slice A l.length c] from rfl]
  go_enter Try.func25, Try.ntmps25
  go_wp2_with fail
  refine (Ho.out _).mono ?_
  rintro _ _ ⟨z, A', c', rfl, rfl, h1, h2, h3, h4⟩
  have hz : w.heap.size < z.val.heap.size := z.lt (by simp; omega)
  have hbz : Below w.heap.size w z.val := by
    repeat (first | exact Below.refl _ _ | exact Nat.le_refl _ | assumption | refine below_ext ?_ ?_ _ | refine Below.alloc ?_ ?_ _ | refine Below.drew ?_ | refine Below.setCell ?_ ?_ _ | refine Ext.le _ ?_ | refine le_alloc ?_ | refine le_drew ?_ | refine le_setCell ?_)
    all_goals omega
  have hrow : Hid (z.val.heap[w.heap.size]? = some (.cells (withTo t l 0).cells.toArray 35 (0, 0))) := (z.below.block _ (by simp; omega)).trans ((Below.heap_alloc _ _ _ (by simp)).trans HZ.out)
  have hne : Hid (∀ ad, A' = some ad → ad.block ≠ w.heap.size) := fun ad e => by have := h4 ad e; simp at this; omega
  have hrow2 : Hid (z.val.heap[w.heap.size + 1]? = some (.cells #[.int .i64 0, .string ⟨#[]⟩, .int .i64 0, .int .i64 0, .int .i64 0, .int .i64 0, .int .i64 0, .int .i64 0, .int .i64 0, .int .i64 0, .int .i64 0] 35 (0, 0))) := (z.below.block _ (by simp)).trans (by have := heap_alloc_new (w.alloc (.cells t.cells.toArray 35)) (.cells #[.int .i64 0, .string ⟨#[]⟩, .int .i64 0, .int .i64 0, .int .i64 0, .int .i64 0, .int .i64 0, .int .i64 0, .int .i64 0, .int .i64 0, .int .i64 0] 35); rw [World.size_alloc] at this; exact this)
  have hz1 : w.heap.size + 1 < z.val.heap.size := z.lt (by simp)
  have HS := hide h3
  clear h1 h2 h3 h4 Ho HZ hz
  obtain ⟨z0, hz0⟩ := Ext.of hbz
  rw [hz0] at hrow hrow2 hz1 HS ⊢
  clear hz0 hbz z
  go_wp2_with fail
  go_loopw [6] (fun s6 wr => ∃ k : Nat, k ≤ L.length ∧ s6 = .int .i64 k ∧ ∃ x : Ext w, wr = x.val ∧ w.heap.size + 1 < x.val.heap.size ∧ Hid (Lies x.val 2 Ow.cells A' L) ∧ Hid (x.val.heap[w.heap.size]? = some (.cells (withTo t l k).cells.toArray 35 (0, 0))) ∧ Hid (x.val.heap[w.heap.size + 1]? = some (.cells #[.int .i64 0, .string ⟨#[]⟩, .int .i64 0, .int .i64 0, .int .i64 0, .int .i64 0, .int .i64 0, .int .i64 0, .int .i64 0, .int .i64 0, .int .i64 0] 35 (0, 0)))) (fun s6 _ => L.length - (intOf s6).toNat)
  case atStart => exact ⟨0, Nat.zero_le _, rfl, z0, rfl, hz1, HS, hrow, hrow2⟩
  case round =>
    obtain ⟨k, hk, rfl, x, rfl, hsx, hS, hR, hR2⟩ := hrel
    have hsx0 : w.heap.size < x.val.heap.size := by omega
    by_cases hlt : k < L.length
    · obtain ⟨bb, off, hA', hbb, hcell⟩ := hS.out k hlt
      have c0 : x.val.cell? ⟨bb, off + k * 2, none⟩ = some (.int .i64 L[k].k) := by simpa using hcell 0 _ rfl
      have c1 : x.val.cell? ⟨bb, off + k * 2 + 1, none⟩ = some (.int .i64 L[k].n) := by simpa using hcell 1 _ rfl
      have hlt' : (k : Int) < (L.length : Int) := by omega
      have hk4 : k < 4 := by omega
      have hk4' : (k : Int) < 4 := by omega
      have HO := hide (HE.out k hlt)
      obtain ⟨o, ho⟩ : ∃ o, L[k] = o := ⟨_, rfl⟩
      rw [ho] at c0 c1 HO
      have HK := hide hlt
      have H4 := hide hk4
      have HNE := hide hne.out
      subst hA'
      clear hcell ho hlt hk hk4
      go_wp2_with (first | (go_at_call 12; refine (HP.out _ x.below o).mono ?_; rintro _ _ ⟨y, rfl, rfl⟩; have hsy := y.lt hsx; have hsy0 := y.lt hsx0; have HRy : Hid (y.val.heap[w.heap.size]? = some (.cells (withTo t l k).cells.toArray 35 (0, 0))) := (y.below.block _ hsx0).trans hR.out) | (refine wpList_store_mid rfl 23 (.tmp 23) (.tmp 21) rfl w.heap.size (3 + k * 2) _ rfl rfl (with_there H4.out HRy.out) (show _ = some 2 by kernel_rfl) (ow_one _ _) ?_))
      go_roundw
      case rel =>
        have hb : Below w.heap.size w (y.val.setCells w.heap.size (3 + k * 2) [.int .i64 (put o l).k, .int .i64 (put o l).n]) := (x.step y.below).below.trans (setCells_below (Nat.le_refl _) _ _ _)
        refine ⟨k + 1, HK.out, by go_num, ⟨_, hb⟩, rfl, ?_, ?_, ?_, ?_⟩
        · show w.heap.size + 1 < (World.setCells _ _ _ _).heap.size
          rw [setCells_size]; exact hsy
        · exact Lies.setCells (hS.out.ext y) hne.out _ _
        · exact with_row H4.out o HO.out HRy.out
        · exact (setCells_other _ _ _ _ _ (by omega)).trans ((y.below.block _ hsx).trans hR2.out)
      case measure => have := HK.out; simp [intOf]; omega
    · obtain rfl : k = L.length := by omega
      have hlt' : ¬ (L.length : Int) < (L.length : Int) := by omega
      have hR' : Hid (x.val.heap[w.heap.size]? = some (.cells (withT t l).cells.toArray 35 (0, 0))) := by rw [← HW.out]; exact hR.out
      have hbl : Hid (Below w.heap.size w (x.val.setCells (w.heap.size + 1) 0 (withT t l).cells)) := x.below.trans (setCells_below (by omega) _ _ _)
      have hfin := hide (with_fin hR2.out (withT t l))
      obtain ⟨T, hT⟩ : ∃ T, T = withT t l := ⟨_, rfl⟩
      rw [← hT] at hR' hbl hfin
      have HT := hide hT
      clear hT
      go_wp2_with (first | (refine wpList_load_row rfl 35 (.tmp 2) rfl w.heap.size rfl 35 T.cells.toArray (0, 0) _ hR'.out Try.underlying35 rfl (by rw [List.size_toArray, Ty.cells_len]; kernel_rfl) ?_) | (refine wpList_store_mid rfl 35 (.tmp 4) (.tmp 24) rfl (w.heap.size + 1) 0 _ rfl rfl (with_there2 hR2.out T) (by rw [List.size_toArray, Ty.cells_len]; kernel_rfl) (ty_one T) ?_))
      obtain ⟨T1, T2, T3, ⟨a0, b0⟩, ⟨a1, b1⟩, ⟨a2, b2⟩, ⟨a3, b3⟩⟩ := T
      have r0 := hfin.out 0 _ rfl
      have r1 := hfin.out 1 _ rfl
      have r2 := hfin.out 2 _ rfl
      have r3 := hfin.out 3 _ rfl
      have r4 := hfin.out 4 _ rfl
      have r5 := hfin.out 5 _ rfl
      have r6 := hfin.out 6 _ rfl
      have r7 := hfin.out 7 _ rfl
      have r8 := hfin.out 8 _ rfl
      have r9 := hfin.out 9 _ rfl
      have r10 := hfin.out 10 _ rfl
      refine bodyPost_ret (v := .agg #[.int .i64 T1, .string T2, .int .i64 T3, .int .i64 a0, .int .i64 b0, .int .i64 a1, .int .i64 b1, .int .i64 a2, .int .i64 b2, .int .i64 a3, .int .i64 b3]) ?_ ?_ ?_
      · simp [results, Try.f25, go_sem, r0, r1, r2, r3, r4, r5, r6, r7, r8, r9, r10]
      · rfl
      · exact ⟨by rw [← HT.out]; rfl, hbl.out⟩
end Go.Proofs.Ytfebpmaaaiaccaa
