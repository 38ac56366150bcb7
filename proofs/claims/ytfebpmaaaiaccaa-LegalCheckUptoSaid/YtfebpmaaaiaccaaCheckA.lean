/- The walk of legal.Check. -/
import Derived.Test.YtfebpmaaaiaccaaRefNotes
import Derived.Test.YtfebpmaaaiaccaaLType
import Derived.Test.YtfebpmaaaiaccaaRType
import Derived.Test.YtfebpmaaaiaccaaTypes
set_option linter.unusedSimpArgs false
set_option linter.unusedVariables false
namespace Go.Proofs.Ytfebpmaaaiaccaa
open Go.RowKit Go.Proofs.Grow

/-- The first type that is not legal. -/
def chkN (C : List Cl) (m : Int) : List Nt → Int × Int
  | [] => (0, 0)
  | n :: l => if typT C n.ty m ≠ 0 then (typT C n.ty m, n.p) else chkN C m l
def chkC (C : List Cl) (m : Int) (cl : Cl) : Int × Int := if clsT cl m ≠ 0 then (clsT cl m, cl.pos) else chkN C m (rnP [cl])
def chk (C : List Cl) (m : Int) : List Cl → Int × Int
  | [] => (0, 0)
  | cl :: l => if (chkC C m cl).1 ≠ 0 then chkC C m cl else chk C m l
theorem chkN_zero {C : List Cl} {m : Int} : ∀ {l : List Nt}, (chkN C m l).1 = 0 → chkN C m l = (0, 0)
  | [], _ => rfl
  | n :: l, h => by
    unfold chkN at h ⊢
    split at h
    · rename_i h1; exact absurd h h1
    · rename_i h1; rw [if_neg h1]; exact chkN_zero h
theorem chkN_at {C : List Cl} {m : Int} {l : List Nt} {k : Nat} (hk : k < l.length) (h : chkN C m l = chkN C m (l.drop k)) : chkN C m l = if typT C l[k].ty m ≠ 0 then (typT C l[k].ty m, l[k].p) else chkN C m (l.drop (k + 1)) := by
  rw [h, List.drop_eq_getElem_cons hk, chkN]
theorem chk_at {C : List Cl} {m : Int} {l : List Cl} {k : Nat} (hk : k < l.length) (h : chk C m l = chk C m (l.drop k)) : chk C m l = if (chkC C m l[k]).1 ≠ 0 then chkC C m l[k] else chk C m (l.drop (k + 1)) := by
  rw [h, List.drop_eq_getElem_cons hk, chk]
/-- One class alone. -/
theorem Lies.only {α : Type} {w : World} {size : Nat} {enc : α → List Value} {A : Option Addr} {l : List α} (h : Lies w size enc A l) {k c : Nat} (hk : k < l.length) (hc : l.length ≤ c) : Lies w size enc (if c = k then A else A.map (·.add (k * size))) [l[k]] := fun i hi => by
  obtain rfl : i = 0 := by simpa using hi
  have h2 := h.cut (k := k) (c := c) (Nat.le_of_lt hk) hc
  obtain ⟨b, off, h3, h4, h5⟩ := h2 0 (by simp; omega)
  refine ⟨b, off, h3, h4, fun j v hv => h5 j v ?_⟩
  simpa using hv
end Go.Proofs.Ytfebpmaaaiaccaa
set_option linter.unusedSimpArgs false
set_option linter.unusedVariables false
namespace Go.Proofs.Ytfebpmaaaiaccaa
open Go.RowKit Go.Proofs.Grow

theorem fault_end {w w1 : World} (hB : Below w.heap.size w w1) (hs : w1.heap.size = w.heap.size + 1) (y : Ext w1) (hr : y.val.heap[w.heap.size]? = some (.cells #[.int .i64 0, .int .i64 0] 56 (0, 0))) (e a : Int) :
    ((y.val.setCell ⟨w.heap.size, 0, none⟩ (.int .i64 e)).setCell ⟨w.heap.size, 1, none⟩ (.int .i64 a)).cell? ⟨w.heap.size, 0, none⟩ = some (.int .i64 e) ∧
    ((y.val.setCell ⟨w.heap.size, 0, none⟩ (.int .i64 e)).setCell ⟨w.heap.size, 1, none⟩ (.int .i64 a)).cell? ⟨w.heap.size, 1, none⟩ = some (.int .i64 a) ∧
    Below w.heap.size w ((y.val.setCell ⟨w.heap.size, 0, none⟩ (.int .i64 e)).setCell ⟨w.heap.size, 1, none⟩ (.int .i64 a)) := by
  have h := row_store (row_store hr 0 (.int .i64 e)) 1 (.int .i64 a)
  have h' : ((y.val.setCell ⟨w.heap.size, 0, none⟩ (.int .i64 e)).setCell ⟨w.heap.size, 1, none⟩ (.int .i64 a)).heap[w.heap.size]? = some (.cells #[.int .i64 e, .int .i64 a] 56 (0, 0)) := h
  refine ⟨(row_cell (cs := [.int .i64 e, .int .i64 a]) h' (j := 0) rfl).1, (row_cell (cs := [.int .i64 e, .int .i64 a]) h' (j := 1) rfl).1, ?_⟩
  exact ((hB.trans (y.below.mono (by omega))).setCell (p := ⟨w.heap.size, 0, none⟩) (Nat.le_refl _) _).setCell (p := ⟨w.heap.size, 1, none⟩) (Nat.le_refl _) _

set_option maxHeartbeats 4000000 in
set_option maxRecDepth 100000 in
theorem check_any (w : World) (A : Option Addr) (c : Nat) (C : List Cl) (m : Int) (hlc : C.length ≤ c) (hcm : c ≤ maxLen) (hs : Lies w 7 Cl.cells A C)
    (HTy : ∀ (W : World) (hb : Below w.heap.size w W) (B : Option Addr) (d : Nat) (cl : Cl), cl ∈ C → Lies W 7 Cl.cells B [cl] → 1 ≤ d → GivesNew Try.prog 44 #[.slice B 1 d] W 15 Nt.cells (rnP [cl])) :
    Gives Try.prog 28 #[.slice A C.length c, .int .i64 m] w (.agg #[.int .i64 (chk C m C).1, .int .i64 (chk C m C).2]) := by
  refine Gives.mk ?_
  have hl63 : C.length ≤ 9223372036854775807 := by unfold maxLen at hcm; omega
  have Hl : Hid (∀ (W : World) (hb : Below w.heap.size w W) (t : Ty), Gives Try.prog 19 #[.slice A C.length c, .agg t.cells.toArray, .int .i64 m] W (.int .i64 (typT C t m))) := fun W hb t => legType_any W A c C t m hl63 (hs.below hb)
  have Hc : Hid (∀ (W : World) (cl : Cl), Gives Try.prog 17 #[.agg cl.cells.toArray, .int .i64 m] W (.int .i64 (clsT cl m))) := fun W cl => class_any cl m W
  have HS := hide hs
  have HT := hide HTy
  have HL := hide (And.intro hlc hcm)
  clear hs HTy hlc hcm
  obtain ⟨r, hr⟩ : ∃ r, r = chk C m C := ⟨_, rfl⟩
  rw [← hr]
  have HR := hide hr
  clear hr
  go_enter Try.func28, Try.ntmps28
  go_wp2_with fail
  obtain ⟨w1, hw1⟩ : ∃ w1, w1 = w.alloc (.cells #[.int .i64 0, .int .i64 0] 56) := ⟨_, rfl⟩
  have hsz1 : w1.heap.size = w.heap.size + 1 := by rw [hw1]; simp
  have hB1 : Hid (Below w.heap.size w w1) := by show Below _ _ _; rw [hw1]; exact (Below.refl _ _).alloc (Nat.le_refl _) _
  have hrow : Hid (w1.heap[w.heap.size]? = some (.cells #[.int .i64 0, .int .i64 0] 56 (0, 0))) := by rw [hw1]; exact heap_alloc_new w _
  rw [← hw1]
  clear hw1
  go_loopw [5, 13] (fun s5 s13 wr => ∃ k : Nat, s13 = .int .i64 k ∧ k ≤ C.length ∧ ∃ x : Ext w1, wr = x.val ∧ Hid (chk C m C = chk C m (C.drop k))) (fun _ s13 _ => C.length - (intOf s13).toNat)
  case atStart => exact ⟨0, rfl, Nat.zero_le _, Ext.here w1, rfl, rfl⟩
  case round =>
    obtain ⟨k, rfl, hk, x, rfl, hch⟩ := hrel
    have hwx : w.heap.size < x.val.heap.size := Nat.lt_of_lt_of_le (by omega) x.below.size
    by_cases hlt : k < C.length
    · obtain ⟨b, off, hA, hb, hcell⟩ := HS.out k hlt
      have hlt' : (k : Int) < (C.length : Int) := by omega
      have hmem := List.getElem_mem hlt
      have hat := chk_at hlt hch.out
      have honly := hide (fun (W : World) (hb : Below w.heap.size w W) => Lies.only (c := c) (HS.out.below hb) hlt HL.out.1)
      obtain ⟨cl, hcl⟩ : ∃ cl, cl = C[k] := ⟨_, rfl⟩
      rw [← hcl] at hcell hmem hat honly
      have hrg : Hid (x.val.rangeAt b (off + k * 7) cl.cells) := fun j u h => ((World.cell?_of_block ((hB1.out.trans (x.below.mono (by omega))).block _ hb))).trans (hcell j u h)
      have HAt := hide hat
      have HM := hide hmem
      have hlt9 := hide hlt
      have hA9 := hide hA
      subst hA
      clear hcell hcl hmem hat hlt hch
      go_upto_region 4 with (first | (refine wpList_load_mid rfl 45 (.tmp 16) rfl b (off + k * 7) rfl cl.cells _ hrg.out Try.underlying45 rfl (by rw [Cl.cells_len]; kernel_rfl) ?_) | (refine wpList_store_new rfl 45 (.tmp 6) (.tmp 17) rfl _ _ _ _ rfl rfl rfl (by rw [List.size_toArray, Cl.cells_len]; kernel_rfl) (by simp [Cl.cells_len]) (fun u hu => Cl.cells_one cl u (by simpa using hu)) ?_))
      obtain ⟨Bx, hBx⟩ : ∃ B, B = x.val.heap.size := ⟨_, rfl⟩
      obtain ⟨Z, hZ⟩ : ∃ Z : Ext w1, x.val.alloc (.cells cl.cells.toArray 45) = Z.val := Ext.of (x.below.alloc (x.le (Nat.le_refl _)) _)
      have hrZ : Hid (Z.val.heap[Bx]? = some (.cells cl.cells.toArray 45 (0, 0))) := by show _ = _; rw [← hZ, hBx]; exact heap_alloc_new _ _
      have hwB : w1.heap.size ≤ Bx := by rw [hBx]; exact x.le (Nat.le_refl _)
      rw [hZ, ← hBx]
      clear hZ hBx hrg hwx x
      obtain ⟨e, he⟩ : ∃ e, clsT cl m = e := ⟨_, rfl⟩
      have Hc1 := hide (fun W => Hc.out W cl)
      rw [he] at Hc1
      have HE := hide he
      clear he
      go_upto_region 5 with (first | (refine wpList_load_row rfl 45 (.tmp 6) rfl Bx rfl 45 cl.cells.toArray (0, 0) _ hrZ.out Try.underlying45 rfl (by rw [List.size_toArray, Cl.cells_len]; kernel_rfl) ?_) | (go_at_call 17; refine ((Hc1.out _).over Z).mono ?_; rintro _ _ ⟨y, ⟨y', hy'⟩, rfl, rfl⟩))
      have hry : y.val.heap[Bx]? = some (.cells cl.cells.toArray 45 (0, 0)) := by rw [← hy']; exact (y'.below.block _ (row_lt hrZ.out)).trans hrZ.out
      have hrw : y.val.heap[w.heap.size]? = some (.cells #[.int .i64 0, .int .i64 0] 56 (0, 0)) := (y.below.block _ (by omega)).trans hrow.out
      have c6 : y.val.cell? ⟨Bx, 6, none⟩ = some (.int .i64 cl.pos) := (row_cell hry (j := 6) rfl).1
      have hry9 := hide hry
      have hrw9 := hide hrw
      clear hry hy' hrZ
      rcases Bool.eq_false_or_eq_true (e != 0) with he0 | he0
      · have hres : Hid (r = (e, cl.pos)) := by
          have h1 : clsT cl m ≠ 0 := by rw [HE.out]; simpa using he0
          show _ = _
          rw [HR.out, HAt.out]
          have h2 : chkC C m cl = (e, cl.pos) := by unfold chkC; rw [if_pos h1, HE.out]
          rw [h2, if_pos (by simpa using he0)]
        obtain ⟨g0, f0⟩ := row_cell (cs := [.int .i64 0, .int .i64 0]) hrw (j := 0) rfl
        obtain ⟨g1, f1⟩ := row_cell (cs := [.int .i64 0, .int .i64 0]) hrw (j := 1) rfl
        clear hrw
        obtain ⟨q0, q1, q2⟩ := fault_end hB1.out hsz1 y hrw9.out e cl.pos
        have q29 := hide q2
        clear q2
        go_wp2_with fail
        refine bodyPost_ret (v := .agg #[.int .i64 e, .int .i64 cl.pos]) ?_ ?_ ?_
        · simp [results, Try.f28, go_sem, q0, q1]
        · rfl
        · exact ⟨by rw [hres.out], q29.out⟩
      · clear hrw
        have he1 : Hid (e = 0) := by show e = 0; simpa using he0
        have hk1 : (k : Int) + 1 ≤ c := by have := hlt9.out; have := HL.out.1; omega
        have hyw : Hid (∀ z : Ext w1, Below w.heap.size w z.val) := fun z => hB1.out.trans (z.below.mono (by omega))
        have hTy := HT.out y.val (hyw.out y) (some ⟨b, off + k * 7, none⟩) (c - k) cl HM.out (by
          have h := honly.out y.val (hyw.out y)
          rw [if_neg (by omega)] at h
          have e2 : (some ⟨b, off, none⟩ : Option Addr).map (·.add (k * 7)) = some ⟨b, off + k * 7, none⟩ := by
            by_cases h0 : k * 7 = 0 <;> simp [Addr.add, h0]
          rw [e2] at h
          exact h) (by omega)
        obtain ⟨N, hN⟩ : ∃ N, N = rnP [cl] := ⟨_, rfl⟩
        rw [← hN] at hTy
        have HN := hide hN
        have HTy := hide (hTy.over y)
        clear hTy hN c6
        go_upto_region 8 with (go_at_call 44; refine HTy.out.mono ?_; clear HTy; rintro _ _ ⟨z0, A9, c9, hz0, rfl, rfl, h1, h2, hL9, _⟩)
        have HL9 := hide hL9
        have hn63 : N.length ≤ 9223372036854775807 := by unfold maxLen at h2; omega
        clear hL9 h1 h2 hz0
        have he9 := hide he0
        clear he0
        go_loopw [34] (fun s34 wr => ∃ j : Nat, s34 = .int .i64 j ∧ j ≤ N.length ∧ ∃ z : Ext w1, wr = z.val ∧ Hid (Lies z.val 15 Nt.cells A9 N) ∧ Hid (chkN C m N = chkN C m (N.drop j))) (fun s34 _ => N.length - (intOf s34).toNat)
        case atStart => exact ⟨0, rfl, Nat.zero_le _, z0, rfl, HL9, rfl⟩
        case round =>
          obtain ⟨j, rfl, hj, z, rfl, hLz, hcj⟩ := hrel
          by_cases hltj : j < N.length
          · obtain ⟨nb, noff, hA8, hnb, hnc⟩ := hLz.out j hltj
            have hltj' : (j : Int) < (N.length : Int) := by omega
            have hatj := chkN_at hltj hcj.out
            obtain ⟨nt, hnt⟩ : ∃ nt, nt = N[j] := ⟨_, rfl⟩
            rw [← hnt] at hnc hatj
            have hrg : Hid (z.val.rangeAt nb (noff + j * 15) nt.cells) := fun i u h => hnc i u h
            have HAj := hide hatj
            have hltj9 := hide hltj
            subst hA8
            clear hnc hnt hatj hltj hcj
            go_upto_region 10 with (first | (refine wpList_load_mid rfl 81 (.tmp 36) rfl nb (noff + j * 15) rfl nt.cells _ hrg.out Try.underlying81 rfl (by rw [Nt.cells_len]; kernel_rfl) ?_) | (refine wpList_store_new rfl 81 (.tmp 9) (.tmp 37) rfl _ _ _ _ rfl rfl rfl (by rw [List.size_toArray, Nt.cells_len]; kernel_rfl) (by simp [Nt.cells_len]) (fun u hu => Nt.cells_one nt u (by simpa using hu)) ?_))
            obtain ⟨Bn, hBn⟩ : ∃ B, B = z.val.heap.size := ⟨_, rfl⟩
            obtain ⟨Z, hZ⟩ : ∃ Z : Ext w1, z.val.alloc (.cells nt.cells.toArray 81) = Z.val := Ext.of (z.below.alloc (z.le (Nat.le_refl _)) _)
            have hrZ : Z.val.heap[Bn]? = some (.cells nt.cells.toArray 81 (0, 0)) := by rw [← hZ, hBn]; exact heap_alloc_new _ _
            have hLZ : Hid (Lies Z.val 15 Nt.cells (some ⟨nb, noff, none⟩) N) := by show Lies _ _ _ _ _; rw [← hZ]; exact hLz.out.alloc _
            have hrt : Hid (Z.val.rangeAt Bn 3 nt.ty.cells) := range_of_row hrZ 3 _ fun i u h => by
              rw [List.getElem?_toArray, Nat.add_comm]
              show (Value.int .i64 nt.c :: .int .i64 nt.m :: .int .i64 nt.v :: (nt.ty.cells ++ [.int .i64 nt.p]))[i + 3]? = some u
              rw [List.getElem?_cons_succ, List.getElem?_cons_succ, List.getElem?_cons_succ, List.getElem?_append_left (List.getElem?_eq_some_iff.1 h).1]
              exact h
            obtain ⟨et, het⟩ : ∃ et, typT C nt.ty m = et := ⟨_, rfl⟩
            have Hl1 : Hid (Gives Try.prog 19 #[.slice (some ⟨b, off, none⟩) C.length c, .agg nt.ty.cells.toArray, .int .i64 m] Z.val (.int .i64 et)) := by show Gives _ _ _ _ _; rw [← het]; exact Hl.out Z.val (hyw.out Z) nt.ty
            have HEt := hide het
            have hrZ9 := hide hrZ
            rw [hZ, ← hBn]
            clear hZ hBn hrZ het hrg hLz
            go_upto_region 11 with (first | (refine wpList_load_mid rfl 35 (.tmp 39) rfl Bn 3 rfl nt.ty.cells _ hrt.out Try.underlying35 rfl (by rw [Ty.cells_len]; kernel_rfl) ?_) | (go_at_call 19; refine (Hl1.out.over Z).mono ?_; rintro _ _ ⟨y2, ⟨y', hy'⟩, rfl, rfl⟩))
            have hry : y2.val.heap[Bn]? = some (.cells nt.cells.toArray 81 (0, 0)) := by rw [← hy']; exact (y'.below.block _ (row_lt hrZ9.out)).trans hrZ9.out
            have c14 : y2.val.cell? ⟨Bn, 14, none⟩ = some (.int .i64 nt.p) := (row_cell hry (j := 14) rfl).1
            have hLy : Hid (Lies y2.val 15 Nt.cells (some ⟨nb, noff, none⟩) N) := by show Lies _ _ _ _ _; rw [← hy']; exact hLZ.out.ext y'
            have hrw : y2.val.heap[w.heap.size]? = some (.cells #[.int .i64 0, .int .i64 0] 56 (0, 0)) := (y2.below.block _ (by omega)).trans hrow.out
            have hrw8 := hide hrw
            clear hry hy' hLZ hrt Hl1
            rcases Bool.eq_false_or_eq_true (et != 0) with hx0 | hx0
            · have hres : Hid (r = (et, nt.p)) := by
                have h1 : typT C nt.ty m ≠ 0 := by rw [HEt.out]; simpa using hx0
                have h2 : chkC C m cl = (et, nt.p) := by
                  unfold chkC
                  rw [HE.out, he1.out, if_neg (by simp), ← HN.out, HAj.out, if_pos h1, HEt.out]
                show _ = _
                rw [HR.out, HAt.out, h2, if_pos (by simpa using hx0)]
              obtain ⟨g0, f0⟩ := row_cell (cs := [.int .i64 0, .int .i64 0]) hrw (j := 0) rfl
              obtain ⟨g1, f1⟩ := row_cell (cs := [.int .i64 0, .int .i64 0]) hrw (j := 1) rfl
              obtain ⟨q0, q1, q2⟩ := fault_end hB1.out hsz1 y2 hrw8.out et nt.p
              have q29 := hide q2
              clear q2 hrw
              go_wp2_with fail
              refine bodyPost_ret (v := .agg #[.int .i64 et, .int .i64 nt.p]) ?_ ?_ ?_
              · simp [results, Try.f28, go_sem, q0, q1]
              · rfl
              · exact ⟨by rw [hres.out], q29.out⟩
            · clear hrw
              have hnx : Hid (chkN C m N = chkN C m (N.drop (j + 1))) := by
                show _ = _
                rw [HAj.out, if_neg (by rw [HEt.out]; simpa using hx0)]
              go_wp2_with fail
              go_roundw
              case rel => exact ⟨j + 1, by go_num, Nat.succ_le_of_lt hltj9.out, y2, rfl, hLy, hnx⟩
              case measure => have := hltj9.out; simp [intOf]; omega
          · obtain rfl : j = N.length := Nat.le_antisymm hj (Nat.le_of_not_lt hltj)
            have hltj' : ¬ (N.length : Int) < (N.length : Int) := by omega
            have hnx : Hid (chk C m C = chk C m (C.drop (k + 1))) := by
              show _ = _
              have h1 : chkN C m N = (0, 0) := by
                have := hcj.out
                rwa [List.drop_length] at this
              have h2 : chkC C m cl = (0, 0) := by
                unfold chkC
                rw [HE.out, he1.out, if_neg (by simp), ← HN.out, h1]
              rw [HAt.out, h2, if_neg (by simp)]
            clear hcj
            go_wp2_with fail
            go_roundw
            case rel => exact ⟨k + 1, by go_num, Nat.succ_le_of_lt hlt9.out, z, rfl, hnx⟩
            case measure => have := hlt9.out; simp [intOf]; omega
    · obtain rfl : k = C.length := Nat.le_antisymm hk (Nat.le_of_not_lt hlt)
      have hlt' : ¬ (C.length : Int) < (C.length : Int) := by omega
      have hres : Hid (r = (0, 0)) := by
        show _ = _
        rw [HR.out, hch.out, List.drop_length]
        rfl
      have hrw : x.val.heap[w.heap.size]? = some (.cells #[.int .i64 0, .int .i64 0] 56 (0, 0)) := (x.below.block _ (by omega)).trans hrow.out
      obtain ⟨g0, f0⟩ := row_cell (cs := [.int .i64 0, .int .i64 0]) hrw (j := 0) rfl
      obtain ⟨g1, f1⟩ := row_cell (cs := [.int .i64 0, .int .i64 0]) hrw (j := 1) rfl
      obtain ⟨q0, q1, q2⟩ := fault_end hB1.out hsz1 x hrw 0 0
      have q29 := hide q2
      clear q2 hrw hch
      go_wp2_with fail
      refine bodyPost_ret (v := .agg #[.int .i64 0, .int .i64 0]) ?_ ?_ ?_
      · simp [results, Try.f28, go_sem, q0, q1]
      · rfl
      · exact ⟨by rw [hres.out], q29.out⟩
end Go.Proofs.Ytfebpmaaaiaccaa
