/- The walk of demesneref12.Set: a program with other types, or that it can't have them. -/
import Derived.Test.YtmpdmelkbemabaaGreatSetC
import Derived.Test.YtmpdmelkbemabaaGreatFitOk
import Derived.Sort.CutIn
set_option linter.unusedSimpArgs false
set_option linter.unusedVariables false
namespace Go.Proofs.Grow
open Go.RowKit
theorem Keep.refl {w0 x : World} {P : Nat → Prop} (h : Below w0.heap.size w0 x) : Keep w0 P x x := ⟨h, fun _ _ _ => rfl⟩
theorem GotIn.widen {α : Type} {size : Nat} {enc : α → List Value} {fit : Prop} {good : List α → World → Prop} {n : Nat} {L : List Ty} {b : Bool} {A : Option Addr} {D : List α} {c : Nat} {AL : Option Addr} {R : List Ty} {cL : Nat} {w0 : World} {a a' : Nat} {W W' : World}
    (h : GotIn size enc fit good n L b A D c AL R cL w0 a W) (ha : a' ≤ a) (hs : W.heap.size ≤ W'.heap.size) (he : ∀ j, a ≤ j → j < W.heap.size → W'.heap[j]? = W.heap[j]?) : GotIn size enc fit good n L b A D c AL R cL w0 a' W' :=
  ⟨h.fit, fun e X hK => h.good e X (hK.narrow hs fun j h1 h2 => ⟨Nat.le_trans ha h1, he j h1 h2⟩), h.rest, h.len, h.cap, fun X hK => h.lies X (hK.narrow hs fun j h1 h2 => ⟨Nat.le_trans ha h1, he j h1 h2⟩), h.rlen, h.rle, h.rlies, h.sub⟩
/-- Classes set so far. -/
structure CsSt (w0 : World) (P : Nat → Prop) (C : List Cl) (L : List Ty) (k : Nat) (D : List Cl) (B : Option Addr) (R : List Ty) (cR : Nat) (X : World) : Prop where
  fit : Fit (kdCls (C.take k)) L
  st : D.map stCl = (setCls (C.take k) L).map stCl
  ins : ∀ Y, Keep w0 P X Y → ∀ d ∈ D, ClIn Y d
  rest : R = L.drop (nCls (C.take k))
  cap : R.length ≤ cR
  lies : Lies w0 11 Ty.cells B R
/-- Methods set so far. -/
structure MsSt (w0 : World) (P : Nat → Prop) (M : List Me) (L : List Ty) (k : Nat) (D : List Me) (B : Option Addr) (R : List Ty) (cR : Nat) (X : World) : Prop where
  fit : Fit (kdMes (M.take k)) L
  st : D.map stMe = (setMes (M.take k) L).map stMe
  ins : ∀ Y, Keep w0 P X Y → ∀ d ∈ D, MeIn Y d
  rest : R = L.drop (nMes (M.take k))
  cap : R.length ≤ cR
  lies : Lies w0 11 Ty.cells B R
end Go.Proofs.Grow
namespace Go.Proofs.YtmpdmelkbemabaaGreat
open Go.RowKit Go.Proofs.Grow
theorem infoMeS : (Tryz.prog.info? 43).map (fun i => (i.zero.map (·.cells.size), i.size, i.bytes)) = some (some 17, 17, 200) := by kernel_rfl
theorem infoClS : (Tryz.prog.info? 35).map (fun i => (i.zero.map (·.cells.size), i.size, i.bytes)) = some (some 7, 7, 136) := by kernel_rfl

/-- What demesneref12.Set gives. -/
def RSetRes (C : List Cl) (L : List Ty) (w : World) (e : Ending) (w' : World) : Prop :=
  ∃ x : Ext w, w' = x.val ∧
    (((nCls C = L.length ∧ Fit (kdCls C) L) ∧ ∃ D A c, e = .returned (.tuple #[.slice A D.length c, .bool true]) ∧ D.map stCl = (setCls C L).map stCl ∧ D.length ≤ c ∧ c ≤ maxLen ∧ Lies x.val 7 Cl.cells A D ∧ ∀ d ∈ D, ClIn x.val d) ∨
      (¬ (nCls C = L.length ∧ Fit (kdCls C) L) ∧ e = .returned (.tuple #[.slice none 0 0, .bool false])))

set_option maxHeartbeats 16000000 in
set_option maxRecDepth 100000 in
theorem rset_any (w : World) (A : Option Addr) (c : Nat) (C : List Cl) (AL : Option Addr) (cL : Nat) (L : List Ty) (hl : Lies w 7 Cl.cells A C) (hin : ∀ cl ∈ C, ClIn w cl) (hfw : (C.map Cl.fw).sum ≤ 1048576)
    (hL : Lies w 11 Ty.cells AL L) (hLc : L.length ≤ cL) (hLn : L.length ≤ 1000000000) (hT : TysOk L) :
    Calls Tryz.prog 7 #[.slice A C.length c, .slice AL L.length cL] w (RSetRes C L w) := by
  obtain ⟨i0, z0, hi0, hz0, hz1, hz2, hzs⟩ := info_row infoClS
  obtain ⟨i1, z1, hi1, hy0, hy1, hy2, hys⟩ := info_row infoMeS
  have HI := hide hin
  have HL := hide hl
  have HT := hide hL
  have HTY := hide hT
  have HFW := hide hfw
  have hlen : C.length ≤ 1048576 := Nat.le_trans (sum_len Cl.fw (fun c => by unfold Cl.fw; omega) C) hfw
  clear hin hl hL hT hfw
  go_enter Tryz.func7, Tryz.ntmps7
  go_wp2_with fail
  go_loopw [1, 6, 7] (fun u v i wr => ∃ (k : Nat) (x : Ext w) (D : List Cl) (B : Option Addr) (R : List Ty) (cR : Nat), i = .int .i64 k ∧ k ≤ C.length ∧ wr = x.val ∧ u = .slice B R.length cR ∧ Hid (CsSt w (fun j => w.heap.size ≤ j ∧ v.ownBlock ≠ some j) C L k D B R cR x.val) ∧ Hid (Grow.Own x.val w.heap.size 35 7 Cl.cells v D)) (fun _ _ i _ => C.length - (intOf i).toNat)
  case atStart => exact ⟨0, Ext.here w, [], AL, L, cL, rfl, Nat.zero_le _, rfl, rfl, { fit := by rw [List.take_zero]; trivial, st := by rw [List.take_zero]; rfl, ins := fun _ _ s hs => absurd hs List.not_mem_nil, rest := by rw [List.take_zero]; rfl, cap := hLc, lies := HT.out }, (show Grow.Own _ _ _ _ _ _ _ from Own.nil)⟩
  case round =>
    obtain ⟨k, x, D, B, R, cR, rfl, hk, rfl, rfl, hss, hown⟩ := hrel
    have hBx0 : Hid (Below w.heap.size w x.val) := x.below
    have hxs : w.heap.size ≤ x.val.heap.size := x.below.size
    by_cases hlt : k < C.length
    · have hlt' : (k : Int) < (C.length : Int) := by omega
      obtain ⟨b, off, hA, hb, hcell⟩ := HL.out k hlt
      have hmem := List.getElem_mem hlt
      have HF1 := hide (Fit_takeC C L k hlt)
      have HN1 := hide (nCls_take C k hlt)
      have HS1 := hide (setCls_take C L k hlt)
      obtain ⟨cl, hcl⟩ : ∃ cl, cl = C[k] := ⟨_, rfl⟩
      rw [← hcl] at hcell hmem HF1 HN1 HS1
      have hIn := hide (HI.out cl hmem)
      have HFC : Hid (cl.fw ≤ 1048576) := by
        have h1 := sum_has Cl.fw hmem
        have h2 := HFW.out
        show _ ≤ _
        omega
      have hrg : Hid (x.val.rangeAt b (off + k * 7) cl.cells) := fun j u h => (World.cell?_of_block (hBx0.out.block _ hb)).trans (hcell j u h)
      have hc5w : Hid (w.cell? ⟨b, off + k * 7 + 5, none⟩ = some (.slice cl.mA cl.methods.length cl.mc)) := hcell 5 _ rfl
      have hlt9 := hide hlt
      have HKW : Hid (wrap64 ((k : Int) + 1) = ((k + 1 : Nat) : Int)) := by
        show wrap64 _ = _
        unfold wrap64
        omega
      have HNO : Hid (¬ Fit (kdCl cl) R → ¬ (nCls C = L.length ∧ Fit (kdCls C) L)) := fun hn hf => hn (by
        have h := (HF1.out.1 (Fit_uptoC C L (k + 1) hf.2)).2
        rw [hss.out.rest]; exact h)
      subst hA
      clear hcell hcl hmem hlt
      go_upto_region 6 with (first | (refine wpList_load_mid rfl 35 (.tmp 23) rfl b (off + k * 7) rfl cl.cells _ hrg.out Tryz.underlying35 rfl (by rw [Cl.cells_len]; kernel_rfl) ?_) | (refine wpList_store_new rfl 35 (.tmp 8) (.tmp 24) rfl _ _ _ _ rfl rfl rfl (by rw [List.size_toArray, Cl.cells_len]; kernel_rfl) (by simp [Cl.cells_len]) (fun u hu => Cl.cells_one cl u (by simpa using hu)) ?_))
      obtain ⟨Bx, hBx⟩ : ∃ B, B = x.val.heap.size := ⟨_, rfl⟩
      obtain ⟨Z, hZ⟩ : ∃ Z, Z = x.val.alloc (.cells cl.cells.toArray 35) := ⟨_, rfl⟩
      have hrZ : Hid (Z.heap[Bx]? = some (.cells cl.cells.toArray 35 (0, 0))) := by show _ = _; rw [hZ, hBx]; exact heap_alloc_new _ _
      have hbZ : Hid (Below x.val.heap.size x.val Z) := by show Below _ _ _; rw [hZ]; exact (Below.refl _ _).alloc (Nat.le_refl _) _
      have hZs : Z.heap.size = Bx + 1 := by rw [hZ, hBx]; simp
      have hBw : Hid (Below w.heap.size w Z) := hBx0.out.trans (hbZ.out.mono hxs)
      obtain ⟨c4, f4⟩ := row_cell hrZ.out (j := 4) rfl
      have HC1 : Hid (Calls Tryz.prog 18 #[.slice cl.fA cl.fields.length cl.fc, .slice B R.length cR] Z (VsRes cl.fields R w Z)) :=
        vs_any w Z hBw.out cl.fA cl.fc cl.fields B cR R hIn.out.fields (by have := HFC.out; unfold Cl.fw at this; omega) hss.out.lies hss.out.cap (by rw [hss.out.rest, List.length_drop]; omega)
      rw [← hZ, ← hBx]
      have hBx9 := hide hBx
      have hBxw : w.heap.size ≤ Bx := by rw [hBx]; exact hxs
      clear hZ hBx hrg
      go_upto_region 7 with (first | (go_at_call 18; refine HC1.out.mono ?_; rintro _ _ ⟨x2, b1, A3, D3, c3, AL3, R3, d3, rfl, rfl, g1⟩; have hg1 := hide g1; clear g1) | (refine wpList_store_new rfl 73 (.tmp 9) (.tmp 28) rfl _ _ _ _ rfl rfl rfl (by kernel_rfl) rfl (fun u hu => by simp at hu; rcases hu with rfl | rfl | rfl | rfl <;> rfl) ?_))
      clear HC1 c4 f4
      obtain ⟨B9, hB9⟩ : ∃ B, B = x2.val.heap.size := ⟨_, rfl⟩
      obtain ⟨X3, hX3⟩ : ∃ X, X = x2.val.alloc (.cells #[.slice none 0 0, .slice A3 D3.length c3, .slice AL3 R3.length d3, .bool b1] 73) := ⟨_, rfl⟩
      have hr9 : Hid (X3.heap[B9]? = some (.cells [.slice none 0 0, .slice A3 D3.length c3, .slice AL3 R3.length d3, .bool b1].toArray 73 (0, 0))) := by show _ = _; rw [hX3, hB9]; exact heap_alloc_new _ _
      have hb3 : Hid (Below Z.heap.size Z X3) := by show Below _ _ _; rw [hX3]; exact x2.below.alloc x2.below.size _
      have hs3 : X3.heap.size = B9 + 1 := by rw [hX3, hB9]; simp
      have hx2s : Z.heap.size ≤ B9 := by rw [hB9]; exact x2.below.size
      have hgf : Hid (GotIn 13 Va.cells (cl.fields.length ≤ R.length) (fun D _ => D = setVs cl.fields R) cl.fields.length R b1 A3 D3 c3 AL3 R3 d3 w Z.heap.size X3) := hg1.out.widen (Nat.le_refl _) (by rw [hX3]; simp) (fun j h1 h2 => by rw [hX3]; exact Below.heap_alloc _ _ _ (by omega))
      rw [← hX3, ← hB9]
      clear hX3 hB9 hg1
      have hrow3 : Hid (X3.heap[Bx]? = some (.cells cl.cells.toArray 35 (0, 0))) := (hb3.out.block _ (row_lt hrZ.out)).trans hrZ.out
      have hBxl : Bx < X3.heap.size := row_lt hrow3.out
      have hBX3 : Hid (Below w.heap.size w X3) := hBw.out.trans (hb3.out.mono (by omega))
      obtain ⟨c93, f93⟩ := row_cell hr9.out (j := 3) rfl
      cases b1 with
      | false =>
        as_aux_lemma =>
          have HN9 := hide (HNO.out fun hf => by have := hgf.out.fit.2 ((Fit_cl cl R).1 hf).1; cases this)
          go_wp2_with fail
          obtain ⟨z, hz⟩ := Ext.of hBX3.out
          go_ret2
          unfold RSetRes
          exact ⟨z, hz, .inr ⟨HN9.out, rfl⟩⟩
      | true =>
        have hD3 : Hid (D3 = setVs cl.fields R) := hgf.out.good rfl X3 (Keep.refl hBX3.out)
        have hfitf := hide (hgf.out.fit.1 rfl)
        have hrestf := hide (hgf.out.rest rfl)
        obtain ⟨c91, f91⟩ := row_cell hr9.out (j := 1) rfl
        obtain ⟨x4, g4⟩ := row_cell hrow3.out (j := 4) rfl
        obtain ⟨Y1, hY1⟩ : ∃ Y, Y = X3.setCell ⟨Bx, 4, none⟩ (.slice A3 D3.length c3) := ⟨_, rfl⟩
        have hrowY : Hid (Y1.heap[Bx]? = some (.cells ({ cl with fA := A3, fc := c3, fields := D3 } : Cl).cells.toArray 35 (0, 0))) := by show _ = _; rw [hY1]; exact cl_box_fields _ _ _ _ hrow3.out
        have hoY1 : Hid (∀ j, j ≠ Bx → Y1.heap[j]? = X3.heap[j]?) := fun j hj => by rw [hY1]; exact Go.heap_setCell_other X3 ⟨Bx, 4, none⟩ j _ hj
        have hsY1 : Y1.heap.size = X3.heap.size := by rw [hY1]; simp
        have hbY1 : Hid (Below x.val.heap.size x.val Y1) := by show Below _ _ _; rw [hY1]; exact (hbZ.out.trans (hb3.out.mono hbZ.out.size)).setCell (p := ⟨Bx, 4, none⟩) (by rw [hBx9.out]; exact Nat.le_refl _) _
        have hr9Y : Hid (Y1.heap[B9]? = some (.cells [.slice none 0 0, .slice A3 D3.length c3, .slice AL3 R3.length d3, .bool true].toArray 73 (0, 0))) := (hoY1.out _ (by omega)).trans hr9.out
        have hY19 := hide hY1
        clear hY1
        go_upto_region 10 with fail
        rw [← hY19.out]
        clear c91 f91 x4 g4 c93 f93 hY19
        obtain ⟨c92, f92⟩ := row_cell hr9Y.out (j := 2) rfl
        obtain ⟨x5, g5⟩ := row_cell hrowY.out (j := 5) rfl
        obtain ⟨cl1, hcl1⟩ : ∃ cl1 : Cl, cl1 = { cl with fA := A3, fc := c3, fields := D3, mA := none, mc := 0, methods := [] } := ⟨_, rfl⟩
        obtain ⟨Y2, hY2⟩ : ∃ Y, Y = Y1.setCell ⟨Bx, 5, none⟩ (.slice none 0 0) := ⟨_, rfl⟩
        have hrow2 : Hid (Y2.heap[Bx]? = some (.cells cl1.cells.toArray 35 (0, 0))) := by show _ = _; rw [hY2, hcl1]; exact cl_box_methods { cl with fA := A3, fc := c3, fields := D3 } none 0 [] hrowY.out
        have hoY2 : Hid (∀ j, j ≠ Bx → Y2.heap[j]? = X3.heap[j]?) := fun j hj => (by rw [hY2]; exact Go.heap_setCell_other Y1 ⟨Bx, 5, none⟩ j _ hj : Y2.heap[j]? = Y1.heap[j]?).trans (hoY1.out j hj)
        have hsY2 : Y2.heap.size = X3.heap.size := by rw [hY2, ← hsY1]; simp
        have hbY2 : Hid (Below x.val.heap.size x.val Y2) := by show Below _ _ _; rw [hY2]; exact hbY1.out.setCell (p := ⟨Bx, 5, none⟩) (by rw [hBx9.out]; exact Nat.le_refl _) _
        have hY29 := hide hY2
        have HCL1 := hide hcl1
        clear hY2 hcl1
        go_upto_region 12 with fail
        rw [← hY29.out]
        clear c92 f92 x5 g5 hr9Y hrowY hbY1 hoY1 hY29 hr9 hrow3 hrZ
        obtain ⟨M, hM⟩ : ∃ M, M = cl.methods := ⟨_, rfl⟩
        have HM := hide hM
        rw [← hM] at hc5w
        have hm63 : M.length ≤ 1048576 := by rw [hM]; have h1 := HFC.out; unfold Cl.fw at h1; have := sum_len Me.fw (fun m => by unfold Me.fw; omega) cl.methods; omega
        clear hM
        obtain ⟨y0, hy0e⟩ := Ext.of hbY2.out
        have hY0 := hide hy0e
        have hxy : x.val.heap.size ≤ Y2.heap.size := hbY2.out.size
        have hBxy : Bx < Y2.heap.size := by omega
        have hLM : Hid (Lies w 17 Me.cells cl.mA M) := by show Lies _ _ _ _ _; rw [HM.out]; exact hIn.out.methods
        have HME : Hid (∀ m ∈ M, MeIn w m) := by show ∀ m ∈ M, _; rw [HM.out]; exact hIn.out.each
        have HMF : Hid (∀ m ∈ M, m.fw ≤ 1048576) := fun m hm => by
          rw [HM.out] at hm
          have h1 := HFC.out
          have h2 := sum_has Me.fw hm
          unfold Cl.fw at h1
          omega
        have HNO2 : Hid (¬ Fit (kdMes M) R3 → ¬ (nCls C = L.length ∧ Fit (kdCls C) L)) := fun hn => HNO.out fun hf => hn (by
          have h := ((Fit_cl cl R).1 hf).2
          rw [← hrestf.out, ← HM.out] at h; exact h)
        have hR3 : Hid (R3.length ≤ 1000000000 ∧ TysOk R3) := by
          show _ ∧ _
          rw [hrestf.out, hss.out.rest]
          exact ⟨by rw [List.length_drop, List.length_drop]; omega, fun u hu => HTY.out u (List.mem_of_mem_drop (List.mem_of_mem_drop hu))⟩
        clear hy0e
        go_wp2_with fail
        rw [hY0.out]
        go_loopw [1, 10] (fun u i wr => ∃ (j : Nat) (z : Ext x.val) (DM : List Me) (B' : Option Addr) (R' : List Ty) (cR' : Nat) (AM : Option Addr) (cM : Nat), i = .int .i64 j ∧ j ≤ M.length ∧ wr = z.val ∧ u = .slice B' R'.length cR' ∧ Hid (MsSt w (fun q => Y2.heap.size ≤ q ∧ (Value.slice AM DM.length cM).ownBlock ≠ some q) M R3 j DM B' R' cR' z.val) ∧ Hid (z.val.heap[Bx]? = some (.cells ({ cl1 with mA := AM, mc := cM, methods := DM } : Cl).cells.toArray 35 (0, 0))) ∧ Hid (Grow.Own z.val x.val.heap.size 43 17 Me.cells (.slice AM DM.length cM) DM) ∧ Hid (∀ g, (Value.slice AM DM.length cM).ownBlock = some g → Y2.heap.size ≤ g) ∧ Hid (∀ q, q < Y2.heap.size → q ≠ Bx → z.val.heap[q]? = Y2.heap[q]?) ∧ Y2.heap.size ≤ z.val.heap.size) (fun _ i _ => M.length - (intOf i).toNat)
        case atStart =>
          refine ⟨0, y0, [], AL3, R3, d3, none, 0, rfl, Nat.zero_le _, rfl, rfl, { fit := by rw [List.take_zero]; trivial, st := by rw [List.take_zero]; rfl, ins := fun _ _ s hs => absurd hs List.not_mem_nil, rest := by rw [List.take_zero]; rfl, cap := hgf.out.rlen, lies := hgf.out.rlies }, ?_, (show Grow.Own _ _ _ _ _ _ _ from Own.nil), fun g hg => (by cases hg), fun q h1 h2 => by rw [hY0.out], by rw [hY0.out]; exact Nat.le_refl _⟩
          show _ = _
          rw [← hY0.out, hrow2.out, HCL1.out]
        case round =>
          obtain ⟨j, z, DM, B', R', cR', AM, cM, rfl, hj, rfl, rfl, hms, hrow, hownM, hog, hsm, hzs2⟩ := hrel
          have hzx : x.val.heap.size ≤ z.val.heap.size := z.below.size
          have hBz : Hid (Below w.heap.size w z.val) := hBx0.out.trans (z.below.mono hxs)
          have c5 : z.val.cell? ⟨b, off + k * 7 + 5, none⟩ = some (.slice cl.mA M.length cl.mc) := (World.cell?_of_block (hBz.out.block _ hb)).trans hc5w.out
          have hBxz : Bx < z.val.heap.size := by omega
          have hbz : b < z.val.heap.size := by omega
          by_cases hltj : j < M.length
          · have hltj' : (j : Int) < (M.length : Int) := by omega
            obtain ⟨mb, moff, hAm, hmb, hmcell⟩ := hLM.out j hltj
            have hmemM := List.getElem_mem hltj
            have HF2 := hide (Fit_takeM M R3 j hltj)
            have HN2 := hide (nMes_take M j hltj)
            have HS2 := hide (setMes_take M R3 j hltj)
            obtain ⟨m, hm⟩ : ∃ m, m = M[j] := ⟨_, rfl⟩
            rw [← hm] at hmcell hmemM HF2 HN2 HS2
            have hMI := hide (HME.out m hmemM)
            have hMF := hide (HMF.out m hmemM)
            have hrg : Hid (z.val.rangeAt mb (moff + j * 17) m.cells) := fun q u h => (World.cell?_of_block (hBz.out.block _ hmb)).trans (hmcell q u h)
            have hltj9 := hide hltj
            have HJW : Hid (wrap64 ((j : Int) + 1) = ((j + 1 : Nat) : Int)) := by
              show wrap64 _ = _
              unfold wrap64
              omega
            have HNO3 : Hid (¬ Fit (kdMe m) R' → ¬ (nCls C = L.length ∧ Fit (kdCls C) L)) := fun hn => HNO2.out fun hf => hn (by
              have h := (HF2.out.1 (Fit_uptoM M R3 (j + 1) hf)).2
              rw [hms.out.rest]; exact h)
            rw [hAm] at c5
            clear hmcell hm hmemM hltj
            go_upto_region 16 with (first | (refine wpList_load_mid rfl 43 (.tmp 54) rfl mb (moff + j * 17) rfl m.cells _ hrg.out Tryz.underlying43 rfl (by rw [Me.cells_len]; kernel_rfl) ?_) | (refine wpList_store_new rfl 43 (.tmp 11) (.tmp 55) rfl _ _ _ _ rfl rfl rfl (by rw [List.size_toArray, Me.cells_len]; kernel_rfl) (by simp [Me.cells_len]) (fun u hu => Me.cells_one m u (by simpa using hu)) ?_))
            obtain ⟨Bm, hBm⟩ : ∃ B, B = z.val.heap.size := ⟨_, rfl⟩
            obtain ⟨Z1, hZ1⟩ : ∃ Z, Z = z.val.alloc (.cells m.cells.toArray 43) := ⟨_, rfl⟩
            have hrZ1 : Hid (Z1.heap[Bm]? = some (.cells m.cells.toArray 43 (0, 0))) := by show _ = _; rw [hZ1, hBm]; exact heap_alloc_new _ _
            have hbZ1 : Hid (Below z.val.heap.size z.val Z1) := by show Below _ _ _; rw [hZ1]; exact (Below.refl _ _).alloc (Nat.le_refl _) _
            have hZ1s : Z1.heap.size = Bm + 1 := by rw [hZ1, hBm]; simp
            have hBmz : z.val.heap.size ≤ Bm := by rw [hBm]; exact Nat.le_refl _
            have hBm9 := hide hBm
            have hBZ1 : Hid (Below w.heap.size w Z1) := hBz.out.trans (hbZ1.out.mono (by omega))
            rw [← hZ1, ← hBm]
            clear hZ1 hBm hrg c5
            by_cases h0 : 0 < R'.length
            · obtain ⟨tb, toff, hB, htb, htc⟩ := hms.out.lies 0 h0
              obtain ⟨t, ht⟩ : ∃ t, t = R'[0] := ⟨_, rfl⟩
              rw [← ht] at htc
              have hrt : Hid (Z1.rangeAt tb toff t.cells) := fun q u h => (World.cell?_of_block (hBZ1.out.block _ htb)).trans (by have := htc q u h; rwa [Nat.zero_mul, Nat.add_zero] at this)
              have hn0 : ¬ (R'.length : Int) = 0 := by omega
              have hn1 : ((R'.length : Int) == 0) = false := by simp; intro h; rw [h] at h0; simp at h0
              have HTt := hide ht
              have HT0 : Hid ((R'.drop 1).length = R'.length - 1) := by show _ = _; rw [List.length_drop]
              have hcu := hms.out.lies.cut (k := 1) (c := cR') h0 hms.out.cap
              have hR1 : Hid ((R'.drop 1).length ≤ 1000000000 ∧ TysOk (R'.drop 1)) := by
                show _ ∧ _
                rw [hms.out.rest]
                exact ⟨by rw [List.length_drop, List.length_drop]; have := hR3.out.1; omega, fun u hu => hR3.out.2 u (List.mem_of_mem_drop (List.mem_of_mem_drop hu))⟩
              subst hB
              obtain ⟨m1, hm1⟩ : ∃ m1, m1 = ({ m with ret := t } : Me) := ⟨_, rfl⟩
              obtain ⟨Z2, hZ2⟩ : ∃ Z, Z = Z1.setCells Bm 2 t.cells.toArray.toList := ⟨_, rfl⟩
              have htx : Hid (Z1.there Bm 2 t.cells.toArray.size) := there_of_row hrZ1.out 2 _ (by rw [List.size_toArray, Ty.cells_len, List.size_toArray, Me.cells_len]; decide)
              have hrZ2 : Hid (Z2.heap[Bm]? = some (.cells m1.cells.toArray 43 (0, 0))) := by show _ = _; rw [hZ2, hm1]; exact me_box_ret m t hrZ1.out
              have hbZ2 : Hid (Below z.val.heap.size z.val Z2) := by show Below _ _ _; rw [hZ2]; exact hbZ1.out.trans (setCells_below hBmz _ _ _)
              have hZ2s : Hid (Z2.heap.size = Bm + 1) := by show _ = _; rw [hZ2, setCells_size]; exact hZ1s
              have hBZ2 : Hid (Below w.heap.size w Z2) := hBz.out.trans (hbZ2.out.mono (by omega))
              have HZ2 := hide hZ2
              have HM1 := hide hm1
              have e13 : Hid (m1.cells[13]? = some (.slice m.pA m.params.length m.pc)) := by show _ = _; rw [hm1]; rfl
              have e14 : Hid (m1.cells[14]? = some (.slice m.lA m.locals.length m.lc)) := by show _ = _; rw [hm1]; rfl
              have e15 : Hid (m1.cells[15]? = some (.slice m.bA m.body.length m.bc)) := by show _ = _; rw [hm1]; rfl
              clear hZ2 hm1 htc ht
              go_upto_region 19 with (first | (refine wpList_load_mid rfl 40 (.tmp 60) rfl tb toff rfl t.cells _ hrt.out Tryz.underlying40 rfl (by rw [Ty.cells_len]; kernel_rfl) ?_) | (refine wpList_store_mid rfl 40 (.tmp 62) (.tmp 61) rfl Bm 2 t.cells.toArray rfl rfl htx.out (by rw [List.size_toArray, Ty.cells_len]; kernel_rfl) (all_oneCell_toArray (Ty.cells_one t)) ?_; rw [← HZ2.out]))
              clear htx hrt HZ2
              try simp only [Act.put, List.getElem_toArray, List.getElem_cons_succ, List.getElem_cons_zero, List.setIfInBounds_toArray, List.set_cons_zero, List.set_cons_succ]
              go_cut [1, 12] (fun _ u W => ∃ (W0 : Ext z.val) (Ba : Nat) (bp : Bool) (Ap : Option Addr) (Dp : List Va) (cp : Nat) (ALp : Option Addr) (Rp : List Ty) (dp : Nat), u = .pointer (some ⟨Ba, 0, none⟩) ∧ W = W0.val ∧ Hid (W0.val.heap[Ba]? = some (.cells [.slice none 0 0, .slice Ap Dp.length cp, .slice ALp Rp.length dp, .bool bp].toArray 73 (0, 0))) ∧ Hid (Z2.heap.size ≤ Ba) ∧ Hid (∀ q, q < Z2.heap.size → W0.val.heap[q]? = Z2.heap[q]?) ∧ Hid (GotIn 13 Va.cells (m.params.length ≤ (R'.drop 1).length) (fun D _ => D = setVs m.params (R'.drop 1)) m.params.length (R'.drop 1) bp Ap Dp cp ALp Rp dp w Z2.heap.size W0.val))
              case first =>
                as_aux_lemma =>
                  obtain ⟨x13, g13⟩ := row_cell hrZ2.out (j := 13) e13.out
                  have hBmZ : Bm < Z2.heap.size := row_lt hrZ2.out
                  have hwZ : w.heap.size ≤ Z2.heap.size := hBZ2.out.size
                  have h1R : (1 : Int) ≤ (R'.length : Int) := by omega
                  by_cases hc1 : cR' = 1
                  · rw [if_pos hc1] at hcu
                    have HCv : Hid (∀ X, Below Z2.heap.size Z2 X → Calls Tryz.prog 18 #[.slice m.pA m.params.length m.pc, .slice (some (Addr.mk tb toff none)) (R'.length - 1) 0] X (VsRes m.params (R'.drop 1) w X)) := fun X hX => by
                      have h := vs_any w X (hBZ2.out.trans (hX.mono hwZ)) m.pA m.pc m.params (some (Addr.mk tb toff none)) 0 (R'.drop 1) hMI.out.params (by have := hMF.out; unfold Me.fw at this; omega) hcu (by rw [HT0.out]; have := hms.out.cap; omega) hR1.out.1
                      rw [HT0.out] at h
                      exact h
                    clear hcu
                    let S : World → Prop := fun X => Below Z2.heap.size Z2 X
                    have hS0 : S Z2.drew := (Below.refl _ _).drew
                    have hS := hS0
                    have hSc : ∀ X, S X → X.cell? ⟨Bm, 13, none⟩ = some (.slice m.pA m.params.length m.pc) := fun X hX => (World.cell?_of_block (hX.block _ hBmZ)).trans x13
                    refine wp_region_till S 99 (by kernel_rfl) ?_
                    simp only [List.size_toArray, List.length_cons, List.length_nil, Nat.reduceAdd]
                    refine AnyTill.takeG (i := 0) (v := ?_) rfl (by kernel_rfl) (fun _ _ _ h => h) hS ?_ rfl ?_
                    rotate_left
                    · intro X hSX
                      skip
                      go_simp
                      all_goals with_reducible rfl
                    try simp only [Act.put, List.getElem_toArray, List.getElem_cons_succ, List.getElem_cons_zero, List.setIfInBounds_toArray, List.set_cons_zero, List.set_cons_succ]
                    refine AnyTill.takeG (i := 1) (v := ?_) rfl (by kernel_rfl) (fun _ _ _ h => h) hS ?_ rfl ?_
                    rotate_left
                    · intro X hSX
                      have hq := hSc X hSX
                      go_simp
                      all_goals with_reducible rfl
                    try simp only [Act.put, List.getElem_toArray, List.getElem_cons_succ, List.getElem_cons_zero, List.setIfInBounds_toArray, List.set_cons_zero, List.set_cons_succ]
                    refine AnyTill.takeG (i := 2) (v := ?_) rfl (by kernel_rfl) (fun _ _ _ h => h) hS ?_ rfl ?_
                    rotate_left
                    · intro X hSX
                      skip
                      go_simp
                      all_goals with_reducible rfl
                    try simp only [Act.put, List.getElem_toArray, List.getElem_cons_succ, List.getElem_cons_zero, List.setIfInBounds_toArray, List.set_cons_zero, List.set_cons_succ]
                    refine AnyTill.takeG (i := 3) (v := ?_) rfl (by kernel_rfl) (fun _ _ _ h => h) hS ?_ rfl ?_
                    rotate_left
                    · intro X hSX
                      skip
                      go_simp
                      all_goals with_reducible rfl
                    try simp only [Act.put, List.getElem_toArray, List.getElem_cons_succ, List.getElem_cons_zero, List.setIfInBounds_toArray, List.set_cons_zero, List.set_cons_succ]
                    refine AnyTill.twoK (i := 4) (j := 5) rfl rfl (by kernel_rfl) rfl rfl ?_ ?_
                    · intro K hK
                      go_simp
                      refine (HCv.out _ hS0).mono ?_
                      rintro _ _ ⟨x2, bp, Ap, Dp, cp, ALp, Rp, dp, rfl, rfl, g1⟩
                      have hS1 : S x2.val := hS0.trans (x2.below.mono hS0.size)
                      refine hK _ _ (fun _ => hS1) ?_
                      clear hK K
                      refine AnyTill.oneK (i := 5) rfl (by kernel_rfl) rfl ?_
                      intro K hK
                      go_simp
                      generalize hcs : (Obj.cells _ 73) = ob
                      obtain ⟨cs, hcs2, hcz⟩ : ∃ cs : Array Value, ob = .cells cs 73 (0, 0) ∧ cs.size = 4 := ⟨_, hcs.symm, rfl⟩
                      clear hcs
                      subst hcs2
                      have hcz9 := hide hcz
                      have hS3 : S (x2.val.alloc (Obj.cells cs 73 (0, 0))) := hS1.alloc hS1.size _
                      refine hK _ _ (fun _ => hS3) ?_
                      clear hK K
                      have hnew : Hid ((x2.val.alloc (Obj.cells cs 73 (0, 0))).heap[x2.val.heap.size]? = some (.cells cs 73 (0, 0))) := heap_alloc_new _ _
                      have hth : Hid ((x2.val.alloc (Obj.cells cs 73 (0, 0))).there x2.val.heap.size 0 4) := there_of_row hnew.out 0 _ (by omega)
                      have hSe : Hid (Below Z2.heap.size Z2 ((x2.val.alloc (Obj.cells cs 73 (0, 0))).setCells x2.val.heap.size 0 [.slice none 0 0, .slice Ap Dp.length cp, .slice ALp Rp.length dp, .bool bp])) := hS3.trans (setCells_below hS1.size _ _ _)
                      clear hcz
                      refine AnyTill.oneK (i := 6) rfl (by kernel_rfl) rfl ?_
                      intro K hK
                      refine wp_store_mid 73 (.tmp 12) (.tmp 67) rfl x2.val.heap.size 0 #[.slice none 0 0, .slice Ap Dp.length cp, .slice ALp Rp.length dp, .bool bp] rfl rfl hth.out (by kernel_rfl) (by kernel_rfl) ?_
                      refine hK _ _ (fun _ => hSe.out) ?_
                      clear hK K
                      refine AnyTill.done (by kernel_rfl) ?_ _
                      go_wp2_with fail
                      go_meet
                      case rel =>
                        obtain ⟨W0, hW0⟩ := Ext.of (hbZ2.out.trans (hSe.out.mono hbZ2.out.size))
                        refine ⟨W0, x2.val.heap.size, bp, Ap, Dp, cp, ALp, Rp, dp, rfl, hW0, ?_, hS1.size, fun q hq => ?_, ?_⟩
                        · show _ = _
                          rw [← hW0]
                          exact row_filled _ hnew.out hcz9.out
                        · rw [← hW0]
                          exact hSe.out.block q hq
                        · rw [← hW0]
                          refine GotIn.widen g1 (Nat.le_refl _) (by rw [setCells_size]; simp) fun q h1 h2 => ?_
                          rw [setCells_other _ _ _ _ _ (by omega)]
                          exact Below.heap_alloc _ _ _ h2
                    · intro K hK
                      go_simp
                      generalize hcs : (Obj.cells _ 73) = ob
                      obtain ⟨cs, hcs2, hcz⟩ : ∃ cs : Array Value, ob = .cells cs 73 (0, 0) ∧ cs.size = 4 := ⟨_, hcs.symm, rfl⟩
                      clear hcs
                      subst hcs2
                      have hcz9 := hide hcz
                      have hS3 : S (Z2.drew.alloc (Obj.cells cs 73 (0, 0))) := hS0.alloc hS0.size _
                      refine hK _ _ (fun _ => hS3) ?_
                      clear hK K
                      have hnew : Hid ((Z2.drew.alloc (Obj.cells cs 73 (0, 0))).heap[Z2.heap.size]? = some (.cells cs 73 (0, 0))) := heap_alloc_new Z2.drew _
                      have hsz9 : (Z2.drew.alloc (Obj.cells cs 73 (0, 0))).heap.size = Z2.heap.size + 1 := by simp
                      refine AnyTill.oneK (i := 4) rfl (by kernel_rfl) rfl ?_
                      intro K hK
                      go_simp
                      refine (HCv.out _ hS3).mono ?_
                      rintro _ _ ⟨x2, bp, Ap, Dp, cp, ALp, Rp, dp, rfl, rfl, g1⟩
                      have hS1 : S x2.val := hS3.trans (x2.below.mono hS3.size)
                      refine hK _ _ (fun _ => hS1) ?_
                      clear hK K
                      have hnew2 : Hid (x2.val.heap[Z2.heap.size]? = some (.cells cs 73 (0, 0))) := (x2.below.block _ (by omega)).trans hnew.out
                      have hth : Hid (x2.val.there Z2.heap.size 0 4) := there_of_row hnew2.out 0 _ (by omega)
                      have hSe : Hid (Below Z2.heap.size Z2 (x2.val.setCells Z2.heap.size 0 [.slice none 0 0, .slice Ap Dp.length cp, .slice ALp Rp.length dp, .bool bp])) := hS1.trans (setCells_below (Nat.le_refl _) _ _ _)
                      clear hcz
                      refine AnyTill.oneK (i := 6) rfl (by kernel_rfl) rfl ?_
                      intro K hK
                      refine wp_store_mid 73 (.tmp 12) (.tmp 67) rfl Z2.heap.size 0 #[.slice none 0 0, .slice Ap Dp.length cp, .slice ALp Rp.length dp, .bool bp] rfl rfl hth.out (by kernel_rfl) (by kernel_rfl) ?_
                      refine hK _ _ (fun _ => hSe.out) ?_
                      clear hK K
                      refine AnyTill.done (by kernel_rfl) ?_ _
                      go_wp2_with fail
                      go_meet
                      case rel =>
                        obtain ⟨W0, hW0⟩ := Ext.of (hbZ2.out.trans (hSe.out.mono hbZ2.out.size))
                        refine ⟨W0, Z2.heap.size, bp, Ap, Dp, cp, ALp, Rp, dp, rfl, hW0, ?_, Nat.le_refl _, fun q hq => ?_, ?_⟩
                        · show _ = _
                          rw [← hW0]
                          exact row_filled _ hnew2.out hcz9.out
                        · rw [← hW0]
                          exact hSe.out.block q hq
                        · rw [← hW0]
                          refine GotIn.widen g1 (by omega) (by rw [setCells_size]; exact Nat.le_refl _) fun q h1 h2 => ?_
                          rw [setCells_other _ _ _ _ _ (by omega)]
                  · rw [if_neg hc1] at hcu
                    have HCv : Hid (∀ X, Below Z2.heap.size Z2 X → Calls Tryz.prog 18 #[.slice m.pA m.params.length m.pc, .slice (some (Addr.mk tb (toff + 11) none)) (R'.length - 1) (cR' - 1)] X (VsRes m.params (R'.drop 1) w X)) := fun X hX => by
                      have h := vs_any w X (hBZ2.out.trans (hX.mono hwZ)) m.pA m.pc m.params (some (Addr.mk tb (toff + 11) none)) (cR' - 1) (R'.drop 1) hMI.out.params (by have := hMF.out; unfold Me.fw at this; omega) hcu (by rw [HT0.out]; have := hms.out.cap; omega) hR1.out.1
                      rw [HT0.out] at h
                      exact h
                    clear hcu
                    let S : World → Prop := fun X => Below Z2.heap.size Z2 X
                    have hS0 : S Z2.drew := (Below.refl _ _).drew
                    have hS := hS0
                    have hSc : ∀ X, S X → X.cell? ⟨Bm, 13, none⟩ = some (.slice m.pA m.params.length m.pc) := fun X hX => (World.cell?_of_block (hX.block _ hBmZ)).trans x13
                    refine wp_region_till S 99 (by kernel_rfl) ?_
                    simp only [List.size_toArray, List.length_cons, List.length_nil, Nat.reduceAdd]
                    refine AnyTill.takeG (i := 0) (v := ?_) rfl (by kernel_rfl) (fun _ _ _ h => h) hS ?_ rfl ?_
                    rotate_left
                    · intro X hSX
                      skip
                      go_simp
                      all_goals with_reducible rfl
                    try simp only [Act.put, List.getElem_toArray, List.getElem_cons_succ, List.getElem_cons_zero, List.setIfInBounds_toArray, List.set_cons_zero, List.set_cons_succ]
                    refine AnyTill.takeG (i := 1) (v := ?_) rfl (by kernel_rfl) (fun _ _ _ h => h) hS ?_ rfl ?_
                    rotate_left
                    · intro X hSX
                      have hq := hSc X hSX
                      go_simp
                      all_goals with_reducible rfl
                    try simp only [Act.put, List.getElem_toArray, List.getElem_cons_succ, List.getElem_cons_zero, List.setIfInBounds_toArray, List.set_cons_zero, List.set_cons_succ]
                    refine AnyTill.takeG (i := 2) (v := ?_) rfl (by kernel_rfl) (fun _ _ _ h => h) hS ?_ rfl ?_
                    rotate_left
                    · intro X hSX
                      skip
                      go_simp
                      all_goals with_reducible rfl
                    try simp only [Act.put, List.getElem_toArray, List.getElem_cons_succ, List.getElem_cons_zero, List.setIfInBounds_toArray, List.set_cons_zero, List.set_cons_succ]
                    refine AnyTill.takeG (i := 3) (v := ?_) rfl (by kernel_rfl) (fun _ _ _ h => h) hS ?_ rfl ?_
                    rotate_left
                    · intro X hSX
                      skip
                      go_simp
                      all_goals with_reducible rfl
                    try simp only [Act.put, List.getElem_toArray, List.getElem_cons_succ, List.getElem_cons_zero, List.setIfInBounds_toArray, List.set_cons_zero, List.set_cons_succ]
                    refine AnyTill.twoK (i := 4) (j := 5) rfl rfl (by kernel_rfl) rfl rfl ?_ ?_
                    · intro K hK
                      go_simp
                      refine (HCv.out _ hS0).mono ?_
                      rintro _ _ ⟨x2, bp, Ap, Dp, cp, ALp, Rp, dp, rfl, rfl, g1⟩
                      have hS1 : S x2.val := hS0.trans (x2.below.mono hS0.size)
                      refine hK _ _ (fun _ => hS1) ?_
                      clear hK K
                      refine AnyTill.oneK (i := 5) rfl (by kernel_rfl) rfl ?_
                      intro K hK
                      go_simp
                      generalize hcs : (Obj.cells _ 73) = ob
                      obtain ⟨cs, hcs2, hcz⟩ : ∃ cs : Array Value, ob = .cells cs 73 (0, 0) ∧ cs.size = 4 := ⟨_, hcs.symm, rfl⟩
                      clear hcs
                      subst hcs2
                      have hcz9 := hide hcz
                      have hS3 : S (x2.val.alloc (Obj.cells cs 73 (0, 0))) := hS1.alloc hS1.size _
                      refine hK _ _ (fun _ => hS3) ?_
                      clear hK K
                      have hnew : Hid ((x2.val.alloc (Obj.cells cs 73 (0, 0))).heap[x2.val.heap.size]? = some (.cells cs 73 (0, 0))) := heap_alloc_new _ _
                      have hth : Hid ((x2.val.alloc (Obj.cells cs 73 (0, 0))).there x2.val.heap.size 0 4) := there_of_row hnew.out 0 _ (by omega)
                      have hSe : Hid (Below Z2.heap.size Z2 ((x2.val.alloc (Obj.cells cs 73 (0, 0))).setCells x2.val.heap.size 0 [.slice none 0 0, .slice Ap Dp.length cp, .slice ALp Rp.length dp, .bool bp])) := hS3.trans (setCells_below hS1.size _ _ _)
                      clear hcz
                      refine AnyTill.oneK (i := 6) rfl (by kernel_rfl) rfl ?_
                      intro K hK
                      refine wp_store_mid 73 (.tmp 12) (.tmp 67) rfl x2.val.heap.size 0 #[.slice none 0 0, .slice Ap Dp.length cp, .slice ALp Rp.length dp, .bool bp] rfl rfl hth.out (by kernel_rfl) (by kernel_rfl) ?_
                      refine hK _ _ (fun _ => hSe.out) ?_
                      clear hK K
                      refine AnyTill.done (by kernel_rfl) ?_ _
                      go_wp2_with fail
                      go_meet
                      case rel =>
                        obtain ⟨W0, hW0⟩ := Ext.of (hbZ2.out.trans (hSe.out.mono hbZ2.out.size))
                        refine ⟨W0, x2.val.heap.size, bp, Ap, Dp, cp, ALp, Rp, dp, rfl, hW0, ?_, hS1.size, fun q hq => ?_, ?_⟩
                        · show _ = _
                          rw [← hW0]
                          exact row_filled _ hnew.out hcz9.out
                        · rw [← hW0]
                          exact hSe.out.block q hq
                        · rw [← hW0]
                          refine GotIn.widen g1 (Nat.le_refl _) (by rw [setCells_size]; simp) fun q h1 h2 => ?_
                          rw [setCells_other _ _ _ _ _ (by omega)]
                          exact Below.heap_alloc _ _ _ h2
                    · intro K hK
                      go_simp
                      generalize hcs : (Obj.cells _ 73) = ob
                      obtain ⟨cs, hcs2, hcz⟩ : ∃ cs : Array Value, ob = .cells cs 73 (0, 0) ∧ cs.size = 4 := ⟨_, hcs.symm, rfl⟩
                      clear hcs
                      subst hcs2
                      have hcz9 := hide hcz
                      have hS3 : S (Z2.drew.alloc (Obj.cells cs 73 (0, 0))) := hS0.alloc hS0.size _
                      refine hK _ _ (fun _ => hS3) ?_
                      clear hK K
                      have hnew : Hid ((Z2.drew.alloc (Obj.cells cs 73 (0, 0))).heap[Z2.heap.size]? = some (.cells cs 73 (0, 0))) := heap_alloc_new Z2.drew _
                      have hsz9 : (Z2.drew.alloc (Obj.cells cs 73 (0, 0))).heap.size = Z2.heap.size + 1 := by simp
                      refine AnyTill.oneK (i := 4) rfl (by kernel_rfl) rfl ?_
                      intro K hK
                      go_simp
                      refine (HCv.out _ hS3).mono ?_
                      rintro _ _ ⟨x2, bp, Ap, Dp, cp, ALp, Rp, dp, rfl, rfl, g1⟩
                      have hS1 : S x2.val := hS3.trans (x2.below.mono hS3.size)
                      refine hK _ _ (fun _ => hS1) ?_
                      clear hK K
                      have hnew2 : Hid (x2.val.heap[Z2.heap.size]? = some (.cells cs 73 (0, 0))) := (x2.below.block _ (by omega)).trans hnew.out
                      have hth : Hid (x2.val.there Z2.heap.size 0 4) := there_of_row hnew2.out 0 _ (by omega)
                      have hSe : Hid (Below Z2.heap.size Z2 (x2.val.setCells Z2.heap.size 0 [.slice none 0 0, .slice Ap Dp.length cp, .slice ALp Rp.length dp, .bool bp])) := hS1.trans (setCells_below (Nat.le_refl _) _ _ _)
                      clear hcz
                      refine AnyTill.oneK (i := 6) rfl (by kernel_rfl) rfl ?_
                      intro K hK
                      refine wp_store_mid 73 (.tmp 12) (.tmp 67) rfl Z2.heap.size 0 #[.slice none 0 0, .slice Ap Dp.length cp, .slice ALp Rp.length dp, .bool bp] rfl rfl hth.out (by kernel_rfl) (by kernel_rfl) ?_
                      refine hK _ _ (fun _ => hSe.out) ?_
                      clear hK K
                      refine AnyTill.done (by kernel_rfl) ?_ _
                      go_wp2_with fail
                      go_meet
                      case rel =>
                        obtain ⟨W0, hW0⟩ := Ext.of (hbZ2.out.trans (hSe.out.mono hbZ2.out.size))
                        refine ⟨W0, Z2.heap.size, bp, Ap, Dp, cp, ALp, Rp, dp, rfl, hW0, ?_, Nat.le_refl _, fun q hq => ?_, ?_⟩
                        · show _ = _
                          rw [← hW0]
                          exact row_filled _ hnew2.out hcz9.out
                        · rw [← hW0]
                          exact hSe.out.block q hq
                        · rw [← hW0]
                          refine GotIn.widen g1 (by omega) (by rw [setCells_size]; exact Nat.le_refl _) fun q h1 h2 => ?_
                          rw [setCells_other _ _ _ _ _ (by omega)]
              case rest =>
                obtain ⟨W0, Ba, bp, Ap, Dp, cp, ALp, Rp, dp, rfl, rfl, hra, hBa, hsw0, hgp⟩ := hcut
                have hBmZ : Bm < Z2.heap.size := row_lt hrZ2.out
                have hBaW : Ba < W0.val.heap.size := row_lt hra.out
                have hZW : Z2.heap.size ≤ W0.val.heap.size := by have := hBa.out; omega
                have hzW : z.val.heap.size ≤ W0.val.heap.size := W0.below.size
                have hrm0 : Hid (W0.val.heap[Bm]? = some (.cells m1.cells.toArray 43 (0, 0))) := (hsw0.out _ hBmZ).trans hrZ2.out
                have hBW0 : Hid (Below w.heap.size w W0.val) := hBz.out.trans (W0.below.mono (by omega))
                obtain ⟨x14, g14⟩ := row_cell hrm0.out (j := 14) e14.out
                obtain ⟨ya2, ga2⟩ := row_cell hra.out (j := 2) rfl
                have hRp : Hid (Rp.length ≤ 1000000000 ∧ TysOk Rp) := ⟨Nat.le_trans hgp.out.rle hR1.out.1, fun u hu => hR1.out.2 u (hgp.out.sub u hu)⟩
                have HC2 : Hid (Calls Tryz.prog 18 #[.slice m.lA m.locals.length m.lc, .slice ALp Rp.length dp] W0.val (VsRes m.locals Rp w W0.val)) :=
                  vs_any w W0.val hBW0.out m.lA m.lc m.locals ALp dp Rp hMI.out.locals (by have := hMF.out; unfold Me.fw at this; omega) hgp.out.rlies hgp.out.rlen hRp.out.1
                go_upto_region 21 with (first | (go_at_call 18; refine HC2.out.mono ?_; rintro _ _ ⟨x3, bl, Al, Dl, cl3, ALl, Rl, dl, rfl, rfl, g1⟩; have hg1 := hide g1; clear g1) | (refine wpList_store_new rfl 73 (.tmp 13) (.tmp 72) rfl _ _ _ _ rfl rfl rfl (by kernel_rfl) rfl (fun u hu => by simp at hu; rcases hu with rfl | rfl | rfl | rfl <;> rfl) ?_))
                clear HC2 x14 g14 ya2 ga2
                obtain ⟨Bb, hBb⟩ : ∃ B, B = x3.val.heap.size := ⟨_, rfl⟩
                obtain ⟨W1, hW1⟩ : ∃ X, X = x3.val.alloc (.cells #[.slice none 0 0, .slice Al Dl.length cl3, .slice ALl Rl.length dl, .bool bl] 73) := ⟨_, rfl⟩
                have hrb : Hid (W1.heap[Bb]? = some (.cells [.slice none 0 0, .slice Al Dl.length cl3, .slice ALl Rl.length dl, .bool bl].toArray 73 (0, 0))) := by show _ = _; rw [hW1, hBb]; exact heap_alloc_new _ _
                have hbW1 : Hid (Below W0.val.heap.size W0.val W1) := by show Below _ _ _; rw [hW1]; exact x3.below.alloc x3.below.size _
                have hgl : Hid (GotIn 13 Va.cells (m.locals.length ≤ Rp.length) (fun D _ => D = setVs m.locals Rp) m.locals.length Rp bl Al Dl cl3 ALl Rl dl w W0.val.heap.size W1) := hg1.out.widen (Nat.le_refl _) (by rw [hW1]; simp) (fun q h1 h2 => by rw [hW1]; exact Below.heap_alloc _ _ _ (by omega))
                have hBbW : W0.val.heap.size ≤ Bb := by rw [hBb]; exact x3.below.size
                rw [← hW1, ← hBb]
                clear hW1 hBb hg1
                have hW1s : W0.val.heap.size ≤ W1.heap.size := hbW1.out.size
                have hrm1 : Hid (W1.heap[Bm]? = some (.cells m1.cells.toArray 43 (0, 0))) := (hbW1.out.block _ (by omega)).trans hrm0.out
                have hra1 : Hid (W1.heap[Ba]? = some (.cells [.slice none 0 0, .slice Ap Dp.length cp, .slice ALp Rp.length dp, .bool bp].toArray 73 (0, 0))) := (hbW1.out.block _ hBaW).trans hra.out
                have hBW1 : Hid (Below w.heap.size w W1) := hBW0.out.trans (hbW1.out.mono (by omega))
                obtain ⟨x15, g15⟩ := row_cell hrm1.out (j := 15) e15.out
                obtain ⟨yb2, gb2⟩ := row_cell hrb.out (j := 2) rfl
                have hRl : Hid (Rl.length ≤ 1000000000 ∧ TysOk Rl) := ⟨Nat.le_trans hgl.out.rle hRp.out.1, fun u hu => hRp.out.2 u (hgl.out.sub u hu)⟩
                have HC3 : Hid (Calls Tryz.prog 19 #[.slice m.bA m.body.length m.bc, .slice ALl Rl.length dl] W1 (SsRes m.body Rl w W1)) :=
                  ss_any m.body w W1 hBW1.out m.bA m.bc ALl dl Rl hMI.out.stmts hMI.out.body (by have := hMF.out; unfold Me.fw at this; omega) hgl.out.rlies hgl.out.rlen hRl.out.1 hRl.out.2
                go_upto_region 22 with (first | (go_at_call 19; refine HC3.out.mono ?_; rintro _ _ ⟨x4, bs, As, Ds, cs, ALs, Rs, ds, rfl, rfl, g1⟩; have hg1 := hide g1; clear g1) | (refine wpList_store_new rfl 73 (.tmp 14) (.tmp 77) rfl _ _ _ _ rfl rfl rfl (by kernel_rfl) rfl (fun u hu => by simp at hu; rcases hu with rfl | rfl | rfl | rfl <;> rfl) ?_))
                clear HC3 x15 g15 yb2 gb2
                obtain ⟨Bc, hBc⟩ : ∃ B, B = x4.val.heap.size := ⟨_, rfl⟩
                obtain ⟨W2, hW2⟩ : ∃ X, X = x4.val.alloc (.cells #[.slice As Ds.length cs, .slice none 0 0, .slice ALs Rs.length ds, .bool bs] 73) := ⟨_, rfl⟩
                have hrc : Hid (W2.heap[Bc]? = some (.cells [.slice As Ds.length cs, .slice none 0 0, .slice ALs Rs.length ds, .bool bs].toArray 73 (0, 0))) := by show _ = _; rw [hW2, hBc]; exact heap_alloc_new _ _
                have hbW2 : Hid (Below W1.heap.size W1 W2) := by show Below _ _ _; rw [hW2]; exact x4.below.alloc x4.below.size _
                have hgs : Hid (GotIn 23 St.cells (Fit (kdSts m.body) Rl) (SsGood m.body Rl) (nSts m.body) Rl bs As Ds cs ALs Rs ds w W1.heap.size W2) := hg1.out.widen (Nat.le_refl _) (by rw [hW2]; simp) (fun q h1 h2 => by rw [hW2]; exact Below.heap_alloc _ _ _ (by omega))
                have hBcW : W1.heap.size ≤ Bc := by rw [hBc]; exact x4.below.size
                have hBbl : Bb < W1.heap.size := row_lt hrb.out
                rw [← hW2, ← hBc]
                clear hW2 hBc hg1
                have hW2s : W1.heap.size ≤ W2.heap.size := hbW2.out.size
                have hrm2 : Hid (W2.heap[Bm]? = some (.cells m1.cells.toArray 43 (0, 0))) := (hbW2.out.block _ (by omega)).trans hrm1.out
                have hra2 : Hid (W2.heap[Ba]? = some (.cells [.slice none 0 0, .slice Ap Dp.length cp, .slice ALp Rp.length dp, .bool bp].toArray 73 (0, 0))) := (hbW2.out.block _ (by omega)).trans hra1.out
                have hrb2 : Hid (W2.heap[Bb]? = some (.cells [.slice none 0 0, .slice Al Dl.length cl3, .slice ALl Rl.length dl, .bool bl].toArray 73 (0, 0))) := (hbW2.out.block _ hBbl).trans hrb.out
                have hBW2 : Hid (Below w.heap.size w W2) := hBW1.out.trans (hbW2.out.mono (by omega))
                obtain ⟨ya3, ga3⟩ := row_cell hra2.out (j := 3) rfl
                obtain ⟨yb3, gb3⟩ := row_cell hrb2.out (j := 3) rfl
                obtain ⟨yc3, gc3⟩ := row_cell hrc.out (j := 3) rfl
                cases bp with
                | false =>
                  as_aux_lemma =>
                    have HN9 := hide (HNO3.out fun hf => by have := hgp.out.fit.2 ((Fit_me m R').1 hf).2.1; cases this)
                    go_wp2_with fail
                    obtain ⟨zz, hz⟩ := Ext.of hBW2.out
                    go_ret2
                    unfold RSetRes
                    exact ⟨zz, hz, .inr ⟨HN9.out, rfl⟩⟩
                | true =>
                have hfp := hide (hgp.out.fit.1 rfl)
                have hrp := hide (hgp.out.rest rfl)
                cases bl with
                | false =>
                  as_aux_lemma =>
                    have HN9 := hide (HNO3.out fun hf => by have h := ((Fit_me m R').1 hf).2.2.1; rw [← hrp.out] at h; have := hgl.out.fit.2 h; cases this)
                    go_wp2_with fail
                    obtain ⟨zz, hz⟩ := Ext.of hBW2.out
                    go_ret2
                    unfold RSetRes
                    exact ⟨zz, hz, .inr ⟨HN9.out, rfl⟩⟩
                | true =>
                have hfl := hide (hgl.out.fit.1 rfl)
                have hrl := hide (hgl.out.rest rfl)
                cases bs with
                | false =>
                  as_aux_lemma =>
                    have HN9 := hide (HNO3.out fun hf => by have h := ((Fit_me m R').1 hf).2.2.2; rw [← hrp.out, ← hrl.out] at h; have := hgs.out.fit.2 h; cases this)
                    go_wp2_with fail
                    obtain ⟨zz, hz⟩ := Ext.of hBW2.out
                    go_ret2
                    unfold RSetRes
                    exact ⟨zz, hz, .inr ⟨HN9.out, rfl⟩⟩
                | true =>
                have hfs := hide (hgs.out.fit.1 rfl)
                have hrs := hide (hgs.out.rest rfl)
                go_upto_region 24 with fail
                clear ya3 ga3 yb3 gb3 yc3 gc3
                obtain ⟨ya1, ga1⟩ := row_cell hra2.out (j := 1) rfl
                obtain ⟨x13, g13⟩ := row_cell hrm2.out (j := 13) e13.out
                obtain ⟨m2, hm2⟩ : ∃ m2, m2 = ({ m1 with pA := Ap, pc := cp, params := Dp } : Me) := ⟨_, rfl⟩
                obtain ⟨V1, hV1⟩ : ∃ V, V = W2.setCell ⟨Bm, 13, none⟩ (.slice Ap Dp.length cp) := ⟨_, rfl⟩
                have hrV1 : Hid (V1.heap[Bm]? = some (.cells m2.cells.toArray 43 (0, 0))) := by show _ = _; rw [hV1, hm2]; exact me_box_params m1 Ap cp Dp hrm2.out
                have hoV1 : Hid (∀ q, q ≠ Bm → V1.heap[q]? = W2.heap[q]?) := fun q hq => by rw [hV1]; exact Go.heap_setCell_other W2 ⟨Bm, 13, none⟩ q _ hq
                have hsV1 : Hid (V1.heap.size = W2.heap.size) := by show _ = _; rw [hV1]; simp
                have e14b : Hid (m2.cells[14]? = some (.slice m.lA m.locals.length m.lc)) := by show _ = _; rw [hm2]; exact e14.out
                have e15b : Hid (m2.cells[15]? = some (.slice m.bA m.body.length m.bc)) := by show _ = _; rw [hm2]; exact e15.out
                have hbzW : Hid (Below z.val.heap.size z.val W2) := (W0.below.trans (hbW1.out.mono hzW)).trans (hbW2.out.mono (by omega))
                have hbV1 : Hid (Below z.val.heap.size z.val V1) := by show Below _ _ _; rw [hV1]; exact hbzW.out.setCell (p := ⟨Bm, 13, none⟩) hBmz _
                have hrbV : Hid (V1.heap[Bb]? = some (.cells [.slice none 0 0, .slice Al Dl.length cl3, .slice ALl Rl.length dl, .bool true].toArray 73 (0, 0))) := (hoV1.out _ (by omega)).trans hrb2.out
                have hrcV : Hid (V1.heap[Bc]? = some (.cells [.slice As Ds.length cs, .slice none 0 0, .slice ALs Rs.length ds, .bool true].toArray 73 (0, 0))) := (hoV1.out _ (by omega)).trans hrc.out
                have HV1 := hide hV1
                have HM2 := hide hm2
                clear hV1 hm2
                go_upto_region 25 with fail
                rw [← HV1.out]
                clear ya1 ga1 x13 g13 HV1 hra2 hrb2 hrc hrm2
                obtain ⟨yb1, gb1⟩ := row_cell hrbV.out (j := 1) rfl
                obtain ⟨x14, g14⟩ := row_cell hrV1.out (j := 14) e14b.out
                obtain ⟨m3, hm3⟩ : ∃ m3, m3 = ({ m2 with lA := Al, lc := cl3, locals := Dl } : Me) := ⟨_, rfl⟩
                obtain ⟨V2, hV2⟩ : ∃ V, V = V1.setCell ⟨Bm, 14, none⟩ (.slice Al Dl.length cl3) := ⟨_, rfl⟩
                have hrV2 : Hid (V2.heap[Bm]? = some (.cells m3.cells.toArray 43 (0, 0))) := by show _ = _; rw [hV2, hm3]; exact me_box_locals m2 Al cl3 Dl hrV1.out
                have hoV2 : Hid (∀ q, q ≠ Bm → V2.heap[q]? = W2.heap[q]?) := fun q hq => (by rw [hV2]; exact Go.heap_setCell_other V1 ⟨Bm, 14, none⟩ q _ hq : V2.heap[q]? = V1.heap[q]?).trans (hoV1.out q hq)
                have hsV2 : Hid (V2.heap.size = W2.heap.size) := by show _ = _; rw [hV2, ← hsV1.out]; simp
                have e15c : Hid (m3.cells[15]? = some (.slice m.bA m.body.length m.bc)) := by show _ = _; rw [hm3]; exact e15b.out
                have hbV2 : Hid (Below z.val.heap.size z.val V2) := by show Below _ _ _; rw [hV2]; exact hbV1.out.setCell (p := ⟨Bm, 14, none⟩) hBmz _
                have hrcV2 : Hid (V2.heap[Bc]? = some (.cells [.slice As Ds.length cs, .slice none 0 0, .slice ALs Rs.length ds, .bool true].toArray 73 (0, 0))) := (hoV2.out _ (by omega)).trans ((hoV1.out _ (by omega)).symm.trans hrcV.out)
                have HV2 := hide hV2
                have HM3 := hide hm3
                clear hV2 hm3
                go_upto_region 26 with fail
                rw [← HV2.out]
                clear yb1 gb1 x14 g14 HV2 hrbV hrcV hrV1 hbV1
                obtain ⟨yc0, gc0⟩ := row_cell hrcV2.out (j := 0) rfl
                obtain ⟨x15, g15⟩ := row_cell hrV2.out (j := 15) e15c.out
                obtain ⟨m4, hm4⟩ : ∃ m4, m4 = ({ m3 with bA := As, bc := cs, body := Ds } : Me) := ⟨_, rfl⟩
                obtain ⟨V3, hV3⟩ : ∃ V, V = V2.setCell ⟨Bm, 15, none⟩ (.slice As Ds.length cs) := ⟨_, rfl⟩
                have hrV3 : Hid (V3.heap[Bm]? = some (.cells m4.cells.toArray 43 (0, 0))) := by show _ = _; rw [hV3, hm4]; exact me_box_body m3 As cs Ds hrV2.out
                have hoV3 : Hid (∀ q, q ≠ Bm → V3.heap[q]? = W2.heap[q]?) := fun q hq => (by rw [hV3]; exact Go.heap_setCell_other V2 ⟨Bm, 15, none⟩ q _ hq : V3.heap[q]? = V2.heap[q]?).trans (hoV2.out q hq)
                have hsV3 : Hid (V3.heap.size = W2.heap.size) := by show _ = _; rw [hV3, ← hsV2.out]; simp
                have hbV3 : Hid (Below z.val.heap.size z.val V3) := by show Below _ _ _; rw [hV3]; exact hbV2.out.setCell (p := ⟨Bm, 15, none⟩) hBmz _
                have hrcV3 : Hid (V3.heap[Bc]? = some (.cells [.slice As Ds.length cs, .slice none 0 0, .slice ALs Rs.length ds, .bool true].toArray 73 (0, 0))) := (hoV3.out _ (by omega)).trans ((hoV2.out _ (by omega)).symm.trans hrcV2.out)
                have HV3 := hide hV3
                have HM4 := hide hm4
                clear hV3 hm4
                go_upto_region 27 with fail
                rw [← HV3.out]
                clear yc0 gc0 x15 g15 HV3 hrcV2 hrV2 hbV2
                obtain ⟨yc2, gc2⟩ := row_cell hrcV3.out (j := 2) rfl
                have hrx3 : Hid (V3.heap[Bx]? = some (.cells ({ cl1 with mA := AM, mc := cM, methods := DM } : Cl).cells.toArray 35 (0, 0))) := (hbV3.out.block _ hBxz).trans hrow.out
                obtain ⟨x5, g5⟩ := row_cell hrx3.out (j := 5) (u := .slice AM DM.length cM) rfl
                have hoV : Hid (Grow.Own V3 x.val.heap.size 43 17 Me.cells (.slice AM DM.length cM) DM) := Own.keep (A := z.val) hownM.out fun g hg => hbV3.out.block _ (hownM.out.from_ g hg).2
                have hbx3 : Hid (Below x.val.heap.size x.val V3) := z.below.trans (hbV3.out.mono hzx)
                have hDl : Hid (DM.length ≤ 1048576) := by
                  have h1 := congrArg List.length hms.out.st
                  rw [List.length_map, List.length_map, setMes_len] at h1
                  show _ ≤ _
                  rw [h1]
                  rw [List.length_take]; omega
                have hs1 : Hid (DM.length + [m4].length ≤ maxLen ∧ (DM.length + [m4].length) * 200 ≤ 140737488355328) := by
                  have := hDl.out
                  show _ ∧ _
                  simp only [List.length_cons, List.length_nil]
                  unfold maxLen
                  omega
                obtain ⟨E, hE⟩ : ∃ E, E = DM ++ [m4] := ⟨_, rfl⟩
                have HE := hide hE
                clear hE
                have hBxV : Bx < V3.heap.size := row_lt hrx3.out
                go_upto_region 14 with (first | (refine wpList_load_row rfl 43 (.tmp 11) rfl Bm rfl 43 m4.cells.toArray (0, 0) _ hrV3.out Tryz.underlying43 rfl (by rw [List.size_toArray, Me.cells_len]; kernel_rfl) ?_) | (refine wpList_lit_one rfl 33 43 (.tmp 104) rfl m4.cells.toArray rfl i1 z1 17 Tryz.underlying33 hi1 hy0 hy1 (by rw [List.size_toArray, Me.cells_len]) (by decide) (by decide) ?_) | (at_builtin; refine wpList_append_list (w1 := x.val) _ rfl (.tmp 103) (.tmp 105) 33 rfl 43 i1 z1 17 200 Tryz.underlying33 hi1 hy0 hy1 hy2 hys (by decide) Me.cells_len Me.cells_one (hbx3.out.alloc hbx3.out.size _) _ DM rfl (hoV.out.alloc _) _ 1 1 [m4] rfl rfl (Lies.one _ _ _ rfl) hs1.out.1 hs1.out.2 ?_; intro v' y hown' hgr hat; rw [← HE.out] at hown'; obtain ⟨AM', cM', hv', q1, q2, q3⟩ := hown'.lies Me.cells_len; subst hv'; have hry : Hid (y.val.heap[Bx]? = some (.cells ({ cl1 with mA := AM, mc := cM, methods := DM } : Cl).cells.toArray 35 (0, 0))) := (hgr.block Bx (by rw [World.size_alloc]; omega) (Go.Proofs.Grow.own_ne hoV.out hrx3.out (by decide))).trans ((Below.heap_alloc _ _ _ hBxV).trans hrx3.out); obtain ⟨x5, g5⟩ := row_cell hry.out (j := 5) (u := .slice AM DM.length cM) rfl; clear q1 q2 q3))
                obtain ⟨zF, hzF⟩ : ∃ Y, Y = y.val.setCell ⟨Bx, 5, none⟩ (.slice AM' E.length cM') := ⟨_, rfl⟩
                have hrF : Hid (zF.heap[Bx]? = some (.cells ({ cl1 with mA := AM', mc := cM', methods := E } : Cl).cells.toArray 35 (0, 0))) := by show _ = _; rw [hzF]; exact cl_box_methods { cl1 with mA := AM, mc := cM, methods := DM } AM' cM' E hry.out
                have hoF : Hid (∀ q, q ≠ Bx → zF.heap[q]? = y.val.heap[q]?) := fun q hq => by rw [hzF]; exact Go.heap_setCell_other y.val ⟨Bx, 5, none⟩ q _ hq
                have hsF : Hid (zF.heap.size = y.val.heap.size) := by show _ = _; rw [hzF]; simp
                have hbF : Hid (Below x.val.heap.size x.val zF) := by show Below _ _ _; rw [hzF]; exact y.below.setCell (p := ⟨Bx, 5, none⟩) (by rw [hBx9.out]; exact Nat.le_refl _) _
                have HF := hide hzF
                have hsy : V3.heap.size ≤ y.val.heap.size := by have := hgr.size; rw [World.size_alloc] at this; omega
                have hK1 : Hid (∀ q, q < V3.heap.size → (Value.slice AM DM.length cM).ownBlock ≠ some q → q ≠ Bx → zF.heap[q]? = V3.heap[q]?) := fun q hq hne hnb => (hoF.out q hnb).trans ((hgr.block q (by rw [World.size_alloc]; omega) (fun h => hne h.symm)).trans (Below.heap_alloc _ _ _ hq))
                have hO2 : Hid (Grow.Own y.val x.val.heap.size 43 17 Me.cells (.slice AM' E.length cM') E) := hown'
                have hat9 : Hid ((Value.slice AM' E.length cM').ownBlock = (Value.slice AM DM.length cM).ownBlock ∨ (Value.slice AM' E.length cM').ownBlock = some (V3.heap.size + 1)) := by
                  rcases hat with h | h
                  · exact .inl h
                  · exact .inr (by rw [h, World.size_alloc])
                have HNEW : Hid (MsSt w (fun q => Y2.heap.size ≤ q ∧ (Value.slice AM' E.length cM').ownBlock ≠ some q) M R3 (j + 1) E ALs Rs ds zF) := by
                  as_aux_lemma =>
                    have hbm9 : Bm = z.val.heap.size := hBm9.out
                    have e1 := hbV3.out.size
                    have e2 : V3.heap.size = W2.heap.size := hsV3.out
                    have e3 : Z2.heap.size = Bm + 1 := hZ2s.out
                    have e4 : zF.heap.size = y.val.heap.size := hsF.out
                    have hDp : Dp = setVs m.params (R'.drop 1) := hgp.out.good rfl W0.val (Keep.refl hBW0.out)
                    have hDl2 : Dl = setVs m.locals Rp := hgl.out.good rfl W1 (Keep.refl hBW1.out)
                    have hgd := hgs.out.good rfl
                    have hDs : stSts Ds = stSts (setSts m.body Rl) := (hgd W2 (Keep.refl hBW2.out)).1
                    have hm4 : m4 = { m with ret := t, pA := Ap, pc := cp, params := Dp, lA := Al, lc := cl3, locals := Dl, bA := As, bc := cs, body := Ds } := by rw [HM4.out, HM3.out, HM2.out, HM1.out]
                    have hpn : ∀ q, z.val.heap.size ≤ q → q < V3.heap.size → (Value.slice AM' E.length cM').ownBlock ≠ some q := fun q h1 h2 h => by
                      rcases hat9.out with h' | h'
                      · have := hownM.out.from_ q (h'.symm.trans h)
                        omega
                      · rw [h'] at h
                        have := Option.some.inj h
                        omega
                    have hou : ∀ q, z.val.heap.size ≤ q → (Value.slice AM DM.length cM).ownBlock ≠ some q := fun q h1 h => by
                      have := (hownM.out.from_ q h).2
                      omega
                    refine { fit := ?_, st := ?_, ins := ?_, rest := ?_, cap := hgs.out.rlen, lies := hgs.out.rlies }
                    · refine HF2.out.2 ⟨hms.out.fit, ?_⟩
                      rw [← hms.out.rest]
                      exact (Fit_me m R').2 ⟨h0, hfp.out, by rw [← hrp.out]; exact hfl.out, by rw [← hrp.out, ← hrl.out]; exact hfs.out⟩
                    · rw [HE.out, HS2.out, List.map_append, List.map_append, hms.out.st, ← hms.out.rest, hm4, hDp, hDl2, hrp.out]
                      congr 1
                      rw [List.map_cons, List.map_nil, List.map_cons, List.map_nil]
                      rw [stMe_re m R' (t := t) (by rw [HTt.out]; exact List.getElem?_eq_getElem h0) (by rw [← hrp.out, ← hrl.out]; exact hDs)]
                    · intro Y hK d hd
                      rw [HE.out] at hd
                      rcases List.mem_append.1 hd with hd | hd
                      · refine hms.out.ins Y (hK.narrow (by omega) fun q h1 h2 => ⟨⟨h1.1, ?_⟩, ?_⟩) d hd
                        · intro h
                          rcases hat9.out with h' | h'
                          · exact h1.2 (h'.symm.trans h)
                          · rw [h'] at h
                            have := Option.some.inj h
                            omega
                        · exact (hK1.out q (by omega) h1.2 (by omega)).trans (hbV3.out.block q h2)
                      · have hd' := List.mem_singleton.1 hd
                        have hk0 : ∀ q, Z2.heap.size ≤ q → q < W2.heap.size → zF.heap[q]? = W2.heap[q]? := fun q h1 h2 => (hK1.out q (by omega) (hou q (by omega)) (by omega)).trans (hoV3.out q (by omega))
                        have hKp : Keep w (fun q => Z2.heap.size ≤ q) W0.val Y := hK.narrow (by omega) fun q h1 h2 => ⟨⟨by omega, hpn q (by omega) (by omega)⟩, (hk0 q h1 (by omega)).trans ((hbW2.out.block q (by omega)).trans (hbW1.out.block q h2))⟩
                        have hKl : Keep w (fun q => W0.val.heap.size ≤ q) W1 Y := hK.narrow (by omega) fun q h1 h2 => ⟨⟨by omega, hpn q (by omega) (by omega)⟩, (hk0 q (by omega) (by omega)).trans (hbW2.out.block q h2)⟩
                        have hKs : Keep w (fun q => W1.heap.size ≤ q) W2 Y := hK.narrow (by omega) fun q h1 h2 => ⟨⟨by omega, hpn q (by omega) (by omega)⟩, hk0 q (by omega) h2⟩
                        rw [hd', hm4]
                        exact ⟨hgp.out.lies Y hKp, hgp.out.len, hgp.out.cap, hgl.out.lies Y hKl, hgl.out.len, hgl.out.cap, hgs.out.lies Y hKs, hgs.out.len, hgs.out.cap, (hgd Y hKs).2⟩
                    · rw [hrs.out, hrl.out, hrp.out, hms.out.rest, HN2.out, List.drop_drop, List.drop_drop, List.drop_drop, List.drop_drop]
                      unfold nMe
                      congr 1 <;> omega
                have HOWN : Hid (Grow.Own zF x.val.heap.size 43 17 Me.cells (.slice AM' E.length cM') E) := by
                  refine Own.keep (A := y.val) hO2.out fun g hg => hoF.out g fun e => ?_
                  have h1 := Go.Proofs.Grow.own_ne hO2.out hry.out (by decide)
                  rw [hg, e] at h1
                  exact h1 rfl
                have HOG : Hid (∀ g, (Value.slice AM' E.length cM').ownBlock = some g → Y2.heap.size ≤ g) := fun g hg => by
                  rcases hat9.out with h | h
                  · exact hog.out g (h.symm.trans hg)
                  · rw [h] at hg
                    have := Option.some.inj hg
                    have := hbV3.out.size
                    omega
                have HSM : Hid (∀ q, q < Y2.heap.size → q ≠ Bx → zF.heap[q]? = Y2.heap[q]?) := fun q h1 h2 => by
                  have h3 := hbV3.out.size
                  refine (hK1.out q (by omega) (fun h => ?_) h2).trans ((hbV3.out.block q (by omega)).trans (hsm.out q h1 h2))
                  have := hog.out q h
                  omega
                have hYF : Y2.heap.size ≤ zF.heap.size := by rw [hsF.out]; have h3 := hbV3.out.size; omega
                obtain ⟨z', hz'⟩ := Ext.of hbF.out
                have HZ' := hide hz'
                clear hzF hz' hgr hat hown' x5 g5
                go_wp2_with fail
                rw [← HF.out, HZ'.out]
                rw [HZ'.out] at HNEW HOWN HSM hrF hYF
                go_roundw
                case rel => exact ⟨j + 1, z', E, ALs, Rs, ds, AM', cM', by first | rw [HJW.out] | rfl, Nat.succ_le_of_lt hltj9.out, rfl, rfl, HNEW, hrF, HOWN, HOG, HSM, hYF⟩
                case measure =>
                  first
                    | (rw [HJW.out, intOf_int, intOf_int, Int.toNat_natCast, Int.toNat_natCast]; exact step_lt hltj9.out)
                    | (rw [intOf_int, intOf_int]; have := hltj9.out; omega)
            · have hn0 : (R'.length : Int) = 0 := by omega
              have hn1 : ((R'.length : Int) == 0) = true := by simp; exact List.length_eq_zero_iff.1 (by omega)
              as_aux_lemma =>
                have HN9 := hide (HNO3.out fun hf => h0 ((Fit_me m R').1 hf).1)
                go_wp2_with fail
                obtain ⟨zz, hz⟩ := Ext.of hBZ1.out
                go_ret2
                unfold RSetRes
                exact ⟨zz, hz, .inr ⟨HN9.out, rfl⟩⟩
          · obtain rfl : j = M.length := Nat.le_antisymm hj (Nat.le_of_not_lt hltj)
            have hltj' : ¬ (M.length : Int) < (M.length : Int) := by omega
            obtain ⟨cl2, hcl2⟩ : ∃ cl2 : Cl, cl2 = { cl1 with mA := AM, mc := cM, methods := DM } := ⟨_, rfl⟩
            rw [← hcl2] at hrow
            have HCL2 := hide hcl2
            clear hcl2
            have hoZ : Hid (Grow.Own z.val w.heap.size 35 7 Cl.cells u6 D) := Own.keep (A := x.val) hown.out fun g hg => z.below.block _ (hown.out.from_ g hg).2
            have hDl : Hid (D.length ≤ 1048576) := by
              have h1 := congrArg List.length hss.out.st
              rw [List.length_map, List.length_map, setCls_len] at h1
              show _ ≤ _
              rw [h1, List.length_take]
              omega
            have hs1 : Hid (D.length + [cl2].length ≤ maxLen ∧ (D.length + [cl2].length) * 136 ≤ 140737488355328) := by
              have := hDl.out
              show _ ∧ _
              simp only [List.length_cons, List.length_nil]
              unfold maxLen
              omega
            go_upto_region 4 with (first | (refine wpList_load_row rfl 35 (.tmp 8) rfl Bx rfl 35 cl2.cells.toArray (0, 0) _ hrow.out Tryz.underlying35 rfl (by rw [List.size_toArray, Cl.cells_len]; kernel_rfl) ?_) | (refine wpList_lit_one rfl 22 35 (.tmp 109) rfl cl2.cells.toArray rfl i0 z0 7 Tryz.underlying22 hi0 hz0 hz1 (by rw [List.size_toArray, Cl.cells_len]) (by decide) (by decide) ?_) | (at_builtin; refine wpList_append_list (w1 := w) _ rfl (.tmp 108) (.tmp 110) 22 rfl 35 i0 z0 7 136 Tryz.underlying22 hi0 hz0 hz1 hz2 hzs (by decide) Cl.cells_len Cl.cells_one (hBz.out.alloc hBz.out.size _) _ D rfl (hoZ.out.alloc _) _ 1 1 [cl2] rfl rfl (Lies.one _ _ _ rfl) hs1.out.1 hs1.out.2 ?_; intro v' y hown' hgr hat))
            have hO2 : Hid (Grow.Own y.val w.heap.size 35 7 Cl.cells v' (D ++ [cl2])) := hown'
            have hat9 : Hid (v'.ownBlock = u6.ownBlock ∨ v'.ownBlock = some z.val.heap.size.succ) := by
              rcases hat with h | h
              · exact .inl h
              · exact .inr (by rw [h, World.size_alloc])
            have hsy : z.val.heap.size ≤ y.val.heap.size := by have := hgr.size; rw [World.size_alloc] at this; omega
            have hkeep : Hid (∀ q, q < z.val.heap.size → u6.ownBlock ≠ some q → y.val.heap[q]? = z.val.heap[q]?) := fun q hq hne => (hgr.block q (by rw [World.size_alloc]; omega) (fun h => hne h.symm)).trans (Below.heap_alloc _ _ _ hq)
            have HNEW : Hid (CsSt w (fun q => w.heap.size ≤ q ∧ v'.ownBlock ≠ some q) C L (k + 1) (D ++ [cl2]) B' R' cR' y.val) := by
              as_aux_lemma =>
                have hbx9 : Bx = x.val.heap.size := hBx9.out
                have hcl2 : cl2 = { cl with fA := A3, fc := c3, fields := D3, mA := AM, mc := cM, methods := DM } := by rw [HCL2.out, HCL1.out]
                have hpn : ∀ q, x.val.heap.size ≤ q → q < z.val.heap.size → v'.ownBlock ≠ some q := fun q h1 h2 h => by
                  rcases hat9.out with h' | h'
                  · have := hown.out.from_ q (h'.symm.trans h)
                    omega
                  · rw [h'] at h
                    have := Option.some.inj h
                    omega
                have hou : ∀ q, x.val.heap.size ≤ q → u6.ownBlock ≠ some q := fun q h1 h => by
                  have := (hown.out.from_ q h).2
                  omega
                have hmf := hms.out.fit
                have hmst := hms.out.st
                have hmr := hms.out.rest
                rw [List.take_length] at hmf hmst hmr
                obtain ⟨q1, q2⟩ : DM.length ≤ cM ∧ cM ≤ maxLen := by
                  obtain ⟨A9, c9, he, q1, q2, _⟩ := hownM.out.lies Me.cells_len
                  cases he
                  exact ⟨q1, q2⟩
                refine { fit := ?_, st := ?_, ins := ?_, rest := ?_, cap := hms.out.cap, lies := hms.out.lies }
                · refine HF1.out.2 ⟨hss.out.fit, ?_⟩
                  rw [← hss.out.rest]
                  exact (Fit_cl cl R).2 ⟨hfitf.out, by rw [← hrestf.out, ← HM.out]; exact hmf⟩
                · rw [HS1.out, List.map_append, List.map_append, hss.out.st, ← hss.out.rest, hcl2, hD3.out]
                  congr 1
                  rw [List.map_cons, List.map_nil, List.map_cons, List.map_nil]
                  rw [stCl_re cl R (by rw [← hrestf.out, ← HM.out]; exact hmst)]
                · intro Y hK d hd
                  rcases List.mem_append.1 hd with hd | hd
                  · refine hss.out.ins Y (hK.narrow (by omega) fun q h1 h2 => ⟨⟨h1.1, ?_⟩, ?_⟩) d hd
                    · intro h
                      rcases hat9.out with h' | h'
                      · exact h1.2 (h'.symm.trans h)
                      · rw [h'] at h
                        have := Option.some.inj h
                        omega
                    · exact (hkeep.out q (by omega) h1.2).trans (z.below.block q h2)
                  · have hd' := List.mem_singleton.1 hd
                    have hK1 : Keep w (fun q => Z.heap.size ≤ q) X3 Y := hK.narrow (by omega) fun q h1 h2 => ⟨⟨by omega, hpn q (by omega) (by omega)⟩, (hkeep.out q (by omega) (hou q (by omega))).trans ((hsm.out q (by omega) (by omega)).trans (hoY2.out q (by omega)))⟩
                    have hKM : Keep w (fun q => Y2.heap.size ≤ q ∧ (Value.slice AM DM.length cM).ownBlock ≠ some q) z.val Y := hK.narrow (by omega) fun q h1 h2 => ⟨⟨by omega, hpn q (by omega) h2⟩, hkeep.out q h2 (hou q (by omega))⟩
                    have hKo : Keep w (fun q => x.val.heap.size ≤ q) z.val Y := hK.narrow (by omega) fun q h1 h2 => ⟨⟨by omega, hpn q h1 h2⟩, hkeep.out q h2 (hou q h1)⟩
                    obtain ⟨u, hu⟩ := Ext.of hK.base
                    have hIY : ClIn Y cl := by rw [hu]; exact hIn.out.ext u
                    rw [hd', hcl2]
                    exact ⟨hIY.params, hIY.pc, hIY.pm, hIY.above, hIY.ac, hIY.am, hgf.out.lies Y hK1, hgf.out.len, hgf.out.cap, hownM.out.keepK Me.cells_len hKo, q1, q2, hms.out.ins Y hKM⟩
                · rw [hmr, hrestf.out, hss.out.rest, HN1.out, List.drop_drop, List.drop_drop]
                  unfold nCl
                  rw [← HM.out]
                  try (congr 1 <;> omega)
            clear hgr hat hown'
            go_wp2_with fail
            go_roundw
            case rel => exact ⟨k + 1, y, D ++ [cl2], B', R', cR', by first | rw [HKW.out] | rfl, Nat.succ_le_of_lt hlt9.out, rfl, rfl, HNEW, hO2⟩
            case measure =>
              first
                | (rw [HKW.out, intOf_int, intOf_int, Int.toNat_natCast, Int.toNat_natCast]; exact Nat.sub_lt_sub_left hlt9.out (Nat.lt_succ_self k))
                | (rw [intOf_int, intOf_int]; have := hlt9.out; omega)
    · obtain rfl : k = C.length := Nat.le_antisymm hk (Nat.le_of_not_lt hlt)
      have hlt' : ¬ (C.length : Int) < (C.length : Int) := by omega
      have hft := hss.out.fit
      have hst := hss.out.st
      have hrs := hss.out.rest
      rw [List.take_length] at hft hst hrs
      have hge := Fit_len _ _ hft
      rw [kdCls_len] at hge
      have hrl : R.length = L.length - nCls C := by rw [hrs, List.length_drop]
      have HFT := hide hft
      have HST := hide hst
      have HGE := hide hge
      have HRL := hide hrl
      clear hft hst hrs hge hrl
      by_cases h0 : 0 < R.length
      · have h0' : (0 : Int) < (R.length : Int) := by omega
        go_wp2_with fail
        go_ret2
        unfold RSetRes
        exact ⟨x, rfl, .inr ⟨fun h => by have h1 := h.1; have h2 := HRL.out; omega, rfl⟩⟩
      · have h0' : ¬ (0 : Int) < (R.length : Int) := by omega
        obtain ⟨A', c', hu, g1, g2, g3⟩ := hown.out.lies Cl.cells_len
        subst hu
        have G3 := hide g3
        clear g3
        go_wp2_with fail
        go_ret2
        unfold RSetRes
        refine ⟨x, rfl, .inl ⟨⟨by have h2 := HRL.out; have h3 := HGE.out; omega, HFT.out⟩, D, A', c', rfl, HST.out, g1, g2, G3.out, hss.out.ins x.val ⟨hBx0.out, fun _ _ _ => rfl⟩⟩⟩
end Go.Proofs.YtmpdmelkbemabaaGreat
