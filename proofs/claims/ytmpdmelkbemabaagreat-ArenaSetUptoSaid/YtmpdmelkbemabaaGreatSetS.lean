/- The walk of demesneref12.stmts: statements with other types. -/
import Derived.Test.YtmpdmelkbemabaaGreatSetV
set_option linter.unusedSimpArgs false
set_option linter.unusedVariables false
namespace Go.Proofs.Grow
open Go.RowKit
/-- A statement with another type, and other statements inside. -/
def St.re (s : St) (t : Ty) (bA : Option Addr) (bc : Nat) (body : List St) (eA : Option Addr) (ec : Nat) (els : List St) : St :=
  match s with | .mk k x y name _ e aA ac args _ _ _ _ _ _ pos => .mk k x y name t e aA ac args bA bc body eA ec els pos
theorem St.re_self (s : St) : s.re s.ty s.bA s.bc s.body s.eA s.ec s.els = s := by cases s; rfl
section
variable {W : World} {g : Nat} {tt : TypeId}
theorem st_box_ty (s : St) (t : Ty) (h : W.heap[g]? = some (.cells s.cells.toArray tt (0, 0))) : (W.setCells g 4 t.cells).heap[g]? = some (.cells (s.re t s.bA s.bc s.body s.eA s.ec s.els).cells.toArray tt (0, 0)) := by
  obtain ⟨cur', h1, h2⟩ := setCells_row g tt t.cells 4 W _ h (by rw [Ty.cells_len]; simp [St.cells_len])
  have e : cur' = (s.re t s.bA s.bc s.body s.eA s.ec s.els).cells.toArray := by
    apply Array.toList_inj.1
    rw [h2, Ty.cells_len]
    obtain ⟨k, x, y, name, ty, ⟨ek, en, ename, eA', ec', kids⟩, aA, ac, args, bA, bc, body, eA, ec, els, pos⟩ := s
    rfl
  rw [e] at h1
  exact h1
theorem st_box_body (s : St) (t : Ty) (bA : Option Addr) (bc : Nat) (body : List St) (eA : Option Addr) (ec : Nat) (els : List St) (A : Option Addr) (c : Nat) (D : List St) (h : W.heap[g]? = some (.cells (s.re t bA bc body eA ec els).cells.toArray tt (0, 0))) :
    (W.setCell ⟨g, 20, none⟩ (.slice A D.length c)).heap[g]? = some (.cells (s.re t A c D eA ec els).cells.toArray tt (0, 0)) := by
  rw [row_store h 20 _]
  obtain ⟨k, x, y, name, ty, ⟨ek, en, ename, eA', ec', kids⟩, aA, ac, args, bA', bc', body', eA'', ec'', els', pos⟩ := s
  rfl
theorem st_box_els (s : St) (t : Ty) (bA : Option Addr) (bc : Nat) (body : List St) (eA : Option Addr) (ec : Nat) (els : List St) (A : Option Addr) (c : Nat) (D : List St) (h : W.heap[g]? = some (.cells (s.re t bA bc body eA ec els).cells.toArray tt (0, 0))) :
    (W.setCell ⟨g, 21, none⟩ (.slice A D.length c)).heap[g]? = some (.cells (s.re t bA bc body A c D).cells.toArray tt (0, 0)) := by
  rw [row_store h 21 _]
  obtain ⟨k, x, y, name, ty, ⟨ek, en, ename, eA', ec', kids⟩, aA, ac, args, bA', bc', body', eA'', ec'', els', pos⟩ := s
  rfl
end
theorem St.re_at20 (s : St) (t : Ty) (bA : Option Addr) (bc : Nat) (body : List St) (eA : Option Addr) (ec : Nat) (els : List St) : (s.re t bA bc body eA ec els).cells[20]? = some (.slice bA body.length bc) := by
  obtain ⟨k, x, y, name, ty, ⟨ek, en, ename, eA', ec', kids⟩, aA, ac, args, bA', bc', body', eA'', ec'', els', pos⟩ := s
  rfl
theorem St.re_at21 (s : St) (t : Ty) (bA : Option Addr) (bc : Nat) (body : List St) (eA : Option Addr) (ec : Nat) (els : List St) : (s.re t bA bc body eA ec els).cells[21]? = some (.slice eA els.length ec) := by
  obtain ⟨k, x, y, name, ty, ⟨ek, en, ename, eA', ec', kids⟩, aA, ac, args, bA', bc', body', eA'', ec'', els', pos⟩ := s
  rfl
theorem StIn.re {W : World} {s : St} (h : StIn W s) {t : Ty} (ht : t.cls.size ≤ maxLen) {bA : Option Addr} {bc : Nat} {body : List St} {eA : Option Addr} {ec : Nat} {els : List St}
    (hb : Lies W 23 St.cells bA body) (hbc : body.length ≤ bc) (hbm : bc ≤ maxLen) (hbi : ∀ s ∈ body, StIn W s) (hl : Lies W 23 St.cells eA els) (hlc : els.length ≤ ec) (hlm : ec ≤ maxLen) (hli : ∀ s ∈ els, StIn W s) : StIn W (s.re t bA bc body eA ec els) := by
  cases h with
  | mk he ha hac ham hai hb' hbc' hbm' hbi' hl' hlc' hlm' hli' hs => exact .mk he ha hac ham hai hb hbc hbm hbi hl hlc hlm hli ⟨hs.1, hs.2.1, hs.2.2.1, ht⟩
theorem kdSt_eq (s : St) : kdSt s = (if s.ty.k == 2 then [true] else []) ++ (kdSts s.body ++ kdSts s.els) := by cases s; rw [kdSt]; rfl
theorem nSt_eq (s : St) : nSt s = (if s.ty.k == 2 then 1 else 0) + (nSts s.body + nSts s.els) := by cases s; rw [nSt]; rfl
theorem fw_eq (s : St) : stFw s.body + stFw s.els < s.fw := by cases s; rw [St.fw]; simp only [St.body, St.els]; omega
theorem kdSts_append : ∀ (p q : List St), kdSts (p ++ q) = kdSts p ++ kdSts q
  | [], q => by rw [List.nil_append, kdSts]; rfl
  | s :: p, q => by rw [List.cons_append, kdSts, kdSts, kdSts_append p q, List.append_assoc]
theorem nSts_append (p q : List St) : nSts (p ++ q) = nSts p + nSts q := by rw [← kdSts_len, kdSts_append, List.length_append, kdSts_len, kdSts_len]
theorem setSts_append : ∀ (p q : List St) (L : List Ty), setSts (p ++ q) L = setSts p L ++ setSts q (L.drop (nSts p))
  | [], q, L => by rw [List.nil_append, setSts, nSts]; rfl
  | s :: p, q, L => by rw [List.cons_append, setSts, setSts, setSts_append p q, List.drop_drop, nSts, List.cons_append]
theorem kdSts_take (l : List St) (k : Nat) (h : k < l.length) : kdSts (l.take (k + 1)) = kdSts (l.take k) ++ kdSt l[k] := by
  rw [List.take_succ_eq_append_getElem h, kdSts_append, kdSts, kdSts, List.append_nil]
theorem nSts_take (l : List St) (k : Nat) (h : k < l.length) : nSts (l.take (k + 1)) = nSts (l.take k) + nSt l[k] := by
  rw [List.take_succ_eq_append_getElem h, nSts_append, nSts, nSts, Nat.add_zero]
theorem setSts_take (l : List St) (L : List Ty) (k : Nat) (h : k < l.length) : setSts (l.take (k + 1)) L = setSts (l.take k) L ++ [setSt l[k] (L.drop (nSts (l.take k)))] := by
  rw [List.take_succ_eq_append_getElem h, setSts_append, setSts, setSts]
theorem Fit_take (l : List St) (L : List Ty) (k : Nat) (h : k < l.length) : Fit (kdSts (l.take (k + 1))) L ↔ Fit (kdSts (l.take k)) L ∧ Fit (kdSt l[k]) (L.drop (nSts (l.take k))) := by
  rw [kdSts_take l k h, Fit_append, kdSts_len]
theorem Fit_upto (l : List St) (L : List Ty) (k : Nat) (h : Fit (kdSts l) L) : Fit (kdSts (l.take k)) L := by
  rw [← List.take_append_drop k l, kdSts_append, Fit_append] at h
  exact h.1
/-- What of one statement is taken off the types: its own (none or one). -/
def n1 (s : St) : Nat := if s.ty.k == 2 then 1 else 0
theorem Fit_one (s : St) (R : List Ty) : Fit (kdSt s) R ↔ ((s.ty.k == 2) = true → ∃ h : 0 < R.length, R[0].k = 2) ∧ Fit (kdSts s.body) (R.drop (n1 s)) ∧ Fit (kdSts s.els) ((R.drop (n1 s)).drop (nSts s.body)) := by
  rw [kdSt_eq, Fit_append, Fit_append, kdSts_len]
  unfold n1
  by_cases h : (s.ty.k == 2) = true
  · rw [if_pos h, if_pos h]
    cases R with
    | nil => simp [Fit, h]
    | cons t R => simp [Fit, h]
  · rw [if_neg h, if_neg h]
    simp [Fit, h]
/-- The type that a statement gets. -/
def ty1 (s : St) (R : List Ty) : Ty := if s.ty.k == 2 then pick s.ty true R else s.ty
theorem stSt_re (s : St) (R : List Ty) {bA : Option Addr} {bc : Nat} {body : List St} {eA : Option Addr} {ec : Nat} {els : List St} (hb : stSts body = stSts (setSts s.body (R.drop (n1 s)))) (he : stSts els = stSts (setSts s.els ((R.drop (n1 s)).drop (nSts s.body)))) :
    stSt (s.re (ty1 s R) bA bc body eA ec els) = stSt (setSt s R) := by
  obtain ⟨k, x, y, name, ty, e, aA, ac, args, bA', bc', body', eA'', ec'', els', pos⟩ := s
  rw [List.drop_drop] at he
  rw [setSt, stSt]
  show stSt (St.mk k x y name (ty1 _ R) e aA ac args bA bc body eA ec els pos) = _
  rw [stSt]
  have hb' : stSts body = stSts (setSts body' (R.drop (if ty.k == 2 then 1 else 0))) := hb
  have he' : stSts els = stSts (setSts els' (R.drop ((if ty.k == 2 then 1 else 0) + nSts body'))) := he
  rw [hb', he']
  rfl
end Go.Proofs.Grow
namespace Go.Proofs.YtmpdmelkbemabaaGreat
open Go.RowKit Go.Proofs.Grow
theorem infoStS : (Tryz.prog.info? 50).map (fun i => (i.zero.map (·.cells.size), i.size, i.bytes)) = some (some 23, 23, 288) := by kernel_rfl

def SsGood (l : List St) (L : List Ty) (D : List St) (W : World) : Prop := stSts D = stSts (setSts l L) ∧ ∀ s ∈ D, StIn W s
/-- What demesneref12.stmts gives. -/
def SsRes (l : List St) (L : List Ty) (w0 w : World) (e : Ending) (w' : World) : Prop :=
  ∃ (x : Ext w) (b : Bool) (A : Option Addr) (D : List St) (c : Nat) (AL : Option Addr) (R : List Ty) (cL : Nat), w' = x.val ∧ e = .returned (.agg #[.slice A D.length c, .slice none 0 0, .slice AL R.length cL, .bool b]) ∧
    GotIn 23 St.cells (Fit (kdSts l) L) (SsGood l L) (nSts l) L b A D c AL R cL w0 w.heap.size x.val
def SsOk (l : List St) : Prop := ∀ (w0 w : World) (_ : Below w0.heap.size w0 w) (A : Option Addr) (c : Nat) (AL : Option Addr) (cL : Nat) (L : List Ty), (∀ s ∈ l, StIn w0 s) → Lies w0 23 St.cells A l → stFw l ≤ 1048576 → Lies w0 11 Ty.cells AL L → L.length ≤ cL → L.length ≤ 1000000000 → TysOk L →
    Calls Tryz.prog 19 #[.slice A l.length c, .slice AL L.length cL] w (SsRes l L w0 w)

/-- Between two rounds. -/
structure SsSt (w0 : World) (P : Nat → Prop) (l : List St) (L : List Ty) (k : Nat) (D : List St) (B : Option Addr) (R : List Ty) (cR : Nat) (X : World) : Prop where
  fit : Fit (kdSts (l.take k)) L
  st : stSts D = stSts (setSts (l.take k) L)
  ins : ∀ Y, Keep w0 P X Y → ∀ s ∈ D, StIn Y s
  rest : R = L.drop (nSts (l.take k))
  cap : R.length ≤ cR
  lies : Lies w0 11 Ty.cells B R
/-- Behind a statement's own type. -/
structure SsMid (e : St) (R : List Ty) (B2 : Option Addr) (R2 : List Ty) (c2 : Nat) (w0 : World) : Prop where
  fit : (e.ty.k == 2) = true → ∃ h : 0 < R.length, R[0].k = 2
  rest : R2 = R.drop (n1 e)
  cap : R2.length ≤ c2
  lies : Lies w0 11 Ty.cells B2 R2

set_option maxHeartbeats 8000000 in
set_option maxRecDepth 100000 in
theorem ss_step (l : List St) (ihb : ∀ s ∈ l, SsOk s.body) (ihe : ∀ s ∈ l, SsOk s.els) : SsOk l := by
  intro w0 w hbw A c AL cL L hin hl hfw hL hLc hLn hT
  obtain ⟨i0, z0, hi0, hz0, hz1, hz2, hzs⟩ := info_row infoStS
  have HI := hide hin
  have HBW := hide hbw
  have HL := hide (hl.below hbw)
  have HT := hide hL
  have HTY := hide hT
  have HFW := hide hfw
  have IHB := hide ihb
  have IHE := hide ihe
  have hlen : l.length ≤ 1048576 := Nat.le_trans (stFw_len l) hfw
  have hbs := hbw.size
  clear hin hl hL hT hfw ihb ihe hbw
  go_enter Tryz.func19, Tryz.ntmps19
  go_wp2_with fail
  obtain ⟨w1, hw1⟩ : ∃ w1, w1 = w.alloc (.cells noGot.toArray 73) := ⟨_, rfl⟩
  have hsz1 : w1.heap.size = w.heap.size + 1 := by rw [hw1]; simp
  have hba : Hid (w1.heap[w.heap.size]? = some (.cells noGot.toArray 73 (0, 0))) := by rw [hw1]; exact heap_alloc_new w _
  have hB1 : Hid (Below w.heap.size w w1) := by show Below _ _ _; rw [hw1]; exact (Below.refl _ _).alloc (Nat.le_refl _) _
  change Code.wp _ _ _ _ (w.alloc (.cells noGot.toArray 73))
  rw [← hw1]
  clear hw1
  go_loopw [1, 5, 6] (fun u v i wr => ∃ (k : Nat) (x : Ext w1) (D : List St) (B : Option Addr) (R : List Ty) (cR : Nat), i = .int .i64 k ∧ k ≤ l.length ∧ wr = x.val ∧ u = .slice B R.length cR ∧ Hid (SsSt w0 (fun j => w1.heap.size ≤ j ∧ v.ownBlock ≠ some j) l L k D B R cR x.val) ∧ Hid (Grow.Own x.val w1.heap.size 50 23 St.cells v D)) (fun _ _ i _ => l.length - (intOf i).toNat)
  case atStart => exact ⟨0, Ext.here w1, [], AL, L, cL, rfl, Nat.zero_le _, rfl, rfl, { fit := by rw [List.take_zero, kdSts]; trivial, st := by rw [List.take_zero, setSts], ins := fun _ _ s hs => absurd hs List.not_mem_nil, rest := by rw [List.take_zero, nSts]; rfl, cap := hLc, lies := HT.out }, (show Grow.Own _ _ _ _ _ _ _ from Own.nil)⟩
  case round =>
    obtain ⟨k, x, D, B, R, cR, rfl, hk, rfl, rfl, hss, hown⟩ := hrel
    have hrx : Hid (x.val.heap[w.heap.size]? = some (.cells noGot.toArray 73 (0, 0))) := (x.below.block _ (by omega)).trans hba.out
    have hBx0 : Hid (Below w.heap.size w x.val) := hB1.out.trans (x.below.mono (by omega))
    have hxs : w1.heap.size ≤ x.val.heap.size := x.below.size
    by_cases hlt : k < l.length
    · have hlt' : (k : Int) < (l.length : Int) := by omega
      obtain ⟨b, off, hA, hb, hcell⟩ := HL.out k hlt
      have hmem := List.getElem_mem hlt
      have HF1 := hide (Fit_take l L k hlt)
      have HN1 := hide (nSts_take l k hlt)
      have HS1 := hide (setSts_take l L k hlt)
      obtain ⟨e, he⟩ : ∃ e, e = l[k] := ⟨_, rfl⟩
      rw [← he] at hcell hmem HF1 HN1 HS1
      have hIn := hide (HI.out e hmem)
      have IHb := hide (IHB.out e hmem)
      have IHe := hide (IHE.out e hmem)
      have HFWe : Hid (stFw e.body ≤ 1048576 ∧ stFw e.els ≤ 1048576) := by
        have h1 := stFw_has hmem
        have h2 := HFW.out
        have h3 := fw_eq e
        show _ ∧ _
        omega
      have hrg : Hid (x.val.rangeAt b (off + k * 23) e.cells) := fun j u h => (World.cell?_of_block (hBx0.out.block _ hb)).trans (hcell j u h)
      have hlt9 := hide hlt
      have HKW : Hid (wrap64 ((k : Int) + 1) = ((k + 1 : Nat) : Int)) := by
        show wrap64 _ = _
        unfold wrap64
        omega
      have hb1 : b < w1.heap.size := by omega
      subst hA
      have hw0 : w.heap.size < w1.heap.size := by omega
      clear hcell he hmem hlt
      go_upto_region 6 with (first | (refine wpList_load_mid rfl 50 (.tmp 18) rfl b (off + k * 23) rfl e.cells _ hrg.out Tryz.underlying50 rfl (by rw [St.cells_len]; kernel_rfl) ?_) | (refine wpList_store_new rfl 50 (.tmp 7) (.tmp 19) rfl _ _ _ _ rfl rfl rfl (by rw [List.size_toArray, St.cells_len]; kernel_rfl) (by simp [St.cells_len]) (fun u hu => St.cells_one e u (by simpa using hu)) ?_))
      obtain ⟨Bx, hBx⟩ : ∃ B, B = x.val.heap.size := ⟨_, rfl⟩
      obtain ⟨Z, hZ⟩ : ∃ Z, Z = x.val.alloc (.cells e.cells.toArray 50) := ⟨_, rfl⟩
      have hrZ : Hid (Z.heap[Bx]? = some (.cells e.cells.toArray 50 (0, 0))) := by show _ = _; rw [hZ, hBx]; exact heap_alloc_new _ _
      have hbZ : Hid (Below x.val.heap.size x.val Z) := by show Below _ _ _; rw [hZ]; exact (Below.refl _ _).alloc (Nat.le_refl _) _
      have hZs : x.val.heap.size ≤ Z.heap.size := hbZ.out.size
      obtain ⟨c4, f4⟩ := row_cell hrZ.out (j := 4) e.at4
      rw [← hZ, ← hBx]
      have hBx9 := hide hBx
      clear hZ hBx hrg
      have HNO : Hid (¬ Fit (kdSt e) R → ¬ Fit (kdSts l) L) := fun hn hf => hn (by
        have h := (HF1.out.1 (Fit_upto l L (k + 1) hf)).2
        rw [hss.out.rest]; exact h)
      have hrw : Hid (Z.heap[w.heap.size]? = some (.cells noGot.toArray 73 (0, 0))) := (hbZ.out.block _ (by omega)).trans hrx.out
      have hBw : Hid (Below w.heap.size w Z) := hBx0.out.trans (hbZ.out.mono (by omega))
      have hth : Hid (Z.there w.heap.size 0 4) := there_of_row hrw.out 0 _ (by decide)
      go_upto_if 23 with fail
      go_cut [1] (fun u W => ∃ (z : Ext x.val) (B2 : Option Addr) (R2 : List Ty) (c2 : Nat), u = .slice B2 R2.length c2 ∧ W = z.val ∧ Hid (z.val.heap[Bx]? = some (.cells (e.re (ty1 e R) e.bA e.bc e.body e.eA e.ec e.els).cells.toArray 50 (0, 0))) ∧ Hid (SsMid e R B2 R2 c2 w0))
      case first =>
        by_cases hk2 : e.ty.k = 2
        · have hkb : (e.ty.k == 2) = true := beq_iff_eq.2 hk2
          by_cases h0 : 0 < R.length
          · obtain ⟨b2, off2, hB, hb2, hc2⟩ := hss.out.lies 0 h0
            obtain ⟨t, ht⟩ : ∃ t, t = R[0] := ⟨_, rfl⟩
            rw [← ht] at hc2
            have hrt : Hid (Z.rangeAt b2 off2 t.cells) := fun j u h => (World.cell?_of_block ((HBW.out.trans (hBw.out.mono hbs)).block _ hb2)).trans (by have := hc2 j u h; rwa [Nat.zero_mul, Nat.add_zero] at this)
            have q0 : Z.cell? ⟨b2, off2, none⟩ = some (.int .i64 t.k) := by have := hrt.out 0 _ rfl; rwa [Nat.add_zero] at this
            have hn0 : ¬ (R.length : Int) = 0 := by omega
            have hn1 : ((R.length : Int) == 0) = false := by simp; intro h; rw [h] at h0; simp at h0
            have HTt := hide ht
            have HT0 : Hid ((R.drop 1).length = R.length - 1) := by show _ = _; rw [List.length_drop]
            have hcu := hss.out.lies.cut (k := 1) (c := cR) (by omega) hss.out.cap
            subst hB
            clear hc2 ht
            by_cases ht2 : t.k = 2
            · have htb : (t.k != 2) = false := by simp [ht2]
              have HTe : Hid (ty1 e R = t) := by
                show _ = _
                have h2 := HTt.out
                unfold ty1
                rw [if_pos hkb]
                cases R with
                | nil => simp at h0
                | cons u R =>
                  have h3 : t = u := by simpa using h2
                  rw [← h3]
                  simp [pick, ht2]
              obtain ⟨Y, hY⟩ : ∃ Y, Y = Z.setCells Bx 4 t.cells.toArray.toList := ⟨_, rfl⟩
              have htx : Hid (Z.there Bx 4 t.cells.toArray.size) := there_of_row hrZ.out 4 _ (by rw [List.size_toArray, Ty.cells_len, List.size_toArray, St.cells_len]; decide)
              have hrY : Hid (Y.heap[Bx]? = some (.cells (e.re (ty1 e R) e.bA e.bc e.body e.eA e.ec e.els).cells.toArray 50 (0, 0))) := by show _ = _; rw [hY, HTe.out]; exact st_box_ty e t hrZ.out
              have hbY : Hid (Below x.val.heap.size x.val Y) := by show Below _ _ _; rw [hY]; exact hbZ.out.trans (setCells_below (by rw [hBx9.out]; exact Nat.le_refl _) _ _ _)
              have HY := hide hY
              clear hY
              go_upto_region 10 with (first | (refine wpList_load_mid rfl 40 (.tmp 36) rfl b2 off2 rfl t.cells _ hrt.out Tryz.underlying40 rfl (by rw [Ty.cells_len]; kernel_rfl) ?_) | (refine wpList_store_mid rfl 40 (.tmp 38) (.tmp 37) rfl Bx 4 t.cells.toArray rfl rfl htx.out (by rw [List.size_toArray, Ty.cells_len]; kernel_rfl) (all_oneCell_toArray (Ty.cells_one t)) ?_; rw [← HY.out]))
              by_cases hc1 : cR = 1
              · rw [if_pos hc1] at hcu
                have HCU := hide hcu
                clear hcu
                go_wp2_with fail
                go_meet
                case rel =>
                  obtain ⟨zY, hzY⟩ := Ext.of hbY.out
                  refine ⟨zY, some ⟨b2, off2, none⟩, R.drop 1, 0, by rw [HT0.out], hzY, by rw [← hzY]; exact hrY.out, ?_⟩
                  exact { fit := fun _ => ⟨h0, by rw [← HTt.out]; exact ht2⟩, rest := by unfold n1; rw [if_pos hkb], cap := by rw [HT0.out]; have := hss.out.cap; omega, lies := HCU.out }
              · rw [if_neg hc1] at hcu
                have HCU := hide hcu
                clear hcu
                go_wp2_with fail
                go_meet
                case rel =>
                  obtain ⟨zY, hzY⟩ := Ext.of hbY.out
                  refine ⟨zY, some ⟨b2, off2 + 11, none⟩, R.drop 1, cR - 1, by rw [HT0.out], hzY, by rw [← hzY]; exact hrY.out, ?_⟩
                  exact { fit := fun _ => ⟨h0, by rw [← HTt.out]; exact ht2⟩, rest := by unfold n1; rw [if_pos hkb], cap := by rw [HT0.out]; have := hss.out.cap; omega, lies := HCU.out }
            · have htb : (t.k != 2) = true := by simp [ht2]
              have HN9 : Hid (¬ Fit (kdSts l) L) := HNO.out fun hf => by
                obtain ⟨_, h2⟩ := ((Fit_one e R).1 hf).1 hkb
                exact ht2 (by rw [HTt.out]; exact h2)
              go_wp2_with (refine wpList_store_mid rfl 73 (.tmp 4) (.tmp 34) rfl w.heap.size 0 noGot.toArray rfl rfl hth.out (by kernel_rfl) (by kernel_rfl) ?_)
              have hrow := row_filled noGot hrw.out rfl
              refine bodyPost_ret (v := .agg noGot.toArray) (results_cell_row (p := 4) (ty := 73) Tryz.results19 _ _ w.heap.size 73 _ (0, 0) _ rfl hrow Tryz.underlying73 rfl (by kernel_rfl)) rfl ?_
              obtain ⟨z, hz⟩ := Ext.of (hBw.out.trans (setCells_below (Nat.le_refl w.heap.size) noGot 0 Z))
              unfold SsRes
              exact ⟨z, false, none, [], 0, none, [], 0, hz, rfl, GotIn.no HN9.out⟩
          · have hn0 : (R.length : Int) = 0 := by omega
            have hn1 : ((R.length : Int) == 0) = true := by simp; exact List.length_eq_zero_iff.1 (by omega)
            have HN9 : Hid (¬ Fit (kdSts l) L) := HNO.out fun hf => by
              obtain ⟨h2, _⟩ := ((Fit_one e R).1 hf).1 hkb
              exact h0 h2
            go_wp2_with (refine wpList_store_mid rfl 73 (.tmp 4) (.tmp 34) rfl w.heap.size 0 noGot.toArray rfl rfl hth.out (by kernel_rfl) (by kernel_rfl) ?_)
            have hrow := row_filled noGot hrw.out rfl
            refine bodyPost_ret (v := .agg noGot.toArray) (results_cell_row (p := 4) (ty := 73) Tryz.results19 _ _ w.heap.size 73 _ (0, 0) _ rfl hrow Tryz.underlying73 rfl (by kernel_rfl)) rfl ?_
            obtain ⟨z, hz⟩ := Ext.of (hBw.out.trans (setCells_below (Nat.le_refl w.heap.size) noGot 0 Z))
            unfold SsRes
            exact ⟨z, false, none, [], 0, none, [], 0, hz, rfl, GotIn.no HN9.out⟩
        · have hkb : (e.ty.k == 2) = false := by simp [hk2]
          go_wp2_with fail
          go_meet
          case rel =>
            obtain ⟨zY, hzY⟩ := Ext.of hbZ.out
            refine ⟨zY, B, R, cR, rfl, hzY, ?_, ?_⟩
            · show _ = _
              rw [← hzY]
              have e1 : ty1 e R = e.ty := by unfold ty1; rw [hkb]; rfl
              rw [e1, St.re_self]
              exact hrZ.out
            · exact { fit := fun h => absurd h (by simp [hk2]), rest := by unfold n1; rw [hkb]; rfl, cap := hss.out.cap, lies := hss.out.lies }
      case rest =>
        obtain ⟨z, B2, R2, c2, rfl, rfl, hrow, hmid⟩ := hcut
        clear c4 f4 hth hrw hBw hrZ hbZ
        have hzx : x.val.heap.size ≤ z.val.heap.size := z.below.size
        have hBz : Hid (Below w.heap.size w z.val) := hBx0.out.trans (z.below.mono (by omega))
        have hBz0 : Hid (Below w0.heap.size w0 z.val) := HBW.out.trans (hBz.out.mono hbs)
        have hrz : Hid (z.val.heap[w.heap.size]? = some (.cells noGot.toArray 73 (0, 0))) := (z.below.block _ (by omega)).trans hrx.out
        have hBz1 : Bx < z.val.heap.size := row_lt hrow.out
        obtain ⟨c20, f20⟩ := row_cell hrow.out (j := 20) (St.re_at20 ..)
        have hR2 : Hid (R2.length ≤ 1000000000 ∧ TysOk R2) := by
          show _ ∧ _
          rw [hmid.out.rest, hss.out.rest]
          refine ⟨by rw [List.length_drop, List.length_drop]; omega, fun u hu => HTY.out u (List.mem_of_mem_drop (List.mem_of_mem_drop hu))⟩
        have HC1 : Hid (Calls Tryz.prog 19 #[.slice e.bA e.body.length e.bc, .slice B2 R2.length c2] z.val (SsRes e.body R2 w0 z.val)) :=
          IHb.out w0 z.val hBz0.out e.bA e.bc B2 c2 R2 hIn.out.body.1 hIn.out.body.2.1 HFWe.out.1 hmid.out.lies hmid.out.cap hR2.out.1 hR2.out.2
        go_upto_region 12 with (first | (go_at_call 19; refine HC1.out.mono ?_; rintro _ _ ⟨x2, b1, A3, D3, c3, AL3, R3, d3, rfl, rfl, g1⟩; have hg1 := hide g1; clear g1) | (refine wpList_store_new rfl 73 (.tmp 8) (.tmp 44) rfl _ _ _ _ rfl rfl rfl (by kernel_rfl) rfl (fun u hu => by simp at hu; rcases hu with rfl | rfl | rfl | rfl <;> rfl) ?_))
        clear HC1 c20 f20
        obtain ⟨B8, hB8⟩ : ∃ B, B = x2.val.heap.size := ⟨_, rfl⟩
        obtain ⟨X3, hX3⟩ : ∃ X, X = x2.val.alloc (.cells #[.slice A3 D3.length c3, .slice none 0 0, .slice AL3 R3.length d3, .bool b1] 73) := ⟨_, rfl⟩
        have hr8 : Hid (X3.heap[B8]? = some (.cells [.slice A3 D3.length c3, .slice none 0 0, .slice AL3 R3.length d3, .bool b1].toArray 73 (0, 0))) := by show _ = _; rw [hX3, hB8]; exact heap_alloc_new _ _
        have hb3 : Hid (Below z.val.heap.size z.val X3) := by show Below _ _ _; rw [hX3]; exact x2.below.alloc x2.below.size _
        have hs3 : X3.heap.size = B8 + 1 := by rw [hX3, hB8]; simp
        have hx2s : z.val.heap.size ≤ B8 := by rw [hB8]; exact x2.below.size
        have hsame2 : Hid (∀ j, j < B8 → X3.heap[j]? = x2.val.heap[j]?) := fun j hj => by rw [hX3]; exact Below.heap_alloc _ _ _ (by omega)
        have hB89 := hide hB8
        rw [← hX3, ← hB8]
        clear hX3 hB8
        have hrow3 : Hid (X3.heap[Bx]? = some (.cells (e.re (ty1 e R) e.bA e.bc e.body e.eA e.ec e.els).cells.toArray 50 (0, 0))) := (hb3.out.block _ hBz1).trans hrow.out
        have hrz3 : Hid (X3.heap[w.heap.size]? = some (.cells noGot.toArray 73 (0, 0))) := (hb3.out.block _ (by omega)).trans hrz.out
        have hBX3 : Hid (Below w.heap.size w X3) := hBz.out.trans (hb3.out.mono (by omega))
        have hth3 : Hid (X3.there w.heap.size 0 4) := there_of_row hrz3.out 0 _ (by decide)
        obtain ⟨c83, f83⟩ := row_cell hr8.out (j := 3) rfl
        cases b1 with
        | false =>
          as_aux_lemma =>
                have HN9 : Hid (¬ Fit (kdSts l) L) := HNO.out fun hf => by have h := ((Fit_one e R).1 hf).2.1; rw [← hmid.out.rest] at h; have := hg1.out.fit.2 h; cases this
                go_wp2_with (refine wpList_store_mid rfl 73 (.tmp 4) (.tmp 48) rfl w.heap.size 0 noGot.toArray rfl rfl hth3.out (by kernel_rfl) (by kernel_rfl) ?_)
                have hrow := row_filled noGot hrz3.out rfl
                refine bodyPost_ret (v := .agg noGot.toArray) (results_cell_row (p := 4) (ty := 73) Tryz.results19 _ _ w.heap.size 73 _ (0, 0) _ rfl hrow Tryz.underlying73 rfl (by kernel_rfl)) rfl ?_
                obtain ⟨z, hz⟩ := Ext.of (hBX3.out.trans (setCells_below (Nat.le_refl w.heap.size) noGot 0 X3))
                unfold SsRes
                exact ⟨z, false, none, [], 0, none, [], 0, hz, rfl, GotIn.no HN9.out⟩
        | true =>
          obtain ⟨c82, f82⟩ := row_cell hr8.out (j := 2) rfl
          obtain ⟨c80, f80⟩ := row_cell hr8.out (j := 0) rfl
          obtain ⟨c21, f21⟩ := row_cell hrow3.out (j := 21) (St.re_at21 ..)
          have hR3 : Hid (R3.length ≤ 1000000000 ∧ TysOk R3) := ⟨Nat.le_trans hg1.out.rle hR2.out.1, fun u hu => hR2.out.2 u (hg1.out.sub u hu)⟩
          have hBX0 : Hid (Below w0.heap.size w0 X3) := HBW.out.trans (hBX3.out.mono hbs)
          have HC2 : Hid (Calls Tryz.prog 19 #[.slice e.eA e.els.length e.ec, .slice AL3 R3.length d3] X3 (SsRes e.els R3 w0 X3)) :=
            IHe.out w0 X3 hBX0.out e.eA e.ec AL3 d3 R3 hIn.out.els.1 hIn.out.els.2.1 HFWe.out.2 hg1.out.rlies hg1.out.rlen hR3.out.1 hR3.out.2
          have hB8l : B8 < X3.heap.size := by omega
          have hBx3 : Bx < X3.heap.size := by omega
          go_upto_region 15 with (first | (go_at_call 19; refine HC2.out.mono ?_; rintro _ _ ⟨x4, b2, A5, D5, c5, AL5, R5, d5, rfl, rfl, g1⟩; have hg2 := hide g1; clear g1) | (refine wpList_store_new rfl 73 (.tmp 9) (.tmp 53) rfl _ _ _ _ rfl rfl rfl (by kernel_rfl) rfl (fun u hu => by simp at hu; rcases hu with rfl | rfl | rfl | rfl <;> rfl) ?_))
          clear HC2 c21 f21 c80 f80 c82 f82 c83 f83
          obtain ⟨B9, hB9⟩ : ∃ B, B = x4.val.heap.size := ⟨_, rfl⟩
          obtain ⟨X5, hX5⟩ : ∃ X, X = x4.val.alloc (.cells #[.slice A5 D5.length c5, .slice none 0 0, .slice AL5 R5.length d5, .bool b2] 73) := ⟨_, rfl⟩
          have hr9 : Hid (X5.heap[B9]? = some (.cells [.slice A5 D5.length c5, .slice none 0 0, .slice AL5 R5.length d5, .bool b2].toArray 73 (0, 0))) := by show _ = _; rw [hX5, hB9]; exact heap_alloc_new _ _
          have hb5 : Hid (Below X3.heap.size X3 X5) := by show Below _ _ _; rw [hX5]; exact x4.below.alloc x4.below.size _
          have hs5 : X5.heap.size = B9 + 1 := by rw [hX5, hB9]; simp
          have hx4s : X3.heap.size ≤ B9 := by rw [hB9]; exact x4.below.size
          have hsame4 : Hid (∀ j, j < B9 → X5.heap[j]? = x4.val.heap[j]?) := fun j hj => by rw [hX5]; exact Below.heap_alloc _ _ _ (by omega)
          have hB99 := hide hB9
          rw [← hX5, ← hB9]
          clear hX5 hB9
          have hrow5 : Hid (X5.heap[Bx]? = some (.cells (e.re (ty1 e R) e.bA e.bc e.body e.eA e.ec e.els).cells.toArray 50 (0, 0))) := (hb5.out.block _ hBx3).trans hrow3.out
          have hr85 : Hid (X5.heap[B8]? = some (.cells [.slice A3 D3.length c3, .slice none 0 0, .slice AL3 R3.length d3, .bool true].toArray 73 (0, 0))) := (hb5.out.block _ hB8l).trans hr8.out
          have hrz5 : Hid (X5.heap[w.heap.size]? = some (.cells noGot.toArray 73 (0, 0))) := (hb5.out.block _ (by omega)).trans hrz3.out
          have hBX5 : Hid (Below w.heap.size w X5) := hBX3.out.trans (hb5.out.mono (by omega))
          have hth5 : Hid (X5.there w.heap.size 0 4) := there_of_row hrz5.out 0 _ (by decide)
          obtain ⟨c93, f93⟩ := row_cell hr9.out (j := 3) rfl
          have hfit1 := hide (hg1.out.fit.1 rfl)
          have hrest1 := hide (hg1.out.rest rfl)
          have hgood1 := hide (hg1.out.good rfl)
          cases b2 with
          | false =>
            as_aux_lemma =>
                have HN9 : Hid (¬ Fit (kdSts l) L) := HNO.out fun hf => by have h := ((Fit_one e R).1 hf).2.2; rw [← hmid.out.rest, ← hrest1.out] at h; have := hg2.out.fit.2 h; cases this
                go_wp2_with (refine wpList_store_mid rfl 73 (.tmp 4) (.tmp 57) rfl w.heap.size 0 noGot.toArray rfl rfl hth5.out (by kernel_rfl) (by kernel_rfl) ?_)
                have hrow := row_filled noGot hrz5.out rfl
                refine bodyPost_ret (v := .agg noGot.toArray) (results_cell_row (p := 4) (ty := 73) Tryz.results19 _ _ w.heap.size 73 _ (0, 0) _ rfl hrow Tryz.underlying73 rfl (by kernel_rfl)) rfl ?_
                obtain ⟨z, hz⟩ := Ext.of (hBX5.out.trans (setCells_below (Nat.le_refl w.heap.size) noGot 0 X5))
                unfold SsRes
                exact ⟨z, false, none, [], 0, none, [], 0, hz, rfl, GotIn.no HN9.out⟩
          | true =>
            have hfit2 := hide (hg2.out.fit.1 rfl)
            have hrest2 := hide (hg2.out.rest rfl)
            have hgood2 := hide (hg2.out.good rfl)
            obtain ⟨c80, f80⟩ := row_cell hr85.out (j := 0) rfl
            obtain ⟨y20, g20⟩ := row_cell hrow5.out (j := 20) (St.re_at20 ..)
            obtain ⟨Y1, hY1⟩ : ∃ Y, Y = X5.setCell ⟨Bx, 20, none⟩ (.slice A3 D3.length c3) := ⟨_, rfl⟩
            have hrowY : Hid (Y1.heap[Bx]? = some (.cells (e.re (ty1 e R) A3 c3 D3 e.eA e.ec e.els).cells.toArray 50 (0, 0))) := by show _ = _; rw [hY1]; exact st_box_body _ _ _ _ _ _ _ _ _ _ _ hrow5.out
            have hoY1 : Hid (∀ j, j ≠ Bx → Y1.heap[j]? = X5.heap[j]?) := fun j hj => by rw [hY1]; exact Go.heap_setCell_other X5 ⟨Bx, 20, none⟩ j _ hj
            have hsY1 : Y1.heap.size = X5.heap.size := by rw [hY1]; simp
            have hbY1 : Hid (Below x.val.heap.size x.val Y1) := by show Below _ _ _; rw [hY1]; exact (z.below.trans ((hb3.out.trans (hb5.out.mono (by omega))).mono hzx)).setCell (p := ⟨Bx, 20, none⟩) (by rw [hBx9.out]; exact Nat.le_refl _) _
            have hY19 := hide hY1
            have hr9Y : Hid (Y1.heap[B9]? = some (.cells [.slice A5 D5.length c5, .slice none 0 0, .slice AL5 R5.length d5, .bool true].toArray 73 (0, 0))) := (hoY1.out _ (by omega)).trans hr9.out
            clear hY1
            go_upto_region 18 with fail
            rw [← hY19.out]
            clear c80 f80 y20 g20 c93 f93
            obtain ⟨c90, f90⟩ := row_cell hr9Y.out (j := 0) rfl
            obtain ⟨y21, g21⟩ := row_cell hrowY.out (j := 21) (St.re_at21 ..)
            obtain ⟨Y2, hY2⟩ : ∃ Y, Y = Y1.setCell ⟨Bx, 21, none⟩ (.slice A5 D5.length c5) := ⟨_, rfl⟩
            obtain ⟨s', hs'⟩ : ∃ s', s' = e.re (ty1 e R) A3 c3 D3 A5 c5 D5 := ⟨_, rfl⟩
            have hrowZ : Hid (Y2.heap[Bx]? = some (.cells s'.cells.toArray 50 (0, 0))) := by show _ = _; rw [hY2, hs']; exact st_box_els _ _ _ _ _ _ _ _ _ _ _ hrowY.out
            have hoY2 : Hid (∀ j, j ≠ Bx → Y2.heap[j]? = Y1.heap[j]?) := fun j hj => by rw [hY2]; exact Go.heap_setCell_other Y1 ⟨Bx, 21, none⟩ j _ hj
            have hsY2 : Y2.heap.size = X5.heap.size := by rw [hY2, ← hsY1]; simp
            have hbY2 : Hid (Below x.val.heap.size x.val Y2) := by show Below _ _ _; rw [hY2]; exact hbY1.out.setCell (p := ⟨Bx, 21, none⟩) (by rw [hBx9.out]; exact Nat.le_refl _) _
            have hY29 := hide hY2
            have hr9Z : Hid (Y2.heap[B9]? = some (.cells [.slice A5 D5.length c5, .slice none 0 0, .slice AL5 R5.length d5, .bool true].toArray 73 (0, 0))) := (hoY2.out _ (by omega)).trans hr9Y.out
            have HS' := hide hs'
            have hbw2 : Hid (Below w1.heap.size w1 Y2) := x.below.trans (hbY2.out.mono hxs)
            have hoZ : Hid (Grow.Own Y2 w1.heap.size 50 23 St.cells u5 D) := Own.keep (A := x.val) hown.out fun g hg => hbY2.out.block _ (hown.out.from_ g hg).2
            have hDl : Hid (D.length ≤ 1048576) := by
              have h1 := congrArg List.length hss.out.st
              have h2 : ∀ l : List St, (stSts l).length = l.length := fun l => by rw [stSts_map, List.length_map]
              rw [h2, h2, setSts_len] at h1
              show _ ≤ _
              rw [h1]
              exact Nat.le_trans (List.length_take_le _ _) (by omega)
            have hs1 : Hid (D.length + [s'].length ≤ maxLen ∧ (D.length + [s'].length) * 288 ≤ 140737488355328) := by
              have := hDl.out
              show _ ∧ _
              simp only [List.length_cons, List.length_nil]
              unfold maxLen
              omega
            clear hY2 hs' hr9Y
            go_upto_region 19 with fail
            rw [← hY29.out]
            clear c90 f90 y21 g21 hY29 hY19
            obtain ⟨c92, f92⟩ := row_cell hr9Z.out (j := 2) rfl
            go_upto_region 4 with (first | (refine wpList_load_row rfl 50 (.tmp 7) rfl Bx rfl 50 s'.cells.toArray (0, 0) _ hrowZ.out Tryz.underlying50 rfl (by rw [List.size_toArray, St.cells_len]; kernel_rfl) ?_) | (refine wpList_lit_one rfl 41 50 (.tmp 67) rfl s'.cells.toArray rfl i0 z0 23 Tryz.underlying41 hi0 hz0 hz1 (by rw [List.size_toArray, St.cells_len]) (by decide) (by decide) ?_) | (at_builtin; refine wpList_append_list (w1 := w1) _ rfl (.tmp 66) (.tmp 68) 41 rfl 50 i0 z0 23 288 Tryz.underlying41 hi0 hz0 hz1 hz2 hzs (by decide) St.cells_len St.cells_one (hbw2.out.alloc hbw2.out.size _) _ D rfl (hoZ.out.alloc _) _ 1 1 [s'] rfl rfl (Lies.one _ _ _ rfl) hs1.out.1 hs1.out.2 ?_; intro v' y hown' hgr hat))
            have hsy : Y2.heap.size ≤ y.val.heap.size := by have := hgr.size; rw [World.size_alloc] at this; omega
            have hkeep : Hid (∀ j, j < Y2.heap.size → u5.ownBlock ≠ some j → y.val.heap[j]? = Y2.heap[j]?) := fun j hj hne => (hgr.block j (by rw [World.size_alloc]; omega) (fun h => hne h.symm)).trans (Below.heap_alloc _ _ _ hj)
            have hO2 : Hid (Grow.Own y.val w1.heap.size 50 23 St.cells v' (D ++ [s'])) := hown'
            have hat9 : Hid (v'.ownBlock = u5.ownBlock ∨ v'.ownBlock = some (Y2.heap.size + 1)) := by
              rcases hat with h | h
              · exact .inl h
              · exact .inr (by rw [h, World.size_alloc])
            have hu5 : Hid (∀ j, x.val.heap.size ≤ j → u5.ownBlock ≠ some j) := fun j hj h => by have := (hown.out.from_ j h).2; omega
            have HNEW : Hid (SsSt w0 (fun j => w1.heap.size ≤ j ∧ v'.ownBlock ≠ some j) l L (k + 1) (D ++ [s']) AL5 R5 d5 y.val) := by
              as_aux_lemma =>
                have hbx9 : Bx = x.val.heap.size := hBx9.out
                have hb8 : x2.val.heap.size = B8 := hB89.out.symm
                have hb9 : x4.val.heap.size = B9 := hB99.out.symm
                have hR : TysOk R := by rw [hss.out.rest]; exact fun u hu => HTY.out u (List.mem_of_mem_drop hu)
                have hty : e.ty.cls.size ≤ maxLen := by
                  have h := hIn.out
                  cases h with
                  | mk _ _ _ _ _ _ _ _ _ _ _ _ _ hs => exact hs.2.2.2
                have hpn : ∀ j, x.val.heap.size ≤ j → j < Y2.heap.size → v'.ownBlock ≠ some j := fun j h1 h2 h => by
                  rcases hat9.out with h' | h'
                  · exact hu5.out j h1 (h'.symm.trans h)
                  · rw [h'] at h
                    have := Option.some.inj h
                    omega
                refine { fit := ?_, st := ?_, ins := ?_, rest := ?_, cap := hg2.out.rlen, lies := hg2.out.rlies }
                · refine HF1.out.2 ⟨hss.out.fit, ?_⟩
                  rw [← hss.out.rest]
                  refine (Fit_one e R).2 ⟨hmid.out.fit, ?_, ?_⟩
                  · rw [← hmid.out.rest]; exact hfit1.out
                  · rw [← hmid.out.rest, ← hrest1.out]; exact hfit2.out
                · rw [HS1.out, stSts_append, stSts_append, hss.out.st, ← hss.out.rest]
                  congr 1
                  rw [stSts, stSts, stSts, stSts, HS'.out]
                  rw [stSt_re]
                  · rw [← hmid.out.rest]; exact (hgood1.out x2.val ⟨HBW.out.trans ((hBz.out.trans (x2.below.mono (by omega))).mono hbs), fun _ _ _ => rfl⟩).1
                  · rw [← hmid.out.rest, ← hrest1.out]; exact (hgood2.out x4.val ⟨HBW.out.trans ((hBX3.out.trans (x4.below.mono (by omega))).mono hbs), fun _ _ _ => rfl⟩).1
                · intro Y hK s hs
                  rcases List.mem_append.1 hs with hs | hs
                  · refine hss.out.ins Y (hK.narrow (by omega) fun j h1 h2 => ⟨⟨h1.1, ?_⟩, ?_⟩) s hs
                    · intro h
                      rcases hat9.out with h' | h'
                      · exact h1.2 (h'.symm.trans h)
                      · rw [h'] at h
                        have := Option.some.inj h
                        have := hbY2.out.size
                        omega
                    · exact (hkeep.out j (by have := hbY2.out.size; omega) h1.2).trans (hbY2.out.block j h2)
                  · obtain rfl := List.mem_singleton.1 hs
                    have hK1 : Keep w0 (fun j => z.val.heap.size ≤ j) x2.val Y := hK.narrow (by omega) fun j h1 h2 => ⟨⟨by omega, hpn j (by omega) (by omega)⟩,
                      (hkeep.out j (by omega) (hu5.out j (by omega))).trans ((hoY2.out j (by omega)).trans ((hoY1.out j (by omega)).trans ((hb5.out.block j (by omega)).trans (hsame2.out j (by omega)))))⟩
                    have hK2 : Keep w0 (fun j => X3.heap.size ≤ j) x4.val Y := hK.narrow (by omega) fun j h1 h2 => ⟨⟨by omega, hpn j (by omega) (by omega)⟩,
                      (hkeep.out j (by omega) (hu5.out j (by omega))).trans ((hoY2.out j (by omega)).trans ((hoY1.out j (by omega)).trans (hsame4.out j (by omega))))⟩
                    rw [HS'.out]
                    obtain ⟨q, hq⟩ := Ext.of hK.base
                    refine StIn.re (by rw [hq]; exact hIn.out.ext q) ?_ (hg1.out.lies Y hK1) hg1.out.len hg1.out.cap (hgood1.out Y hK1).2 (hg2.out.lies Y hK2) hg2.out.len hg2.out.cap (hgood2.out Y hK2).2
                    unfold ty1
                    split
                    · exact pick_size hR hty
                    · exact hty
                · rw [hrest2.out, hrest1.out, hmid.out.rest, hss.out.rest, HN1.out, nSt_eq, List.drop_drop, List.drop_drop, List.drop_drop]
                  unfold n1
                  congr 1 <;> omega
            clear hgr hat hown'
            go_wp2_with fail
            go_roundw
            case rel => exact ⟨k + 1, y, D ++ [s'], AL5, R5, d5, by first | rw [HKW.out] | rfl, Nat.succ_le_of_lt hlt9.out, rfl, rfl, HNEW, hO2⟩
            case measure =>
              first
                | (rw [HKW.out, intOf_int, intOf_int, Int.toNat_natCast, Int.toNat_natCast]; exact step_lt hlt9.out)
                | (rw [intOf_int, intOf_int]; have := hlt9.out; omega)
    · obtain rfl : k = l.length := Nat.le_antisymm hk (Nat.le_of_not_lt hlt)
      have hlt' : ¬ (l.length : Int) < (l.length : Int) := by omega
      obtain ⟨A', c', hu, g1, g2, g3⟩ := hown.out.lies St.cells_len
      subst hu
      have hth : Hid (x.val.there w.heap.size 0 4) := there_of_row hrx.out 0 _ (by decide)
      clear g3
      go_wp2_with (refine wpList_store_mid rfl 73 (.tmp 4) (.tmp 72) rfl w.heap.size 0 #[.slice A' D.length c', .slice none 0 0, .slice B R.length cR, .bool true] rfl rfl hth.out (by kernel_rfl) (by kernel_rfl) ?_)
      have hrow := row_filled [.slice A' D.length c', .slice none 0 0, .slice B R.length cR, .bool true] hrx.out rfl
      refine bodyPost_ret (v := .agg #[.slice A' D.length c', .slice none 0 0, .slice B R.length cR, .bool true]) (results_cell_row (p := 4) (ty := 73) Tryz.results19 _ _ w.heap.size 73 _ (0, 0) _ rfl hrow Tryz.underlying73 rfl (by kernel_rfl)) rfl ?_
      obtain ⟨z, hz⟩ := Ext.of (hBx0.out.trans (setCells_below (Nat.le_refl w.heap.size) [.slice A' D.length c', .slice none 0 0, .slice B R.length cR, .bool true] 0 x.val))
      unfold SsRes
      have hs := hss.out
      have hft := hs.fit
      have hst := hs.st
      have hrs := hs.rest
      rw [List.take_length] at hft hst hrs
      have hzs : z.val.heap.size = x.val.heap.size := by rw [← hz, setCells_size]
      have hzo : ∀ j, j ≠ w.heap.size → z.val.heap[j]? = x.val.heap[j]? := fun j hj => by rw [← hz]; exact setCells_other _ _ _ _ _ hj
      refine ⟨z, true, A', D, c', B, R, cR, hz, rfl, ⟨by simp [hft], fun _ X hK => ⟨hst, ?_⟩, fun _ => hrs, g1, g2, fun X hK => ?_, hs.cap, by rw [hrs, List.length_drop]; omega, hs.lies, fun u hu => by rw [hrs] at hu; exact List.mem_of_mem_drop hu⟩⟩
      · exact hs.ins X (hK.narrow (by omega) fun j h1 h2 => ⟨by omega, hzo j (by omega)⟩)
      · exact hown.out.keepK St.cells_len (hK.narrow (by omega) fun j h1 h2 => ⟨by omega, hzo j (by omega)⟩)

theorem ss_any : ∀ l : List St, SsOk l := fun l => ss_step l
  (fun s hs => have h1 := List.sizeOf_lt_of_mem hs; have h2 := s.body_size
               ss_any s.body)
  (fun s hs => have h1 := List.sizeOf_lt_of_mem hs; have h2 := s.els_size
               ss_any s.els)
termination_by l => SizeOf.sizeOf l
end Go.Proofs.YtmpdmelkbemabaaGreat
