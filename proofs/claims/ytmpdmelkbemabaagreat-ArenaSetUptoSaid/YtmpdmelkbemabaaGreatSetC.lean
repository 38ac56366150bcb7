/- Methods and classes with other types: the plain law, and their boxes. -/
import Derived.Test.YtmpdmelkbemabaaGreatSetS
set_option linter.unusedSimpArgs false
set_option linter.unusedVariables false
namespace Go.Proofs.Grow
open Go.RowKit
section
variable {W : World} {g : Nat} {tt : TypeId}
theorem me_box_ret (m : Me) (t : Ty) (h : W.heap[g]? = some (.cells m.cells.toArray tt (0, 0))) : (W.setCells g 2 t.cells).heap[g]? = some (.cells ({ m with ret := t } : Me).cells.toArray tt (0, 0)) := by
  obtain ⟨cur', h1, h2⟩ := setCells_row g tt t.cells 2 W _ h (by rw [Ty.cells_len]; simp [Me.cells_len])
  have e : cur' = ({ m with ret := t } : Me).cells.toArray := by
    apply Array.toList_inj.1
    rw [h2, Ty.cells_len]
    rfl
  rw [e] at h1
  exact h1
theorem me_box_params (m : Me) (A : Option Addr) (c : Nat) (D : List Va) (h : W.heap[g]? = some (.cells m.cells.toArray tt (0, 0))) : (W.setCell ⟨g, 13, none⟩ (.slice A D.length c)).heap[g]? = some (.cells ({ m with pA := A, pc := c, params := D } : Me).cells.toArray tt (0, 0)) := by
  rw [row_store h 13 _]; rfl
theorem me_box_locals (m : Me) (A : Option Addr) (c : Nat) (D : List Va) (h : W.heap[g]? = some (.cells m.cells.toArray tt (0, 0))) : (W.setCell ⟨g, 14, none⟩ (.slice A D.length c)).heap[g]? = some (.cells ({ m with lA := A, lc := c, locals := D } : Me).cells.toArray tt (0, 0)) := by
  rw [row_store h 14 _]; rfl
theorem me_box_body (m : Me) (A : Option Addr) (c : Nat) (D : List St) (h : W.heap[g]? = some (.cells m.cells.toArray tt (0, 0))) : (W.setCell ⟨g, 15, none⟩ (.slice A D.length c)).heap[g]? = some (.cells ({ m with bA := A, bc := c, body := D } : Me).cells.toArray tt (0, 0)) := by
  rw [row_store h 15 _]; rfl
theorem cl_box_fields (m : Cl) (A : Option Addr) (c : Nat) (D : List Va) (h : W.heap[g]? = some (.cells m.cells.toArray tt (0, 0))) : (W.setCell ⟨g, 4, none⟩ (.slice A D.length c)).heap[g]? = some (.cells ({ m with fA := A, fc := c, fields := D } : Cl).cells.toArray tt (0, 0)) := by
  rw [row_store h 4 _]; rfl
theorem cl_box_methods (m : Cl) (A : Option Addr) (c : Nat) (D : List Me) (h : W.heap[g]? = some (.cells m.cells.toArray tt (0, 0))) : (W.setCell ⟨g, 5, none⟩ (.slice A D.length c)).heap[g]? = some (.cells ({ m with mA := A, mc := c, methods := D } : Cl).cells.toArray tt (0, 0)) := by
  rw [row_store h 5 _]; rfl
end
theorem kdMes_append : ∀ (p q : List Me), kdMes (p ++ q) = kdMes p ++ kdMes q
  | [], q => rfl
  | s :: p, q => by rw [List.cons_append, kdMes, kdMes, kdMes_append p q, List.append_assoc]
theorem setMes_append : ∀ (p q : List Me) (L : List Ty), setMes (p ++ q) L = setMes p L ++ setMes q (L.drop (nMes p))
  | [], q, L => rfl
  | s :: p, q, L => by rw [List.cons_append, setMes, setMes, setMes_append p q, List.drop_drop, nMes, List.cons_append]
theorem kdMes_take (l : List Me) (k : Nat) (h : k < l.length) : kdMes (l.take (k + 1)) = kdMes (l.take k) ++ kdMe l[k] := by
  rw [List.take_succ_eq_append_getElem h, kdMes_append, kdMes, kdMes, List.append_nil]
theorem nMes_take (l : List Me) (k : Nat) (h : k < l.length) : nMes (l.take (k + 1)) = nMes (l.take k) + nMe l[k] := by
  rw [← kdMes_len, kdMes_take l k h, List.length_append, kdMes_len, kdMe_len]
theorem setMes_take (l : List Me) (L : List Ty) (k : Nat) (h : k < l.length) : setMes (l.take (k + 1)) L = setMes (l.take k) L ++ [setMe l[k] (L.drop (nMes (l.take k)))] := by
  rw [List.take_succ_eq_append_getElem h, setMes_append, setMes, setMes]
theorem Fit_takeM (l : List Me) (L : List Ty) (k : Nat) (h : k < l.length) : Fit (kdMes (l.take (k + 1))) L ↔ Fit (kdMes (l.take k)) L ∧ Fit (kdMe l[k]) (L.drop (nMes (l.take k))) := by
  rw [kdMes_take l k h, Fit_append, kdMes_len]
theorem Fit_uptoM (l : List Me) (L : List Ty) (k : Nat) (h : Fit (kdMes l) L) : Fit (kdMes (l.take k)) L := by
  rw [← List.take_append_drop k l, kdMes_append, Fit_append] at h
  exact h.1
theorem kdCls_append : ∀ (p q : List Cl), kdCls (p ++ q) = kdCls p ++ kdCls q
  | [], q => rfl
  | s :: p, q => by rw [List.cons_append, kdCls, kdCls, kdCls_append p q, List.append_assoc]
theorem setCls_append : ∀ (p q : List Cl) (L : List Ty), setCls (p ++ q) L = setCls p L ++ setCls q (L.drop (nCls p))
  | [], q, L => rfl
  | s :: p, q, L => by rw [List.cons_append, setCls, setCls, setCls_append p q, List.drop_drop, nCls, List.cons_append]
theorem kdCls_take (l : List Cl) (k : Nat) (h : k < l.length) : kdCls (l.take (k + 1)) = kdCls (l.take k) ++ kdCl l[k] := by
  rw [List.take_succ_eq_append_getElem h, kdCls_append, kdCls, kdCls, List.append_nil]
theorem nCls_take (l : List Cl) (k : Nat) (h : k < l.length) : nCls (l.take (k + 1)) = nCls (l.take k) + nCl l[k] := by
  rw [← kdCls_len, kdCls_take l k h, List.length_append, kdCls_len, kdCl_len]
theorem setCls_take (l : List Cl) (L : List Ty) (k : Nat) (h : k < l.length) : setCls (l.take (k + 1)) L = setCls (l.take k) L ++ [setCl l[k] (L.drop (nCls (l.take k)))] := by
  rw [List.take_succ_eq_append_getElem h, setCls_append, setCls, setCls]
theorem Fit_takeC (l : List Cl) (L : List Ty) (k : Nat) (h : k < l.length) : Fit (kdCls (l.take (k + 1))) L ↔ Fit (kdCls (l.take k)) L ∧ Fit (kdCl l[k]) (L.drop (nCls (l.take k))) := by
  rw [kdCls_take l k h, Fit_append, kdCls_len]
theorem Fit_uptoC (l : List Cl) (L : List Ty) (k : Nat) (h : Fit (kdCls l) L) : Fit (kdCls (l.take k)) L := by
  rw [← List.take_append_drop k l, kdCls_append, Fit_append] at h
  exact h.1
theorem Fit_cl (c : Cl) (R : List Ty) : Fit (kdCl c) R ↔ c.fields.length ≤ R.length ∧ Fit (kdMes c.methods) (R.drop c.fields.length) := by
  unfold kdCl
  rw [Fit_append, Fit_vs, kdVs_len]
theorem Fit_me (m : Me) (R : List Ty) : Fit (kdMe m) R ↔ 0 < R.length ∧ m.params.length ≤ (R.drop 1).length ∧ m.locals.length ≤ ((R.drop 1).drop m.params.length).length ∧ Fit (kdSts m.body) (((R.drop 1).drop m.params.length).drop m.locals.length) := by
  unfold kdMe
  cases R with
  | nil => simp [Fit]
  | cons t R => rw [Fit, Fit_append, Fit_append, Fit_vs, Fit_vs, kdVs_len, kdVs_len]; simp
/-- A method with other types, wherever it lies. -/
theorem stMe_re (m : Me) (R : List Ty) {t : Ty} (ht : R[0]? = some t) {pA lA bA : Option Addr} {pc lc bc : Nat} {D : List St} (hb : stSts D = stSts (setSts m.body (((R.drop 1).drop m.params.length).drop m.locals.length))) :
    stMe { m with ret := t, pA := pA, pc := pc, params := setVs m.params (R.drop 1), lA := lA, lc := lc, locals := setVs m.locals ((R.drop 1).drop m.params.length), bA := bA, bc := bc, body := D } = stMe (setMe m R) := by
  unfold stMe setMe
  simp only [List.drop_drop] at hb ⊢
  rw [hb]
  have e : pick m.ret false R = t := by
    cases R with
    | nil => simp at ht
    | cons u R => simpa [pick] using ht
  rw [e]
theorem stCl_re (c : Cl) (R : List Ty) {fA mA : Option Addr} {fc mc : Nat} {D : List Me} (hm : D.map stMe = (setMes c.methods (R.drop c.fields.length)).map stMe) :
    stCl { c with fA := fA, fc := fc, fields := setVs c.fields R, mA := mA, mc := mc, methods := D } = stCl (setCl c R) := by
  unfold stCl setCl
  simp only [hm]
end Go.Proofs.Grow
