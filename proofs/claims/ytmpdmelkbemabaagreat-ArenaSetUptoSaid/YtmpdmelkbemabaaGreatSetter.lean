/- arena.setter and the function that it makes. -/
import Derived.Test.YtmpdmelkbemabaaGreatOwnLib
import Derived.Test.YtmpdmelkbemabaaGreatSlotP
import Derived.Test.YtmpdmelkbemabaaGreatRdOf
import Derived.Test.YtmpdmelkbemabaaGreatOwn5
set_option linter.unusedSimpArgs false
set_option linter.unusedVariables false
namespace Go.Proofs.Grow
open Go.RowKit

/-- The next type for a slot, if there is one (for a statement: one of an object). -/
def pick (old : Ty) (st : Bool) : List Ty → Ty
  | [] => old
  | u :: _ => if st && u.k != 2 then old else u
theorem pick_k {old : Ty} {L : List Ty} (h : old.k = 2) : (pick old true L).k = 2 := by
  cases L with
  | nil => exact h
  | cons u L =>
    unfold pick
    by_cases hu : u.k = 2
    · simp [hu]
    · simp [hu, h]
def setVs : List Va → List Ty → List Va
  | [], _ => []
  | v :: l, L => { v with ty := pick v.ty false L } :: setVs l (L.drop 1)
mutual
/-- How many slots there are. -/
def nSt : St → Nat
  | .mk _ _ _ _ ty _ _ _ _ _ _ body _ _ els _ => (if ty.k == 2 then 1 else 0) + (nSts body + nSts els)
def nSts : List St → Nat
  | [] => 0
  | s :: l => nSt s + nSts l
end
mutual
def setSt : St → List Ty → St
  | .mk k x y name ty e aA ac args bA bc body eA ec els pos, L =>
    .mk k x y name (if ty.k == 2 then pick ty true L else ty) e aA ac args bA bc (setSts body (L.drop (if ty.k == 2 then 1 else 0))) eA ec (setSts els (L.drop ((if ty.k == 2 then 1 else 0) + nSts body))) pos
def setSts : List St → List Ty → List St
  | [], _ => []
  | s :: l, L => setSt s L :: setSts l (L.drop (nSt s))
end
def nMe (m : Me) : Nat := 1 + (m.params.length + (m.locals.length + nSts m.body))
def setMe (m : Me) (L : List Ty) : Me := { m with ret := pick m.ret false L, params := setVs m.params (L.drop 1), locals := setVs m.locals (L.drop (1 + m.params.length)), body := setSts m.body (L.drop (1 + m.params.length + m.locals.length)) }
def nMes : List Me → Nat
  | [] => 0
  | m :: l => nMe m + nMes l
def setMes : List Me → List Ty → List Me
  | [], _ => []
  | m :: l, L => setMe m L :: setMes l (L.drop (nMe m))
def nCl (c : Cl) : Nat := c.fields.length + nMes c.methods
def setCl (c : Cl) (L : List Ty) : Cl := { c with fields := setVs c.fields L, methods := setMes c.methods (L.drop c.fields.length) }
def nCls : List Cl → Nat
  | [] => 0
  | c :: l => nCl c + nCls l
def setCls : List Cl → List Ty → List Cl
  | [], _ => []
  | c :: l, L => setCl c L :: setCls l (L.drop (nCl c))

/-! lengths, lists part by part -/
theorem setVs_len : ∀ (l : List Va) (L : List Ty), (setVs l L).length = l.length
  | [], _ => rfl
  | v :: l, L => by rw [setVs, List.length_cons, List.length_cons, setVs_len l]
theorem setSts_len : ∀ (l : List St) (L : List Ty), (setSts l L).length = l.length
  | [], _ => by rw [setSts]
  | v :: l, L => by rw [setSts, List.length_cons, List.length_cons, setSts_len l]
theorem setMes_len : ∀ (l : List Me) (L : List Ty), (setMes l L).length = l.length
  | [], _ => rfl
  | v :: l, L => by rw [setMes, List.length_cons, List.length_cons, setMes_len l]
theorem setCls_len : ∀ (l : List Cl) (L : List Ty), (setCls l L).length = l.length
  | [], _ => rfl
  | v :: l, L => by rw [setCls, List.length_cons, List.length_cons, setCls_len l]

/-! what it is without addresses -/
mutual
theorem nSt_st : ∀ s : St, nSt (stSt s) = nSt s
  | .mk k x y name ty e aA ac args bA bc body eA ec els pos => by rw [stSt, nSt, nSt, nSts_st body, nSts_st els]
theorem nSts_st : ∀ l : List St, nSts (stSts l) = nSts l
  | [] => by rw [stSts]
  | s :: l => by rw [stSts, nSts, nSts, nSt_st s, nSts_st l]
end
mutual
theorem setSt_st : ∀ (s : St) (L : List Ty), stSt (setSt s L) = setSt (stSt s) L
  | .mk k x y name ty e aA ac args bA bc body eA ec els pos, L => by rw [setSt, stSt, stSt, setSt, setSts_st body, setSts_st els, nSts_st]
theorem setSts_st : ∀ (l : List St) (L : List Ty), stSts (setSts l L) = setSts (stSts l) L
  | [], _ => by rw [setSts, stSts, setSts]
  | s :: l, L => by rw [setSts, stSts, stSts, setSts, setSt_st s, setSts_st l, nSt_st]
end
theorem nMe_st (m : Me) : nMe (stMe m) = nMe m := by unfold nMe stMe; rw [nSts_st]
theorem setMe_st (m : Me) (L : List Ty) : stMe (setMe m L) = setMe (stMe m) L := by
  unfold stMe setMe
  simp only [setSts_st]
theorem nMes_st (l : List Me) : nMes (l.map stMe) = nMes l := by
  induction l with
  | nil => rfl
  | cons m l ih => rw [List.map_cons, nMes, nMes, nMe_st, ih]
theorem setMes_st : ∀ (l : List Me) (L : List Ty), (setMes l L).map stMe = setMes (l.map stMe) L
  | [], _ => rfl
  | m :: l, L => by rw [setMes, List.map_cons, List.map_cons, setMes, setMe_st, setMes_st l, nMe_st]
theorem nCl_st (c : Cl) : nCl (stCl c) = nCl c := by unfold nCl stCl; rw [nMes_st]
theorem setCl_st (c : Cl) (L : List Ty) : stCl (setCl c L) = setCl (stCl c) L := by
  unfold stCl setCl
  simp only [setMes_st]
theorem setCls_st : ∀ (l : List Cl) (L : List Ty), (setCls l L).map stCl = setCls (l.map stCl) L
  | [], _ => rfl
  | m :: l, L => by rw [setCls, List.map_cons, List.map_cons, setCls, setCl_st, setCls_st l, nCl_st]
theorem nCls_st (l : List Cl) : nCls (l.map stCl) = nCls l := by
  induction l with
  | nil => rfl
  | cons m l ih => rw [List.map_cons, nCls, nCls, nCl_st, ih]

/-! its slots -/
def pour : List Sl → List Ty → List Sl
  | [], _ => []
  | x :: xs, L => { x with ty := pick x.ty x.st L } :: pour xs (L.drop 1)
theorem pour_len : ∀ (l : List Sl) (L : List Ty), (pour l L).length = l.length
  | [], _ => rfl
  | v :: l, L => by rw [pour, List.length_cons, List.length_cons, pour_len l]
theorem pour_append : ∀ (p q : List Sl) (L : List Ty), pour (p ++ q) L = pour p L ++ pour q (L.drop p.length)
  | [], q, L => by simp [pour]
  | x :: p, q, L => by rw [List.cons_append, pour, pour, pour_append p q, List.drop_drop, List.length_cons, List.cons_append, Nat.add_comm 1]
theorem pour_get : ∀ (l : List Sl) (L : List Ty) (i : Nat) (h : i < (pour l L).length), (pour l L)[i] = { l[i]'(by rw [pour_len] at h; exact h) with ty := pick (l[i]'(by rw [pour_len] at h; exact h)).ty (l[i]'(by rw [pour_len] at h; exact h)).st (L.drop i) }
  | x :: l, L, 0, h => by simp [pour]
  | x :: l, L, i + 1, h => by
    have h' : i < (pour l (L.drop 1)).length := by rw [pour_len]; rw [pour_len] at h; simpa using h
    have ih := pour_get l (L.drop 1) i h'
    simp only [pour, List.getElem_cons_succ, List.drop_drop] at ih ⊢
    rw [ih]
    simp [Nat.add_comm]
theorem slV_len (A : Option Addr) (c m f : Int) (l : List Va) : (slV A c m f l).length = l.length := by simp [slV]
def slVa (b off : Nat) (c m f : Int) (n : Nat) : List Va → List Sl
  | [] => []
  | v :: l => ⟨b, off + n * 13 + 1, false, c, m, IntKind.i64.wrap (f + n), v.pos, v.ty⟩ :: slVa b off c m f (n + 1) l
theorem slVa_idx (b off : Nat) (c m f : Int) : ∀ (l : List Va) (n : Nat), slVa b off c m f n l = l.mapIdx fun i v => ⟨b, off + (n + i) * 13 + 1, false, c, m, IntKind.i64.wrap (f + ((n + i : Nat) : Int)), v.pos, v.ty⟩
  | [], n => rfl
  | v :: l, n => by
    rw [slVa, slVa_idx b off c m f l (n + 1), List.mapIdx_cons]
    congr 1
    congr 1
    funext i v
    rw [show n + 1 + i = n + (i + 1) by omega]
theorem slV_eq (A : Option Addr) (c m f : Int) (l : List Va) : slV A c m f l = slVa (bkA A) (ofA A) c m f 0 l := by
  rw [slVa_idx]
  unfold slV
  simp
theorem pour_slVa (b off : Nat) (c m f : Int) : ∀ (l : List Va) (n : Nat) (L : List Ty), slVa b off c m f n (setVs l L) = pour (slVa b off c m f n l) L
  | [], n, L => rfl
  | v :: l, n, L => by rw [setVs, slVa, slVa, pour, pour_slVa b off c m f l]
theorem pour_slV (A : Option Addr) (c m f : Int) (l : List Va) (L : List Ty) : slV A c m f (setVs l L) = pour (slV A c m f l) L := by rw [slV_eq, slV_eq, pour_slVa]
mutual
theorem slB_one (c m : Int) : ∀ (s : St) (d : Int) (b off : Nat) (L : List Ty), (slB c m (liOne s d b off)).length = nSt s ∧ slB c m (liOne (setSt s L) d b off) = pour (slB c m (liOne s d b off)) L
  | .mk k x y name ty e aA ac args bA bc body eA ec els pos, d, b, off, L => by
    have hb := fun L => slB_all c m body (wrap64 (d + 1)) (bkA bA) (ofA bA) L
    have he := fun L => slB_all c m els (wrap64 (d + 1)) (bkA eA) (ofA eA) L
    rw [setSt, liOne, liOne, nSt]
    by_cases hk : (ty.k == 2) = true
    · have hk2 : ty.k = 2 := by simpa using hk
      have hp : ((pick ty true L).k == 2) = true := by rw [pick_k hk2]; rfl
      have e1 : ∀ (s : St) (r : List Li), (s.ty.k == 2) = true → slB c m (⟨d, b, off, s⟩ :: r) = ⟨b, off + 4, true, c, m, -1, s.pos, s.ty⟩ :: slB c m r := fun s r h => by simp [slB, h]
      simp only [if_pos hk]
      rw [e1 _ _ (by exact hk), e1 _ _ (by exact hp), slB_append, slB_append]
      refine ⟨?_, ?_⟩
      · rw [List.length_cons, List.length_append, (hb []).1, (he []).1]; omega
      · rw [pour, pour_append, (hb _).2, (he _).2, (hb []).1, List.drop_drop]
        rfl
    · have e1 : ∀ (s : St) (r : List Li), (s.ty.k == 2) = false → slB c m (⟨d, b, off, s⟩ :: r) = slB c m r := fun s r h => by simp [slB, h]
      have hk' : (ty.k == 2) = false := by simpa using hk
      simp only [if_neg hk]
      rw [e1 _ _ (by exact hk'), e1 _ _ (by exact hk'), slB_append, slB_append]
      refine ⟨?_, ?_⟩
      · rw [List.length_append, (hb []).1, (he []).1]; omega
      · rw [pour_append, (hb _).2, (he _).2, (hb []).1, List.drop_zero]
        simp
theorem slB_all (c m : Int) : ∀ (l : List St) (d : Int) (b off : Nat) (L : List Ty), (slB c m (liAll l d b off)).length = nSts l ∧ slB c m (liAll (setSts l L) d b off) = pour (slB c m (liAll l d b off)) L
  | [], d, b, off, L => by rw [setSts, liAll, nSts]; exact ⟨rfl, rfl⟩
  | s :: l, d, b, off, L => by
    rw [setSts, liAll, liAll, nSts, slB_append, slB_append]
    refine ⟨by rw [List.length_append, (slB_one c m s d b off []).1, (slB_all c m l d b _ []).1], ?_⟩
    rw [(slB_one c m s d b off L).2, (slB_all c m l d b _ _).2, pour_append, (slB_one c m s d b off []).1]
end
theorem slM_len (b off : Nat) (c k : Int) (m : Me) : (slM b off c k m).length = nMe m := by
  unfold slM nMe
  rw [List.length_cons, List.length_append, List.length_append, slV_len, slV_len, (slB_all c k m.body 0 _ _ []).1]
  omega
theorem pour_slM (b off : Nat) (c k : Int) (m : Me) (L : List Ty) : slM b off c k (setMe m L) = pour (slM b off c k m) L := by
  unfold slM
  rw [pour, pour_append, pour_append]
  unfold setMe
  simp only [setVs_len, pour_slV, slV_len, List.drop_drop, (slB_all c k m.body 0 _ _ _).2]
def slMx (A : Option Addr) (c : Int) (n : Nat) : List Me → List Sl
  | [] => []
  | m :: l => slM (bkA A) (ofA A + n * 17) c n m ++ slMx A c (n + 1) l
theorem slMx_idx (A : Option Addr) (c : Int) : ∀ (l : List Me) (n : Nat), slMx A c n l = (l.mapIdx fun k m => slM (bkA A) (ofA A + (n + k) * 17) c ((n + k : Nat) : Int) m).flatten
  | [], n => rfl
  | v :: l, n => by
    rw [slMx, slMx_idx A c l (n + 1), List.mapIdx_cons, List.flatten_cons]
    congr 1
    congr 1
    congr 1
    funext i v
    rw [show n + 1 + i = n + (i + 1) by omega]
theorem slMs_eq (A : Option Addr) (c : Int) (l : List Me) : slMs A c l = slMx A c 0 l := by
  rw [slMx_idx]
  unfold slMs
  simp
theorem pour_slMx (A : Option Addr) (c : Int) : ∀ (l : List Me) (n : Nat) (L : List Ty), (slMx A c n l).length = nMes l ∧ slMx A c n (setMes l L) = pour (slMx A c n l) L
  | [], n, L => ⟨rfl, rfl⟩
  | m :: l, n, L => by
    rw [setMes, slMx, slMx, nMes]
    refine ⟨by rw [List.length_append, slM_len, (pour_slMx A c l (n + 1) []).1], ?_⟩
    rw [pour_append, pour_slM, slM_len, (pour_slMx A c l (n + 1) _).2]
theorem slC_len (i : Nat) (c : Cl) : (slC i c).length = nCl c := by
  unfold slC nCl
  rw [List.length_append, slV_len, slMs_eq, (pour_slMx _ _ _ _ []).1]
theorem pour_slC (i : Nat) (c : Cl) (L : List Ty) : slC i (setCl c L) = pour (slC i c) L := by
  unfold slC
  rw [pour_append, slV_len]
  unfold setCl
  simp only [pour_slV, slMs_eq, (pour_slMx _ _ _ _ _).2]
def slPx (n : Nat) : List Cl → List Sl
  | [] => []
  | c :: l => slC n c ++ slPx (n + 1) l
theorem slPx_idx : ∀ (l : List Cl) (n : Nat), slPx n l = (l.mapIdx fun k m => slC (n + k) m).flatten
  | [], n => rfl
  | v :: l, n => by
    rw [slPx, slPx_idx l (n + 1), List.mapIdx_cons, List.flatten_cons]
    congr 1
    congr 1
    congr 1
    funext i v
    rw [show n + 1 + i = n + (i + 1) by omega]
theorem slP_eq (l : List Cl) : slP l = slPx 0 l := by
  rw [slPx_idx]
  unfold slP
  simp
theorem pour_slPx : ∀ (l : List Cl) (n : Nat) (L : List Ty), (slPx n l).length = nCls l ∧ slPx n (setCls l L) = pour (slPx n l) L
  | [], n, L => ⟨rfl, rfl⟩
  | m :: l, n, L => by
    rw [setCls, slPx, slPx, nCls]
    refine ⟨by rw [List.length_append, slC_len, (pour_slPx l (n + 1) []).1], ?_⟩
    rw [pour_append, pour_slC, slC_len, (pour_slPx l (n + 1) _).2]
theorem slP_len (l : List Cl) : (slP l).length = nCls l := by rw [slP_eq]; exact (pour_slPx l 0 []).1
theorem pour_slP (l : List Cl) (L : List Ty) : slP (setCls l L) = pour (slP l) L := by rw [slP_eq, slP_eq]; exact (pour_slPx l 0 L).2
end Go.Proofs.Grow
set_option linter.unusedSimpArgs false
set_option linter.unusedVariables false
namespace Go.Proofs.Grow
open Go.RowKit

/-- One by one. -/
inductive All2 {α β : Type} (R : α → β → Prop) : List α → List β → Prop
  | nil : All2 R [] []
  | cons {a : α} {b : β} {l : List α} {m : List β} (h : R a b) (t : All2 R l m) : All2 R (a :: l) (b :: m)
section
variable {α β : Type} {R : α → β → Prop} {l p : List α} {m q : List β}
theorem All2.append (h : All2 R l m) (h2 : All2 R p q) : All2 R (l ++ p) (m ++ q) := by
  induction h with
  | nil => exact h2
  | cons h _ ih => exact .cons h ih
theorem All2.right (h : All2 R l m) : ∀ b ∈ m, ∃ a ∈ l, R a b := by
  induction h with
  | nil => intro b hb; cases hb
  | cons h _ ih =>
    intro b hb
    rcases List.mem_cons.1 hb with rfl | hb
    · exact ⟨_, List.mem_cons_self .., h⟩
    · obtain ⟨a, ha, hr⟩ := ih b hb
      exact ⟨a, List.mem_cons_of_mem _ ha, hr⟩
end
theorem All2.refl {α : Type} {R : α → α → Prop} (h : ∀ a, R a a) : ∀ l : List α, All2 R l l
  | [] => .nil
  | a :: l => .cons (h a) (All2.refl h l)

/-- Rows at the same place, that differ in their type alone. -/
def Rel (r r' : Rw) : Prop := r.b = r'.b ∧ r.off = r'.off ∧ r.x.cells.length = r'.x.cells.length ∧ altT r'.x r.x.cells
theorem Rel.refl (r : Rw) : Rel r r := ⟨rfl, rfl, rfl, altT_self _⟩
theorem Rel.rows {α : Type} {mk : α → Nd} {l m : List α} (b size : Nat) (h : All2 (fun a a' => (mk a).cells.length = (mk a').cells.length ∧ altT (mk a') (mk a).cells) l m) : ∀ off, All2 Rel (rowsAt b off size (l.map mk)) (rowsAt b off size (m.map mk)) := by
  induction h with
  | nil => intro off; exact .nil
  | cons h _ ih =>
    intro off
    rw [List.map_cons, List.map_cons, rowsAt_cons, rowsAt_cons]
    exact .cons ⟨rfl, rfl, h⟩ (ih _)
theorem rel_vas : ∀ (l : List Va) (L : List Ty), All2 (fun a a' => (Nd.va a).cells.length = (Nd.va a').cells.length ∧ altT (.va a') (Nd.va a).cells) l (setVs l L)
  | [], _ => .nil
  | v :: l, L => .cons ⟨rfl, v.ty, rfl⟩ (rel_vas l _)
theorem rel_st (s : St) (L : List Ty) : (Nd.st s).cells.length = (Nd.st (setSt s L)).cells.length ∧ altT (.st (setSt s L)) (Nd.st s).cells := by
  refine ⟨by show s.cells.length = (setSt s L).cells.length; rw [St.cells_len, St.cells_len], ?_⟩
  obtain ⟨k, x, y, name, ty, e, aA, ac, args, bA, bc, body, eA, ec, els, pos⟩ := s
  refine ⟨ty, ?_⟩
  rw [setSt]
  simp only [Nd.cells, Nd.withTy]
  by_cases hk : ty.k = 2
  · have hkb : (ty.k == 2) = true := by simp [hk]
    simp only [hkb, if_true]
    have hp : (pick ty true L).k = 2 := pick_k hk
    rw [if_pos ⟨by show (pick ty true L).k = 2; exact hp, hk⟩]
    simp only [St.withTy, St.cells, setSts_len]
  · have hkb : (ty.k == 2) = false := by simp [hk]
    simp only [hkb, Bool.false_eq_true, if_false]
    rw [if_neg (fun h => hk h.2)]
    simp only [St.cells, setSts_len]
theorem rel_sts : ∀ (l : List St) (L : List Ty), All2 (fun a a' => (Nd.st a).cells.length = (Nd.st a').cells.length ∧ altT (.st a') (Nd.st a).cells) l (setSts l L)
  | [], _ => by rw [setSts]; exact .nil
  | v :: l, L => by rw [setSts]; exact .cons (rel_st v L) (rel_sts l _)
theorem rel_mes : ∀ (l : List Me) (L : List Ty), All2 (fun a a' => (Nd.me a).cells.length = (Nd.me a').cells.length ∧ altT (.me a') (Nd.me a).cells) l (setMes l L)
  | [], _ => .nil
  | v :: l, L => .cons ⟨rfl, v.ret, by show v.cells = Me.cells _; simp only [Me.cells, setMe, setVs_len, setSts_len]⟩ (rel_mes l _)
theorem rel_cls : ∀ (l : List Cl) (L : List Ty), All2 (fun a a' => (Nd.cl a).cells.length = (Nd.cl a').cells.length ∧ altT (.cl a') (Nd.cl a).cells) l (setCls l L)
  | [], _ => .nil
  | v :: l, L => .cons ⟨rfl, noTyT, by show v.cells = Cl.cells _; simp only [Nd.withTy, Cl.cells, setCl, setVs_len, setMes_len]⟩ (rel_cls l _)
where noTyT : Ty := ⟨0, ⟨#[]⟩, 0, ⟨0, 0⟩, ⟨0, 0⟩, ⟨0, 0⟩, ⟨0, 0⟩⟩
mutual
theorem rel_subSt : ∀ (s : St) (L : List Ty), All2 Rel (subSt s) (subSt (setSt s L))
  | .mk k x y name ty e aA ac args bA bc body eA ec els pos, L => by
    rw [setSt, subSt, subSt]
    exact (All2.refl Rel.refl _).append ((All2.refl Rel.refl _).append (((Rel.rows _ _ (rel_sts body _) _).append (rel_subSts body _)).append ((Rel.rows _ _ (rel_sts els _) _).append (rel_subSts els _))))
theorem rel_subSts : ∀ (l : List St) (L : List Ty), All2 Rel (subSts l) (subSts (setSts l L))
  | [], _ => by rw [setSts, subSts]; exact .nil
  | s :: l, L => by rw [setSts, subSts, subSts]; exact (rel_subSt s L).append (rel_subSts l _)
end
theorem rel_rwVas (A : Option Addr) (l : List Va) (L : List Ty) : All2 Rel (rwVas A l) (rwVas A (setVs l L)) := Rel.rows _ _ (rel_vas l L) _
theorem rel_rwSts (A : Option Addr) (l : List St) (L : List Ty) : All2 Rel (rwSts A l) (rwSts A (setSts l L)) := (Rel.rows _ _ (rel_sts l L) _).append (rel_subSts l L)
theorem rel_subMe (m : Me) (L : List Ty) : All2 Rel (subMe m) (subMe (setMe m L)) := (rel_rwVas _ _ _).append ((rel_rwVas _ _ _).append (rel_rwSts _ _ _))
theorem rel_subMes : ∀ (l : List Me) (L : List Ty), All2 Rel (l.flatMap subMe) ((setMes l L).flatMap subMe)
  | [], _ => .nil
  | m :: l, L => by rw [setMes, List.flatMap_cons, List.flatMap_cons]; exact (rel_subMe m L).append (rel_subMes l _)
theorem rel_subCl (c : Cl) (L : List Ty) : All2 Rel (subCl c) (subCl (setCl c L)) :=
  (All2.refl Rel.refl _).append ((All2.refl Rel.refl _).append ((rel_rwVas _ _ _).append ((Rel.rows _ _ (rel_mes _ _) _).append (rel_subMes _ _))))
theorem rel_subCls : ∀ (l : List Cl) (L : List Ty), All2 Rel (l.flatMap subCl) ((setCls l L).flatMap subCl)
  | [], _ => .nil
  | m :: l, L => by rw [setCls, List.flatMap_cons, List.flatMap_cons]; exact (rel_subCl m L).append (rel_subCls l _)
theorem rel_rwCls (A : Option Addr) (l : List Cl) (L : List Ty) : All2 Rel (rwCls A l) (rwCls A (setCls l L)) := (Rel.rows _ _ (rel_cls l L) _).append (rel_subCls l L)

theorem Rel.sep {rs rs' : List Rw} (h : All2 Rel rs rs') (hs : rs.Pairwise Rw.apart) : rs'.Pairwise Rw.apart := by
  induction h with
  | nil => exact .nil
  | cons h t ih =>
    obtain ⟨h1, h2⟩ := List.pairwise_cons.1 hs
    refine List.pairwise_cons.2 ⟨fun q' hq' => ?_, ih h2⟩
    obtain ⟨q, hq, hr⟩ := t.right q' hq'
    have ha := h1 q hq
    unfold Rw.apart Rw.len at ha ⊢
    rw [← h.1, ← h.2.1, ← h.2.2.1, ← hr.1, ← hr.2.1, ← hr.2.2.1]
    exact ha

/-- Where a row's type lies in it. -/
def tyo : Nd → Nat
  | .va _ => 1
  | .me _ => 2
  | .st _ => 4
  | _ => 0
/-- Nodes without a type that may be another. -/
def Nd.fixT : Nd → Prop
  | .va _ => False
  | .me _ => False
  | .st s => s.ty.k ≠ 2
  | _ => True
theorem Nd.fixT_alt {x : Nd} (h : x.fixT) {cs : List Value} (ha : altT x cs) : cs = x.cells := by
  obtain ⟨t, rfl⟩ := ha
  cases x with
  | va v => exact h.elim
  | me v => exact h.elim
  | st s => show St.cells (if _ then _ else _) = s.cells; rw [if_neg (fun e => h e.1)]
  | _ => rfl
/-- A slot's row: laying the slot's type there makes it what it will be. -/
def SlotRow (rs : List Rw) (x : Sl) : Prop := ∃ r ∈ rs, x.b = r.b ∧ x.off = r.off + tyo r.x ∧ tyo r.x + 11 ≤ r.len ∧ ∀ cs, cs.length = r.len → altT r.x cs → cs.take (tyo r.x) ++ (x.ty.cells ++ cs.drop (tyo r.x + 11)) = r.x.cells
theorem SlotRow.mono {rs qs : List Rw} {x : Sl} (h : SlotRow qs x) (hs : ∀ r ∈ qs, r ∈ rs) : SlotRow rs x := by
  obtain ⟨r, hr, h⟩ := h
  exact ⟨r, hs r hr, h⟩
theorem slotRow_va (A : Option Addr) (c m f : Int) (l : List Va) : ∀ x ∈ slV A c m f l, SlotRow (rwVas A l) x := by
  intro x hx
  unfold slV at hx
  obtain ⟨i, hi, rfl⟩ := List.getElem_of_mem hx
  have hi' : i < l.length := by simpa using hi
  simp only [List.getElem_mapIdx]
  have hr := rowsAt_get (b := bkA A) (off := ofA A) (size := 13) (l := l.map .va) i (by simpa using hi')
  simp only [List.getElem_map] at hr
  refine ⟨_, hr, rfl, rfl, (show 1 + 11 ≤ 13 by decide), fun cs _ ha => ?_⟩
  obtain ⟨t, rfl⟩ := ha
  rfl
theorem slotRow_st (c m : Int) (l : List St) (d : Int) (A : Option Addr) : ∀ x ∈ slB c m (liAll l d (bkA A) (ofA A)), SlotRow (rwSts A l) x := by
  intro x hx
  unfold slB at hx
  obtain ⟨y, hy, rfl⟩ := List.mem_map.1 hx
  obtain ⟨hy1, hy2⟩ := List.mem_filter.1 hy
  have hk : y.s.ty.k = 2 := by simpa using hy2
  refine ⟨_, liAll_rows l d _ _ y hy1, rfl, rfl, (show 4 + 11 ≤ y.s.cells.length by rw [St.cells_len]; decide), fun cs _ ha => ?_⟩
  obtain ⟨t, rfl⟩ := ha
  show (St.cells (if y.s.ty.k = 2 ∧ t.k = 2 then y.s.withTy t else y.s)).take 4 ++ (y.s.ty.cells ++ (St.cells (if y.s.ty.k = 2 ∧ t.k = 2 then y.s.withTy t else y.s)).drop 15) = y.s.cells
  obtain ⟨d', b', o', ⟨k, x, y', name, ty, ⟨ek, en, ename, eA', ec', kids⟩, aA, ac, args, bA, bc, body, eA, ec, els, pos⟩⟩ := y
  by_cases ht : t.k = 2
  · rw [if_pos ⟨hk, ht⟩]; rfl
  · rw [if_neg (fun h => ht h.2)]; rfl
theorem slotRow_me (b off : Nat) (c k : Int) (m : Me) : ∀ x ∈ slM b off c k m, SlotRow (⟨b, off, .me m⟩ :: subMe m) x := by
  intro x hx
  unfold slM at hx
  rcases List.mem_cons.1 hx with rfl | hx
  · refine ⟨_, List.mem_cons_self .., rfl, rfl, (show 2 + 11 ≤ 17 by decide), fun cs _ ha => ?_⟩
    obtain ⟨t, rfl⟩ := ha
    rfl
  · rcases List.mem_append.1 hx with hx | hx
    · exact (slotRow_va _ _ _ _ _ x hx).mono fun r hr => List.mem_cons_of_mem _ (List.mem_append_left _ hr)
    · rcases List.mem_append.1 hx with hx | hx
      · exact (slotRow_va _ _ _ _ _ x hx).mono fun r hr => List.mem_cons_of_mem _ (List.mem_append_right _ (List.mem_append_left _ hr))
      · exact (slotRow_st _ _ _ _ _ x hx).mono fun r hr => List.mem_cons_of_mem _ (List.mem_append_right _ (List.mem_append_right _ hr))
theorem slotRow_cl (i : Nat) (c : Cl) : ∀ x ∈ slC i c, SlotRow (subCl c) x := by
  intro x hx
  unfold slC at hx
  rcases List.mem_append.1 hx with hx | hx
  · exact (slotRow_va _ _ _ _ _ x hx).mono fun r hr => List.mem_append_right _ (List.mem_append_right _ (List.mem_append_left _ hr))
  · unfold slMs at hx
    obtain ⟨y, hy, hx⟩ := List.mem_flatten.1 hx
    obtain ⟨k, hk, rfl⟩ := List.getElem_of_mem hy
    have hk' : k < c.methods.length := by simpa using hk
    simp only [List.getElem_mapIdx] at hx
    refine (slotRow_me _ _ _ _ _ x hx).mono fun r hr => List.mem_append_right _ (List.mem_append_right _ (List.mem_append_right _ ?_))
    rcases List.mem_cons.1 hr with rfl | hr
    · have := rowsAt_get (b := bkA c.mA) (off := ofA c.mA) (size := 17) (l := c.methods.map .me) k (by simpa using hk')
      simp only [List.getElem_map] at this
      exact List.mem_append_left _ this
    · exact List.mem_append_right _ (List.mem_flatMap.2 ⟨_, List.getElem_mem hk', hr⟩)
theorem slotRow_p (A : Option Addr) (l : List Cl) : ∀ x ∈ slP l, SlotRow (rwCls A l) x := by
  intro x hx
  unfold slP at hx
  obtain ⟨y, hy, hx⟩ := List.mem_flatten.1 hx
  obtain ⟨k, hk, rfl⟩ := List.getElem_of_mem hy
  have hk' : k < l.length := by simpa using hk
  simp only [List.getElem_mapIdx] at hx
  exact (slotRow_cl _ _ x hx).mono fun r hr => List.mem_append_right _ (List.mem_flatMap.2 ⟨_, List.getElem_mem hk', hr⟩)

/-! each row with a type is a slot's -/
def RowSlot (xs : List Sl) (r : Rw) : Prop := r.x.fixT ∨ ∃ x ∈ xs, x.b = r.b ∧ x.off = r.off + tyo r.x
theorem RowSlot.mono {xs ys : List Sl} {r : Rw} (h : RowSlot xs r) (hs : ∀ x ∈ xs, x ∈ ys) : RowSlot ys r := h.imp id fun ⟨x, hx, h⟩ => ⟨x, hs x hx, h⟩
theorem exs_fix (l : List Ex) (b off : Nat) : ∀ r ∈ rowsAt b off 4 (l.map .ex), r.x.fixT := fun r hr => by
  obtain ⟨i, hi, rfl⟩ := rowsAt_mem hr
  simp [Nd.fixT]
mutual
theorem subEx_fix : ∀ e : Ex, ∀ r ∈ subEx e, r.x.fixT
  | .mk k num name A c kids, r, hr => by
    rw [subEx] at hr
    rcases List.mem_append.1 hr with hr | hr
    · exact exs_fix kids _ _ r hr
    · exact subExs_fix kids r hr
theorem subExs_fix : ∀ l : List Ex, ∀ r ∈ subExs l, r.x.fixT
  | [], r, hr => by rw [subExs] at hr; cases hr
  | e :: l, r, hr => by
    rw [subExs] at hr
    rcases List.mem_append.1 hr with hr | hr
    · exact subEx_fix e r hr
    · exact subExs_fix l r hr
end
mutual
theorem one_rowSlot (c m : Int) : ∀ (s : St) (d : Int) (b off : Nat), RowSlot (slB c m (liOne s d b off)) ⟨b, off, .st s⟩ ∧ ∀ r ∈ subSt s, RowSlot (slB c m (liOne s d b off)) r
  | .mk k x y name ty e aA ac args bA bc body eA ec els pos, d, b, off => by
    rw [liOne]
    have e1 : ∀ (s : St) (r : List Li), slB c m (⟨d, b, off, s⟩ :: r) = slB c m [⟨d, b, off, s⟩] ++ slB c m r := fun s r => slB_append c m [⟨d, b, off, s⟩] r
    rw [e1, slB_append]
    refine ⟨?_, fun r hr => ?_⟩
    · by_cases hk : ty.k = 2
      · refine .inr ⟨⟨b, off + 4, true, c, m, -1, pos, ty⟩, List.mem_append_left _ ?_, rfl, rfl⟩
        have : (slB c m [⟨d, b, off, .mk k x y name ty e aA ac args bA bc body eA ec els pos⟩]) = [⟨b, off + 4, true, c, m, -1, pos, ty⟩] := by
          have hkb : ((St.mk k x y name ty e aA ac args bA bc body eA ec els pos).ty.k == 2) = true := by show (ty.k == 2) = true; simp [hk]
          have h := slB_yes (c := c) (m := m) [] ⟨d, b, off, .mk k x y name ty e aA ac args bA bc body eA ec els pos⟩ hkb
          exact h
        rw [this]; simp
      · exact .inl hk
    · rw [subSt] at hr
      rcases List.mem_append.1 hr with hr | hr
      · exact .inl (subEx_fix e r hr)
      rcases List.mem_append.1 hr with hr | hr
      · rcases List.mem_append.1 hr with hr | hr
        · exact .inl (exs_fix args _ _ r hr)
        · exact .inl (subExs_fix args r hr)
      rcases List.mem_append.1 hr with hr | hr
      · exact (all_rowSlot c m body _ _ _ r hr).mono fun x hx => List.mem_append_right _ (List.mem_append_left _ hx)
      · exact (all_rowSlot c m els _ _ _ r hr).mono fun x hx => List.mem_append_right _ (List.mem_append_right _ hx)
theorem all_rowSlot (c m : Int) : ∀ (l : List St) (d : Int) (b off : Nat), ∀ r ∈ rowsAt b off 23 (l.map .st) ++ subSts l, RowSlot (slB c m (liAll l d b off)) r
  | [], d, b, off, r, hr => by simp [rowsAt, subSts] at hr
  | s :: l, d, b, off, r, hr => by
    obtain ⟨h1, h2⟩ := one_rowSlot c m s d b off
    have h3 := all_rowSlot c m l d b (off + 23)
    rw [liAll, slB_append]
    rw [List.map_cons, rowsAt_cons, subSts] at hr
    rcases List.mem_append.1 hr with hr | hr
    · rcases List.mem_cons.1 hr with rfl | hr
      · exact h1.mono fun x hx => List.mem_append_left _ hx
      · exact (h3 r (List.mem_append_left _ hr)).mono fun x hx => List.mem_append_right _ hx
    · rcases List.mem_append.1 hr with hr | hr
      · exact (h2 r hr).mono fun x hx => List.mem_append_left _ hx
      · exact (h3 r (List.mem_append_right _ hr)).mono fun x hx => List.mem_append_right _ hx
end
theorem va_rowSlot (A : Option Addr) (c m f : Int) (l : List Va) : ∀ r ∈ rwVas A l, RowSlot (slV A c m f l) r := fun r hr => by
  obtain ⟨i, hi, rfl⟩ := rowsAt_mem hr
  have hi' : i < l.length := by simpa using hi
  refine .inr ⟨(slV A c m f l)[i]'(by rw [slV_len]; exact hi'), List.getElem_mem _, ?_, ?_⟩
  · simp [slV]
  · simp only [List.getElem_map, tyo]
    simp [slV]
theorem me_rowSlot (b off : Nat) (c k : Int) (m : Me) : ∀ r ∈ (⟨b, off, .me m⟩ : Rw) :: subMe m, RowSlot (slM b off c k m) r := fun r hr => by
  unfold slM
  rcases List.mem_cons.1 hr with rfl | hr
  · exact .inr ⟨_, List.mem_cons_self .., rfl, rfl⟩
  · unfold subMe at hr
    rcases List.mem_append.1 hr with hr | hr
    · exact (va_rowSlot _ c k 0 _ r hr).mono fun x hx => List.mem_cons_of_mem _ (List.mem_append_left _ hx)
    rcases List.mem_append.1 hr with hr | hr
    · exact (va_rowSlot _ c k m.params.length _ r hr).mono fun x hx => List.mem_cons_of_mem _ (List.mem_append_right _ (List.mem_append_left _ hx))
    · exact (all_rowSlot c k _ 0 _ _ r hr).mono fun x hx => List.mem_cons_of_mem _ (List.mem_append_right _ (List.mem_append_right _ hx))
theorem cl_rowSlot (i : Nat) (c : Cl) : ∀ r ∈ subCl c, RowSlot (slC i c) r := fun r hr => by
  unfold subCl at hr
  unfold slC
  rcases List.mem_append.1 hr with hr | hr
  · obtain ⟨j, hj, rfl⟩ := rowsAt_mem hr
    exact .inl (by simp [Nd.fixT])
  rcases List.mem_append.1 hr with hr | hr
  · obtain ⟨j, hj, rfl⟩ := rowsAt_mem hr
    exact .inl (by simp [Nd.fixT])
  rcases List.mem_append.1 hr with hr | hr
  · exact (va_rowSlot _ i (-1) 0 _ r hr).mono fun x hx => List.mem_append_left _ hx
  · have key : ∃ (k : Nat) (hk : k < c.methods.length), r ∈ (⟨bkA c.mA, ofA c.mA + k * 17, .me c.methods[k]⟩ : Rw) :: subMe c.methods[k] := by
      rcases List.mem_append.1 hr with hr | hr
      · obtain ⟨k, hk, rfl⟩ := rowsAt_mem hr
        exact ⟨k, by simpa using hk, by simp⟩
      · obtain ⟨m, hm, hr⟩ := List.mem_flatMap.1 hr
        obtain ⟨k, hk, rfl⟩ := List.getElem_of_mem hm
        exact ⟨k, hk, List.mem_cons_of_mem _ hr⟩
    obtain ⟨k, hk, hr⟩ := key
    refine (me_rowSlot _ _ i k _ r hr).mono fun x hx => List.mem_append_right _ ?_
    unfold slMs
    refine List.mem_flatten.2 ⟨_, ?_, hx⟩
    refine List.mem_iff_getElem.2 ⟨k, by simpa using hk, by simp⟩
theorem p_rowSlot (A : Option Addr) (l : List Cl) : ∀ r ∈ rwCls A l, RowSlot (slP l) r := fun r hr => by
  rcases List.mem_append.1 hr with hr | hr
  · obtain ⟨j, hj, rfl⟩ := rowsAt_mem hr
    exact .inl (by simp [Nd.fixT])
  · obtain ⟨c, hc, hr⟩ := List.mem_flatMap.1 hr
    obtain ⟨k, hk, rfl⟩ := List.getElem_of_mem hc
    refine (cl_rowSlot k _ r hr).mono fun x hx => ?_
    unfold slP
    refine List.mem_flatten.2 ⟨_, ?_, hx⟩
    exact List.mem_iff_getElem.2 ⟨k, by simpa using hk, by simp⟩
end Go.Proofs.Grow
set_option linter.unusedSimpArgs false
set_option linter.unusedVariables false
namespace Go.Proofs.Grow
open Go.RowKit

def TysOk (L : List Ty) : Prop := ∀ u ∈ L, u.cls.size ≤ maxLen
theorem TysOk.drop {L : List Ty} (h : TysOk L) (n : Nat) : TysOk (L.drop n) := fun u hu => h u (List.mem_of_mem_drop hu)
theorem pick_size {old : Ty} {st : Bool} {L : List Ty} (h : TysOk L) (ho : old.cls.size ≤ maxLen) : (pick old st L).cls.size ≤ maxLen := by
  cases L with
  | nil => exact ho
  | cons u L =>
    show (if st && u.k != 2 then old else u).cls.size ≤ maxLen
    by_cases hc : (st && u.k != 2) = true
    · rw [if_pos hc]; exact ho
    · rw [if_neg hc]; exact h u (List.mem_cons_self ..)
theorem AdrOk.len {α β : Type} {A : Option Addr} {l : List α} {m : List β} (h : AdrOk A l) (e : m.length = l.length) : AdrOk A m := fun hm => h (by omega)
mutual
theorem setS_st : ∀ (s : St) (L : List Ty), TysOk L → StS s → StS (setSt s L)
  | .mk k x y name ty e aA ac args bA bc body eA ec els pos, L, hL, h => by
    cases h with
    | mk he ha hac ham hai hb hbc hbm hbi hl hlc hlm hli hs =>
    rw [setSt]
    refine .mk he ha hac ham hai (hb.len (setSts_len _ _)) (by rw [setSts_len]; exact hbc) hbm (setS_sts body _ (hL.drop _) hbi) (hl.len (setSts_len _ _)) (by rw [setSts_len]; exact hlc) hlm (setS_sts els _ (hL.drop _) hli) ⟨hs.1, hs.2.1, hs.2.2.1, ?_⟩
    split
    · exact pick_size hL hs.2.2.2
    · exact hs.2.2.2
theorem setS_sts : ∀ (l : List St) (L : List Ty), TysOk L → (∀ s ∈ l, StS s) → ∀ s ∈ setSts l L, StS s
  | [], L, hL, h, s, hs => by rw [setSts] at hs; cases hs
  | a :: l, L, hL, h, s, hs => by
    rw [setSts] at hs
    rcases List.mem_cons.1 hs with rfl | hs
    · exact setS_st a L hL (h a (List.mem_cons_self ..))
    · exact setS_sts l _ (hL.drop _) (fun t ht => h t (List.mem_cons_of_mem _ ht)) s hs
end
theorem setS_me (m : Me) (L : List Ty) (hL : TysOk L) (h : MeS m) : MeS (setMe m L) :=
  ⟨h.params.len (setVs_len _ _), by show (setVs _ _).length ≤ _; rw [setVs_len]; exact h.pc, h.pm, h.locals.len (setVs_len _ _), by show (setVs _ _).length ≤ _; rw [setVs_len]; exact h.lc, h.lm, h.body.len (setSts_len _ _), by show (setSts _ _).length ≤ _; rw [setSts_len]; exact h.bc, h.bm, setS_sts _ _ (hL.drop _) h.stmts⟩
theorem setS_mes : ∀ (l : List Me) (L : List Ty), TysOk L → (∀ s ∈ l, MeS s) → ∀ s ∈ setMes l L, MeS s
  | [], L, hL, h, s, hs => by cases hs
  | a :: l, L, hL, h, s, hs => by
    rw [setMes] at hs
    rcases List.mem_cons.1 hs with rfl | hs
    · exact setS_me a L hL (h a (List.mem_cons_self ..))
    · exact setS_mes l _ (hL.drop _) (fun t ht => h t (List.mem_cons_of_mem _ ht)) s hs
theorem setS_cl (c : Cl) (L : List Ty) (hL : TysOk L) (h : ClS c) : ClS (setCl c L) :=
  ⟨h.params, h.pc, h.pm, h.above, h.ac, h.am, h.fields.len (setVs_len _ _), by show (setVs _ _).length ≤ _; rw [setVs_len]; exact h.fc, h.fm, h.methods.len (setMes_len _ _), by show (setMes _ _).length ≤ _; rw [setMes_len]; exact h.mc, h.mm, setS_mes _ _ (hL.drop _) h.each⟩
theorem setS_cls : ∀ (l : List Cl) (L : List Ty), TysOk L → (∀ s ∈ l, ClS s) → ∀ s ∈ setCls l L, ClS s
  | [], L, hL, h, s, hs => by cases hs
  | a :: l, L, hL, h, s, hs => by
    rw [setCls] at hs
    rcases List.mem_cons.1 hs with rfl | hs
    · exact setS_cl a L hL (h a (List.mem_cons_self ..))
    · exact setS_cls l _ (hL.drop _) (fun t ht => h t (List.mem_cons_of_mem _ ht)) s hs

/-! what can be read -/
section
variable {rs : List Rw} {D : Nat → Nat → Prop} {X : World}
theorem Mask.cellT (h : Mask altT rs D X) {b off : Nat} {x : Nd} (hr : (⟨b, off, x⟩ : Rw) ∈ rs) (j : Nat) (v : Value) (hv : ∀ t, (x.withTy t).cells[j]? = some v) : X.cell? ⟨b, off + j, none⟩ = some v := by
  obtain ⟨_, cs, _, ⟨p, hp⟩, h4, _⟩ := h _ hr
  subst hp
  exact h4 j v (hv p)
theorem RdV.of_t (hM : Mask altT rs D X) {A : Option Addr} {l : List Va} (hA : AdrOk A l) (hl : l.length ≤ maxLen) (hr : ∀ r ∈ rwVas A l, r ∈ rs) : RdV A l X :=
  ⟨hl, fun i hi => by
    obtain ⟨b, off, rfl⟩ := hA (by omega)
    have h1 := hr _ (rowsAt_get (b := b) (off := off) (size := 13) (l := l.map .va) i (by simpa using hi))
    simp only [List.getElem_map] at h1
    exact ⟨b, off, rfl, hM.lt h1, hM.cellT h1 12 _ (fun t => rfl)⟩⟩
theorem st_t (s : St) (t : Ty) : (Nd.withTy (.st s) t).cells[4]? = some (.int .i64 s.ty.k) ∧ (Nd.withTy (.st s) t).cells[20]? = some (.slice s.bA s.body.length s.bc) ∧ (Nd.withTy (.st s) t).cells[21]? = some (.slice s.eA s.els.length s.ec) ∧ (Nd.withTy (.st s) t).cells[22]? = some (.int .i64 s.pos) := by
  simp only [Nd.withTy, Nd.cells]
  obtain ⟨k, x, y', name, ty, ⟨ek, en, ename, eA', ec', kids⟩, aA, ac, args, bA, bc, body, eA, ec, els, pos⟩ := s
  split
  · rename_i h
    have h1 : ty.k = 2 := h.1
    exact ⟨by show some (Value.int .i64 t.k) = some (.int .i64 ty.k); rw [h.2, h1], rfl, rfl, rfl⟩
  · exact ⟨rfl, rfl, rfl, rfl⟩
private theorem s_body {s : St} (h : StS s) : AdrOk s.bA s.body ∧ s.body.length ≤ s.bc ∧ s.bc ≤ maxLen ∧ ∀ t ∈ s.body, StS t := by
  cases h with | mk he ha hac ham hai hb hbc hbm hbi hl hlc hlm hli hs => exact ⟨hb, hbc, hbm, hbi⟩
private theorem s_els {s : St} (h : StS s) : AdrOk s.eA s.els ∧ s.els.length ≤ s.ec ∧ s.ec ≤ maxLen ∧ ∀ t ∈ s.els, StS t := by
  cases h with | mk he ha hac ham hai hb hbc hbm hbi hl hlc hlm hli hs => exact ⟨hl, hlc, hlm, hli⟩
theorem RdB.of_t (hM : Mask altT rs D X) : ∀ (l : List St) (A : Option Addr), AdrOk A l → l.length ≤ maxLen → (∀ s ∈ l, StS s) → (∀ r ∈ rwSts A l, r ∈ rs) → RdB X A l
  | l, A, hA, hl, hS, hr => by
    have hsub : ∀ s ∈ l, ∀ r ∈ subSt s, r ∈ rs := fun s hs r h => hr r (List.mem_append_right _ (subSt_sub hs r h))
    refine .mk hl (fun i hi => ?_) (fun s hs => ?_) (fun s hs => ?_)
    · obtain ⟨b, off, rfl⟩ := hA (by omega)
      have h1 := hr _ (List.mem_append_left _ (rowsAt_get (b := b) (off := off) (size := 23) (l := l.map .st) i (by simpa using hi)))
      simp only [List.getElem_map] at h1
      exact ⟨b, off, rfl, hM.lt h1, hM.cellT h1 4 _ (fun t => (st_t _ t).1), hM.cellT h1 20 _ (fun t => (st_t _ t).2.1), hM.cellT h1 21 _ (fun t => (st_t _ t).2.2.1), hM.cellT h1 22 _ (fun t => (st_t _ t).2.2.2)⟩
    · have h1 := List.sizeOf_lt_of_mem hs
      have h2 := s.body_size
      have h3 := s_body (hS s hs)
      exact RdB.of_t hM _ _ h3.1 (Nat.le_trans h3.2.1 h3.2.2.1) h3.2.2.2 fun r h => hsub s hs r (by rw [subSt_eq]; exact List.mem_append_right _ (List.mem_append_right _ (List.mem_append_left _ h)))
    · have h1 := List.sizeOf_lt_of_mem hs
      have h2 := s.els_size
      have h3 := s_els (hS s hs)
      exact RdB.of_t hM _ _ h3.1 (Nat.le_trans h3.2.1 h3.2.2.1) h3.2.2.2 fun r h => hsub s hs r (by rw [subSt_eq]; exact List.mem_append_right _ (List.mem_append_right _ (List.mem_append_right _ h)))
termination_by l => SizeOf.sizeOf l
decreasing_by
  · omega
  · omega
theorem RdM.of_t (hM : Mask altT rs D X) {b off : Nat} {m : Me} (hr : (⟨b, off, .me m⟩ : Rw) ∈ rs) (hm : MeS m) (hs : ∀ r ∈ subMe m, r ∈ rs) : RdM b off m X := by
  refine ⟨hM.lt hr, ?_, RdV.of_t hM hm.params (Nat.le_trans hm.pc hm.pm) fun r h => hs r (List.mem_append_left _ h), RdV.of_t hM hm.locals (Nat.le_trans hm.lc hm.lm) fun r h => hs r (List.mem_append_right _ (List.mem_append_left _ h)),
    RdB.of_t hM _ _ hm.body (Nat.le_trans hm.bc hm.bm) hm.stmts fun r h => hs r (List.mem_append_right _ (List.mem_append_right _ h))⟩
  obtain ⟨_, cs, _, ⟨t, ht⟩, h4, _⟩ := hM _ hr
  subst ht
  exact ⟨t, h4⟩
theorem RdC.of_t (hM : Mask altT rs D X) {c : Cl} (hc : ClS c) (hs : ∀ r ∈ subCl c, r ∈ rs) : RdC c X := by
  refine ⟨RdV.of_t hM hc.fields (Nat.le_trans hc.fc hc.fm) fun r h => hs r (List.mem_append_right _ (List.mem_append_right _ (List.mem_append_left _ h))), Nat.le_trans hc.mc hc.mm, fun k hk => ?_⟩
  obtain ⟨b, off, hA⟩ := hc.methods (by omega)
  have h1 := hs _ (List.mem_append_right _ (List.mem_append_right _ (List.mem_append_right _ (List.mem_append_left _ (rowsAt_get (b := bkA c.mA) (off := ofA c.mA) (size := 17) (l := c.methods.map .me) k (by simpa using hk))))))
  simp only [List.getElem_map, hA, bkA, ofA] at h1
  exact ⟨b, off, hA, RdM.of_t hM h1 (hc.each _ (List.getElem_mem hk)) fun r h => hs r (List.mem_append_right _ (List.mem_append_right _ (List.mem_append_right _ (List.mem_append_right _ (List.mem_flatMap.2 ⟨_, List.getElem_mem hk, h⟩)))))⟩
theorem RdP.of_t (hM : Mask altT rs D X) {A : Option Addr} {l : List Cl} (hA : AdrOk A l) (hl : l.length ≤ maxLen) (hc : ∀ c ∈ l, ClS c) (hs : ∀ r ∈ rwCls A l, r ∈ rs) : RdP A l X := by
  refine ⟨hl, fun i hi => ?_, fun c h => RdC.of_t hM (hc c h) fun r hr => hs r (List.mem_append_right _ (List.mem_flatMap.2 ⟨c, h, hr⟩))⟩
  obtain ⟨b, off, rfl⟩ := hA (by omega)
  have h1 := hs _ (List.mem_append_left _ (rowsAt_get (b := b) (off := off) (size := 7) (l := l.map .cl) i (by simpa using hi)))
  simp only [List.getElem_map] at h1
  exact ⟨b, off, rfl, hM.lt h1, hM.cellT h1 4 _ (fun t => rfl), hM.cellT h1 5 _ (fun t => rfl)⟩

/-- The slots of pre are laid. -/
def Laid (rs : List Rw) (pre : List Sl) (X : World) : Prop := ∃ D, Mask altT rs D X ∧ ∀ x ∈ pre, ∀ r ∈ rs, r.b = x.b → r.off + tyo r.x = x.off → ¬ r.x.fixT → D r.b r.off
theorem tyo_len {x : Nd} (h : ¬ x.fixT) : tyo x + 11 ≤ x.cells.length := by
  cases x with
  | va v => exact (show 1 + 11 ≤ 13 by decide)
  | me v => exact (show 2 + 11 ≤ 17 by decide)
  | st s => show 4 + 11 ≤ s.cells.length; rw [St.cells_len]; decide
  | _ => exact absurd trivial h
theorem Laid.step {pre : List Sl} {x : Sl} (h : Laid rs pre X) (hs : rs.Pairwise Rw.apart) (hx : SlotRow rs x) : X.there x.b x.off 11 ∧ Laid rs (pre ++ [x]) (X.setCells x.b x.off x.ty.cells) := by
  obtain ⟨D, hM, hD⟩ := h
  obtain ⟨r0, hr0, hb, ho, hlen, hl⟩ := hx
  refine ⟨?_, fun b f => D b f ∨ (b = r0.b ∧ f = r0.off), ?_, fun y hy r hr e1 e2 e3 => ?_⟩
  · rw [hb, ho]
    intro j hj
    have := (hM r0 hr0).1 (tyo r0.x + j) (by omega)
    rwa [← Nat.add_assoc] at this
  · rw [hb, ho]
    exact hM.put hs hr0 (tyo r0.x) x.ty.cells hlen hl (altT_self _)
  · rcases List.mem_append.1 hy with hy | hy
    · exact .inl (hD y hy r hr e1 e2 e3)
    · obtain rfl := List.mem_singleton.1 hy
      rcases pairwise_mem hs r hr r0 hr0 with e | hap
      · exact .inr ⟨by rw [e], by rw [e]⟩
      · exfalso
        have h1 := tyo_len e3
        unfold Rw.apart Rw.len at hap
        unfold Rw.len at hlen
        rcases hap with hap | hap | hap
        · exact hap (by rw [e1, hb])
        · omega
        · omega
theorem Laid.start {rs0 : List Rw} (h : All2 Rel rs0 rs) (he : ∀ r ∈ rs0, X.there r.b r.off r.len ∧ X.rangeAt r.b r.off r.x.cells) : Laid rs [] X := by
  refine ⟨fun _ _ => False, fun r' hr' => ?_, fun x hx => by cases hx⟩
  obtain ⟨r, hr, e1, e2, e3, e4⟩ := h.right r' hr'
  obtain ⟨h1, h2⟩ := he r hr
  refine ⟨by rw [← e1, ← e2]; unfold Rw.len at h1 ⊢; rw [← e3]; exact h1, r.x.cells, e3, e4, by rw [← e1, ← e2]; exact h2, fun h => h.elim⟩
theorem Laid.done {xs : List Sl} (h : Laid rs xs X) (hc : ∀ r ∈ rs, RowSlot xs r) : ∀ r ∈ rs, X.there r.b r.off r.len ∧ X.rangeAt r.b r.off r.x.cells := fun r hr => by
  obtain ⟨D, hM, hD⟩ := h
  obtain ⟨h1, cs, h2, h3, h4, h5⟩ := hM r hr
  refine ⟨h1, ?_⟩
  rcases hc r hr with hf | ⟨x, hx, e1, e2⟩
  · rw [← Nd.fixT_alt hf h3]; exact h4
  · by_cases hf : r.x.fixT
    · rw [← Nd.fixT_alt hf h3]; exact h4
    · rw [← h5 (hD x hx r hr e1.symm e2.symm hf)]; exact h4
theorem Laid.keep {pre : List Sl} {Y : World} {O : Nat → Prop} (h : Laid rs pre X) (hk : KeepsBut O X Y) (hO : ∀ r ∈ rs, ¬ O r.b) : Laid rs pre Y := by
  obtain ⟨D, hM, hD⟩ := h
  exact ⟨D, hM.keep hk hO, hD⟩
theorem Laid.read {pre : List Sl} {A : Option Addr} {l : List Cl} (h : Laid (rwCls A l) pre X) (hA : AdrOk A l) (hl : l.length ≤ maxLen) (hc : ∀ c ∈ l, ClS c) : RdP A l X := by
  obtain ⟨D, hM, hD⟩ := h
  exact RdP.of_t hM hA hl hc fun r hr => hr
end
end Go.Proofs.Grow
set_option linter.unusedSimpArgs false
set_option linter.unusedVariables false
namespace Go.Proofs.YtmpdmelkbemabaaGreat
open Go.RowKit Go.Proofs.Grow

theorem setCells_block (g : Nat) : ∀ (vs : List Value) (o : Nat) (W W' : World), W.heap[g]? = W'.heap[g]? → (W.setCells g o vs).heap[g]? = (W'.setCells g o vs).heap[g]?
  | [], _, _, _, h => h
  | v :: vs, o, W, W', h => by
    rw [World.setCells, World.setCells]
    refine setCells_block g vs (o + 1) _ _ ?_
    simp only [World.setCell, Array.getElem?_modify, h]

theorem setter_any (A : Option Addr) (n c : Nat) (w : World) : Calls Tryz.prog 16 #[.slice A n c] w fun e w' => e = .returned (.func (.func 29) #[] #[.pointer (some ⟨w.heap.size + 1, 0, none⟩), .pointer (some ⟨w.heap.size, 0, none⟩)]) ∧ w' = (w.alloc (.cells #[.slice A n c] 23)).alloc (.cells #[.int .i64 0] 3) := by
  go_enter Tryz.func16, Tryz.ntmps16
  go_wp2_with fail
  go_ret
  exact ⟨rfl, rfl⟩

/-- May the next type be laid into a slot? -/
def fitsAt (x : Sl) (L : List Ty) (k : Nat) : Bool := decide (k < L.length) && !(x.st && ((L[k]?.getD ⟨0, ⟨#[]⟩, 0, ⟨0, 0⟩, ⟨0, 0⟩, ⟨0, 0⟩, ⟨0, 0⟩⟩).k != 2))

set_option maxHeartbeats 2000000 in
set_option maxRecDepth 100000 in
theorem setter1_no (x : Sl) (Bc Bl : Nat) (A : Option Addr) (c k : Nat) (L : List Ty) (Y : World) (hk : k ≤ L.length) (hL : L.length ≤ 1000000000) (hc : Y.heap[Bc]? = some (.cells #[.int .i64 k] 3 (0, 0))) (hl : Y.heap[Bl]? = some (.cells #[.slice A L.length c] 23 (0, 0))) (hs : Lies Y 11 Ty.cells A L)
    (hf : fitsAt x L k = false) :
    Gives Tryz.prog 29 #[.agg x.cells.toArray, .pointer (some ⟨Bc, 0, none⟩), .pointer (some ⟨Bl, 0, none⟩)] Y (.bool false) := by
  refine Gives.mk ?_
  have h1 : Y.cell? ⟨Bc, 0, none⟩ = some (.int .i64 k) := (row_cell (cs := [.int .i64 k]) hc (j := 0) rfl).1
  have h2 : Y.cell? ⟨Bl, 0, none⟩ = some (.slice A L.length c) := (row_cell (cs := [.slice A L.length c]) hl (j := 0) rfl).1
  have l1 := row_lt hc
  have l2 := row_lt hl
  clear hc hl
  by_cases hlt : k < L.length
  · have hx : x.st = true ∧ L[k].k ≠ 2 := by
      unfold fitsAt at hf
      rw [List.getElem?_eq_getElem hlt] at hf
      simp [hlt] at hf
      exact hf
    obtain ⟨b, off, rfl, hb, hcell⟩ := hs k hlt
    have h3 : Y.cell? ⟨b, off + k * 11, none⟩ = some (.int .i64 L[k].k) := by simpa using hcell 0 _ rfl
    obtain ⟨uk, huk⟩ : ∃ uk, uk = L[k].k := ⟨_, rfl⟩
    have hk2 : uk ≠ 2 := by rw [huk]; exact hx.2
    rw [← huk] at h3
    have hlt' : (k : Int) < (L.length : Int) := by omega
    have hge : ¬ ((L.length : Int) ≤ (k : Int)) := by omega
    have l3 : b < Y.heap.size := hb
    obtain ⟨xc, hxc⟩ : ∃ xc, xc = x.cells.toArray := ⟨_, rfl⟩
    have x1 : xc[1]? = some (.bool true) := by rw [hxc, ← hx.1]; rfl
    rw [← hxc]
    clear hxc hs hf huk hcell hx
    go_enter Tryz.func29, Tryz.ntmps29
    go_upto_region 1 with fail
    obtain ⟨X1, hX1⟩ : ∃ X1, X1 = Y.alloc (.cells xc 71) := ⟨_, rfl⟩
    have hb1 : Below Y.heap.size Y X1 := by rw [hX1]; exact (Below.refl _ _).alloc (Nat.le_refl _) _
    have e1 : X1.cell? ⟨Bc, 0, none⟩ = some (.int .i64 k) := (World.cell?_of_block (hb1.block _ l1)).trans h1
    have e2 : X1.cell? ⟨Bl, 0, none⟩ = some (.slice (some ⟨b, off, none⟩) L.length c) := (World.cell?_of_block (hb1.block _ l2)).trans h2
    have e3 : X1.cell? ⟨b, off + k * 11, none⟩ = some (.int .i64 uk) := (World.cell?_of_block (hb1.block _ l3)).trans h3
    have e4 : X1.cell? ⟨Y.heap.size, 1, none⟩ = some (.bool true) := by rw [hX1]; exact (cell_of_row _ _ _ _ _ _ (heap_alloc_new Y _)).trans x1
    have hB := hide hb1
    rw [← hX1]
    clear hX1 hb1 h1 h2 h3 x1
    go_wp2_with fail
    go_ret
    exact ⟨rfl, hB.out⟩
  · obtain rfl : k = L.length := by omega
    have hge : (L.length : Int) ≥ (L.length : Int) := Int.le_refl _
    obtain ⟨xc, hxc⟩ : ∃ xc, xc = x.cells.toArray := ⟨_, rfl⟩
    rw [← hxc]
    clear hxc hs hf
    go_enter Tryz.func29, Tryz.ntmps29
    go_wp2_with fail
    go_ret
    exact ⟨rfl, (Below.refl _ _).alloc (Nat.le_refl _) _⟩

set_option maxHeartbeats 2000000 in
set_option maxRecDepth 100000 in
theorem setter1_yes (x : Sl) (Bc Bl : Nat) (A : Option Addr) (c k : Nat) (L : List Ty) (Y : World) (hk : k < L.length) (hL : L.length ≤ 1000000000) (hc : Y.heap[Bc]? = some (.cells #[.int .i64 k] 3 (0, 0))) (hl : Y.heap[Bl]? = some (.cells #[.slice A L.length c] 23 (0, 0))) (hs : Lies Y 11 Ty.cells A L)
    (hth : Y.there x.b x.off 11) (n1 : x.b ≠ Bc) (n2 : x.b ≠ Bl) (n3 : ∀ ad, A = some ad → ad.block ≠ x.b) (hf : x.st = false ∨ L[k].k = 2) :
    Calls Tryz.prog 29 #[.agg x.cells.toArray, .pointer (some ⟨Bc, 0, none⟩), .pointer (some ⟨Bl, 0, none⟩)] Y fun e w' => e = .returned (.bool true) ∧
      KeepsBut (fun j => j = x.b ∨ j = Bc) Y w' ∧ w'.heap[Bc]? = some (.cells #[.int .i64 ((k : Int) + 1)] 3 (0, 0)) ∧ w'.heap[x.b]? = (Y.setCells x.b x.off L[k].cells).heap[x.b]? := by
  have h1 : Y.cell? ⟨Bc, 0, none⟩ = some (.int .i64 k) := (row_cell (cs := [.int .i64 k]) hc (j := 0) rfl).1
  have h2 : Y.cell? ⟨Bl, 0, none⟩ = some (.slice A L.length c) := (row_cell (cs := [.slice A L.length c]) hl (j := 0) rfl).1
  have l1 := row_lt hc
  have l2 := row_lt hl
  obtain ⟨b, off, rfl, hb, hcell⟩ := hs k hk
  have n3' : b ≠ x.b := n3 _ rfl
  obtain ⟨u, hu⟩ : ∃ u, u = L[k] := ⟨_, rfl⟩
  rw [← hu] at hcell hf ⊢
  have h3 : Y.cell? ⟨b, off + k * 11, none⟩ = some (.int .i64 u.k) := by simpa using hcell 0 _ rfl
  have hlt' : (k : Int) < (L.length : Int) := by omega
  have hge : ¬ ((L.length : Int) ≤ (k : Int)) := by omega
  have lx : x.b < Y.heap.size := there_lt hth (by decide)
  obtain ⟨xc, hxc⟩ : ∃ xc, xc = x.cells.toArray := ⟨_, rfl⟩
  obtain ⟨st, hst⟩ : ∃ st, st = x.st := ⟨_, rfl⟩
  obtain ⟨xb, hxb⟩ : ∃ xb, xb = x.b := ⟨_, rfl⟩
  obtain ⟨xo, hxo⟩ : ∃ xo, xo = x.off := ⟨_, rfl⟩
  have x0 : xc[0]? = some (.pointer (some ⟨xb, xo, none⟩)) := by rw [hxc, hxb, hxo]; rfl
  have x1 : xc[1]? = some (.bool st) := by rw [hxc, hst]; rfl
  rw [← hxc]
  rw [← hxb] at n1 n2 n3' lx hth ⊢
  rw [← hxo] at hth ⊢
  rw [← hst] at hf
  have HC := hide hc
  have HT := hide hth
  clear hxc hst hxb hxo hs n3 hc hl hth hu
  go_enter Tryz.func29, Tryz.ntmps29
  go_upto_region 1 with fail
  obtain ⟨X1, hX1⟩ : ∃ X1, X1 = Y.alloc (.cells xc 71) := ⟨_, rfl⟩
  have hb1 : Below Y.heap.size Y X1 := by rw [hX1]; exact (Below.refl _ _).alloc (Nat.le_refl _) _
  have e1 : X1.cell? ⟨Bc, 0, none⟩ = some (.int .i64 k) := (World.cell?_of_block (hb1.block _ l1)).trans h1
  have e2 : X1.cell? ⟨Bl, 0, none⟩ = some (.slice (some ⟨b, off, none⟩) L.length c) := (World.cell?_of_block (hb1.block _ l2)).trans h2
  have e3 : X1.cell? ⟨b, off + k * 11, none⟩ = some (.int .i64 u.k) := (World.cell?_of_block (hb1.block _ hb)).trans h3
  have e4 : X1.cell? ⟨Y.heap.size, 1, none⟩ = some (.bool st) := by rw [hX1]; exact (cell_of_row _ _ _ _ _ _ (heap_alloc_new Y _)).trans x1
  have e5 : X1.cell? ⟨Y.heap.size, 0, none⟩ = some (.pointer (some ⟨xb, xo, none⟩)) := by rw [hX1]; exact (cell_of_row _ _ _ _ _ _ (heap_alloc_new Y _)).trans x0
  have hr1 : X1.rangeAt b (off + k * 11) u.cells := fun j v hv => (World.cell?_of_block (hb1.block _ hb)).trans (hcell j v hv)
  have hs1 : X1.heap.size = Y.heap.size + 1 := by rw [hX1]; simp
  have HB := hide hb1
  rw [← hX1]
  clear hX1 hb1 h1 h2 h3 x0 x1 hcell
  go_cut [20] (fun s20 W => s20 = .bool false ∧ W = X1)
  case first =>
    rcases hf with rfl | hf
    · go_wp2_with fail
      all_goals go_meet
      all_goals exact ⟨rfl, rfl⟩
    · have hu2 : (u.k != 2) = false := by rw [hf]; rfl
      cases st with
      | true =>
        go_wp2_with fail
        all_goals go_meet
        all_goals exact ⟨rfl, rfl⟩
      | false =>
        go_wp2_with fail
        all_goals go_meet
        all_goals exact ⟨rfl, rfl⟩
  case rest =>
    obtain ⟨rfl, rfl⟩ := hcut
    rename World => X1
    have HE1 := hide e1
    have HE2 := hide e2
    go_upto_region 3 with fail
    clear e4 e3 hf
    have lx1 : xb < X1.heap.size := by omega
    let S : World → Prop := fun Z => KeepsBut (fun j => j = xb) X1 Z
    have hS1 : ∀ Z, S Z → Z.cell? ⟨Y.heap.size, 0, none⟩ = some (.pointer (some ⟨xb, xo, none⟩)) ∧ Z.cell? ⟨Bl, 0, none⟩ = some (.slice (some ⟨b, off, none⟩) L.length c) ∧ Z.cell? ⟨Bc, 0, none⟩ = some (.int .i64 k) := fun Z h =>
      ⟨(h.cell (a := ⟨Y.heap.size, 0, none⟩) (by show Y.heap.size < _; omega) (by show ¬ (Y.heap.size = xb); omega)).trans e5, (h.cell (a := ⟨Bl, 0, none⟩) (by show Bl < _; omega) (by show ¬ (Bl = xb); omega)).trans e2, (h.cell (a := ⟨Bc, 0, none⟩) (by show Bc < _; omega) (by show ¬ (Bc = xb); omega)).trans e1⟩
    have hS2 : ∀ Z, S Z → Z.rangeAt b (off + k * 11) u.cells := fun Z h j v hv => (h.cell (a := ⟨b, off + k * 11 + j, none⟩) (by show b < _; omega) (by show ¬ (b = xb); omega)).trans (hr1 j v hv)
    have hS : S X1.drew := KeepsBut.drew X1
    have hth1 : Hid (X1.drew.there xb xo u.cells.toArray.size) := by
      show World.there _ _ _ _
      have e : u.cells.toArray.size = 11 := rfl
      rw [e]
      exact there_block HT.out (HB.out.block _ lx)
    clear e1 e2 e5 hr1
    refine wp_region_till S 99 (by kernel_rfl) ?_
    simp only [List.size_toArray, List.length_cons, List.length_nil, Nat.reduceAdd]
    refine AnyTill.takeG (i := 0) (v := ?_) rfl (by kernel_rfl) (fun _ _ _ h => h) hS ?_ rfl ?_
    rotate_left
    · intro X hSX
      skip
      go_simp
      all_goals with_reducible rfl
    try simp only [Act.put, List.getElem_toArray, List.getElem_cons_succ, List.getElem_cons_zero, List.setIfInBounds_toArray, List.set_cons_zero, List.set_cons_succ]
    refine AnyTill.takeG (i := 1) (v := ?_) rfl (by kernel_rfl) (fun _ _ _ h => h) hS ?_ rfl ?_
    rotate_left
    · intro X hSX
      obtain ⟨f1, f2, f3⟩ := hS1 X hSX
      go_simp
      all_goals with_reducible rfl
    try simp only [Act.put, List.getElem_toArray, List.getElem_cons_succ, List.getElem_cons_zero, List.setIfInBounds_toArray, List.set_cons_zero, List.set_cons_succ]
    refine AnyTill.takeG (i := 2) (v := ?_) rfl (by kernel_rfl) (fun _ _ _ h => h) hS ?_ rfl ?_
    rotate_left
    · intro X hSX
      obtain ⟨f1, f2, f3⟩ := hS1 X hSX
      go_simp
      all_goals with_reducible rfl
    try simp only [Act.put, List.getElem_toArray, List.getElem_cons_succ, List.getElem_cons_zero, List.setIfInBounds_toArray, List.set_cons_zero, List.set_cons_succ]
    refine AnyTill.takeG (i := 3) (v := ?_) rfl (by kernel_rfl) (fun _ _ _ h => h) hS ?_ rfl ?_
    rotate_left
    · intro X hSX
      obtain ⟨f1, f2, f3⟩ := hS1 X hSX
      go_simp
      all_goals with_reducible rfl
    try simp only [Act.put, List.getElem_toArray, List.getElem_cons_succ, List.getElem_cons_zero, List.setIfInBounds_toArray, List.set_cons_zero, List.set_cons_succ]
    refine AnyTill.takeG (i := 4) (v := ?_) rfl (by kernel_rfl) (fun _ _ _ h => h) hS ?_ rfl ?_
    rotate_left
    · intro X hSX
      skip
      go_simp
      all_goals with_reducible rfl
    try simp only [Act.put, List.getElem_toArray, List.getElem_cons_succ, List.getElem_cons_zero, List.setIfInBounds_toArray, List.set_cons_zero, List.set_cons_succ]
    refine AnyTill.takeG (i := 5) (v := .agg u.cells.toArray) rfl (by kernel_rfl) (fun _ _ _ h => h) hS (fun W hSW => run_load_mid rfl rfl (hS2 W hSW) Tryz.underlying40 rfl (by rw [Ty.cells_len]; kernel_rfl)) rfl ?_
    try simp only [Act.put, List.getElem_toArray, List.getElem_cons_succ, List.getElem_cons_zero, List.setIfInBounds_toArray, List.set_cons_zero, List.set_cons_succ]
    refine AnyTill.takeG (i := 6) (v := ?_) rfl (by kernel_rfl) (fun _ _ _ h => h) hS ?_ rfl ?_
    rotate_left
    · intro X hSX
      skip
      go_simp
      all_goals with_reducible rfl
    try simp only [Act.put, List.getElem_toArray, List.getElem_cons_succ, List.getElem_cons_zero, List.setIfInBounds_toArray, List.set_cons_zero, List.set_cons_succ]
    obtain ⟨X3, hX3⟩ : ∃ X3, X3 = X1.drew.setCells xb xo u.cells.toArray.toList := ⟨_, rfl⟩
    have hS3 : KeepsBut (fun j => j = xb) X1 X3 := by rw [hX3]; exact (KeepsBut.drew X1).trans' (KeepsBut.setCells _ _ _ _ rfl)
    have hS3' : S X3 := hS3
    refine AnyTill.oneG (i := 7) rfl (by kernel_rfl) rfl ?_
    intro K hK
    refine wp_store_mid 40 (.tmp 27) (.tmp 26) rfl xb xo u.cells.toArray rfl rfl hth1.out (by rw [List.size_toArray, Ty.cells_len]; kernel_rfl) (all_oneCell_toArray u.cells_one) ?_
    rw [← hX3]
    refine hK _ _ (fun _ => hS3') ?_
    clear hK K
    refine AnyTill.done (by kernel_rfl) ?_ _
    have hc3 : X3.heap[Bc]? = some (.cells #[.int .i64 k] 3 (0, 0)) := (hS3.block _ (by omega) (by show ¬ (Bc = xb); omega)).trans ((HB.out.block _ l1).trans HC.out)
    obtain ⟨c3, g3⟩ := row_cell (cs := [.int .i64 k]) hc3 (j := 0) rfl
    have hwrap : wrap64 ((k : Int) + 1) = (k : Int) + 1 := by unfold wrap64; omega
    have HF : Hid (KeepsBut (fun j => j = xb ∨ j = Bc) Y (X3.setCell ⟨Bc, 0, none⟩ (.int .i64 ((k : Int) + 1))) ∧ (X3.setCell ⟨Bc, 0, none⟩ (.int .i64 ((k : Int) + 1))).heap[Bc]? = some (.cells #[.int .i64 ((k : Int) + 1)] 3 (0, 0)) ∧ (X3.setCell ⟨Bc, 0, none⟩ (.int .i64 ((k : Int) + 1))).heap[xb]? = (Y.setCells xb xo u.cells).heap[xb]?) := by
      refine ⟨((KeepsBut.of_below HB.out).trans' (hS3.mono fun j _ h => .inl h)).trans' (KeepsBut.setCell _ _ _ (.inr rfl)), row_store hc3 0 _, ?_⟩
      refine (Below.heap_setCell _ _ _ _ n1).trans ?_
      rw [hX3]
      exact setCells_block xb _ xo _ _ (HB.out.block _ lx)
    clear hX3 hS3 hS3' hS hS1 hS2 hc3 S
    go_wp2_with fail
    go_ret
    exact ⟨rfl, HF.out⟩
end Go.Proofs.YtmpdmelkbemabaaGreat
