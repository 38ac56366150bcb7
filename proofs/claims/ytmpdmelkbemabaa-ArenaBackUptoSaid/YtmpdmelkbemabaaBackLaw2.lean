/- The plain law of ArenaBack: what may be set, what is told, how much there is. -/
import Derived.Test.YtmpdmelkbemabaaSetA
import Derived.Test.YtmpdmelkbemabaaLawTells12
set_option linter.unusedSimpArgs false
set_option linter.unusedVariables false
namespace Go.Proofs.Grow
open Go.RowKit

/-- A slot without where it lies. -/
def Sl.bare (x : Sl) : Sl := { x with b := 0, off := 0 }
theorem slVa_bare (b off b' off' : Nat) (c m f : Int) : ∀ (l : List Va) (n : Nat), (slVa b off c m f n l).map Sl.bare = (slVa b' off' c m f n l).map Sl.bare
  | [], n => rfl
  | v :: l, n => by rw [slVa, slVa, List.map_cons, List.map_cons, slVa_bare b off b' off' c m f l]; rfl
theorem slV_bare (A B : Option Addr) (c m f : Int) (l : List Va) : (slV A c m f l).map Sl.bare = (slV B c m f l).map Sl.bare := by rw [slV_eq, slV_eq]; exact slVa_bare _ _ _ _ _ _ _ _ _
theorem slB_cons (c m : Int) (x : Li) (r : List Li) : slB c m (x :: r) = (if x.s.ty.k == 2 then [⟨x.b, x.off + 4, true, c, m, -1, x.s.pos, x.s.ty⟩] else []) ++ slB c m r := by
  unfold slB
  rw [List.filter_cons]
  by_cases h : (x.s.ty.k == 2) = true
  · simp [h]
  · simp [h]
mutual
theorem slB_bare1 (c m : Int) : ∀ (s : St) (d : Int) (b off : Nat) (d' : Int) (b' off' : Nat), (slB c m (liOne s d b off)).map Sl.bare = (slB c m (liOne (stSt s) d' b' off')).map Sl.bare
  | .mk k x y name ty e aA ac args bA bc body eA ec els pos, d, b, off, d', b', off' => by
    rw [stSt, liOne, liOne, slB_cons, slB_cons, slB_append, slB_append]
    simp only [List.map_append]
    rw [slB_bareA c m body _ _ _ (wrap64 (d' + 1)) (bkA none) (ofA none), slB_bareA c m els _ _ _ (wrap64 (d' + 1)) (bkA none) (ofA none)]
    congr 1
    show List.map Sl.bare (if ty.k == 2 then _ else _) = List.map Sl.bare (if ty.k == 2 then _ else _)
    by_cases h : (ty.k == 2) = true
    · rw [if_pos h, if_pos h]; rfl
    · rw [if_neg h, if_neg h]
theorem slB_bareA (c m : Int) : ∀ (l : List St) (d : Int) (b off : Nat) (d' : Int) (b' off' : Nat), (slB c m (liAll l d b off)).map Sl.bare = (slB c m (liAll (stSts l) d' b' off')).map Sl.bare
  | [], d, b, off, d', b', off' => by rw [stSts, liAll, liAll]
  | s :: l, d, b, off, d', b', off' => by
    rw [stSts, liAll, liAll, slB_append, slB_append, List.map_append, List.map_append, slB_bare1 c m s d b off d' b' off', slB_bareA c m l d b _ d' b' _]
end
theorem slM_bare (b off b' off' : Nat) (c k : Int) (m : Me) : (slM b off c k m).map Sl.bare = (slM b' off' c k (stMe m)).map Sl.bare := by
  unfold slM
  simp only [List.map_cons, List.map_append]
  rw [slV_bare m.pA (stMe m).pA, slV_bare m.lA (stMe m).lA, slB_bareA c k m.body 0 _ _ 0 (bkA (stMe m).bA) (ofA (stMe m).bA)]
  rfl
theorem slMx_bare (A B : Option Addr) (c : Int) : ∀ (l : List Me) (n : Nat), (slMx A c n l).map Sl.bare = (slMx B c n (l.map stMe)).map Sl.bare
  | [], n => rfl
  | m :: l, n => by rw [List.map_cons, slMx, slMx, List.map_append, List.map_append, slMx_bare A B c l, slM_bare]
theorem slC_bare (i : Nat) (c : Cl) : (slC i c).map Sl.bare = (slC i (stCl c)).map Sl.bare := by
  unfold slC
  rw [List.map_append, List.map_append, slMs_eq, slMs_eq, slV_bare c.fA (stCl c).fA, slMx_bare c.mA (stCl c).mA]
  rfl
theorem slPx_bare : ∀ (l : List Cl) (n : Nat), (slPx n l).map Sl.bare = (slPx n (l.map stCl)).map Sl.bare
  | [], n => rfl
  | c :: l, n => by rw [List.map_cons, slPx, slPx, List.map_append, List.map_append, slPx_bare l, slC_bare]
/-- Slots of two that are alike but for where they lie. -/
theorem slP_bare {C D : List Cl} (h : C.map stCl = D.map stCl) : (slP C).map Sl.bare = (slP D).map Sl.bare := by
  rw [slP_eq, slP_eq, slPx_bare C, slPx_bare D, h]
theorem slP_same {β : Type} (g : Sl → β) (hg : ∀ x, g x.bare = g x) {C D : List Cl} (h : C.map stCl = D.map stCl) : (slP C).map g = (slP D).map g := by
  have e : ∀ l : List Sl, l.map g = (l.map Sl.bare).map g := fun l => by rw [List.map_map]; exact List.map_congr_left fun x _ => (hg x).symm
  rw [e (slP C), e (slP D), slP_bare h]

/-! a program with its own types -/
def tyVs (l : List Va) : List Ty := l.map Va.ty
mutual
def tySt : St → List Ty
  | .mk _ _ _ _ ty _ _ _ _ _ _ body _ _ els _ => (if ty.k == 2 then [ty] else []) ++ (tySts body ++ tySts els)
def tySts : List St → List Ty
  | [] => []
  | s :: l => tySt s ++ tySts l
end
def tyMe (m : Me) : List Ty := m.ret :: (tyVs m.params ++ (tyVs m.locals ++ tySts m.body))
def tyMes : List Me → List Ty
  | [] => []
  | m :: l => tyMe m ++ tyMes l
def tyCl (c : Cl) : List Ty := tyVs c.fields ++ tyMes c.methods
def tyCls : List Cl → List Ty
  | [] => []
  | c :: l => tyCl c ++ tyCls l
mutual
theorem tySt_len : ∀ s : St, (tySt s).length = nSt s
  | .mk k x y name ty e aA ac args bA bc body eA ec els pos => by
    rw [tySt, nSt, List.length_append, List.length_append, tySts_len body, tySts_len els]
    by_cases h : (ty.k == 2) = true
    · rw [if_pos h, if_pos h]; rfl
    · rw [if_neg h, if_neg h]; rfl
theorem tySts_len : ∀ l : List St, (tySts l).length = nSts l
  | [] => by rw [tySts, nSts]; rfl
  | s :: l => by rw [tySts, nSts, List.length_append, tySt_len s, tySts_len l]
end
theorem tyMe_len (m : Me) : (tyMe m).length = nMe m := by
  unfold tyMe nMe tyVs
  simp only [List.length_cons, List.length_append, List.length_map, tySts_len]
  omega
theorem tyMes_len : ∀ l : List Me, (tyMes l).length = nMes l
  | [] => rfl
  | m :: l => by rw [tyMes, nMes, List.length_append, tyMe_len, tyMes_len l]
theorem tyCl_len (c : Cl) : (tyCl c).length = nCl c := by
  unfold tyCl nCl tyVs
  rw [List.length_append, List.length_map, tyMes_len]
theorem setVs_own : ∀ (l : List Va) (R : List Ty), setVs l (tyVs l ++ R) = l
  | [], R => rfl
  | v :: l, R => by
    show ({ v with ty := pick v.ty false (v.ty :: (tyVs l ++ R)) } : Va) :: setVs l (tyVs l ++ R) = v :: l
    rw [setVs_own l R]
    rfl
mutual
theorem setSt_own : ∀ (s : St) (R : List Ty), setSt s (tySt s ++ R) = s
  | .mk k x y name ty e aA ac args bA bc body eA ec els pos, R => by
    rw [tySt, setSt]
    by_cases h : (ty.k == 2) = true
    · have hk : ty.k = 2 := by simpa using h
      simp only [if_pos h]
      have e1 : ([ty] ++ (tySts body ++ tySts els) ++ R).drop 1 = tySts body ++ (tySts els ++ R) := by simp
      have e2 : ([ty] ++ (tySts body ++ tySts els) ++ R).drop (1 + nSts body) = tySts els ++ R := by
        rw [← List.drop_drop, e1, ← tySts_len body, List.drop_left]
      have e3 : pick ty true ([ty] ++ (tySts body ++ tySts els) ++ R) = ty := by simp [pick]
      rw [e1, e2, e3, setSts_own body, setSts_own els]
    · simp only [if_neg h]
      have e1 : ([] ++ (tySts body ++ tySts els) ++ R).drop 0 = tySts body ++ (tySts els ++ R) := by simp
      have e2 : ([] ++ (tySts body ++ tySts els) ++ R).drop (0 + nSts body) = tySts els ++ R := by
        rw [← List.drop_drop, e1, ← tySts_len body, List.drop_left]
      rw [e1, e2, setSts_own body, setSts_own els]
theorem setSts_own : ∀ (l : List St) (R : List Ty), setSts l (tySts l ++ R) = l
  | [], R => by rw [setSts]
  | s :: l, R => by
    rw [tySts, setSts, List.append_assoc, setSt_own s, ← tySt_len s, List.drop_left, setSts_own l]
end
theorem setMe_own (m : Me) (R : List Ty) : setMe m (tyMe m ++ R) = m := by
  unfold setMe
  have e0 : pick m.ret false (tyMe m ++ R) = m.ret := rfl
  have e1 : (tyMe m ++ R).drop 1 = tyVs m.params ++ (tyVs m.locals ++ (tySts m.body ++ R)) := by simp [tyMe]
  have e2 : (tyMe m ++ R).drop (1 + m.params.length) = tyVs m.locals ++ (tySts m.body ++ R) := by
    rw [← List.drop_drop, e1, show m.params.length = (tyVs m.params).length by simp [tyVs], List.drop_left]
  have e3 : (tyMe m ++ R).drop (1 + m.params.length + m.locals.length) = tySts m.body ++ R := by
    rw [← List.drop_drop, e2, show m.locals.length = (tyVs m.locals).length by simp [tyVs], List.drop_left]
  rw [e0, e1, e2, e3, setVs_own, setVs_own, setSts_own]
theorem setMes_own : ∀ (l : List Me) (R : List Ty), setMes l (tyMes l ++ R) = l
  | [], R => rfl
  | m :: l, R => by rw [tyMes, setMes, List.append_assoc, setMe_own m, ← tyMe_len m, List.drop_left, setMes_own l]
theorem setCl_own (c : Cl) (R : List Ty) : setCl c (tyCl c ++ R) = c := by
  unfold setCl tyCl
  rw [List.append_assoc, setVs_own, show c.fields.length = (tyVs c.fields).length by simp [tyVs], List.drop_left, setMes_own]
theorem setCls_own' : ∀ (l : List Cl) (R : List Ty), setCls l (tyCls l ++ R) = l
  | [], R => rfl
  | m :: l, R => by rw [tyCls, setCls, List.append_assoc, setCl_own m, ← tyCl_len m, List.drop_left, setCls_own' l]
theorem slVa_ty (b off : Nat) (c m f : Int) : ∀ (l : List Va) (n : Nat), (slVa b off c m f n l).map Sl.ty = tyVs l
  | [], n => rfl
  | v :: l, n => by rw [slVa, List.map_cons, slVa_ty b off c m f l]; rfl
mutual
theorem slB_ty1 (c m : Int) : ∀ (s : St) (d : Int) (b off : Nat), (slB c m (liOne s d b off)).map Sl.ty = tySt s
  | .mk k x y name ty e aA ac args bA bc body eA ec els pos, d, b, off => by
    rw [liOne, slB_cons, slB_append, tySt]
    simp only [List.map_append]
    rw [slB_tyA c m body, slB_tyA c m els]
    congr 1
    show List.map Sl.ty (if ty.k == 2 then _ else _) = _
    by_cases h : (ty.k == 2) = true
    · rw [if_pos h, if_pos h]; rfl
    · rw [if_neg h, if_neg h]; rfl
theorem slB_tyA (c m : Int) : ∀ (l : List St) (d : Int) (b off : Nat), (slB c m (liAll l d b off)).map Sl.ty = tySts l
  | [], d, b, off => by rw [liAll, tySts]; rfl
  | s :: l, d, b, off => by rw [liAll, slB_append, List.map_append, tySts, slB_ty1 c m s, slB_tyA c m l]
end
theorem slM_ty (b off : Nat) (c k : Int) (m : Me) : (slM b off c k m).map Sl.ty = tyMe m := by
  unfold slM tyMe
  simp only [List.map_cons, List.map_append]
  rw [slV_eq, slV_eq, slVa_ty, slVa_ty, slB_tyA]
theorem slMx_ty (A : Option Addr) (c : Int) : ∀ (l : List Me) (n : Nat), (slMx A c n l).map Sl.ty = tyMes l
  | [], n => rfl
  | m :: l, n => by rw [slMx, tyMes, List.map_append, slMx_ty A c l, slM_ty]
theorem slPx_ty : ∀ (l : List Cl) (n : Nat), (slPx n l).map Sl.ty = tyCls l
  | [], n => rfl
  | c :: l, n => by
    rw [slPx, tyCls, List.map_append, slPx_ty l]
    unfold slC tyCl
    rw [List.map_append, slV_eq, slVa_ty, slMs_eq, slMx_ty]
theorem slP_ty (l : List Cl) : (slP l).map Sl.ty = tyCls l := by rw [slP_eq]; exact slPx_ty l 0
/-- A program with its own types. -/
theorem setCls_own (C : List Cl) : setCls C ((slP C).map Sl.ty) = C := by
  have := setCls_own' C []
  rw [List.append_nil] at this
  rw [slP_ty]
  exact this

/-! of which statements' slots are -/
theorem slB_st {c m : Int} {ls : List Li} : ∀ x ∈ slB c m ls, x.st = true → x.ty.k = 2 := by
  intro x hx _
  unfold slB at hx
  obtain ⟨y, hy, rfl⟩ := List.mem_map.1 hx
  have := (List.mem_filter.1 hy).2
  simpa using this
theorem slV_st {A : Option Addr} {c m f : Int} {l : List Va} : ∀ x ∈ slV A c m f l, x.st = true → x.ty.k = 2 := by
  intro x hx h
  unfold slV at hx
  obtain ⟨i, hi, rfl⟩ := List.getElem_of_mem hx
  simp at h
theorem slM_st {b off : Nat} {c k : Int} {m : Me} : ∀ x ∈ slM b off c k m, x.st = true → x.ty.k = 2 := by
  intro x hx h
  unfold slM at hx
  rcases List.mem_cons.1 hx with rfl | hx
  · cases h
  · rcases List.mem_append.1 hx with hx | hx
    · exact slV_st x hx h
    · rcases List.mem_append.1 hx with hx | hx
      · exact slV_st x hx h
      · exact slB_st x hx h
theorem slMx_st {A : Option Addr} {c : Int} : ∀ (l : List Me) (n : Nat), ∀ x ∈ slMx A c n l, x.st = true → x.ty.k = 2
  | [], n, x, hx, h => by cases hx
  | m :: l, n, x, hx, h => by
    rw [slMx] at hx
    rcases List.mem_append.1 hx with hx | hx
    · exact slM_st x hx h
    · exact slMx_st l (n + 1) x hx h
theorem slPx_st : ∀ (l : List Cl) (n : Nat), ∀ x ∈ slPx n l, x.st = true → x.ty.k = 2
  | [], n, x, hx, h => by cases hx
  | m :: l, n, x, hx, h => by
    rw [slPx] at hx
    rcases List.mem_append.1 hx with hx | hx
    · unfold slC at hx
      rw [slMs_eq] at hx
      rcases List.mem_append.1 hx with hx | hx
      · exact slV_st x hx h
      · exact slMx_st _ _ x hx h
    · exact slPx_st l (n + 1) x hx h
theorem slP_st (l : List Cl) : ∀ x ∈ slP l, x.st = true → x.ty.k = 2 := by rw [slP_eq]; exact slPx_st l 0
end Go.Proofs.Grow
set_option linter.unusedSimpArgs false
set_option linter.unusedVariables false
namespace Go.Proofs.Grow
open Go.RowKit

mutual
theorem wt_st : ∀ s : St, (stSt s).wt = s.wt
  | .mk k x y name ty e aA ac args bA bc body eA ec els pos => by rw [stSt, St.wt, St.wt, wtAll_st body, wtAll_st els]
theorem wtAll_st : ∀ l : List St, wtAll (stSts l) = wtAll l
  | [] => by rw [stSts]
  | s :: l => by rw [stSts, wtAll, wtAll, wt_st s, wtAll_st l]
end
mutual
theorem wt_set : ∀ (s : St) (L : List Ty), (setSt s L).wt = s.wt
  | .mk k x y name ty e aA ac args bA bc body eA ec els pos, L => by rw [setSt, St.wt, St.wt, wtAll_set body, wtAll_set els]
theorem wtAll_set : ∀ (l : List St) (L : List Ty), wtAll (setSts l L) = wtAll l
  | [], L => by rw [setSts]
  | s :: l, L => by rw [setSts, wtAll, wtAll, wt_set s, wtAll_set l]
end
theorem setMes_map {β : Type} (g : Me → β) (h : ∀ m L, g (setMe m L) = g m) : ∀ (l : List Me) (L : List Ty), (setMes l L).map g = l.map g
  | [], L => rfl
  | m :: l, L => by rw [setMes, List.map_cons, List.map_cons, h, setMes_map g h l]
theorem setCls_map {β : Type} (g : Cl → β) (h : ∀ m L, g (setCl m L) = g m) : ∀ (l : List Cl) (L : List Ty), (setCls l L).map g = l.map g
  | [], L => rfl
  | m :: l, L => by rw [setCls, List.map_cons, List.map_cons, h, setCls_map g h l]
theorem stCl_map {β : Type} (g : Cl → β) (h : ∀ m, g (stCl m) = g m) {C D : List Cl} (e : C.map stCl = D.map stCl) : C.map g = D.map g := by
  have f : ∀ l : List Cl, l.map g = (l.map stCl).map g := fun l => by rw [List.map_map]; exact List.map_congr_left fun x _ => (h x).symm
  rw [f C, f D, e]
theorem Me.wt_st (m : Me) : (stMe m).wt = m.wt := by
  unfold Me.wt stMe
  simp only [wtAll_st]
theorem Me.wt_set (m : Me) (L : List Ty) : (setMe m L).wt = m.wt := by
  unfold Me.wt setMe
  simp only [wtAll_set, setVs_len]
theorem Cl.wt_st (c : Cl) : (stCl c).wt = c.wt := by
  unfold Cl.wt stCl
  simp only [List.map_map]
  rw [show (Me.wt ∘ stMe) = Me.wt from funext fun m => Me.wt_st m]
theorem Cl.wt_set (c : Cl) (L : List Ty) : (setCl c L).wt = c.wt := by
  unfold Cl.wt setCl
  simp only [setVs_len, setMes_map Me.wt Me.wt_set]
def lnw (c : Cl) : Nat := (c.methods.map fun m => wtAll m.body).sum
theorem lnw_st (c : Cl) : lnw (stCl c) = lnw c := by
  unfold lnw stCl
  simp only [List.map_map]
  rw [show ((fun m : Me => wtAll m.body) ∘ stMe) = (fun m : Me => wtAll m.body) from funext fun m => wtAll_st m.body]
theorem lnw_set (c : Cl) (L : List Ty) : lnw (setCl c L) = lnw c := by
  unfold lnw setCl
  simp only []
  rw [setMes_map (fun m : Me => wtAll m.body) (fun m L => wtAll_set m.body _)]
theorem mapIdx_len {α β : Type} (f : Nat → α → List β) (g : α → Nat) (h : ∀ i a, (f i a).length = g a) : ∀ (l : List α) (n : Nat), ((l.mapIdx fun i a => f (n + i) a).flatten).length = (l.map g).sum
  | [], n => by simp
  | a :: l, n => by
    have ih := mapIdx_len f g h l (n + 1)
    have h0 := h n a
    rw [List.mapIdx_cons, List.flatten_cons, List.length_append, List.map_cons, List.sum_cons]
    have e : (fun i a => f (n + (i + 1)) a) = fun i a => f (n + 1 + i) a := by funext i a; congr 1; omega
    simp only [Nat.add_zero]
    rw [e]
    omega
end Go.Proofs.Grow
set_option linter.unusedSimpArgs false
set_option linter.unusedVariables false
namespace Go.Proofs.Ytmpdmelkbemabaa
open Go.RowKit Go.Proofs.Grow
theorem lnP_num (C : List Cl) : (lnP C).length = (C.map lnw).sum := by
  have h := mapIdx_len (fun i (cl : Cl) => lnMs ((i : Nat) : Int) cl.methods) lnw (fun i cl => by
    have h := mapIdx_len (fun k (m : Me) => lnM ((i : Nat) : Int) ((k : Nat) : Int) m) (fun m => wtAll m.body) (fun k m => by
      unfold lnM
      rw [List.length_map, liAll_len]) cl.methods 0
    unfold lnMs lnw
    simpa using h) C 0
  unfold lnP
  simpa using h
theorem lnP_same {C D : List Cl} (h : C.map stCl = D.map stCl) (L : List Ty) : (lnP (setCls C L)).length = (lnP D).length := by
  rw [lnP_num, lnP_num, setCls_map lnw lnw_set, stCl_map lnw lnw_st h]
theorem wt_same {C D : List Cl} (h : C.map stCl = D.map stCl) (L : List Ty) : ((setCls C L).map Cl.wt).sum = (D.map Cl.wt).sum := by
  rw [setCls_map Cl.wt Cl.wt_set, stCl_map Cl.wt Cl.wt_st h]

/-! what may be set -/
theorem okSet_of {xs ys : List Sl} {L : List Ty} (h : xs.map Sl.st = ys.map Sl.st) (hx : okSet xs L) : okSet ys L := by
  have hl : xs.length = ys.length := by simpa using congrArg List.length h
  refine ⟨hl ▸ hx.1, fun i hi => ?_⟩
  have h1 := hx.2 i (by omega)
  have h2 : (xs[i]'(by omega)).st = ys[i].st := by
    have := congrArg (fun l => l[i]?) h
    simpa [hi, hl ▸ hi] using this
  unfold fitsAt at h1 ⊢
  rw [h2] at h1
  exact h1
theorem okSet_same {C D : List Cl} (h : C.map stCl = D.map stCl) {L : List Ty} (hx : okSet (slP C) L) : okSet (slP D) L := okSet_of (slP_same Sl.st (fun _ => rfl) h) hx
/-- Each type fits a slot for a statement, too, or is that of the slot. -/
theorem okSet_mk {C : List Cl} {L : List Ty} (hl : (slP C).length = L.length) (h : ∀ i (hi : i < (slP C).length) (hL : i < L.length), L[i] = (slP C)[i].ty ∨ L[i].k = 2) : okSet (slP C) L := by
  refine ⟨hl, fun i hi => ?_⟩
  have hL : i < L.length := by omega
  unfold fitsAt
  rw [decide_eq_true hL, List.getElem?_eq_getElem hL]
  show (true && !((slP C)[i].st && (L[i].k != 2))) = true
  by_cases hs : (slP C)[i].st = true
  · have h1 := slP_st C _ (List.getElem_mem hi) hs
    have h2 : L[i].k = 2 := by
      rcases h i hi hL with e | e
      · rw [e]; exact h1
      · exact e
    simp [h2]
  · have : (slP C)[i].st = false := by simpa using hs
    simp [this]
/-- What is set is told. -/
theorem told {xs : List Sl} {L : List Ty} (h : okSet xs L) : (pour xs L).map Sl.ty = L := by
  apply List.ext_getElem (by rw [List.length_map, pour_len]; exact h.1)
  intro i h1 h2
  have hp : i < (pour xs L).length := by simpa using h1
  have hx : i < xs.length := by rw [pour_len] at hp; exact hp
  have hf := h.2 i hx
  rw [List.getElem_map, pour_get xs L i hp]
  show pick xs[i].ty xs[i].st (L.drop i) = L[i]
  rw [List.drop_eq_getElem_cons h2]
  show (if xs[i].st && L[i].k != 2 then xs[i].ty else L[i]) = L[i]
  unfold fitsAt at hf
  rw [List.getElem?_eq_getElem h2] at hf
  have hf' : (xs[i].st && (L[i].k != 2)) = false := by
    have h3 := (Bool.and_eq_true _ _ ▸ hf).2
    have h4 : (!(xs[i].st && (L[i].k != 2))) = true := h3
    simpa only [Bool.not_eq_true'] using h4
  rw [hf']
  rfl

/-- A type of the list, or the slot's own. -/
def oth (l : List Ty) (i : Nat) (t : Ty) : Ty := match l[i]? with | some u => if u.k == 2 then u else t | none => t
theorem oth_in (l : List Ty) (i : Nat) (t : Ty) : oth l i t = t ∨ ((oth l i t).k = 2 ∧ oth l i t ∈ l) := by
  unfold oth
  split
  · rename_i u hu
    by_cases h : (u.k == 2) = true
    · rw [if_pos h]
      exact .inr ⟨by simpa using h, List.mem_of_getElem? hu⟩
    · rw [if_neg h]
      exact .inl rfl
  · exact .inl rfl
def ownL (C : List Cl) : List Ty := (slP C).map Sl.ty
def othL (C : List Cl) (l : List Ty) : List Ty := (ownL C).mapIdx (oth l)
theorem ownL_len (C : List Cl) : (ownL C).length = (slP C).length := List.length_map ..
theorem othL_len (C : List Cl) (l : List Ty) : (othL C l).length = (slP C).length := by unfold othL; rw [List.length_mapIdx, ownL_len]
theorem ok_own (C : List Cl) : okSet (slP C) (ownL C) := okSet_mk (ownL_len C).symm fun i hi hL => .inl (by simp [ownL])
theorem ok_oth (C : List Cl) (l : List Ty) : okSet (slP C) (othL C l) := okSet_mk (othL_len C l).symm fun i hi hL => by
  have e : (othL C l)[i] = oth l i (slP C)[i].ty := by simp [othL, ownL]
  rw [e]
  exact (oth_in l i _).imp id And.left
theorem no_longer (C : List Cl) (t : Ty) : ¬ okSet (slP C) (ownL C ++ [t]) := fun h => by
  have := h.1
  rw [List.length_append, ownL_len] at this
  simp at this
/-- What the copy's slots are, set anew. -/
theorem set_told {C D : List Cl} (h : C.map stCl = D.map stCl) {L : List Ty} (hx : okSet (slP D) L) : (slP (setCls C L)).map Sl.ty = L := by
  rw [pour_slP]
  exact told (okSet_same h.symm hx)
theorem set_own {C D : List Cl} (h : C.map stCl = D.map stCl) : (setCls C (ownL D)).map stCl = D.map stCl := by
  have e : ownL D = ownL C := (slP_same Sl.ty (fun _ => rfl) h).symm
  rw [e]
  unfold ownL
  rw [setCls_own, h]
end Go.Proofs.Ytmpdmelkbemabaa
