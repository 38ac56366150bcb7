/- Programs with the same strip have the same slots but for where they lie; what may be set, by kinds alone. -/
import Derived.Test.YtmpdmelkbemabaaGreatSetter
set_option linter.unusedSimpArgs false
set_option linter.unusedVariables false
namespace Go.Proofs.Grow
open Go.RowKit

/-- A slot without where it lies. -/
def Sl.bare (x : Sl) : Sl := { x with b := 0, off := 0 }
theorem slVa_bare (b off b' off' : Nat) (c m f : Int) : ∀ (l : List Va) (n : Nat), (slVa b off c m f n l).map Sl.bare = (slVa b' off' c m f n l).map Sl.bare
  | [], n => rfl
  | v :: l, n => by rw [slVa, slVa, List.map_cons, List.map_cons, slVa_bare b off b' off' c m f l]; rfl
theorem slV_bare (A B : Option Addr) (c m f : Int) (l : List Va) : (slV A c m f l).map Sl.bare = (slV B c m f l).map Sl.bare := by rw [slV_eq, slV_eq]; exact slVa_bare _ _ _ _ _ _ _ _ _
theorem slB_cons (c m : Int) (x : Li) (r : List Li) : slB c m (x :: r) = (if x.s.ty.k == 2 then [⟨x.b, x.off + 4, true, c, m, -1, x.s.pos, x.s.ty⟩] else []) ++ slB c m r := by
  unfold slB
  rw [List.filter_cons]
  by_cases h : (x.s.ty.k == 2) = true
  · simp [h]
  · simp [h]
mutual
theorem slB_bare1 (c m : Int) : ∀ (s : St) (d : Int) (b off : Nat) (d' : Int) (b' off' : Nat), (slB c m (liOne s d b off)).map Sl.bare = (slB c m (liOne (stSt s) d' b' off')).map Sl.bare
  | .mk k x y name ty e aA ac args bA bc body eA ec els pos, d, b, off, d', b', off' => by
    rw [stSt, liOne, liOne, slB_cons, slB_cons, slB_append, slB_append]
    simp only [List.map_append]
    rw [slB_bareA c m body _ _ _ (wrap64 (d' + 1)) (bkA none) (ofA none), slB_bareA c m els _ _ _ (wrap64 (d' + 1)) (bkA none) (ofA none)]
    congr 1
    show List.map Sl.bare (if ty.k == 2 then _ else _) = List.map Sl.bare (if ty.k == 2 then _ else _)
    by_cases h : (ty.k == 2) = true
    · rw [if_pos h, if_pos h]; rfl
    · rw [if_neg h, if_neg h]
theorem slB_bareA (c m : Int) : ∀ (l : List St) (d : Int) (b off : Nat) (d' : Int) (b' off' : Nat), (slB c m (liAll l d b off)).map Sl.bare = (slB c m (liAll (stSts l) d' b' off')).map Sl.bare
  | [], d, b, off, d', b', off' => by rw [stSts, liAll, liAll]
  | s :: l, d, b, off, d', b', off' => by
    rw [stSts, liAll, liAll, slB_append, slB_append, List.map_append, List.map_append, slB_bare1 c m s d b off d' b' off', slB_bareA c m l d b _ d' b' _]
end
theorem slM_bare (b off b' off' : Nat) (c k : Int) (m : Me) : (slM b off c k m).map Sl.bare = (slM b' off' c k (stMe m)).map Sl.bare := by
  unfold slM
  simp only [List.map_cons, List.map_append]
  rw [slV_bare m.pA (stMe m).pA, slV_bare m.lA (stMe m).lA, slB_bareA c k m.body 0 _ _ 0 (bkA (stMe m).bA) (ofA (stMe m).bA)]
  rfl
theorem slMx_bare (A B : Option Addr) (c : Int) : ∀ (l : List Me) (n : Nat), (slMx A c n l).map Sl.bare = (slMx B c n (l.map stMe)).map Sl.bare
  | [], n => rfl
  | m :: l, n => by rw [List.map_cons, slMx, slMx, List.map_append, List.map_append, slMx_bare A B c l, slM_bare]
theorem slC_bare (i : Nat) (c : Cl) : (slC i c).map Sl.bare = (slC i (stCl c)).map Sl.bare := by
  unfold slC
  rw [List.map_append, List.map_append, slMs_eq, slMs_eq, slV_bare c.fA (stCl c).fA, slMx_bare c.mA (stCl c).mA]
  rfl
theorem slPx_bare : ∀ (l : List Cl) (n : Nat), (slPx n l).map Sl.bare = (slPx n (l.map stCl)).map Sl.bare
  | [], n => rfl
  | c :: l, n => by rw [List.map_cons, slPx, slPx, List.map_append, List.map_append, slPx_bare l, slC_bare]
/-- Slots of two that are alike but for where they lie. -/
theorem slP_bare {C D : List Cl} (h : C.map stCl = D.map stCl) : (slP C).map Sl.bare = (slP D).map Sl.bare := by
  rw [slP_eq, slP_eq, slPx_bare C, slPx_bare D, h]
theorem slP_same {β : Type} (g : Sl → β) (hg : ∀ x, g x.bare = g x) {C D : List Cl} (h : C.map stCl = D.map stCl) : (slP C).map g = (slP D).map g := by
  have e : ∀ l : List Sl, l.map g = (l.map Sl.bare).map g := fun l => by rw [List.map_map]; exact List.map_congr_left fun x _ => (hg x).symm
  rw [e (slP C), e (slP D), slP_bare h]


/-! what may be set, by kinds: true where the slot is a statement's -/
def kdVs (l : List Va) : List Bool := l.map fun _ => false
mutual
def kdSt : St → List Bool
  | .mk _ _ _ _ ty _ _ _ _ _ _ body _ _ els _ => (if ty.k == 2 then [true] else []) ++ (kdSts body ++ kdSts els)
def kdSts : List St → List Bool
  | [] => []
  | s :: l => kdSt s ++ kdSts l
end
def kdMe (m : Me) : List Bool := false :: (kdVs m.params ++ (kdVs m.locals ++ kdSts m.body))
def kdMes : List Me → List Bool
  | [] => []
  | m :: l => kdMe m ++ kdMes l
def kdCl (c : Cl) : List Bool := kdVs c.fields ++ kdMes c.methods
def kdCls : List Cl → List Bool
  | [] => []
  | c :: l => kdCl c ++ kdCls l
mutual
theorem kdSt_len : ∀ s : St, (kdSt s).length = nSt s
  | .mk k x y name ty e aA ac args bA bc body eA ec els pos => by
    rw [kdSt, nSt, List.length_append, List.length_append, kdSts_len body, kdSts_len els]
    by_cases h : (ty.k == 2) = true
    · rw [if_pos h, if_pos h]; rfl
    · rw [if_neg h, if_neg h]; rfl
theorem kdSts_len : ∀ l : List St, (kdSts l).length = nSts l
  | [] => by rw [kdSts, nSts]; rfl
  | s :: l => by rw [kdSts, nSts, List.length_append, kdSt_len s, kdSts_len l]
end
theorem kdVs_len (l : List Va) : (kdVs l).length = l.length := List.length_map ..
theorem kdMe_len (m : Me) : (kdMe m).length = nMe m := by
  unfold kdMe nMe
  simp only [List.length_cons, List.length_append, kdVs_len, kdSts_len]
  omega
theorem kdMes_len : ∀ l : List Me, (kdMes l).length = nMes l
  | [] => rfl
  | m :: l => by rw [kdMes, nMes, List.length_append, kdMe_len, kdMes_len l]
theorem kdCl_len (c : Cl) : (kdCl c).length = nCl c := by
  unfold kdCl nCl
  rw [List.length_append, kdVs_len, kdMes_len]
theorem kdCls_len : ∀ l : List Cl, (kdCls l).length = nCls l
  | [] => rfl
  | m :: l => by rw [kdCls, nCls, List.length_append, kdCl_len, kdCls_len l]
mutual
theorem slB_kd1 (c m : Int) : ∀ (s : St) (d : Int) (b off : Nat), (slB c m (liOne s d b off)).map Sl.st = kdSt s
  | .mk k x y name ty e aA ac args bA bc body eA ec els pos, d, b, off => by
    rw [liOne, slB_cons, slB_append]
    simp only [List.map_append]
    rw [slB_kdA c m body, slB_kdA c m els, kdSt]
    congr 1
    show List.map Sl.st (if ty.k == 2 then _ else _) = (if ty.k == 2 then _ else _)
    by_cases h : (ty.k == 2) = true
    · rw [if_pos h, if_pos h]; rfl
    · rw [if_neg h, if_neg h]; rfl
theorem slB_kdA (c m : Int) : ∀ (l : List St) (d : Int) (b off : Nat), (slB c m (liAll l d b off)).map Sl.st = kdSts l
  | [], d, b, off => by rw [liAll, kdSts]; rfl
  | s :: l, d, b, off => by
    rw [liAll, slB_append, List.map_append, slB_kd1 c m s, slB_kdA c m l, kdSts]
end
theorem slV_kd (A : Option Addr) (c m f : Int) (l : List Va) : (slV A c m f l).map Sl.st = kdVs l := by
  unfold slV kdVs
  apply List.ext_getElem
  · simp
  · intro i h1 h2; simp
theorem slM_kd (b off : Nat) (c k : Int) (m : Me) : (slM b off c k m).map Sl.st = kdMe m := by
  unfold slM kdMe
  simp only [List.map_cons, List.map_append, slV_kd, slB_kdA]
theorem slMx_kd (A : Option Addr) (c : Int) : ∀ (l : List Me) (n : Nat), (slMx A c n l).map Sl.st = kdMes l
  | [], n => rfl
  | m :: l, n => by rw [slMx, kdMes, List.map_append, slMx_kd A c l, slM_kd]
theorem slC_kd (i : Nat) (c : Cl) : (slC i c).map Sl.st = kdCl c := by
  unfold slC kdCl
  rw [List.map_append, slMs_eq, slV_kd, slMx_kd]
theorem slPx_kd : ∀ (l : List Cl) (n : Nat), (slPx n l).map Sl.st = kdCls l
  | [], n => rfl
  | c :: l, n => by rw [slPx, kdCls, List.map_append, slPx_kd l, slC_kd]
theorem slP_kd (l : List Cl) : (slP l).map Sl.st = kdCls l := by rw [slP_eq, slPx_kd]

mutual
theorem nSt_fw : ∀ s : St, nSt s ≤ s.fw
  | .mk k x y name ty e aA ac args bA bc body eA ec els pos => by
    have h1 := nSts_fw body
    have h2 := nSts_fw els
    rw [nSt, St.fw]
    split <;> omega
theorem nSts_fw : ∀ l : List St, nSts l ≤ stFw l
  | [] => by rw [nSts, stFw]; exact Nat.le_refl _
  | s :: l => by
    have h1 := nSt_fw s
    have h2 := nSts_fw l
    rw [nSts, stFw]
    omega
end
theorem nMe_fw (m : Me) : nMe m ≤ m.fw := by
  have := nSts_fw m.body
  unfold nMe Me.fw
  omega
theorem nMes_fw : ∀ l : List Me, nMes l ≤ (l.map Me.fw).sum
  | [] => by simp [nMes]
  | m :: l => by
    have h1 := nMe_fw m
    have h2 := nMes_fw l
    rw [nMes, List.map_cons, List.sum_cons]
    omega
theorem nCls_fw : ∀ l : List Cl, nCls l ≤ (l.map Cl.fw).sum
  | [] => by simp [nCls]
  | c :: l => by
    have h1 := nMes_fw c.methods
    have h2 := nCls_fw l
    have h3 : nCl c ≤ c.fw := by unfold nCl Cl.fw; omega
    rw [nCls, List.map_cons, List.sum_cons]
    omega

/-- Do the first types fit the kinds? -/
def Fit : List Bool → List Ty → Prop
  | [], _ => True
  | _ :: _, [] => False
  | b :: ks, t :: L => (b = true → t.k = 2) ∧ Fit ks L
theorem Fit_append : ∀ (p q : List Bool) (L : List Ty), Fit (p ++ q) L ↔ Fit p L ∧ Fit q (L.drop p.length)
  | [], q, L => by simp [Fit]
  | b :: p, q, [] => by simp [Fit]
  | b :: p, q, t :: L => by
    rw [List.cons_append, Fit, Fit, Fit_append p q L, List.length_cons, List.drop_succ_cons, and_assoc]
theorem Fit_len : ∀ (p : List Bool) (L : List Ty), Fit p L → p.length ≤ L.length
  | [], L, _ => by simp
  | b :: p, [], h => h.elim
  | b :: p, t :: L, h => by have := Fit_len p L h.2; simp; omega
theorem Fit_vs (l : List Va) : ∀ L : List Ty, Fit (kdVs l) L ↔ l.length ≤ L.length := by
  induction l with
  | nil => intro L; simp [kdVs, Fit]
  | cons v l ih =>
    intro L
    cases L with
    | nil => simp [kdVs, Fit]
    | cons t L =>
      have := ih L
      unfold kdVs at this ⊢
      rw [List.map_cons, Fit, this, List.length_cons, List.length_cons]
      simp
end Go.Proofs.Grow
