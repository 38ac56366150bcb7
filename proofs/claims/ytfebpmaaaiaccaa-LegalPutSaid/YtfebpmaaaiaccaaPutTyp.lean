/- LegalPut's plain law: a type with a hole is legal in no mode; a legal type of the mode Dominators stays so, put for a legal type's owners. -/
import Derived.Test.YtfebpmaaaiaccaaTyp
import Derived.Test.YtfebpmaaaiaccaaPut
set_option linter.unusedSimpArgs false
set_option linter.unusedVariables false
namespace Go.Proofs.Ytfebpmaaaiaccaa
open Go.RowKit Go.Proofs.Grow

/-- demesneref05.With -/
def withT (t : Ty) (l : List Ow) : Ty := ⟨t.k, t.cls, t.n, if t.k = 2 then put t.o0 l else t.o0, if t.k = 2 ∧ 1 ≤ t.n then put t.o1 l else t.o1, if t.k = 2 ∧ 2 ≤ t.n then put t.o2 l else t.o2, if t.k = 2 ∧ 3 ≤ t.n then put t.o3 l else t.o3⟩
theorem withT_owners (t : Ty) (l : List Ow) (h : t.k = 2) : (withT t l).owners = t.owners.map (fun o => put o l) := by
  obtain ⟨k, cls, n, o0, o1, o2, o3⟩ := t
  have h' : k = 2 := h
  subst h'
  unfold withT Ty.owners Ty.count Ty.own
  simp only
  rcases (show n ≤ 0 ∨ n = 1 ∨ n = 2 ∨ 3 ≤ n by omega) with h | rfl | rfl | h
  · have e : max 0 (min n 3) = 0 := by omega
    simp [e]
  · simp [show max 0 (min (1 : Int) 3) = 1 from rfl]
  · simp [show max 0 (min (2 : Int) 3) = 2 from rfl]
  · have e : max 0 (min n 3) = 3 := by omega
    simp [e, show (1 : Int) ≤ n by omega, show (2 : Int) ≤ n by omega, h]

def holesT (t : Ty) : Int := ((t.owners.filter (fun o => o.k == 7)).length : Int)

theorem owners_none (t : Ty) (h : t.k ≠ 2) : t.owners = [] := by unfold Ty.owners; rw [if_neg h]

theorem firsts_ne7 (m : Int) : (7 : Int) ∉ firsts m := by unfold firsts; split; decide; split; decide; decide
theorem behinds_ne7 (m : Int) : (7 : Int) ∉ behinds m := by unfold behinds; split; decide; split; decide; decide

theorem holes_bad (C : List Cl) (t : Ty) (m : Int) (h : 0 < holesT t) : (typT C t m == 0) = false := by
  rw [beq_eq_false_iff_ne]
  by_cases hk : t.k = 2
  · obtain ⟨l, hl⟩ := owners_cons t hk
    unfold holesT at h
    rw [hl] at h
    unfold typT
    rw [if_pos hk]
    split
    · decide
    · split
      · split
        · rename_i _ _ hf
          unfold typO
          rw [hl, List.drop_one, List.tail_cons]
          by_cases hb : l.all (fun o => decide (o.k ∈ behinds m)) = false
          · rw [if_pos hb]; decide
          · exfalso
            have hb' : l.all (fun o => decide (o.k ∈ behinds m)) = true := by simpa using hb
            have h0 : (t.o0.k == 7) = false := by
              rw [beq_eq_false_iff_ne]; intro e; rw [e] at hf; exact firsts_ne7 m hf
            have hn : l.filter (fun o => o.k == 7) = [] := by
              rw [List.filter_eq_nil_iff]
              intro o ho e
              have := List.all_eq_true.1 hb' o ho
              rw [beq_iff_eq.1 e] at this
              exact behinds_ne7 m (of_decide_eq_true this)
            rw [List.filter_cons, h0] at h
            simp [hn] at h
        · decide
      · decide
  · unfold holesT at h
    rw [owners_none t hk] at h
    simp at h

theorem legal_facts {C : List Cl} {t : Ty} (h : typT C t 1 = 0) (hk : t.k = 2) (hu : uniqT t = false) : 0 ≤ arity C t.cls ∧ arity C t.cls = t.n ∧ (∀ o ∈ t.owners, 1 ≤ o.k ∧ o.k ≤ 4) ∧ allIn t.owners = true := by
  obtain ⟨l, hl⟩ := owners_cons t hk
  unfold typT at h
  rw [if_pos hk] at h
  by_cases h1 : arity C t.cls < 0
  · rw [if_pos h1] at h; exact absurd h (by decide)
  · rw [if_neg h1] at h
    by_cases h2 : arity C t.cls = t.n
    · rw [if_pos h2] at h
      by_cases h3 : t.o0.k ∈ firsts 1
      · rw [if_pos h3] at h
        unfold typO at h
        by_cases h4 : (t.owners.drop 1).all (fun o => decide (o.k ∈ behinds 1)) = false
        · rw [if_pos h4] at h; exact absurd h (by decide)
        · rw [if_neg h4, if_pos hu] at h
          by_cases h5 : moreT t 1 = true
          · have h6 : t.o0.k ≠ 6 := fun e => by simp [uniqT, hk, e] at hu
            refine ⟨by omega, h2, ?_, by simpa [moreT] using h5⟩
            rw [hl] at h4 ⊢
            have h4' : l.all (fun o => decide (o.k ∈ behinds 1)) = true := by simpa using h4
            intro o ho
            rcases List.mem_cons.1 ho with rfl | ho
            · simp [firsts] at h3; omega
            · have := List.all_eq_true.1 h4' o ho
              simp [behinds] at this; omega
          · rw [if_neg h5] at h; exact absurd h (by decide)
      · rw [if_neg h3] at h; exact absurd h (by decide)
    · rw [if_neg h2] at h; exact absurd h (by decide)

theorem legal_made {C : List Cl} {t : Ty} (hk : t.k = 2) (h1 : 0 ≤ arity C t.cls) (h2 : arity C t.cls = t.n) (h3 : ∀ o ∈ t.owners, 1 ≤ o.k ∧ o.k ≤ 4) (h4 : allIn t.owners = true) : typT C t 1 = 0 := by
  obtain ⟨l, hl⟩ := owners_cons t hk
  have h0 := h3 t.o0 (by rw [hl]; simp)
  have hu : uniqT t = false := by
    unfold uniqT
    have : (t.o0.k == 6) = false := beq_eq_false_iff_ne.2 (by omega)
    rw [this, Bool.and_false]
  have hf : t.o0.k ∈ firsts 1 := by simp [firsts]; omega
  unfold typT
  rw [if_pos hk, if_neg (by omega), if_pos h2, if_pos hf]
  unfold typO
  have hb : ¬ (t.owners.drop 1).all (fun o => decide (o.k ∈ behinds 1)) = false := by
    rw [Bool.not_eq_false, List.all_eq_true]
    intro o ho
    have := h3 o (List.mem_of_mem_drop ho)
    simp [behinds]; omega
  rw [if_neg hb, if_pos hu]
  have hm : moreT t 1 = true := by simp [moreT, h4]
  rw [if_pos hm]

theorem allIn_map {L U : List Ow} (hL : allIn L = true) (h : ∀ a ∈ L, ∀ b ∈ L, isIn a.k a.n b.k b.n = true → isIn (put a U).k (put a U).n (put b U).k (put b U).n = true) : allIn (L.map (fun o => put o U)) = true := by
  cases L with
  | nil => rfl
  | cons q l =>
    rw [List.map_cons, allIn]
    rw [Bool.not_eq_true', List.any_eq_false]
    intro o ho
    obtain ⟨p, hp, rfl⟩ := List.mem_map.1 ho
    obtain ⟨i, hi, rfl⟩ := List.getElem_of_mem hp
    have := h q (by simp) l[i] (List.mem_cons_of_mem _ (List.getElem_mem hi)) (allIn_get hL i hi)
    simp [this]

theorem put_legal {C : List Cl} {t u : Ty} (ht : typT C t 1 = 0) (hu : typT C u 1 = 0) (hkt : t.k = 2) (hku : u.k = 2) (hut : uniqT t = false) (huu : uniqT u = false) (hun : u.n ≤ 3)
    (ho : ∀ o ∈ t.owners, o.k ≠ 1 ∧ (o.k = 3 → 1 ≤ o.n ∧ o.n ≤ u.n)) : typT C (withT t u.owners) 1 = 0 := by
  obtain ⟨t1, t2, t3, t4⟩ := legal_facts ht hkt hut
  obtain ⟨u1, u2, u3, u4⟩ := legal_facts hu hku huu
  have hlen : (u.owners.length : Int) = u.n + 1 := by
    unfold Ty.owners
    rw [if_pos hku, List.length_take, Ty.own_len]
    have : u.count = u.n := by unfold Ty.count; omega
    rw [this]; omega
  have hne : u.owners ≠ [] := by obtain ⟨l, hl⟩ := owners_cons u hku; rw [hl]; simp
  have hcase : ∀ o ∈ t.owners, o.k = 2 ∨ o.k = 4 ∨ o.k = 3 ∧ 1 ≤ o.n ∧ o.n < u.owners.length := fun o h => by
    have a := ho o h
    have b := t3 o h
    rcases (show o.k = 2 ∨ o.k = 4 ∨ o.k = 3 by omega) with e | e | e
    · exact .inl e
    · exact .inr (.inl e)
    · have := a.2 e
      exact .inr (.inr ⟨e, this.1, by omega⟩)
  refine legal_made (C := C) (t := withT t u.owners) hkt t1 t2 ?_ ?_
  · rw [withT_owners t _ hkt]
    intro o h
    obtain ⟨p, hp, rfl⟩ := List.mem_map.1 h
    rcases hcase p hp with e | e | ⟨e, e1, e2⟩
    · have : put p u.owners = putAt u.owners 0 := by simp [put, e]
      rw [this, putAt_in (a := 0) 0 (List.length_pos_iff.2 hne) rfl]
      exact u3 _ (List.getElem_mem _)
    · have : put p u.owners = p := by simp [put, e]
      rw [this]; omega
    · have : put p u.owners = putAt u.owners p.n := by simp [put, e]
      rw [this, putAt_in p.n.toNat (by omega) (by omega)]
      exact u3 _ (List.getElem_mem _)
  · rw [withT_owners t _ hkt]
    exact allIn_map t4 (fun a ha b hb hi => put_law hne u4 u3 (hcase a ha) (hcase b hb) hi)

theorem find_of_arity {C : List Cl} {s : ByteArray} (h : 0 ≤ arity C s) : 0 ≤ findC C s := by
  unfold findC
  rcases idx_spec (isName s) C 0 with ⟨_, h2⟩ | ⟨k, hk, h1, h2⟩
  · unfold arity at h; rw [h2] at h; exact absurd h (by decide)
  · rw [h1]; omega
end Go.Proofs.Ytfebpmaaaiaccaa
