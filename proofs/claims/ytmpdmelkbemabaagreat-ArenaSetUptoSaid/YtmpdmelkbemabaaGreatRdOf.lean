/- What lies in memory can be read: the iterators' reading facts out of ClIn. -/
import Derived.Test.YtmpdmelkbemabaaGreatNotes
set_option linter.unusedSimpArgs false
set_option linter.unusedVariables false
namespace Go.Proofs.Grow
open Go.RowKit

section
variable {W : World}
theorem RdV.of {A : Option Addr} {l : List Va} (h : Lies W 13 Va.cells A l) (hl : l.length ≤ maxLen) : RdV A l W :=
  ⟨hl, fun i hi => by
    obtain ⟨b, off, hA, hb, hc⟩ := h i hi
    exact ⟨b, off, hA, hb, hc 12 _ rfl⟩⟩
private theorem in_body {w : World} {s : St} (h : StIn w s) : (∀ t ∈ s.body, StIn w t) ∧ Lies w 23 St.cells s.bA s.body ∧ s.body.length ≤ s.bc ∧ s.bc ≤ maxLen := by
  cases h with | mk he ha hac ham hai hb hbc hbm hbi hl hlc hlm hli hs => exact ⟨hbi, hb, hbc, hbm⟩
private theorem in_els {w : World} {s : St} (h : StIn w s) : (∀ t ∈ s.els, StIn w t) ∧ Lies w 23 St.cells s.eA s.els ∧ s.els.length ≤ s.ec ∧ s.ec ≤ maxLen := by
  cases h with | mk he ha hac ham hai hb hbc hbm hbi hl hlc hlm hli hs => exact ⟨hli, hl, hlc, hlm⟩
theorem RdB.of_st : ∀ (l : List St) (A : Option Addr), Lies W 23 St.cells A l → (∀ s ∈ l, StIn W s) → l.length ≤ maxLen → RdB W A l
  | l, A, h, hi, hl => by
    refine .mk hl (fun i hi => ?_) (fun s hs => ?_) (fun s hs => ?_)
    · obtain ⟨b, off, hA, hb, hc⟩ := h i hi
      exact ⟨b, off, hA, hb, hc 4 _ (St.at4 _), hc 20 _ (St.at20 _), hc 21 _ (St.at21 _), hc 22 _ (St.at22 _)⟩
    · have h1 := List.sizeOf_lt_of_mem hs
      have h2 := s.body_size
      have h3 := in_body (hi s hs)
      exact RdB.of_st _ _ h3.2.1 h3.1 (Nat.le_trans h3.2.2.1 h3.2.2.2)
    · have h1 := List.sizeOf_lt_of_mem hs
      have h2 := s.els_size
      have h3 := in_els (hi s hs)
      exact RdB.of_st _ _ h3.2.1 h3.1 (Nat.le_trans h3.2.2.1 h3.2.2.2)
termination_by l => SizeOf.sizeOf l
decreasing_by
  · omega
  · omega
theorem RdM.of {b off : Nat} {m : Me} (hb : b < W.heap.size) (hr : W.rangeAt b off m.cells) (hm : MeIn W m) : RdM b off m W :=
  ⟨hb, ⟨m.ret, hr⟩, RdV.of hm.params (Nat.le_trans hm.pc hm.pm), RdV.of hm.locals (Nat.le_trans hm.lc hm.lm), RdB.of_st _ _ hm.body hm.stmts (Nat.le_trans hm.bc hm.bm)⟩
theorem RdC.of {cl : Cl} (h : ClIn W cl) : RdC cl W :=
  ⟨RdV.of h.fields (Nat.le_trans h.fc h.fm), Nat.le_trans h.mc h.mm, fun k hk => by
    obtain ⟨b, off, hA, hb, hc⟩ := h.methods k hk
    exact ⟨b, off, hA, RdM.of hb (fun j v hv => hc j v hv) (h.each _ (List.getElem_mem hk))⟩⟩
theorem RdP.of {A : Option Addr} {l : List Cl} (h : Lies W 7 Cl.cells A l) (hi : ∀ cl ∈ l, ClIn W cl) (hl : l.length ≤ maxLen) : RdP A l W :=
  ⟨hl, fun i hi => by
    obtain ⟨b, off, hA, hb, hc⟩ := h i hi
    exact ⟨b, off, hA, hb, hc 4 _ rfl, hc 5 _ rfl⟩, fun cl hcl => RdC.of (hi cl hcl)⟩

/-- Where a slot's type lies. -/
def TyIn (W : World) (x : Sl) : Prop := x.b < W.heap.size ∧ W.rangeAt x.b x.off x.ty.cells
theorem slV_in {A : Option Addr} {c m f : Int} {l : List Va} (h : Lies W 13 Va.cells A l) : ∀ x ∈ slV A c m f l, TyIn W x := by
  intro x hx
  unfold slV at hx
  obtain ⟨i, hi, rfl⟩ := List.getElem_of_mem hx
  have hi' : i < l.length := by simpa using hi
  obtain ⟨b, off, rfl, hb, hc⟩ := h i hi'
  simp only [List.getElem_mapIdx]
  refine ⟨hb, fun j v hv => ?_⟩
  have := hc (j + 1) v (by
    show (Value.string l[i].name :: (l[i].ty.cells ++ [.int .i64 l[i].pos]))[j + 1]? = some v
    rw [List.getElem?_cons_succ, List.getElem?_append_left (List.getElem?_eq_some_iff.1 hv).1]
    exact hv)
  have e : ofA (some ⟨b, off, none⟩) + i * 13 + 1 + j = off + i * 13 + (j + 1) := by show off + i * 13 + 1 + j = _; omega
  rw [e]
  exact this
def TyLi (W : World) (x : Li) : Prop := x.b < W.heap.size ∧ W.rangeAt x.b x.off x.s.cells
mutual
theorem liOne_ty : ∀ (s : St) (d : Int) (b off : Nat), TyLi W ⟨d, b, off, s⟩ → StIn W s → ∀ x ∈ liOne s d b off, TyLi W x
  | .mk k x y name ty e aA ac args bA bc body eA ec els pos, d, b, off, h, hi, z, hz => by
    rw [liOne] at hz
    cases hi with
    | mk he ha hac ham hai hb hbc hbm hbi hl2 hlc hlm hli hst =>
    rcases List.mem_cons.1 hz with rfl | hz
    · exact h
    · rcases List.mem_append.1 hz with hz | hz
      · exact liAll_ty body _ bA hb hbi z hz
      · exact liAll_ty els _ eA hl2 hli z hz
theorem liAll_ty : ∀ (l : List St) (d : Int) (A : Option Addr), Lies W 23 St.cells A l → (∀ s ∈ l, StIn W s) → ∀ x ∈ liAll l d (bkA A) (ofA A), TyLi W x
  | l, d, A, h, hi, x, hx => liTail_ty l d (bkA A) (ofA A) (fun i hl => by
      obtain ⟨b, off, rfl, hb, hc⟩ := h i hl
      exact ⟨⟨hb, hc⟩, hi _ (List.getElem_mem hl)⟩) x hx
theorem liTail_ty : ∀ (l : List St) (d : Int) (b off : Nat), (∀ i (h : i < l.length), TyLi W ⟨d, b, off + i * 23, l[i]⟩ ∧ StIn W l[i]) → ∀ x ∈ liAll l d b off, TyLi W x
  | [], d, b, off, h, x, hx => by simp [liAll] at hx
  | s :: l, d, b, off, h, x, hx => by
    rw [liAll] at hx
    rcases List.mem_append.1 hx with hx | hx
    · have h0 := h 0 (by simp)
      exact liOne_ty s d b off (by simpa using h0.1) h0.2 x hx
    · refine liTail_ty l d b (off + 23) (fun i hi => ?_) x hx
      have h1 := h (i + 1) (by simpa using hi)
      refine ⟨?_, h1.2⟩
      have e : off + 23 + i * 23 = off + (i + 1) * 23 := by omega
      rw [e]
      exact h1.1
end
theorem slB_in {c m : Int} {ls : List Li} (h : ∀ x ∈ ls, TyLi W x) : ∀ x ∈ slB c m ls, TyIn W x := by
  intro x hx
  unfold slB at hx
  obtain ⟨y, hy, rfl⟩ := List.mem_map.1 hx
  have h1 := h y (List.mem_filter.1 hy).1
  refine ⟨h1.1, fun j v hv => ?_⟩
  have := h1.2 (4 + j) v (by
    obtain ⟨d, b, off, s⟩ := y
    obtain ⟨k, x, y', name, ⟨tk, tc, tn, ⟨k0, n0⟩, ⟨k1, n1⟩, ⟨k2, n2⟩, ⟨k3, n3⟩⟩, ⟨ek, en, ename, eA, ec, kids⟩, aA, ac, args, bA, bc, body, lA, lc, els, pos⟩ := s
    have hj : j < 11 := (List.getElem?_eq_some_iff.1 hv).1
    rw [← hv]
    rcases (show j = 0 ∨ j = 1 ∨ j = 2 ∨ j = 3 ∨ j = 4 ∨ j = 5 ∨ j = 6 ∨ j = 7 ∨ j = 8 ∨ j = 9 ∨ j = 10 by omega) with rfl | rfl | rfl | rfl | rfl | rfl | rfl | rfl | rfl | rfl | rfl <;> rfl)
  rw [Nat.add_assoc]
  exact this
theorem slM_in {b off : Nat} {c k : Int} {m : Me} (hb : b < W.heap.size) (hr : W.rangeAt b off m.cells) (hm : MeIn W m) : ∀ x ∈ slM b off c k m, TyIn W x := by
  intro x hx
  unfold slM at hx
  rcases List.mem_cons.1 hx with rfl | hx
  · refine ⟨hb, fun j v hv => ?_⟩
    have := hr (2 + j) v (by
      rw [Nat.add_comm]
      show (Value.string m.name :: .bool m.pure :: (m.ret.cells ++ _))[j + 2]? = some v
      rw [List.getElem?_cons_succ, List.getElem?_cons_succ, List.getElem?_append_left (List.getElem?_eq_some_iff.1 hv).1]
      exact hv)
    rw [Nat.add_assoc]
    exact this
  rcases List.mem_append.1 hx with hx | hx
  · exact slV_in hm.params x hx
  rcases List.mem_append.1 hx with hx | hx
  · exact slV_in hm.locals x hx
  · exact slB_in (liAll_ty _ _ _ hm.body hm.stmts) x hx
theorem slC_in {i : Nat} {cl : Cl} (h : ClIn W cl) : ∀ x ∈ slC i cl, TyIn W x := by
  intro x hx
  unfold slC at hx
  rcases List.mem_append.1 hx with hx | hx
  · exact slV_in h.fields x hx
  · unfold slMs at hx
    obtain ⟨y, hy, hx⟩ := List.mem_flatten.1 hx
    obtain ⟨k, hk, rfl⟩ := List.getElem_of_mem hy
    have hk' : k < cl.methods.length := by simpa using hk
    obtain ⟨b, off, hA, hb, hc⟩ := h.methods k hk'
    simp only [List.getElem_mapIdx, hA] at hx
    exact slM_in hb (fun j v hv => hc j v hv) (h.each _ (List.getElem_mem hk')) x hx
theorem slP_in {l : List Cl} (h : ∀ cl ∈ l, ClIn W cl) : ∀ x ∈ slP l, TyIn W x := by
  intro x hx
  unfold slP at hx
  obtain ⟨y, hy, hx⟩ := List.mem_flatten.1 hx
  obtain ⟨k, hk, rfl⟩ := List.getElem_of_mem hy
  have hk' : k < l.length := by simpa using hk
  simp only [List.getElem_mapIdx] at hx
  exact slC_in (h _ (List.getElem_mem hk')) x hx
end
end Go.Proofs.Grow
