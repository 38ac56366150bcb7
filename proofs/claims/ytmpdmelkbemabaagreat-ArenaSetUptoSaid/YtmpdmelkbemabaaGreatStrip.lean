/- A program without its addresses; what is made of a list of nodes. -/
import Derived.Test.YtmpdmelkbemabaaGreatBareL
set_option linter.unusedSimpArgs false
set_option linter.unusedVariables false
namespace Go.Proofs.Grow
open Go.RowKit

mutual
/-- An expression without its addresses. -/
def stEx : Ex → Ex
  | .mk k num name _ _ kids => .mk k num name none 0 (stExs kids)
def stExs : List Ex → List Ex
  | [] => []
  | e :: l => stEx e :: stExs l
end
mutual
def stSt : St → St
  | .mk k x y name ty e _ _ args _ _ body _ _ els pos => .mk k x y name ty (stEx e) none 0 (stExs args) none 0 (stSts body) none 0 (stSts els) pos
def stSts : List St → List St
  | [] => []
  | s :: l => stSt s :: stSts l
end
def stMe (m : Me) : Me := { m with pA := none, pc := 0, lA := none, lc := 0, bA := none, bc := 0, body := stSts m.body }
def stCl (c : Cl) : Cl := { c with pA := none, pc := 0, aA := none, ac := 0, fA := none, fc := 0, mA := none, mc := 0, methods := c.methods.map stMe }
theorem stExs_map (l : List Ex) : stExs l = l.map stEx := by
  induction l with
  | nil => rfl
  | cons e l ih => rw [stExs, ih]; rfl
theorem stSts_map (l : List St) : stSts l = l.map stSt := by
  induction l with
  | nil => rfl
  | cons e l ih => rw [stSts, ih]; rfl
theorem stExs_append (p q : List Ex) : stExs (p ++ q) = stExs p ++ stExs q := by simp [stExs_map]
theorem stSts_append (p q : List St) : stSts (p ++ q) = stSts p ++ stSts q := by simp [stSts_map]

mutual
/-- How much there is in an expression, a statement. -/
def Ex.fw : Ex → Nat
  | .mk _ _ _ _ _ kids => 1 + exFw kids
def exFw : List Ex → Nat
  | [] => 0
  | e :: l => e.fw + exFw l
end
mutual
def St.fw : St → Nat
  | .mk _ _ _ _ _ e _ _ args _ _ body _ _ els _ => 1 + e.fw + exFw args + stFw body + stFw els
def stFw : List St → Nat
  | [] => 0
  | s :: l => s.fw + stFw l
end
def Me.fw (m : Me) : Nat := 1 + m.params.length + m.locals.length + stFw m.body
def Cl.fw (c : Cl) : Nat := 1 + c.params.length + c.above.length + c.fields.length + (c.methods.map Me.fw).sum
theorem exFw_sum (l : List Ex) : exFw l = (l.map Ex.fw).sum := by
  induction l with
  | nil => rfl
  | cons e l ih => rw [exFw, ih]; rfl
theorem stFw_sum (l : List St) : stFw l = (l.map St.fw).sum := by
  induction l with
  | nil => rfl
  | cons e l ih => rw [stFw, ih]; rfl
theorem sum_has {α : Type} (g : α → Nat) {l : List α} {a : α} (h : a ∈ l) : g a ≤ (l.map g).sum := by
  induction l with
  | nil => cases h
  | cons b l ih =>
    rw [List.map_cons, List.sum_cons]
    rcases List.mem_cons.1 h with rfl | h
    · omega
    · have := ih h; omega
theorem sum_len {α : Type} (g : α → Nat) (h : ∀ a, 0 < g a) (l : List α) : l.length ≤ (l.map g).sum := by
  induction l with
  | nil => simp
  | cons b l ih => rw [List.map_cons, List.sum_cons, List.length_cons]; have := h b; omega
theorem Ex.fw_pos (e : Ex) : 0 < e.fw := by cases e; rw [Ex.fw]; omega
theorem St.fw_pos (e : St) : 0 < e.fw := by cases e; rw [St.fw]; omega
theorem exFw_has {l : List Ex} {e : Ex} (h : e ∈ l) : e.fw ≤ exFw l := by rw [exFw_sum]; exact sum_has _ h
theorem stFw_has {l : List St} {e : St} (h : e ∈ l) : e.fw ≤ stFw l := by rw [stFw_sum]; exact sum_has _ h
theorem exFw_len (l : List Ex) : l.length ≤ exFw l := by rw [exFw_sum]; exact sum_len _ Ex.fw_pos l
theorem stFw_len (l : List St) : l.length ≤ stFw l := by rw [stFw_sum]; exact sum_len _ St.fw_pos l

/-- What a copy is to what it was made of. -/
def RVa (v v' : Va) (lo hi : Nat) (X : World) : Prop := v' = v ∧ lo ≤ hi ∧ hi ≤ X.heap.size
def REx (e e' : Ex) (lo hi : Nat) (X : World) : Prop := stEx e' = stEx e ∧ ExS e' ∧ RowsIn (subEx e') lo hi X
def RSt (s s' : St) (lo hi : Nat) (X : World) : Prop := stSt s' = stSt s ∧ StS s' ∧ RowsIn (subSt s') lo hi X
def RMe (m m' : Me) (lo hi : Nat) (X : World) : Prop := stMe m' = stMe m ∧ MeS m' ∧ RowsIn (subMe m') lo hi X
def RCl (c c' : Cl) (lo hi : Nat) (X : World) : Prop := stCl c' = stCl c ∧ ClS c' ∧ RowsIn (subCl c') lo hi X
theorem RVa.local_ : Local RVa := fun a a' lo hi X Y h hs _ => ⟨h.1, h.2.1, Nat.le_trans h.2.2 hs⟩
theorem REx.local_ : Local REx := fun a a' lo hi X Y h hs he => ⟨h.1, h.2.1, h.2.2.blocks hs he⟩
theorem RSt.local_ : Local RSt := fun a a' lo hi X Y h hs he => ⟨h.1, h.2.1, h.2.2.blocks hs he⟩
theorem RMe.local_ : Local RMe := fun a a' lo hi X Y h hs he => ⟨h.1, h.2.1, h.2.2.blocks hs he⟩
theorem RCl.local_ : Local RCl := fun a a' lo hi X Y h hs he => ⟨h.1, h.2.1, h.2.2.blocks hs he⟩

/-- A chain of copies: what they are without addresses; where their rows lie. -/
theorem chain_rows {α : Type} {R : α → α → Nat → Nat → World → Prop} {str : α → α} {S : α → Prop} {sub : α → List Rw} (hR : ∀ a a' lo hi X, R a a' lo hi X → str a' = str a ∧ S a' ∧ RowsIn (sub a') lo hi X)
    {X : World} {l l' : List α} {lo n : Nat} (h : Chain R X l l' lo n) (hn : n ≤ X.heap.size) : l'.map str = l.map str ∧ (∀ a ∈ l', S a) ∧ RowsIn (l'.flatMap sub) lo n X := by
  induction h with
  | nil => exact ⟨rfl, fun a ha => (by cases ha), .nil (Nat.le_refl _) hn⟩
  | snoc h hm hn' hr ih =>
    obtain ⟨h1, h2, h3⟩ := ih (by omega)
    obtain ⟨r1, r2, r3⟩ := hR _ _ _ _ _ hr
    refine ⟨by simp [h1, r1], fun a ha => ?_, ?_⟩
    · rcases List.mem_append.1 ha with ha | ha
      · exact h2 a ha
      · rw [List.mem_singleton.1 ha]; exact r2
    · rw [List.flatMap_append]
      refine h3.append ?_ hm
      simpa using r3
theorem flat_subEx (l : List Ex) : l.flatMap subEx = subExs l := by
  induction l with
  | nil => rfl
  | cons e l ih => rw [List.flatMap_cons, subExs, ih]
theorem flat_subSt (l : List St) : l.flatMap subSt = subSts l := by
  induction l with
  | nil => rfl
  | cons e l ih => rw [List.flatMap_cons, subSts, ih]

/-- What size.bareList made: a list of nodes, all their rows. -/
theorem BareIn.out {α : Type} {R : α → α → Nat → Nat → World → Prop} {str : α → α} {S : α → Prop} {sub : α → List Rw} (hR : ∀ a a' lo hi X, R a a' lo hi X → str a' = str a ∧ S a' ∧ RowsIn (sub a') lo hi X)
    {T : TypeId} {encZ : α → List Value} {mk : α → Nd} {size : Nat} (hlen : ∀ a, (mk a).cells.length = size) (hsz : 0 < size) (halt : ∀ a, altA (mk a) (encZ a))
    {l : List α} {n0 : Nat} {X : World} (h : BareIn R T encZ l n0 X) : ∃ (l' : List α) (n : Nat), l'.length = l.length ∧ l'.map str = l.map str ∧ (∀ a ∈ l', S a) ∧ RowsIn (rowsAt n0 0 size (l'.map mk) ++ l'.flatMap sub) n0 n X := by
  obtain ⟨l', n, h1, h2, ⟨cs, h3, h4⟩, h5⟩ := h
  obtain ⟨c1, c2, c3⟩ := chain_rows hR h5 h2
  refine ⟨l', n, h1, c1, c2, ?_⟩
  exact (RowsIn.block h3 (by rw [h4]; exact List.prefix_refl _) hlen hsz halt).append c3 (Nat.le_refl _)
theorem altZ_va (v : Va) : altA (.va v) v.cellsZ := ⟨0, rfl⟩
theorem altZ_me (v : Me) : altA (.me v) v.cellsZ := ⟨0, rfl⟩
theorem altZ_cl (v : Cl) : altA (.cl v) v.cellsZ := ⟨0, rfl⟩
theorem altZ_st (v : St) : altA (.st v) v.cellsZ := ⟨0, rfl⟩
theorem altZ_ex (v : Ex) : altA (.ex v) v.cellsZ := ⟨0, rfl⟩
theorem BareIn.exs {T : TypeId} {l : List Ex} {n0 : Nat} {X : World} (h : BareIn REx T Ex.cellsZ l n0 X) : ∃ (l' : List Ex) (n : Nat), l'.length = l.length ∧ stExs l' = stExs l ∧ (∀ a ∈ l', ExS a) ∧ RowsIn (rwExs (some ⟨n0, 0, none⟩) l') n0 n X := by
  obtain ⟨l', n, h1, h2, h3, h4⟩ := h.out (str := stEx) (S := ExS) (sub := subEx) (mk := .ex) (size := 4) (fun _ _ _ _ _ h => h) Ex.cells_len (by decide) altZ_ex
  exact ⟨l', n, h1, by rw [stExs_map, stExs_map, h2], h3, by rw [flat_subEx] at h4; exact h4⟩
theorem BareIn.sts {T : TypeId} {l : List St} {n0 : Nat} {X : World} (h : BareIn RSt T St.cellsZ l n0 X) : ∃ (l' : List St) (n : Nat), l'.length = l.length ∧ stSts l' = stSts l ∧ (∀ a ∈ l', StS a) ∧ RowsIn (rwSts (some ⟨n0, 0, none⟩) l') n0 n X := by
  obtain ⟨l', n, h1, h2, h3, h4⟩ := h.out (str := stSt) (S := StS) (sub := subSt) (mk := .st) (size := 23) (fun _ _ _ _ _ h => h) St.cells_len (by decide) altZ_st
  exact ⟨l', n, h1, by rw [stSts_map, stSts_map, h2], h3, by rw [flat_subSt] at h4; exact h4⟩
theorem BareIn.mes {T : TypeId} {l : List Me} {n0 : Nat} {X : World} (h : BareIn RMe T Me.cellsZ l n0 X) : ∃ (l' : List Me) (n : Nat), l'.length = l.length ∧ l'.map stMe = l.map stMe ∧ (∀ a ∈ l', MeS a) ∧ RowsIn (rwMes (some ⟨n0, 0, none⟩) l') n0 n X :=
  h.out (str := stMe) (S := MeS) (sub := subMe) (mk := .me) (size := 17) (fun _ _ _ _ _ h => h) Me.cells_len (by decide) altZ_me
theorem BareIn.cls {T : TypeId} {l : List Cl} {n0 : Nat} {X : World} (h : BareIn RCl T Cl.cellsZ l n0 X) : ∃ (l' : List Cl) (n : Nat), l'.length = l.length ∧ l'.map stCl = l.map stCl ∧ (∀ a ∈ l', ClS a) ∧ RowsIn (rwCls (some ⟨n0, 0, none⟩) l') n0 n X :=
  h.out (str := stCl) (S := ClS) (sub := subCl) (mk := .cl) (size := 7) (fun _ _ _ _ _ h => h) Cl.cells_len (by decide) altZ_cl
theorem BareIn.vas {T : TypeId} {l : List Va} {n0 : Nat} {X : World} (h : BareIn RVa T Va.cellsZ l n0 X) : ∃ n, RowsIn (rwVas (some ⟨n0, 0, none⟩) l) n0 n X := by
  obtain ⟨l', n, h1, h2, h3, h4⟩ := h.out (str := id) (S := fun _ => True) (sub := fun _ => []) (mk := .va) (size := 13) (fun a a' lo hi X h => ⟨h.1, trivial, .nil h.2.1 h.2.2⟩) Va.cells_len (by decide) altZ_va
  simp only [List.map_id] at h2
  subst h2
  rw [show (l'.flatMap fun _ => ([] : List Rw)) = [] from List.flatMap_eq_nil_iff.2 fun _ _ => rfl, List.append_nil] at h4
  exact ⟨n, h4⟩

/-! a statement with other parts -/
def St.withE : St → Ex → St
  | .mk k x y name ty _ aA ac args bA bc body eA ec els pos, e => .mk k x y name ty e aA ac args bA bc body eA ec els pos
def St.withArgs : St → Option Addr → Nat → List Ex → St
  | .mk k x y name ty e _ _ _ bA bc body eA ec els pos, aA, ac, args => .mk k x y name ty e aA ac args bA bc body eA ec els pos
def St.withBody : St → Option Addr → Nat → List St → St
  | .mk k x y name ty e aA ac args _ _ _ eA ec els pos, bA, bc, body => .mk k x y name ty e aA ac args bA bc body eA ec els pos
def St.withEls : St → Option Addr → Nat → List St → St
  | .mk k x y name ty e aA ac args bA bc body _ _ _ pos, eA, ec, els => .mk k x y name ty e aA ac args bA bc body eA ec els pos
def St.ac : St → Nat | .mk _ _ _ _ _ _ _ ac _ _ _ _ _ _ _ _ => ac
theorem St.set22 (s : St) (p : Int) : s.cells.toArray.setIfInBounds 22 (.int .i64 p) = (s.at p).cells.toArray := by
  obtain ⟨k, x, y, name, ty, ⟨ek, en, ename, eA', ec', kids⟩, aA, ac, args, bA, bc, body, eA, ec, els, pos⟩ := s
  rfl
theorem St.set19 (s : St) (A : Option Addr) (c : Nat) (l : List Ex) : s.cells.toArray.setIfInBounds 19 (.slice A l.length c) = (s.withArgs A c l).cells.toArray := by
  obtain ⟨k, x, y, name, ty, ⟨ek, en, ename, eA', ec', kids⟩, aA, ac, args, bA, bc, body, eA, ec, els, pos⟩ := s
  rfl
theorem St.set20 (s : St) (A : Option Addr) (c : Nat) (l : List St) : s.cells.toArray.setIfInBounds 20 (.slice A l.length c) = (s.withBody A c l).cells.toArray := by
  obtain ⟨k, x, y, name, ty, ⟨ek, en, ename, eA', ec', kids⟩, aA, ac, args, bA, bc, body, eA, ec, els, pos⟩ := s
  rfl
theorem St.set21 (s : St) (A : Option Addr) (c : Nat) (l : List St) : s.cells.toArray.setIfInBounds 21 (.slice A l.length c) = (s.withEls A c l).cells.toArray := by
  obtain ⟨k, x, y, name, ty, ⟨ek, en, ename, eA', ec', kids⟩, aA, ac, args, bA, bc, body, eA, ec, els, pos⟩ := s
  rfl
theorem St.get19 (s : St) : s.cells[19]? = some (.slice s.aA s.args.length s.ac) := by
  obtain ⟨k, x, y, name, ty, ⟨ek, en, ename, eA', ec', kids⟩, aA, ac, args, bA, bc, body, eA, ec, els, pos⟩ := s
  rfl
theorem St.get15 (s : St) (j : Nat) (v : Value) (h : s.e.cells[j]? = some v) : s.cells[15 + j]? = some v := by
  obtain ⟨k, x, y, name, ty, ⟨ek, en, ename, eA', ec', kids⟩, aA, ac, args, bA, bc, body, eA, ec, els, pos⟩ := s
  have hj : j < 4 := (List.getElem?_eq_some_iff.1 h).1
  rw [← h]
  rcases (show j = 0 ∨ j = 1 ∨ j = 2 ∨ j = 3 by omega) with rfl | rfl | rfl | rfl <;> rfl
theorem St.lay15 (s : St) (e : Ex) : s.cells.take 15 ++ (e.cells ++ s.cells.drop 19) = (s.withE e).cells := by
  obtain ⟨k, x, y, name, ty, ⟨ek, en, ename, eA', ec', kids⟩, aA, ac, args, bA, bc, body, eA, ec, els, pos⟩ := s
  obtain ⟨fk, fn, fname, fA, fc, fkids⟩ := e
  rfl
end Go.Proofs.Grow
