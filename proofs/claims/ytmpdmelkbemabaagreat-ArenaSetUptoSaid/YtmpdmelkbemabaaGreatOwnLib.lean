/- What arena.own does to the rows: a place is laid; which rows are as they will be. -/
import Derived.Test.YtmpdmelkbemabaaGreatBareC
set_option linter.unusedSimpArgs false
set_option linter.unusedVariables false
namespace Go.Proofs.Grow
open Go.RowKit

/-- The loops in a code, outer ones first; its ranges over functions. -/
def loopsIn : Code → List Code
  | .loop c => c :: loopsIn c
  | .seq a b => loopsIn a ++ loopsIn b
  | .block _ c => loopsIn c
  | .scope c => loopsIn c
  | .cond _ a b => loopsIn a ++ loopsIn b
  | _ => []
def rangesIn : Code → List Code
  | .rangeFunc g ps a b => [.rangeFunc g ps a b]
  | .loop c => rangesIn c
  | .seq a b => rangesIn a ++ rangesIn b
  | .block _ c => rangesIn c
  | .scope c => rangesIn c
  | .cond _ a b => rangesIn a ++ rangesIn b
  | _ => []

/-- Nodes without a place. -/
def Nd.fixed : Nd → Prop
  | .ex _ => True
  | .ow _ => True
  | .str _ => True
  | _ => False
theorem Nd.fixed_alt {x : Nd} (h : x.fixed) {cs : List Value} (ha : altA x cs) : cs = x.cells := by
  obtain ⟨p, rfl⟩ := ha
  cases x <;> first | rfl | exact h.elim
/-- Rows that are as they will be. -/
def Cov (D : Nat → Nat → Prop) (rs : List Rw) : Prop := ∀ r ∈ rs, r.x.fixed ∨ D r.b r.off
section
variable {D D' : Nat → Nat → Prop} {rs qs : List Rw} {X Y : World}
theorem Cov.mono (h : Cov D rs) (hD : ∀ b f, D b f → D' b f) : Cov D' rs := fun r hr => (h r hr).imp id (hD _ _)
theorem Cov.append (h : Cov D rs) (h2 : Cov D qs) : Cov D (rs ++ qs) := fun r hr => (List.mem_append.1 hr).elim (h r) (h2 r)
theorem Cov.nil : Cov D [] := fun _ h => (by cases h)
theorem Cov.holds (h : Cov D rs) (hM : Mask altA rs D X) : Holds rs X := fun r hr => by
  obtain ⟨h1, cs, h2, h3, h4, h5⟩ := hM r hr
  refine ⟨hM.lt hr, ?_⟩
  rcases h r hr with hf | hd
  · rw [← Nd.fixed_alt hf h3]; exact h4
  · rw [← h5 hd]; exact h4
theorem Cov.exs (l : List Ex) (b off : Nat) : Cov D (rowsAt b off 4 (l.map .ex)) := fun r hr => by
  obtain ⟨i, hi, rfl⟩ := rowsAt_mem hr
  exact .inl (by simp [Nd.fixed])
mutual
theorem Cov.subEx : ∀ e : Ex, Cov D (Grow.subEx e)
  | .mk k num name A c kids => by rw [Grow.subEx]; exact (Cov.exs kids _ _).append (Cov.subExs kids)
theorem Cov.subExs : ∀ l : List Ex, Cov D (Grow.subExs l)
  | [] => by rw [Grow.subExs]; exact Cov.nil
  | e :: l => by rw [Grow.subExs]; exact (Cov.subEx e).append (Cov.subExs l)
end

/-- One cell laid in a row. -/
theorem Mask.lay1 {alt : Nd → List Value → Prop} (h : Mask alt rs D X) (hs : rs.Pairwise Rw.apart) {b off : Nat} {x : Nd} (hr : (⟨b, off, x⟩ : Rw) ∈ rs) (o : Nat) (v : Value) (ho : o < x.cells.length)
    (hl : ∀ cs, cs.length = x.cells.length → alt x cs → cs.set o v = x.cells) (halt : alt x x.cells) : Mask alt rs (fun b' f => D b' f ∨ (b' = b ∧ f = off)) (X.setCell ⟨b, off + o, none⟩ v) := by
  refine h.put hs hr o [v] ho (fun cs h1 h2 => ?_) halt
  rw [← hl cs h1 h2]
  have hlt : o < cs.length := by rw [h1]; exact ho
  rw [List.set_eq_take_append_cons_drop, if_pos hlt]
  rfl
theorem Mask.va (h : Mask altA rs D X) (hs : rs.Pairwise Rw.apart) {b off : Nat} {v : Va} (hr : (⟨b, off, .va v⟩ : Rw) ∈ rs) : Mask altA rs (fun b' f => D b' f ∨ (b' = b ∧ f = off)) (X.setCell ⟨b, off + 12, none⟩ (.int .i64 v.pos)) :=
  h.lay1 hs hr 12 _ (show 12 < 13 by decide) (fun cs _ ha => by obtain ⟨p, rfl⟩ := ha; rfl) (altA_self _)
theorem Mask.me (h : Mask altA rs D X) (hs : rs.Pairwise Rw.apart) {b off : Nat} {v : Me} (hr : (⟨b, off, .me v⟩ : Rw) ∈ rs) : Mask altA rs (fun b' f => D b' f ∨ (b' = b ∧ f = off)) (X.setCell ⟨b, off + 16, none⟩ (.int .i64 v.pos)) :=
  h.lay1 hs hr 16 _ (show 16 < 17 by decide) (fun cs _ ha => by obtain ⟨p, rfl⟩ := ha; rfl) (altA_self _)
theorem Mask.cl (h : Mask altA rs D X) (hs : rs.Pairwise Rw.apart) {b off : Nat} {v : Cl} (hr : (⟨b, off, .cl v⟩ : Rw) ∈ rs) : Mask altA rs (fun b' f => D b' f ∨ (b' = b ∧ f = off)) (X.setCell ⟨b, off + 6, none⟩ (.int .i64 v.pos)) :=
  h.lay1 hs hr 6 _ (show 6 < 7 by decide) (fun cs _ ha => by obtain ⟨p, rfl⟩ := ha; rfl) (altA_self _)
theorem Mask.st (h : Mask altA rs D X) (hs : rs.Pairwise Rw.apart) {b off : Nat} {v : St} (hr : (⟨b, off, .st v⟩ : Rw) ∈ rs) : Mask altA rs (fun b' f => D b' f ∨ (b' = b ∧ f = off)) (X.setCell ⟨b, off + 22, none⟩ (.int .i64 v.pos)) :=
  h.lay1 hs hr 22 _ (show 22 < v.cells.length by rw [St.cells_len]; decide) (fun cs _ ha => by
    obtain ⟨p, rfl⟩ := ha
    obtain ⟨k, x, y, name, ty, ⟨ek, en, ename, eA', ec', kids⟩, aA, ac, args, bA, bc, body, eA, ec, els, pos⟩ := v
    rfl) (altA_self _)
/-- What a row's cells are, whatever its place. -/
theorem Mask.cell (h : Mask altA rs D X) {b off : Nat} {x : Nd} (hr : (⟨b, off, x⟩ : Rw) ∈ rs) (j : Nat) (v : Value) (hv : ∀ p, (x.at p).cells[j]? = some v) : X.cell? ⟨b, off + j, none⟩ = some v := by
  obtain ⟨_, cs, _, ⟨p, hp⟩, h4, _⟩ := h _ hr
  subst hp
  exact h4 j v (hv p)
theorem Mask.free {alt : Nd → List Value → Prop} (h : Mask alt rs D X) {b off : Nat} {x : Nd} (hr : (⟨b, off, x⟩ : Rw) ∈ rs) (j : Nat) (hj : j < x.cells.length) : (∃ v, X.cell? ⟨b, off + j, none⟩ = some v) ∧ X.frozen? ⟨b, off + j, none⟩ = false := by
  obtain ⟨h1, _⟩ := h _ hr
  obtain ⟨h2, h3⟩ := h1 j hj
  exact ⟨Option.isSome_iff_exists.1 h2, h3⟩
theorem Mask.keep {alt : Nd → List Value → Prop} {O : Nat → Prop} (h : Mask alt rs D X) (hk : KeepsBut O X Y) (hO : ∀ r ∈ rs, ¬ O r.b) : Mask alt rs D Y := h.blocks fun r hr => hk.block _ (h.lt hr) (hO r hr)
end

/-- The blocks of the copy: from lo on, below hi. -/
def Cpy (lo hi : Nat) (k : Nat) : Prop := lo ≤ k ∧ k < hi
theorem Cpy.below {lo hi : Nat} {X Y : World} (h : KeepsBut (Cpy lo hi) X Y) (hl : lo ≤ X.heap.size) : Below lo X Y := KeepsBut.below (n := lo) h (fun _ h => h.1) hl

/-! lines of a body, without addresses -/
mutual
def posOne : St → List Int
  | .mk _ _ _ _ _ _ _ _ _ _ _ body _ _ els pos => pos :: (posAll body ++ posAll els)
def posAll : List St → List Int
  | [] => []
  | s :: l => posOne s ++ posAll l
end
mutual
theorem liOne_pos : ∀ (s : St) (d : Int) (b off : Nat), (liOne s d b off).map (fun x => x.s.pos) = posOne s
  | .mk k x y name ty e aA ac args bA bc body eA ec els pos, d, b, off => by
    rw [liOne, posOne, List.map_cons, List.map_append, liAll_pos body, liAll_pos els]
    rfl
theorem liAll_pos : ∀ (l : List St) (d : Int) (b off : Nat), (liAll l d b off).map (fun x => x.s.pos) = posAll l
  | [], d, b, off => by rw [liAll, posAll]; rfl
  | s :: l, d, b, off => by rw [liAll, posAll, List.map_append, liOne_pos s, liAll_pos l]
end
mutual
theorem posOne_st : ∀ s : St, posOne (stSt s) = posOne s
  | .mk k x y name ty e aA ac args bA bc body eA ec els pos => by rw [stSt, posOne, posOne, posAll_st body, posAll_st els]
theorem posAll_st : ∀ l : List St, posAll (stSts l) = posAll l
  | [] => by rw [stSts]
  | s :: l => by rw [stSts, posAll, posAll, posOne_st s, posAll_st l]
end
theorem liAll_same {l l' : List St} (h : stSts l' = stSts l) (d d' : Int) (b off b' off' : Nat) : (liAll l' d' b' off').map (fun x => x.s.pos) = (liAll l d b off).map (fun x => x.s.pos) := by
  rw [liAll_pos, liAll_pos, ← posAll_st l', h, posAll_st]

mutual
theorem liOne_rows : ∀ (s : St) (d : Int) (b off : Nat), ∀ x ∈ liOne s d b off, (⟨x.b, x.off, .st x.s⟩ : Rw) = ⟨b, off, .st s⟩ ∨ (⟨x.b, x.off, .st x.s⟩ : Rw) ∈ subSt s
  | .mk k x y name ty e aA ac args bA bc body eA ec els pos, d, b, off, z, hz => by
    rw [liOne] at hz
    rcases List.mem_cons.1 hz with rfl | hz
    · exact .inl rfl
    · right
      rw [subSt]
      rcases List.mem_append.1 hz with hz | hz
      · exact List.mem_append_right _ (List.mem_append_right _ (List.mem_append_left _ (liAll_rows body _ _ _ z hz)))
      · exact List.mem_append_right _ (List.mem_append_right _ (List.mem_append_right _ (liAll_rows els _ _ _ z hz)))
theorem liAll_rows : ∀ (l : List St) (d : Int) (b off : Nat), ∀ x ∈ liAll l d b off, (⟨x.b, x.off, .st x.s⟩ : Rw) ∈ rowsAt b off 23 (l.map .st) ++ subSts l
  | [], d, b, off, x, hx => by simp [liAll] at hx
  | s :: l, d, b, off, x, hx => by
    rw [liAll] at hx
    rw [List.map_cons, rowsAt_cons, subSts]
    rcases List.mem_append.1 hx with hx | hx
    · rcases liOne_rows s d b off x hx with h | h
      · rw [h]; simp
      · exact List.mem_append_right _ (List.mem_append_left _ h)
    · rcases List.mem_append.1 (liAll_rows l d b (off + 23) x hx) with h | h
      · exact List.mem_append_left _ (List.mem_cons_of_mem _ h)
      · exact List.mem_append_right _ (List.mem_append_right _ h)
end
mutual
/-- A body's rows are covered, if all its lines are. -/
theorem covOne {D : Nat → Nat → Prop} : ∀ (s : St) (d : Int) (b off : Nat), (∀ x ∈ liOne s d b off, D x.b x.off) → D b off ∧ Cov D (subSt s)
  | .mk k x y name ty e aA ac args bA bc body eA ec els pos, d, b, off, h => by
    rw [liOne] at h
    refine ⟨h _ (List.mem_cons_self ..), ?_⟩
    rw [subSt]
    refine (Cov.subEx e).append (((Cov.exs args _ _).append (Cov.subExs args)).append ((covAll body (wrap64 (d + 1)) (bkA bA) (ofA bA) fun z hz => ?_).append (covAll els (wrap64 (d + 1)) (bkA eA) (ofA eA) fun z hz => ?_)))
    · exact h z (List.mem_cons_of_mem _ (List.mem_append_left _ hz))
    · exact h z (List.mem_cons_of_mem _ (List.mem_append_right _ hz))
theorem covAll {D : Nat → Nat → Prop} : ∀ (l : List St) (d : Int) (b off : Nat), (∀ x ∈ liAll l d b off, D x.b x.off) → Cov D (rowsAt b off 23 (l.map .st) ++ subSts l)
  | [], d, b, off, h => by rw [subSts]; exact fun r hr => by simp [rowsAt] at hr
  | s :: l, d, b, off, h => by
    rw [liAll] at h
    obtain ⟨h1, h2⟩ := covOne s d b off fun x hx => h x (List.mem_append_left _ hx)
    have h3 := covAll l d b (off + 23) fun x hx => h x (List.mem_append_right _ hx)
    rw [List.map_cons, rowsAt_cons, subSts]
    intro r hr
    rcases List.mem_append.1 hr with hr | hr
    · rcases List.mem_cons.1 hr with rfl | hr
      · exact .inr h1
      · exact h3 r (List.mem_append_left _ hr)
    · rcases List.mem_append.1 hr with hr | hr
      · exact h2 r hr
      · exact h3 r (List.mem_append_right _ hr)
end
end Go.Proofs.Grow
