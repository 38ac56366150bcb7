/- A program's types with their places. -/
import Derived.Test.YtmpdmelkbemabaaGreatSlotP
import Derived.Test.YtmpdmelkbemabaaGreatArmIn
set_option linter.unusedSimpArgs false
set_option linter.unusedVariables false
namespace Go.Proofs.Grow
open Go.RowKit

/-- arena.Note, demesneref12.Note -/
structure Nt where
  c : Int
  m : Int
  v : Int
  ty : Ty
  p : Int
def Nt.cells (x : Nt) : List Value := .int .i64 x.c :: .int .i64 x.m :: .int .i64 x.v :: (x.ty.cells ++ [.int .i64 x.p])
theorem Nt.cells_len (x : Nt) : x.cells.length = 15 := rfl
theorem Ty.cells_one (t : Ty) : ∀ u ∈ t.cells, u.oneCell' = true := by
  intro u hu
  simp only [Ty.cells, List.mem_cons, List.not_mem_nil, or_false] at hu
  rcases hu with rfl | rfl | rfl | rfl | rfl | rfl | rfl | rfl | rfl | rfl | rfl <;> rfl
theorem Nt.cells_one (x : Nt) : ∀ u ∈ x.cells, u.oneCell' = true := by
  intro u hu
  unfold Nt.cells at hu
  rcases List.mem_cons.1 hu with rfl | hu
  · rfl
  rcases List.mem_cons.1 hu with rfl | hu
  · rfl
  rcases List.mem_cons.1 hu with rfl | hu
  · rfl
  rcases List.mem_append.1 hu with hu | hu
  · exact x.ty.cells_one u hu
  · rw [List.mem_singleton.1 hu]; rfl
def Sl.note (s : Sl) : Nt := ⟨s.c, s.m, s.v, s.ty, s.p⟩
theorem Sl.cells_len (s : Sl) : s.cells.length = 17 := rfl
theorem Sl.cells_one (s : Sl) : ∀ u ∈ s.cells, u.oneCell' = true := by
  intro u hu
  unfold Sl.cells at hu
  rcases List.mem_cons.1 hu with rfl | hu
  · rfl
  rcases List.mem_cons.1 hu with rfl | hu
  · rfl
  exact noteCells_one _ _ _ _ u hu

theorem Own.keep {α : Type} {enc : α → List Value} {A B : World} {base size : Nat} {e : TypeId} {v : Value} {l : List α} (h : Own A base e size enc v l) (hk : ∀ g, v.ownBlock = some g → B.heap[g]? = A.heap[g]?) : Own B base e size enc v l := by
  obtain ⟨h1, h2⟩ := h
  refine ⟨h1, ?_⟩
  rcases h2 with h2 | ⟨g, cap, cur, rfl, hb, hh, hr⟩
  · exact .inl h2
  · exact .inr ⟨g, cap, cur, rfl, hb, (hk g rfl).trans hh, hr⟩
theorem there_of_row {W : World} {g : Nat} {t : TypeId} {cs : Array Value} (h : W.heap[g]? = some (.cells cs t (0, 0))) (o n : Nat) (hn : o + n ≤ cs.size) : W.there g o n := fun j hj => by
  rw [cell_of_row W g _ _ _ _ h]
  have hlt : o + j < cs.size := by omega
  exact ⟨by simp [hlt], by simp [World.frozen?, h]⟩
theorem range_of_row {W : World} {g : Nat} {t : TypeId} {cs : Array Value} {fr : Nat × Nat} (h : W.heap[g]? = some (.cells cs t fr)) (o : Nat) (vs : List Value) (hv : ∀ j u, vs[j]? = some u → cs[o + j]? = some u) : W.rangeAt g o vs := fun j u hj => by
  rw [cell_of_row W g _ _ _ _ h]
  exact hv j u hj
theorem KeepsBut.setCells {O : Nat → Prop} (W : World) (g o : Nat) (vs : List Value) (hg : O g) : KeepsBut O W (W.setCells g o vs) := by
  obtain ⟨h1, h2, h3⟩ := setCells_rest g vs o W
  exact ⟨Nat.le_of_eq (setCells_size g vs o W).symm, h1, h2, h3, fun k _ hk => setCells_other g vs o W k (fun e => hk (e ▸ hg))⟩
theorem row_filled {W : World} {g : Nat} {t : TypeId} {old : Array Value} (vs : List Value) (h : W.heap[g]? = some (.cells old t (0, 0))) (hl : old.size = vs.length) : (W.setCells g 0 vs).heap[g]? = some (.cells vs.toArray t (0, 0)) := by
  obtain ⟨cur', h1, h2⟩ := setCells_row g t vs 0 W old h (by omega)
  have e : cur' = vs.toArray := by
    apply Array.toList_inj.1
    rw [h2, List.take_zero, List.nil_append, Nat.zero_add, ← hl, List.drop_of_length_le (by simp), List.append_nil]
  rw [e] at h1
  exact h1
/-- A slot's box, its type laid into it. -/
theorem slot_filled {W : World} {g : Nat} {t : TypeId} (x : Sl) (h : W.heap[g]? = some (.cells x.cells.toArray t (0, 0))) : (W.setCells g 5 x.ty.cells).rangeAt g 2 x.note.cells := by
  obtain ⟨cur', h1, h2⟩ := setCells_row g t x.ty.cells 5 W _ h (by rw [Ty.cells_len]; simp [Sl.cells_len])
  refine range_of_row h1 2 _ fun j u hj => ?_
  have e : cur' = (x.cells.take 5 ++ (x.ty.cells ++ x.cells.drop 16)).toArray := by
    apply Array.toList_inj.1
    rw [h2, Ty.cells_len]
  rw [e]
  have h3 : x.cells.take 5 ++ (x.ty.cells ++ x.cells.drop 16) = .pointer (some ⟨x.b, x.off, none⟩) :: .bool x.st :: x.note.cells := rfl
  rw [h3]
  rw [List.getElem?_toArray, Nat.add_comm, List.getElem?_cons_succ, List.getElem?_cons_succ]
  exact hj
end Go.Proofs.Grow
