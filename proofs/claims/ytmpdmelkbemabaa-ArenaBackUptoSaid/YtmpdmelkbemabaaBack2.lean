/- arena.Set where the types may be set, and where they may not. -/
import Derived.Test.YtmpdmelkbemabaaBackLaw2
import Derived.Test.YtmpdmelkbemabaaLike
set_option linter.unusedSimpArgs false
set_option linter.unusedVariables false
namespace Go.Proofs.Grow
open Go.RowKit
theorem Own.kept' {α : Type} {enc : α → List Value} {w w' : World} {base size : Nat} {e : TypeId} {v : Value} {l : List α} {row : Option Nat} (h : Own w base e size enc v l) (hg : w.grownBy w' row) (hne : ∀ g, v.ownBlock = some g → row ≠ some g) : Own w' base e size enc v l :=
  World.ownsRow.kept h hg (by
    cases hv : v.ownBlock with
    | none => exact .inl rfl
    | some g => exact .inr fun e => hne g hv e.symm)
def Apart2 (u v : Value) : Prop := ∀ g, u.ownBlock = some g → v.ownBlock ≠ some g
theorem Apart2.symm {u v : Value} (h : Apart2 u v) : Apart2 v u := fun g hv hu => h g hu hv
/-- The list that grew stays apart from the other. -/
theorem Apart2.grow {u v u' : Value} {n : Nat} (h : Apart2 u v) (ha : u'.ownBlock = u.ownBlock ∨ u'.ownBlock = some n) (hv : ∀ g, v.ownBlock = some g → g < n) : Apart2 u' v := fun g hu hvg => by
  rcases ha with e | e
  · rw [e] at hu; exact h g hu hvg
  · rw [e] at hu
    cases hu
    exact absurd (hv _ hvg) (Nat.lt_irrefl _)
end Go.Proofs.Grow
namespace Go.Proofs.Ytmpdmelkbemabaa
open Go.RowKit Go.Proofs.Grow

theorem infoTyB : (Try.prog.info? 37).map (fun i => (i.zero.map (·.cells.size), i.size, i.bytes)) = some (some 11, 11, 96) := by kernel_rfl
end Go.Proofs.Ytmpdmelkbemabaa
set_option linter.unusedSimpArgs false
set_option linter.unusedVariables false
namespace Go.Proofs.Ytmpdmelkbemabaa
open Go.RowKit Go.Proofs.Grow

theorem TysOk.oth {C : List Cl} {l : List Ty} (h : TysOk (ownL C)) (hl : TysOk l) : TysOk (othL C l) := fun u hu => by
  unfold othL at hu
  obtain ⟨i, hi, rfl⟩ := List.getElem_of_mem hu
  have hi' : i < (ownL C).length := by simpa using hi
  rw [List.getElem_mapIdx]
  rcases oth_in l i (ownL C)[i] with e | ⟨_, e⟩
  · rw [e]; exact h _ (List.getElem_mem hi')
  · exact hl _ e
theorem TysOk.longer {L : List Ty} (h : TysOk L) : TysOk (L ++ [⟨0, ⟨#[]⟩, 0, ⟨0, 0⟩, ⟨0, 0⟩, ⟨0, 0⟩, ⟨0, 0⟩⟩]) := fun u hu => by
  rcases List.mem_append.1 hu with hu | hu
  · exact h u hu
  · obtain rfl := List.mem_singleton.1 hu
    exact Nat.zero_le _

theorem eqTyZ (w : World) (t : Ty) : (Op.equalIn 10000 37 (.agg t.cells.toArray) (.agg t.cells.toArray)).run Try.prog w = .ok true w := by
  obtain ⟨tk, tc, tn, ⟨k0, n0⟩, ⟨k1, n1⟩, ⟨k2, n2⟩, ⟨k3, n3⟩⟩ := t
  have h := fun W => eqOwn W k0 n0 k1 n1 k2 n2 k3 n3
  have u3 := Try.underlying3
  have a3 := Try.isAgg3
  have z3 := Try.sizeOf3
  have u9 := Try.underlying9
  have a9 := Try.isAgg9
  have z9 := Try.sizeOf9
  have aO := Try.isAgg35
  have zO := Try.sizeOf35
  have hS : Try.prog.underlying 37 = some (.struct (Try.prog.fieldsOf 37)) := by kernel_rfl
  rw [show (10000 : Nat) = 9999 + 1 from rfl, run_equalIn_agg w 9999 37 _ _ hS (by kernel_rfl)]
  simp only [Program.fieldsOf, Try.underlying37, Ty.cells]
  go_simp

/-- What arena.Set gives where the types may be set. -/
def SetYes (C : List Cl) (L : List Ty) (D : List Cl) (A : Option Addr) (X : World) : Prop :=
  (∃ C' : List Cl, C'.map stCl = C.map stCl ∧ D = setCls C' L) ∧ Lies X 7 Cl.cells A D ∧ ∀ c ∈ D, ClIn X c
theorem set_yes (w : World) (A : Option Addr) (c : Nat) (C : List Cl) (AL : Option Addr) (cL : Nat) (L : List Ty) (hl : Lies w 7 Cl.cells A C) (hin : ∀ cl ∈ C, ClIn w cl) (hN : C.length ≤ 1048576) (hfw : ∀ cl ∈ C, cl.fw ≤ 1048576)
    (hL : Lies w 11 Ty.cells AL L) (hLn : L.length ≤ 1000000000) (hT : TysOk L) (hnum : nCls C ≤ 1000000000) (hok : okSet (slP C) L) :
    Calls Try.prog 12 #[.slice A C.length c, .slice AL L.length cL] w fun e w' => ∃ (x : Ext w) (D : List Cl) (A' : Option Addr), e = .returned (.tuple #[.slice A' D.length D.length, .bool true]) ∧ w' = x.val ∧ SetYes C L D A' x.val :=
  (set_any w A c C AL cL L hl hin hN hfw hL hLn hT hnum).mono fun e w' ⟨x, C', hw, hst, h⟩ => by
    rcases h with ⟨_, A', he, h1, h2⟩ | ⟨hno, _⟩
    · have hlen : (setCls C' L).length = C.length := by rw [setCls_len]; simpa using congrArg List.length hst
      exact ⟨x, setCls C' L, A', by rw [hlen]; exact he, hw, ⟨C', hst, rfl⟩, h1, h2⟩
    · exact absurd (okSet_same hst.symm hok) hno
theorem set_no (w : World) (A : Option Addr) (c : Nat) (C : List Cl) (AL : Option Addr) (cL : Nat) (L : List Ty) (hl : Lies w 7 Cl.cells A C) (hin : ∀ cl ∈ C, ClIn w cl) (hN : C.length ≤ 1048576) (hfw : ∀ cl ∈ C, cl.fw ≤ 1048576)
    (hL : Lies w 11 Ty.cells AL L) (hLn : L.length ≤ 1000000000) (hT : TysOk L) (hnum : nCls C ≤ 1000000000) (hno : ¬ okSet (slP C) L) :
    Calls Try.prog 12 #[.slice A C.length c, .slice AL L.length cL] w fun e w' => ∃ (x : Ext w), e = .returned (.tuple #[.slice none 0 0, .bool false]) ∧ w' = x.val :=
  (set_any w A c C AL cL L hl hin hN hfw hL hLn hT hnum).mono fun e w' ⟨x, C', hw, hst, h⟩ => by
    rcases h with ⟨hok, _⟩ | ⟨_, he⟩
    · exact absurd (okSet_same hst hok) hno
    · exact ⟨x, he, hw⟩
end Go.Proofs.Ytmpdmelkbemabaa
