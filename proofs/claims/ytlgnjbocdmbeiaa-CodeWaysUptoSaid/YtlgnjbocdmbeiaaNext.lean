/- code.Instr as Lean data; the walks of code.Next and demesneref34.Next. -/
import Derived.Test.YtlgnjbocdmbeiaaRows
import Derived.Test.YtlgnjbocdmbeiaaData
import Derived.BigGuardPart
import Derived.Deep.DeepCutAuto
set_option linter.unusedSimpArgs false
set_option linter.unusedVariables false
namespace Go.Proofs.Ytlgnjbocdmbeiaa
open Go.RowKit Go.Proofs.Grow

/-- A step: its kind, its statement, where to. -/
structure Ins where
  k : Int
  s : St
  go : Int
def Ins.cells (i : Ins) : List Value := .int .i64 i.k :: (i.s.cells ++ [.int .i64 i.go])
theorem Ins.cells_len (i : Ins) : i.cells.length = 25 := by simp [Ins.cells, St.cells_len]
theorem Ins.cells_one (i : Ins) : ∀ u ∈ i.cells, u.oneCell' = true := by
  obtain ⟨k, s, g⟩ := i
  cases s with
  | mk k x y name ty e aA ac args bA bc body eA ec els pos =>
    cases e with
    | mk ek en ename eA2 ec2 kids =>
      intro u hu
      simp [Ins.cells, St.cells, Ty.cells, Ex.cells] at hu
      rcases hu with rfl | rfl | rfl | rfl | rfl | rfl | rfl | rfl | rfl | rfl | rfl | rfl | rfl | rfl | rfl | rfl | rfl | rfl | rfl | rfl | rfl | rfl | rfl | rfl | rfl <;> rfl
theorem Ins.at0 (i : Ins) : i.cells[0]? = some (.int .i64 i.k) := rfl
theorem Ins.at24 (i : Ins) : i.cells[24]? = some (.int .i64 i.go) := by
  unfold Ins.cells
  rw [List.getElem?_cons_succ, List.getElem?_append_right (by rw [St.cells_len]; omega), St.cells_len]; rfl

def nextGo (l : List Ins) : Nat → Int → Int
  | 0, _ => -1
  | n + 1, p => if p < 0 then -1 else match l[p.toNat]? with
    | none => -1
    | some i => if i.k = 3 then nextGo l n i.go else p
def next (l : List Ins) (p : Int) : Int := nextGo l (l.length + 1) p

theorem nextGo_out {l : List Ins} {n : Nat} {p : Int} (h : p < 0 ∨ (l.length : Int) ≤ p) : nextGo l n p = -1 := by
  cases n with
  | zero => rfl
  | succ n =>
    unfold nextGo
    split
    · rfl
    · rw [List.getElem?_eq_none (by omega)]
theorem nextGo_in {l : List Ins} {n : Nat} {k : Nat} (h : k < l.length) : nextGo l (n + 1) k = if l[k].k = 3 then nextGo l n l[k].go else k := by
  rw [nextGo, if_neg (by omega)]
  simp [List.getElem?_eq_getElem h]

set_option maxHeartbeats 1000000 in
set_option maxRecDepth 100000 in
theorem codeNext_any (w : World) (A : Option Addr) (c : Nat) (l : List Ins) (p : Int) (hl : l.length ≤ 4611686018427387904) (hs : Lies w 25 Ins.cells A l) :
    Gives Try.prog 11 #[.slice A l.length c, .int .i64 p] w (.int .i64 (next l p)) := by
  refine Gives.mk ?_
  have Hs := hide hs
  clear hs
  go_enter Try.func11, Try.ntmps11
  go_wp2_with fail
  go_loop [1, 8] (fun q i => ∃ (k : Nat) (p' : Int), k ≤ l.length + 1 ∧ i = .int .i64 k ∧ q = .int .i64 p' ∧ Hid (next l p = nextGo l (l.length + 1 - k) p')) (fun _ i => l.length + 1 - (intOf i).toNat)
  case atStart => exact ⟨0, p, Nat.zero_le _, rfl, rfl, rfl⟩
  case round =>
    obtain ⟨k, p', hk, rfl, rfl, hi⟩ := hrel
    by_cases hlt : k < l.length + 1
    · by_cases hp : p' < 0 ∨ (l.length : Int) ≤ p'
      · have E := hide (hi.out.trans (nextGo_out hp))
        rcases hp with hp | hp
        · go_wp2
          go_ret
          exact ⟨ret_int E.out.symm, Below.refl _ _⟩
        · have hp0 : ¬ p' < 0 := by omega
          go_wp2
          go_ret
          exact ⟨ret_int E.out.symm, Below.refl _ _⟩
      · obtain ⟨j, rfl⟩ : ∃ j : Nat, p' = j := ⟨p'.toNat, by omega⟩
        have hj : j < l.length := by omega
        obtain ⟨b, off, rfl, hb, hcell⟩ := Hs.out j hj
        have h0 : w.cell? ⟨b, off + j * 25, none⟩ = _ := hcell 0 _ (Ins.at0 _)
        have h24 : w.cell? ⟨b, off + j * 25 + 24, none⟩ = _ := hcell 24 _ (Ins.at24 _)
        clear hcell hp
        have hj' : (j : Int) < (l.length : Int) := by omega
        have e : l.length + 1 - k = (l.length + 1 - (k + 1)) + 1 := by omega
        have E := hide ((hi.out.trans (by rw [e])).trans (nextGo_in hj))
        clear e
        by_cases hk3 : l[j].k = 3
        · have E2 := hide (E.out.trans (if_pos hk3))
          rw [hk3] at h0
          clear hk3 E
          go_wp2
          go_round
          case rel => exact ⟨k + 1, _, by omega, by go_num, rfl, E2.out⟩
          case measure => first | (simp [intOf]; done) | (simp [intOf]; omega)
        · have E2 := hide (E.out.trans (if_neg hk3))
          have hk3' : (l[j].k != 3) = true := by simp [hk3]
          clear hk3 E
          go_wp2
          go_ret
          exact ⟨ret_int E2.out.symm, Below.refl _ _⟩
    · have e : l.length + 1 - k = 0 := by omega
      have E : Hid (next l p = -1) := hi.out.trans (by simp [e, nextGo])
      clear e
      go_wp2
      go_ret
      exact ⟨ret_int E.out.symm, Below.refl _ _⟩

set_option maxHeartbeats 1000000 in
set_option maxRecDepth 100000 in
theorem refNext_any (w : World) (A : Option Addr) (c : Nat) (l : List Ins) (p : Int) (hl : l.length ≤ 4611686018427387904) (hs : Lies w 25 Ins.cells A l) :
    Gives Try.prog 12 #[.slice A l.length c, .int .i64 p] w (.int .i64 (next l p)) := by
  refine Gives.mk ?_
  have Hs := hide hs
  clear hs
  go_enter Try.func12, Try.ntmps12
  go_wp2_with fail
  go_loop [1, 5] (fun q i => ∃ (k : Nat) (p' : Int), k ≤ l.length + 1 ∧ i = .int .i64 k ∧ q = .int .i64 p' ∧ Hid (next l p = nextGo l (l.length + 1 - k) p')) (fun _ i => l.length + 1 - (intOf i).toNat)
  case atStart => exact ⟨0, p, Nat.zero_le _, rfl, rfl, rfl⟩
  case round =>
    obtain ⟨k, p', hk, rfl, rfl, hi⟩ := hrel
    by_cases hlt : k < l.length + 1
    · by_cases hp : p' < 0 ∨ (l.length : Int) ≤ p'
      · have E := hide (hi.out.trans (nextGo_out hp))
        rcases hp with hp | hp
        · go_wp2
          go_ret
          exact ⟨ret_int E.out.symm, Below.refl _ _⟩
        · have hp0 : ¬ p' < 0 := by omega
          go_wp2
          go_ret
          exact ⟨ret_int E.out.symm, Below.refl _ _⟩
      · obtain ⟨j, rfl⟩ : ∃ j : Nat, p' = j := ⟨p'.toNat, by omega⟩
        have hj : j < l.length := by omega
        obtain ⟨b, off, rfl, hb, hcell⟩ := Hs.out j hj
        have h0 : w.cell? ⟨b, off + j * 25, none⟩ = _ := hcell 0 _ (Ins.at0 _)
        have h24 : w.cell? ⟨b, off + j * 25 + 24, none⟩ = _ := hcell 24 _ (Ins.at24 _)
        clear hcell hp
        have hj' : (j : Int) < (l.length : Int) := by omega
        have e : l.length + 1 - k = (l.length + 1 - (k + 1)) + 1 := by omega
        have E := hide ((hi.out.trans (by rw [e])).trans (nextGo_in hj))
        clear e
        by_cases hk3 : l[j].k = 3
        · have E2 := hide (E.out.trans (if_pos hk3))
          rw [hk3] at h0
          clear hk3 E
          go_wp2
          go_round
          case rel => exact ⟨k + 1, _, by omega, by go_num, rfl, E2.out⟩
          case measure => first | (simp [intOf]; done) | (simp [intOf]; omega)
        · have E2 := hide (E.out.trans (if_neg hk3))
          have hk3' : (l[j].k != 3) = true := by simp [hk3]
          clear hk3 E
          go_wp2
          go_ret
          exact ⟨ret_int E2.out.symm, Below.refl _ _⟩
    · have e : l.length + 1 - k = 0 := by omega
      have E : Hid (next l p = -1) := hi.out.trans (by simp [e, nextGo])
      clear e
      go_wp2
      go_ret
      exact ⟨ret_int E.out.symm, Below.refl _ _⟩

end Go.Proofs.Ytlgnjbocdmbeiaa
