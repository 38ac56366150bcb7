/- The walk of demesnelaw34.CodeNext. -/
import Derived.Test.YtlgnjbocdmbeiaaAwake
import Derived.Test.YtlgnjbocdmbeiaaTwo
import Derived.Test.YtlgnjbocdmbeiaaQLoad
set_option linter.unusedSimpArgs false
set_option linter.unusedVariables false
namespace Go.Proofs.Grow
open Go.RowKit
theorem wrap_nextN {n l c : Nat} (h : n < l) (hl : l ≤ c) (hm : c ≤ maxLen) : wrap64 ((n : Int) + 1) = ((n + 1 : Nat) : Int) := by
  unfold maxLen at hm
  unfold wrap64
  omega
theorem run_buildL {P : Program} {W : World} {o : Oper} {a : Act} (t : TypeId) (parts : List (Nat × Operand)) (ho : o.op = .build t parts.toArray) (cells : Array Value) (hf : P.built t (parts.map fun x => (x.1, a.eval x.2)) = some cells) :
    (execOp a.eval o).run P W = .ok (.value (.agg cells)) W := by
  have h := run_build (P := P) W t (parts.toArray.map fun (i, x) => (i, a.eval x)) cells (by simpa using hf)
  unfold execOp
  simp only [ho, Sem.run_bind, h, Result.andThen_ok]
  rfl
theorem wp_lit_one {P : Program} {o : Oper} {a : Act} {w : World} {K : Act → World → Prop} {Q : Exit → Act → World → Prop} (t e : TypeId) (x : Operand) (ho : o.op = .buildSlice t 1 #[(0, x)])
    (cells : Array Value) (hx : a.eval x = .agg cells) (i : TypeInfo) (z : Value) (size : Nat) (hu : P.underlying t = some (.slice e)) (hi : P.info? e = some i) (hz : i.zero = some z) (hsize : i.size = size) (hcs : cells.size = size) (hsz : 0 < size) (hsm : size ≤ 16777216)
    (h : K (a.put o.dst (.slice (some ⟨w.heap.size, 0, none⟩) 1 1)) (w.alloc (.cells cells e))) : o.wp P a w K Q := by
  refine wp_buildSlice t e 1 _ ho cells i z hu hi hz (by rw [hsize]; omega) (by rw [hsize]; omega) ?_ h
  have hf := Great.fill_whole (s := size) hsz [.agg cells] ((Array.range (1 * i.size)).map (z.cells[· % z.cells.size]!)) (by simp [Value.cells, hcs]) (by simp [hsize])
  rw [hsize] at hf ⊢
  have e1 : ((#[(0, x)] : Array (Nat × Operand)).map fun (i, x) => (i, a.eval x)).toList = (([Value.agg cells].zipIdx 0).map fun x => (x.2, x.1)) := by simp [hx]
  have e2 : ([Value.agg cells].flatMap fun v => v.cells.toList).toArray = cells := by simp [Value.cells]
  rw [e1, hf, e2]
end Go.Proofs.Grow
namespace Go.Proofs.Ytlgnjbocdmbeiaa
open Go.RowKit Go.Proofs.Grow

theorem built_step (k t : Int) : Try.prog.built 43 [(0, .int .i64 k), (2, .int .i64 t)] = some (Ins.mk k St.zero t).cells.toArray := by kernel_rfl

/-- The code that the law makes. -/
def plainIns (i : Ins) : Ins := ⟨i.k, St.zero, i.go⟩
theorem nextGo_plain (l : List Ins) : ∀ (n : Nat) (p : Int), nextGo (l.map plainIns) n p = nextGo l n p
  | 0, _ => rfl
  | n + 1, p => by
    unfold nextGo
    split
    · rfl
    · rw [List.getElem?_map]
      cases l[p.toNat]? with
      | none => rfl
      | some i =>
        simp only [Option.map_some, plainIns]
        split
        · exact nextGo_plain l n i.go
        · rfl
theorem next_plain (l : List Ins) (p : Int) : next (l.map plainIns) p = next l p := by
  unfold next; rw [List.length_map]; exact nextGo_plain l _ p
theorem nextGo_spec (l : List Ins) : ∀ (n : Nat) (p : Int), nextGo l n p = -1 ∨ ∃ (k : Nat) (h : k < l.length), nextGo l n p = k ∧ l[k].k ≠ 3
  | 0, _ => .inl rfl
  | n + 1, p => by
    by_cases hp : p < 0 ∨ (l.length : Int) ≤ p
    · exact .inl (nextGo_out hp)
    · obtain ⟨j, rfl⟩ : ∃ j : Nat, p = j := ⟨p.toNat, by omega⟩
      have hj : j < l.length := by omega
      rw [nextGo_in hj]
      by_cases h3 : l[j].k = 3
      · rw [if_pos h3]
        exact nextGo_spec l n l[j].go
      · rw [if_neg h3]
        exact .inr ⟨j, hj, rfl, h3⟩

set_option maxRecDepth 100000 in
set_option maxHeartbeats 2000000 in
theorem lawNext_any (w : World) (A : Option Addr) (c : Nat) (l : List Ins) (p : Int) (hl : Lies w 25 Ins.cells A l) (hlc : l.length ≤ c) (hcm : c ≤ maxLen) : Gives Try.prog 4 #[.slice A l.length c, .int .i64 p] w (.bool true) := by
  refine Gives.mk ?_
  obtain ⟨i0, z0, hi, hz0, hz1, hz2, hzs⟩ := info_row infoIns
  have HL := hide hl
  clear hl
  by_cases h300 : (300 : Int) < (l.length : Int)
  · go_enter Try.func4, Try.ntmps4
    go_wp2_with fail
    refine (awake_any w).mono ?_
    rintro _ _ ⟨y2, rfl, rfl⟩
    go_wp2_with fail
    go_ret
    exact ⟨rfl, y2.below⟩
  have HS := hide h300
  go_enter Try.func4, Try.ntmps4
  go_wp2_with fail
  go_loopg [5, 6] (l.length) (fun n v i W => ∃ k : Nat, k ≤ l.length ∧ n = l.length - k ∧ i = .int .i64 k ∧ ∃ x : Ext w, W = x.val ∧ Hid (Own x.val w.heap.size 43 25 Ins.cells v ((l.take k).map plainIns)))
  case atStart => exact ⟨0, Nat.zero_le _, rfl, rfl, Ext.here w, rfl, (show Own _ _ _ _ _ _ _ by simpa using Own.nil)⟩
  case round =>
    obtain ⟨k, hk, rfl, rfl, x, rfl, hown⟩ := hrel
    by_cases hlt : k < l.length
    · obtain ⟨b, off, rfl, hb, hcell⟩ := HL.out k hlt
      have hlt' : (k : Int) < (l.length : Int) := by omega
      obtain ⟨e, he⟩ : ∃ e, e = l[k] := ⟨_, rfl⟩
      rw [← he] at hcell
      have HT : Hid ((l.take (k + 1)).map plainIns = (l.take k).map plainIns ++ [plainIns e]) := by
        rw [he, List.take_succ_eq_append_getElem hlt, List.map_append]; rfl
      have a0 : w.cell? ⟨b, off + k * 25, none⟩ = some (.int .i64 e.k) := hcell 0 _ (Ins.at0 _)
      have a24 : w.cell? ⟨b, off + k * 25 + 24, none⟩ = some (.int .i64 e.go) := hcell 24 _ (Ins.at24 _)
      have HKW := hide (wrap_nextN hlt hlc hcm)
      have hlt9 := hide hlt
      clear hcell he hlt
      go_wp2_with fail
      have hS : (fun W : World => ∃ y : Ext w, W = y.val) x.val.drew := ⟨⟨x.val.drew, x.below.drew⟩, rfl⟩
      refine wp_region_till (fun W : World => ∃ y : Ext w, W = y.val) 99 (by kernel_rfl) ?_
      simp only [List.size_toArray, List.length_cons, List.length_nil, Nat.reduceAdd]
      refine AnyTill.takeS (i := 0) (v := ?_) rfl (by kernel_rfl) (fun _ _ _ h => h) hS ?_ rfl ?_
      rotate_left
      · intro W hSW
        obtain ⟨y, rfl⟩ := hSW
        go_simp
        all_goals with_reducible rfl
      try simp only [Act.put, List.getElem_toArray, List.getElem_cons_succ, List.getElem_cons_zero, List.setIfInBounds_toArray, List.set_cons_zero, List.set_cons_succ]
      refine AnyTill.takeS (i := 1) (v := ?_) rfl (by kernel_rfl) (fun _ _ _ h => h) hS ?_ rfl ?_
      rotate_left
      · intro W hSW
        obtain ⟨y, rfl⟩ := hSW
        go_simp
        all_goals with_reducible rfl
      try simp only [Act.put, List.getElem_toArray, List.getElem_cons_succ, List.getElem_cons_zero, List.setIfInBounds_toArray, List.set_cons_zero, List.set_cons_succ]
      refine AnyTill.takeS (i := 2) (v := ?_) rfl (by kernel_rfl) (fun _ _ _ h => h) hS ?_ rfl ?_
      rotate_left
      · intro W hSW
        obtain ⟨y, rfl⟩ := hSW
        go_simp
        all_goals with_reducible rfl
      try simp only [Act.put, List.getElem_toArray, List.getElem_cons_succ, List.getElem_cons_zero, List.setIfInBounds_toArray, List.set_cons_zero, List.set_cons_succ]
      refine AnyTill.takeS (i := 3) (v := ?_) rfl (by kernel_rfl) (fun _ _ _ h => h) hS ?_ rfl ?_
      rotate_left
      · intro W hSW
        obtain ⟨y, rfl⟩ := hSW
        go_simp
        all_goals with_reducible rfl
      try simp only [Act.put, List.getElem_toArray, List.getElem_cons_succ, List.getElem_cons_zero, List.setIfInBounds_toArray, List.set_cons_zero, List.set_cons_succ]
      refine AnyTill.takeS (i := 4) (v := ?_) rfl (by kernel_rfl) (fun _ _ _ h => h) hS ?_ rfl ?_
      rotate_left
      · intro W hSW
        obtain ⟨y, rfl⟩ := hSW
        go_simp
        all_goals with_reducible rfl
      try simp only [Act.put, List.getElem_toArray, List.getElem_cons_succ, List.getElem_cons_zero, List.setIfInBounds_toArray, List.set_cons_zero, List.set_cons_succ]
      refine AnyTill.takeS (i := 5) (v := ?_) rfl (by kernel_rfl) (fun _ _ _ h => h) hS ?_ rfl ?_
      rotate_left
      · intro W hSW
        obtain ⟨y, rfl⟩ := hSW
        go_simp
        all_goals with_reducible rfl
      try simp only [Act.put, List.getElem_toArray, List.getElem_cons_succ, List.getElem_cons_zero, List.setIfInBounds_toArray, List.set_cons_zero, List.set_cons_succ]
      refine AnyTill.takeS (i := 6) (v := ?_) rfl (by kernel_rfl) (fun _ _ _ h => h) hS ?_ rfl ?_
      rotate_left
      · intro W hSW
        obtain ⟨y, rfl⟩ := hSW
        go_simp
        all_goals with_reducible rfl
      try simp only [Act.put, List.getElem_toArray, List.getElem_cons_succ, List.getElem_cons_zero, List.setIfInBounds_toArray, List.set_cons_zero, List.set_cons_succ]
      refine AnyTill.takeS (i := 7) (v := ?_) rfl (by kernel_rfl) (fun _ _ _ h => h) hS ?_ rfl ?_
      rotate_left
      · intro W hSW
        obtain ⟨y, rfl⟩ := hSW
        go_simp
        all_goals with_reducible rfl
      try simp only [Act.put, List.getElem_toArray, List.getElem_cons_succ, List.getElem_cons_zero, List.setIfInBounds_toArray, List.set_cons_zero, List.set_cons_succ]
      refine AnyTill.takeS (i := 8) (v := ?_) rfl (by kernel_rfl) (fun _ _ _ h => h) hS ?_ rfl ?_
      rotate_left
      · intro W hSW
        obtain ⟨y, rfl⟩ := hSW
        go_simp
        all_goals with_reducible rfl
      try simp only [Act.put, List.getElem_toArray, List.getElem_cons_succ, List.getElem_cons_zero, List.setIfInBounds_toArray, List.set_cons_zero, List.set_cons_succ]
      refine AnyTill.takeS (i := 9) (v := ?_) rfl (by kernel_rfl) (fun _ _ _ h => h) hS ?_ rfl ?_
      rotate_left
      · intro W hSW
        obtain ⟨y, rfl⟩ := hSW
        go_simp
        all_goals with_reducible rfl
      try simp only [Act.put, List.getElem_toArray, List.getElem_cons_succ, List.getElem_cons_zero, List.setIfInBounds_toArray, List.set_cons_zero, List.set_cons_succ]
      refine AnyTill.takeS (i := 10) (v := ?_) rfl (by kernel_rfl) (fun _ _ _ h => h) hS ?_ rfl ?_
      rotate_left
      · intro W hSW
        obtain ⟨y, rfl⟩ := hSW
        go_simp
        all_goals with_reducible rfl
      try simp only [Act.put, List.getElem_toArray, List.getElem_cons_succ, List.getElem_cons_zero, List.setIfInBounds_toArray, List.set_cons_zero, List.set_cons_succ]
      refine AnyTill.takeS (i := 11) (v := .agg (plainIns e).cells.toArray) rfl (by kernel_rfl) (fun _ _ _ h => h) hS (fun W _ => run_buildL 43 [(0, .tmp 23), (2, .tmp 28)] rfl _ (built_step e.k e.go)) rfl ?_
      try simp only [Act.put, List.getElem_toArray, List.getElem_cons_succ, List.getElem_cons_zero, List.setIfInBounds_toArray, List.set_cons_zero, List.set_cons_succ]
      refine AnyTill.oneK (i := 12) rfl (by kernel_rfl) rfl ?_
      intro K hK
      refine wp_lit_one 33 43 (.tmp 29) rfl (plainIns e).cells.toArray rfl i0 z0 25 Try.underlying33 hi hz0 hz1 (by rw [List.size_toArray, Ins.cells_len]) (by omega) (by omega) ?_
      refine hK _ _ (fun _ => ⟨⟨_, x.below.drew.alloc (x.le (Nat.le_refl _)) _⟩, rfl⟩) ?_
      clear hK K
      refine AnyTill.oneK (i := 13) rfl (by kernel_rfl) rfl ?_
      intro K hK
      refine wp_append_list _ (.tmp 18) (.tmp 30) 33 rfl w.heap.size 43 i0 z0 25 304 Try.underlying33 hi hz0 hz1 hz2 hzs (by omega) Ins.cells_len Ins.cells_one _ ((l.take k).map plainIns) rfl (hown.out.drew.alloc _) _ 1 1 [plainIns e] rfl rfl (Lies.one x.val.drew (plainIns e) (plainIns e).cells.toArray rfl) (by have := HS.out; simp [maxLen]; omega) (by have := HS.out; simp; omega) (by simp; exact x.le_add (Nat.le_refl _)) ?_
      intro v' w' hown' hgr hat
      obtain ⟨z, hz⟩ := Ext.of ((x.below.drew.alloc (x.le (Nat.le_refl _)) _).grown hgr (by simp; exact x.le_add (Nat.le_refl _)) (fun g hg => (hown.out.from_ g hg).1))
      have HO := hide hown'
      clear hown' hgr hat
      subst hz
      refine hK _ _ (fun _ => ⟨z, rfl⟩) ?_
      clear hK K
      refine AnyTill.oneK (i := 14) rfl (by kernel_rfl) rfl ?_
      intro K hK
      go_simp
      refine hK _ _ (fun _ => ⟨z, rfl⟩) ?_
      clear hK K
      refine AnyTill.done (by kernel_rfl) ?_ _
      go_wp2_with fail
      go_roundg (l.length - (k + 1))
      case measure => have := hlt9.out; omega
      case rel => exact ⟨k + 1, Nat.succ_le_of_lt hlt9.out, rfl, (by first | rw [HKW.out] | simp), z, rfl, by rw [HT.out]; exact HO.out⟩
    · have e := hide (Nat.le_antisymm hk (Nat.le_of_not_lt hlt))
      have hlt' : ¬ (k : Int) < (l.length : Int) := by omega
      obtain ⟨A', c', rfl, hc1, hc2, hlies⟩ := hown.out.lies Ins.cells_len
      have hML : ((l.take k).map plainIns).length = l.length := by rw [List.length_map, e.out, List.take_length]
      rw [hML]
      have hNx : Hid (Gives Try.prog 11 #[.slice A' l.length c', .int .i64 p] x.val (.int .i64 (next l p))) := by
        have h := codeNext_any x.val A' c' ((l.take k).map plainIns) p (by rw [hML]; have := HS.out; omega) hlies
        rw [hML, e.out, List.take_length, next_plain] at h
        exact h
      have hNy : Hid (∀ y : Ext w, Gives Try.prog 12 #[.slice A l.length c, .int .i64 p] y.val (.int .i64 (next l p))) := fun y => refNext_any y.val A c l p (by have := HS.out; omega) (HL.out.ext y)
      obtain ⟨q, hq⟩ : ∃ q, next l p = q := ⟨_, rfl⟩
      rw [hq] at hNx hNy
      have hspec := nextGo_spec l (l.length + 1) p
      have hq' : nextGo l (l.length + 1) p = q := hq
      rw [hq'] at hspec
      clear hq hq' hlies hc1 hML
      rcases hspec with rfl | ⟨j, hj, rfl, h3⟩
      · as_aux_lemma =>
          go_wp2_with (first | (go_at_call 11; refine (hNx.out.over x).mono ?_; rintro _ _ ⟨y, hy, rfl, rfl⟩) | (go_at_call 12; refine ((hNy.out y).over y).mono ?_; rintro _ _ ⟨y2, hy2, rfl, rfl⟩))
          refine ((awake_any y2.val).over y2).mono ?_
          rintro _ _ ⟨y3, hy3, rfl, rfl⟩
          go_wp2_with fail
          go_ret
          exact ⟨rfl, y3.below⟩
      · obtain ⟨b, off, rfl, hb, hcell⟩ := HL.out j hj
        have a0 : w.cell? ⟨b, off + j * 25, none⟩ = some (.int .i64 l[j].k) := hcell 0 _ (Ins.at0 _)
        obtain ⟨u, hu⟩ : ∃ u, u = l[j].k := ⟨_, rfl⟩
        rw [← hu] at a0 h3
        have hj' : (j : Int) < (l.length : Int) := by omega
        have hj1 : ((j : Int) == -1) = false := beq_eq_false_iff_ne.2 (by omega)
        have h3' : (u != 3) = true := bne_iff_ne.2 h3
        clear hcell hu h3
        as_aux_lemma =>
          go_wp2_with (first | (go_at_call 11; refine (hNx.out.over x).mono ?_; rintro _ _ ⟨y, hy, rfl, rfl⟩) | (go_at_call 12; refine ((hNy.out y).over y).mono ?_; rintro _ _ ⟨y2, hy2, rfl, rfl⟩))
          refine ((awake_any y2.val).over y2).mono ?_
          rintro _ _ ⟨y3, hy3, rfl, rfl⟩
          go_wp2_with fail
          go_ret
          exact ⟨rfl, y3.below⟩
end Go.Proofs.Ytlgnjbocdmbeiaa
