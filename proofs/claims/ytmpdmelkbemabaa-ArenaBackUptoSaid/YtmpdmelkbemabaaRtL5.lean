/- The second inner loop of demesneref12.Types. -/
import Derived.Test.YtmpdmelkbemabaaRefNotes
set_option linter.unusedSimpArgs false
set_option linter.unusedVariables false
namespace Go.Proofs.Grow
open Go.RowKit
theorem wpList_buildV {P : Program} {ops : Array Oper} {rest : List Oper} {o : Oper} {a : Act} {w : World} {Q : Exit → Act → World → Prop} (hg : o.guard = none) (t : TypeId) (parts : List (Nat × Operand)) (ho : o.op = .build t parts.toArray)
    (vals : List (Nat × Value)) (hv : (parts.map fun x => (x.1, a.eval x.2)) = vals) (cells : Array Value) (hf : P.built t vals = some cells) (h : wpList P ops Q rest (a.put o.dst (.agg cells)) w) : wpList P ops Q (o :: rest) a w :=
  wpList_buildL hg t parts ho cells (by rw [hv]; exact hf) h
theorem run_buildV {P : Program} {W : World} {o : Oper} {a : Act} (t : TypeId) (parts : List (Nat × Operand)) (ho : o.op = .build t parts.toArray) (vals : List (Nat × Value)) (hv : (parts.map fun x => (x.1, a.eval x.2)) = vals) (cells : Array Value) (hf : P.built t vals = some cells) :
    (execOp a.eval o).run P W = .ok (.value (.agg cells)) W := by
  have h := run_build (P := P) W t (parts.toArray.map fun (i, x) => (i, a.eval x)) cells (by
    have e : (parts.toArray.map fun (i, x) => (i, a.eval x)).toList = vals := by rw [← hv]; simp
    rw [e]; exact hf)
  unfold execOp
  simp only [ho, Sem.run_bind, h, Result.andThen_ok]
  rfl
theorem wp_lit_one {P : Program} {o : Oper} {a : Act} {w : World} {K : Act → World → Prop} {Q : Exit → Act → World → Prop} (t e : TypeId) (x : Operand) (ho : o.op = .buildSlice t 1 #[(0, x)])
    (cells : Array Value) (hx : a.eval x = .agg cells) (i : TypeInfo) (z : Value) (size : Nat) (hu : P.underlying t = some (.slice e)) (hi : P.info? e = some i) (hz : i.zero = some z) (hsize : i.size = size) (hcs : cells.size = size) (hsz : 0 < size) (hsm : size ≤ 16777216)
    (h : K (a.put o.dst (.slice (some ⟨w.heap.size, 0, none⟩) 1 1)) (w.alloc (.cells cells e))) : o.wp P a w K Q := by
  refine wp_buildSlice t e 1 _ ho cells i z hu hi hz (by rw [hsize]; omega) (by rw [hsize]; omega) ?_ h
  have hf := Great.fill_whole (s := size) hsz [.agg cells] ((Array.range (1 * i.size)).map (z.cells[· % z.cells.size]!)) (by simp [Value.cells, hcs]) (by simp [hsize])
  rw [hsize] at hf ⊢
  have e1 : ((#[(0, x)] : Array (Nat × Operand)).map fun (i, x) => (i, a.eval x)).toList = (([Value.agg cells].zipIdx 0).map fun x => (x.2, x.1)) := by simp [hx]
  have e2 : ([Value.agg cells].flatMap fun v => v.cells.toList).toArray = cells := by simp [Value.cells]
  rw [e1, hf, e2]
theorem Own.lies_ {α : Type} {enc : α → List Value} {w : World} {base size n c : Nat} {e : TypeId} {A : Option Addr} {l : List α} (h : Own w base e size enc (.slice A n c) l) (henc : ∀ a, (enc a).length = size) : Lies w size enc A l := by
  obtain ⟨A', c', he, _, _, h3⟩ := h.lies henc
  cases he
  exact h3
theorem own_ne {α : Type} {enc : α → List Value} {W : World} {base size g : Nat} {e t : TypeId} {v : Value} {l : List α} {cs : Array Value} {fr : Nat × Nat} (h : Own W base e size enc v l) (hr : W.heap[g]? = some (.cells cs t fr)) (hte : t ≠ e) : some g ≠ v.ownBlock := fun e2 => by
  obtain ⟨_, h2⟩ := h
  rcases h2 with ⟨rfl, _⟩ | ⟨g', cap, cur, rfl, _, hh, _⟩
  · cases e2
  · simp [Value.ownBlock] at e2
    subst e2
    rw [hh] at hr
    simp at hr
    exact hte hr.2.1.symm
/-- Two lists of other types: what one grows by leaves the other. -/
theorem Own.aside {α β : Type} {enc : α → List Value} {enc' : β → List Value} {W W' : World} {base base' size size' : Nat} {e t : TypeId} {v u : Value} {l : List α} {m : List β} (h : Own W base e size enc v l) (h2 : Own W base' t size' enc' u m) (hte : t ≠ e) (hg : W.grownBy W' v.ownBlock) : Own W' base' t size' enc' u m := by
  refine h2.keep fun g hgu => ?_
  obtain ⟨_, h3⟩ := h2
  rcases h3 with ⟨rfl, _⟩ | ⟨g', cap, cur, rfl, _, hh, _⟩
  · cases hgu
  · simp [Value.ownBlock] at hgu
    subst hgu
    exact hg.block _ (row_lt hh) (own_ne h hh hte)
end Go.Proofs.Grow
namespace Go.Proofs.Ytmpdmelkbemabaa
open Go.RowKit Go.Proofs.Grow

theorem infoRn : (Try.prog.info? 40).map (fun i => (i.zero.map (·.cells.size), i.size, i.bytes)) = some (some 15, 15, 128) := by kernel_rfl
theorem built_nt (a b c : Int) (t : Ty) (p : Int) : Try.prog.built 40 [(0, .int .i64 a), (1, .int .i64 b), (2, .int .i64 c), (3, .agg t.cells.toArray), (4, .int .i64 p)] = some (Nt.mk a b c t p).cells.toArray := by
  obtain ⟨tk, tc, tn, ⟨k0, n0⟩, ⟨k1, n1⟩, ⟨k2, n2⟩, ⟨k3, n3⟩⟩ := t
  kernel_rfl
theorem built_ln : Try.prog.built 49 [] = some (Ln.mk 0 0 0 St.zero).cells.toArray := by kernel_rfl
/-- The loops in a code, outer ones first. -/
def loops : Code → List Code
  | .loop c => c :: loops c
  | .seq a b => loops a ++ loops b
  | .block _ c => loops c
  | .scope c => loops c
  | .cond _ a b => loops a ++ loops b
  | _ => []
noncomputable def rtLoop (n : Nat) : Code := (((Try.f8.body.map loops).getD [])[n]?).getD .skip

set_option maxHeartbeats 0 in
set_option maxRecDepth 1000000 in
theorem rt_l4 (w : World) (k k2 : Nat) (Bm : Nat) (mc : Array Value) (V : List Va) (vA : Option Addr) (vc : Nat) (T : List Nt) (i0 : TypeInfo) (z0 : Value) (hi0 : Try.prog.info? 40 = some i0) (hz0 : i0.zero = some z0) (hz1 : i0.size = 15) (hz2 : i0.bytes = 128) (hzs : z0.cells.size = 15) (hv63 : V.length ≤ 9223372036854775807) (hLen : Hid (T.length + V.length ≤ 1000000000000)) (x : Ext w) (v0 : Value)
    (hO : Hid (Grow.Own x.val w.heap.size 40 15 Nt.cells v0 (T))) (hV : Hid (Grow.Own x.val w.heap.size 79 13 Va.cells (.slice vA V.length vc) V)) (hM : Hid (x.val.heap[Bm]? = some (.cells mc 63 (0, 0)))) (q0 q1 q2 q5 q6 q8 q11 q12 q13 q14 q15 q16 q17 q18 q19 q20 q21 q22 q23 q24 q25 q26 q27 q28 q29 q30 q31 q32 q33 q34 q35 q36 q37 q38 q39 q40 q41 q42 q43 q44 q45 q46 q47 q48 q49 q50 q51 q52 q53 q54 q55 q56 q57 q58 q59 q60 q61 q62 q63 q64 q65 q66 q67 q68 q69 q70 q71 q72 q73 q74 q75 q76 q77 q78 q79 q80 q81 q82 q83 q84 q85 q86 q87 q88 q89 q90 q91 q92 q93 q94 q95 q96 q97 q98 q99 q100 q101 q102 q103 q104 q105 q106 q107 q108 q109 q110 q111 q112 q113 q114 q115 q116 q117 q118 q119 q120 q121 q122 q123 q124 q125 q126 q127 q128 q129 q130 q131 q132 q133 q134 q135 q136 : Value) (Q : Exit → Act → World → Prop) (hpan : ∀ c (a : Act) (d : Nat) v w, Q (.panic c) (a.put (some d) v) w → Q (.panic c) a w)
    (hexit : ∀ (r3 r10 r77 r78 r79 r80 r81 r82 r83 r84 r85 r86 r87 r88 r89 r90 r91 r92 r93 r94 r95 r96 r97 r98 r99 : Value) (x' : Ext w), Hid (Grow.Own x'.val w.heap.size 40 15 Nt.cells r3 (T ++ rnV k k2 V)) → Hid (x'.val.heap[Bm]? = some (.cells mc 63 (0, 0))) → Q (.exit 6) ⟨List.toArray (q0 :: q1 :: q2 :: (r3) :: (Value.int .i64 k) :: q5 :: q6 :: (Value.int .i64 k2) :: q8 :: (Value.slice vA V.length vc) :: (r10) :: q11 :: q12 :: q13 :: q14 :: q15 :: q16 :: q17 :: q18 :: q19 :: q20 :: q21 :: q22 :: q23 :: q24 :: q25 :: q26 :: q27 :: q28 :: q29 :: q30 :: q31 :: q32 :: q33 :: q34 :: q35 :: q36 :: q37 :: q38 :: q39 :: q40 :: q41 :: q42 :: q43 :: q44 :: q45 :: q46 :: q47 :: q48 :: q49 :: q50 :: q51 :: q52 :: q53 :: q54 :: q55 :: q56 :: q57 :: q58 :: q59 :: q60 :: q61 :: q62 :: q63 :: q64 :: q65 :: q66 :: q67 :: q68 :: q69 :: q70 :: q71 :: q72 :: q73 :: q74 :: q75 :: q76 :: (r77) :: (r78) :: (r79) :: (r80) :: (r81) :: (r82) :: (r83) :: (r84) :: (r85) :: (r86) :: (r87) :: (r88) :: (r89) :: (r90) :: (r91) :: (r92) :: (r93) :: (r94) :: (r95) :: (r96) :: (r97) :: (r98) :: (r99) :: q100 :: q101 :: q102 :: q103 :: q104 :: q105 :: q106 :: q107 :: q108 :: q109 :: q110 :: q111 :: q112 :: q113 :: q114 :: q115 :: q116 :: q117 :: q118 :: q119 :: q120 :: q121 :: q122 :: q123 :: q124 :: q125 :: q126 :: q127 :: q128 :: q129 :: q130 :: q131 :: q132 :: q133 :: q134 :: q135 :: q136 :: []), []⟩ x'.val) : Code.wp Try.prog (Code.loop (rtLoop 3)) Q ⟨List.toArray (q0 :: q1 :: q2 :: (v0) :: (Value.int .i64 k) :: q5 :: q6 :: (Value.int .i64 k2) :: q8 :: (Value.slice vA V.length vc) :: (Value.int .i64 0) :: q11 :: q12 :: q13 :: q14 :: q15 :: q16 :: q17 :: q18 :: q19 :: q20 :: q21 :: q22 :: q23 :: q24 :: q25 :: q26 :: q27 :: q28 :: q29 :: q30 :: q31 :: q32 :: q33 :: q34 :: q35 :: q36 :: q37 :: q38 :: q39 :: q40 :: q41 :: q42 :: q43 :: q44 :: q45 :: q46 :: q47 :: q48 :: q49 :: q50 :: q51 :: q52 :: q53 :: q54 :: q55 :: q56 :: q57 :: q58 :: q59 :: q60 :: q61 :: q62 :: q63 :: q64 :: q65 :: q66 :: q67 :: q68 :: q69 :: q70 :: q71 :: q72 :: q73 :: q74 :: q75 :: q76 :: q77 :: q78 :: q79 :: q80 :: q81 :: q82 :: q83 :: q84 :: q85 :: q86 :: q87 :: q88 :: q89 :: q90 :: q91 :: q92 :: q93 :: q94 :: q95 :: q96 :: q97 :: q98 :: q99 :: q100 :: q101 :: q102 :: q103 :: q104 :: q105 :: q106 :: q107 :: q108 :: q109 :: q110 :: q111 :: q112 :: q113 :: q114 :: q115 :: q116 :: q117 :: q118 :: q119 :: q120 :: q121 :: q122 :: q123 :: q124 :: q125 :: q126 :: q127 :: q128 :: q129 :: q130 :: q131 :: q132 :: q133 :: q134 :: q135 :: q136 :: []), []⟩ x.val := by
  conv => arg 2; arg 1; whnf
  go_loopw [3, 10] (fun s3 s10 wr => ∃ j : Nat, s10 = .int .i64 j ∧ j ≤ V.length ∧ ∃ y : Ext w, wr = y.val ∧ Hid (Grow.Own y.val w.heap.size 40 15 Nt.cells s3 (T ++ rnV k k2 (V.take j))) ∧ Hid (Grow.Own y.val w.heap.size 79 13 Va.cells (.slice vA V.length vc) V) ∧ Hid (y.val.heap[Bm]? = some (.cells mc 63 (0, 0)))) (fun _ s10 _ => V.length - (intOf s10).toNat)
  case atStart => exact ⟨0, rfl, Nat.zero_le _, x, rfl, (show Grow.Own _ _ _ _ _ _ _ by simpa [rnV] using hO.out), hV, hM⟩
  case round =>
    obtain ⟨j, rfl, hj, y, rfl, hown, hV', hM'⟩ := hrel
    clear hO hV hM
    by_cases hlt : j < V.length
    · obtain ⟨vb, voff, hvA, hvb, hvc⟩ := hV'.out.lies_ Va.cells_len j hlt
      have hlt' : (j : Int) < (V.length : Int) := by omega
      have HTj := hide (rnV_take k k2 V j hlt)
      obtain ⟨va, hva⟩ : ∃ va, va = V[j] := ⟨_, rfl⟩
      rw [← hva] at HTj
      let S : World → Prop := fun X => Below w.heap.size w X ∧ Grow.Own X w.heap.size 79 13 Va.cells (.slice vA V.length vc) V ∧ X.heap[Bm]? = some (.cells mc 63 (0, 0))
      have hSc : Hid (∀ X, S X → X.cell? ⟨vb, voff + j * 13 + 2 + 10, none⟩ = some (.int .i64 va.pos) ∧ X.cell? ⟨vb, voff + j * 13 + 12, none⟩ = some (.int .i64 va.pos) ∧ X.rangeAt vb (voff + j * 13 + 1) va.ty.cells) := fun X h => by
        obtain ⟨b', off', e, _, hc⟩ := h.2.1.lies_ Va.cells_len j hlt
        rw [hvA] at e
        cases e
        rw [← hva] at hc
        refine ⟨hc 12 _ rfl, hc 12 _ rfl, fun i u hi => ?_⟩
        have := hc (1 + i) u (by
          rw [Nat.add_comm]
          show (Value.string va.name :: (va.ty.cells ++ [.int .i64 va.pos]))[i + 1]? = some u
          rw [List.getElem?_cons_succ, List.getElem?_append_left (List.getElem?_eq_some_iff.1 hi).1]
          exact hi)
        rw [Nat.add_assoc]
        exact this
      have hb1 : Hid ((T ++ rnV k k2 (V.take j)).length + [Nt.mk k k2 j va.ty va.pos].length ≤ maxLen ∧ ((T ++ rnV k k2 (V.take j)).length + [Nt.mk k k2 j va.ty va.pos].length) * 128 ≤ 140737488355328) := by
        have := hLen.out
        show _ ∧ _
        simp only [List.length_append, rnV, List.length_mapIdx, List.length_take, List.length_cons, List.length_nil]
        unfold maxLen
        omega
      have hlt9 := hide hlt
      have hS : S y.val.drew := ⟨y.below.drew, hV'.out.drew, hM'.out⟩
      have ho9 : Hid (Grow.Own y.val.drew w.heap.size 40 15 Nt.cells u3 (T ++ rnV k k2 (V.take j))) := hown.out.drew
      subst hvA
      clear hvc hva hlt hown hV' hM'
      go_wp2_with fail
      refine wp_region_till S 99 (by kernel_rfl) ?_
      simp only [List.size_toArray, List.length_cons, List.length_nil, Nat.reduceAdd]
      refine AnyTill.takeG (i := 0) (v := ?_) rfl (by kernel_rfl) (fun _ _ _ h => hpan _ _ _ _ _ h) hS ?_ rfl ?_
      rotate_left
      · intro X hSX
        skip
        go_simp
        all_goals with_reducible rfl
      try simp only [Act.put, List.getElem_toArray, List.getElem_cons_succ, List.getElem_cons_zero, List.setIfInBounds_toArray, List.set_cons_zero, List.set_cons_succ]
      refine AnyTill.takeG (i := 1) (v := ?_) rfl (by kernel_rfl) (fun _ _ _ h => hpan _ _ _ _ _ h) hS ?_ rfl ?_
      rotate_left
      · intro X hSX
        skip
        go_simp
        all_goals with_reducible rfl
      try simp only [Act.put, List.getElem_toArray, List.getElem_cons_succ, List.getElem_cons_zero, List.setIfInBounds_toArray, List.set_cons_zero, List.set_cons_succ]
      refine AnyTill.takeG (i := 2) (v := ?_) rfl (by kernel_rfl) (fun _ _ _ h => hpan _ _ _ _ _ h) hS ?_ rfl ?_
      rotate_left
      · intro X hSX
        skip
        go_simp
        all_goals with_reducible rfl
      try simp only [Act.put, List.getElem_toArray, List.getElem_cons_succ, List.getElem_cons_zero, List.setIfInBounds_toArray, List.set_cons_zero, List.set_cons_succ]
      refine AnyTill.takeG (i := 3) (v := ?_) rfl (by kernel_rfl) (fun _ _ _ h => hpan _ _ _ _ _ h) hS ?_ rfl ?_
      rotate_left
      · intro X hSX
        skip
        go_simp
        all_goals with_reducible rfl
      try simp only [Act.put, List.getElem_toArray, List.getElem_cons_succ, List.getElem_cons_zero, List.setIfInBounds_toArray, List.set_cons_zero, List.set_cons_succ]
      refine AnyTill.takeG (i := 4) (v := ?_) rfl (by kernel_rfl) (fun _ _ _ h => hpan _ _ _ _ _ h) hS ?_ rfl ?_
      rotate_left
      · intro X hSX
        skip
        go_simp
        all_goals with_reducible rfl
      try simp only [Act.put, List.getElem_toArray, List.getElem_cons_succ, List.getElem_cons_zero, List.setIfInBounds_toArray, List.set_cons_zero, List.set_cons_succ]
      refine AnyTill.takeG (i := 5) (v := ?_) rfl (by kernel_rfl) (fun _ _ _ h => hpan _ _ _ _ _ h) hS ?_ rfl ?_
      rotate_left
      · intro X hSX
        skip
        go_simp
        all_goals with_reducible rfl
      try simp only [Act.put, List.getElem_toArray, List.getElem_cons_succ, List.getElem_cons_zero, List.setIfInBounds_toArray, List.set_cons_zero, List.set_cons_succ]
      refine AnyTill.takeG (i := 6) (v := ?_) rfl (by kernel_rfl) (fun _ _ _ h => hpan _ _ _ _ _ h) hS ?_ rfl ?_
      rotate_left
      · intro X hSX
        skip
        go_simp
        all_goals with_reducible rfl
      try simp only [Act.put, List.getElem_toArray, List.getElem_cons_succ, List.getElem_cons_zero, List.setIfInBounds_toArray, List.set_cons_zero, List.set_cons_succ]
      refine AnyTill.takeG (i := 7) (v := ?_) rfl (by kernel_rfl) (fun _ _ _ h => hpan _ _ _ _ _ h) hS ?_ rfl ?_
      rotate_left
      · intro X hSX
        skip
        go_simp
        all_goals with_reducible rfl
      try simp only [Act.put, List.getElem_toArray, List.getElem_cons_succ, List.getElem_cons_zero, List.setIfInBounds_toArray, List.set_cons_zero, List.set_cons_succ]
      refine AnyTill.takeG (i := 8) (v := .agg va.ty.cells.toArray) rfl (by kernel_rfl) (fun _ _ _ h => hpan _ _ _ _ _ h) hS (fun X hX => run_load_mid (b := vb) (off := voff + j * 13 + 1) rfl rfl (hSc.out X hX).2.2 Try.underlying37 rfl (by rw [Ty.cells_len]; kernel_rfl)) rfl ?_
      try simp only [Act.put, List.getElem_toArray, List.getElem_cons_succ, List.getElem_cons_zero, List.setIfInBounds_toArray, List.set_cons_zero, List.set_cons_succ]
      refine AnyTill.takeG (i := 9) (v := ?_) rfl (by kernel_rfl) (fun _ _ _ h => hpan _ _ _ _ _ h) hS ?_ rfl ?_
      rotate_left
      · intro X hSX
        skip
        go_simp
        all_goals with_reducible rfl
      try simp only [Act.put, List.getElem_toArray, List.getElem_cons_succ, List.getElem_cons_zero, List.setIfInBounds_toArray, List.set_cons_zero, List.set_cons_succ]
      refine AnyTill.takeG (i := 10) (v := ?_) rfl (by kernel_rfl) (fun _ _ _ h => hpan _ _ _ _ _ h) hS ?_ rfl ?_
      rotate_left
      · intro X hSX
        skip
        go_simp
        all_goals with_reducible rfl
      try simp only [Act.put, List.getElem_toArray, List.getElem_cons_succ, List.getElem_cons_zero, List.setIfInBounds_toArray, List.set_cons_zero, List.set_cons_succ]
      refine AnyTill.takeG (i := 11) (v := ?_) rfl (by kernel_rfl) (fun _ _ _ h => hpan _ _ _ _ _ h) hS ?_ rfl ?_
      rotate_left
      · intro X hSX
        skip
        go_simp
        all_goals with_reducible rfl
      try simp only [Act.put, List.getElem_toArray, List.getElem_cons_succ, List.getElem_cons_zero, List.setIfInBounds_toArray, List.set_cons_zero, List.set_cons_succ]
      refine AnyTill.takeG (i := 12) (v := ?_) rfl (by kernel_rfl) (fun _ _ _ h => hpan _ _ _ _ _ h) hS ?_ rfl ?_
      rotate_left
      · intro X hSX
        skip
        go_simp
        all_goals with_reducible rfl
      try simp only [Act.put, List.getElem_toArray, List.getElem_cons_succ, List.getElem_cons_zero, List.setIfInBounds_toArray, List.set_cons_zero, List.set_cons_succ]
      refine AnyTill.takeG (i := 13) (v := ?_) rfl (by kernel_rfl) (fun _ _ _ h => hpan _ _ _ _ _ h) hS ?_ rfl ?_
      rotate_left
      · intro X hSX
        obtain ⟨h12, h12', _⟩ := hSc.out X hSX
        go_simp
        all_goals with_reducible rfl
      try simp only [Act.put, List.getElem_toArray, List.getElem_cons_succ, List.getElem_cons_zero, List.setIfInBounds_toArray, List.set_cons_zero, List.set_cons_succ]
      refine AnyTill.takeG (i := 14) (v := .agg (Nt.mk k k2 j va.ty va.pos).cells.toArray) rfl (by kernel_rfl) (fun _ _ _ h => hpan _ _ _ _ _ h) hS (fun X _ => run_buildV 40 [(0, .tmp 84), (1, .tmp 85), (2, .tmp 86), (3, .tmp 91), (4, .tmp 96)] rfl [(0, .int .i64 k), (1, .int .i64 k2), (2, .int .i64 j), (3, .agg va.ty.cells.toArray), (4, .int .i64 va.pos)] (by kernel_rfl) _ (built_nt k k2 j va.ty va.pos)) rfl ?_
      try simp only [Act.put, List.getElem_toArray, List.getElem_cons_succ, List.getElem_cons_zero, List.setIfInBounds_toArray, List.set_cons_zero, List.set_cons_succ]
      refine AnyTill.oneG (i := 15) rfl (by kernel_rfl) rfl ?_
      intro K hK
      refine wp_lit_one 27 40 (.tmp 97) rfl (Nt.mk k k2 j va.ty va.pos).cells.toArray rfl i0 z0 15 Try.underlying27 hi0 hz0 hz1 (by rw [List.size_toArray, Nt.cells_len]) (by decide) (by decide) ?_
      obtain ⟨Z, hZ⟩ : ∃ Z, Z = y.val.drew.alloc (.cells (Nt.mk k k2 j va.ty va.pos).cells.toArray 40) := ⟨_, rfl⟩
      have hSZ : S Z := by rw [hZ]; exact ⟨hS.1.alloc hS.1.size _, hS.2.1.alloc _, (Below.heap_alloc _ _ _ (row_lt hS.2.2)).trans hS.2.2⟩
      have hoZ : Hid (Grow.Own Z w.heap.size 40 15 Nt.cells u3 (T ++ rnV k k2 (V.take j))) := by show Grow.Own _ _ _ _ _ _ _; rw [hZ]; exact ho9.out.alloc _
      have hL1 : Hid (Lies Z 15 Nt.cells (some ⟨y.val.drew.heap.size, 0, none⟩) [Nt.mk k k2 j va.ty va.pos]) := by show Lies _ _ _ _ _; rw [hZ]; exact Lies.one _ _ _ rfl
      rw [← hZ]
      clear hZ hS ho9
      refine hK _ _ (fun _ => hSZ) ?_
      clear hK K
      refine AnyTill.oneG (i := 16) rfl (by kernel_rfl) rfl ?_
      intro K hK
      refine wp_append_list Z (.tmp 83) (.tmp 98) 27 rfl w.heap.size 40 i0 z0 15 128 Try.underlying27 hi0 hz0 hz1 hz2 hzs (by decide) Nt.cells_len Nt.cells_one u3 (T ++ rnV k k2 (V.take j)) rfl hoZ.out _ 1 1 [Nt.mk k k2 j va.ty va.pos] rfl rfl hL1.out hb1.out.1 hb1.out.2 hSZ.1.size ?_
      intro v3 W9 ho3 hgr hat
      have hS3 : S W9 := ⟨hSZ.1.grown hgr hSZ.1.size (fun g hg => (hoZ.out.from_ g hg).1), hoZ.out.aside hSZ.2.1 (by decide) hgr, (hgr.block _ (row_lt hSZ.2.2) (own_ne hoZ.out hSZ.2.2 (by decide))).trans hSZ.2.2⟩
      have ho39 : Hid (Grow.Own W9 w.heap.size 40 15 Nt.cells v3 (T ++ rnV k k2 (V.take (j + 1)))) := by show Grow.Own _ _ _ _ _ _ _; rw [HTj.out, ← List.append_assoc]; exact ho3
      clear hgr hat ho3 hoZ hL1 hSZ
      refine hK _ _ (fun _ => hS3) ?_
      clear hK K
      try simp only [Act.put, List.getElem_toArray, List.getElem_cons_succ, List.getElem_cons_zero, List.setIfInBounds_toArray, List.set_cons_zero, List.set_cons_succ]
      refine AnyTill.oneG (i := 17) rfl (by kernel_rfl) rfl ?_
      intro K hK
      go_simp
      refine hK _ _ (fun _ => hS3) ?_
      clear hK K
      refine AnyTill.done (by kernel_rfl) ?_ _
      obtain ⟨z, hz⟩ := Ext.of hS3.1
      have hV9 := hide hS3.2.1
      have hM9 := hide hS3.2.2
      rw [hz] at ho39 hV9 hM9
      have HZ := hide hz
      clear hS3 hz hSc
      go_wp2_with fail
      go_roundw
      case rel => exact ⟨j + 1, by go_num, Nat.succ_le_of_lt hlt9.out, z, HZ.out, ho39, hV9, hM9⟩
      case measure => have := hlt9.out; simp [intOf]; omega
    · obtain rfl : j = V.length := Nat.le_antisymm hj (Nat.le_of_not_lt hlt)
      have hlt' : ¬ (V.length : Int) < (V.length : Int) := by omega
      have hO9 : Hid (Grow.Own y.val w.heap.size 40 15 Nt.cells u3 (T ++ rnV k k2 V)) := by have := hown.out; rw [List.take_length] at this; exact this
      clear hown
      go_wp2_with fail
      exact hexit _ _ _ _ _ _ _ _ _ _ _ _ _ _ _ _ _ _ _ _ _ _ _ _ _ y hO9 hM'
end Go.Proofs.Ytmpdmelkbemabaa
set_option linter.unusedSimpArgs false
set_option linter.unusedVariables false
namespace Go.Proofs.Grow
open Go.RowKit
theorem ln_ty (x : Ln) {i : Nat} {u : Value} (h : x.s.ty.cells[i]? = some u) : x.cells[7 + i]? = some u := by
  obtain ⟨c, m, d, s⟩ := x
  obtain ⟨k, x, y', name, ⟨tk, tc, tn, ⟨k0, n0⟩, ⟨k1, n1⟩, ⟨k2, n2⟩, ⟨k3, n3⟩⟩, ⟨ek, en, ename, eA, ec, kids⟩, aA, ac, args, bA, bc, body, lA, lc, els, pos⟩ := s
  have hj : i < 11 := (List.getElem?_eq_some_iff.1 h).1
  rw [← h]
  rcases (show i = 0 ∨ i = 1 ∨ i = 2 ∨ i = 3 ∨ i = 4 ∨ i = 5 ∨ i = 6 ∨ i = 7 ∨ i = 8 ∨ i = 9 ∨ i = 10 by omega) with rfl | rfl | rfl | rfl | rfl | rfl | rfl | rfl | rfl | rfl | rfl <;> rfl
theorem ln_at7 (x : Ln) : x.cells[7]? = some (.int .i64 x.s.ty.k) := ln_ty x (i := 0) rfl
theorem ln_at25 (x : Ln) : x.cells[25]? = some (.int .i64 x.s.pos) := by
  obtain ⟨c, m, d, s⟩ := x
  obtain ⟨k, x, y', name, ⟨tk, tc, tn, ⟨k0, n0⟩, ⟨k1, n1⟩, ⟨k2, n2⟩, ⟨k3, n3⟩⟩, ⟨ek, en, ename, eA, ec, kids⟩, aA, ac, args, bA, bc, body, lA, lc, els, pos⟩ := s
  rfl
theorem rnB_take_le (c m : Int) (l : List Ln) (k : Nat) : (rnB c m (l.take k)).length ≤ (rnB c m l).length := by
  have h : rnB c m l = rnB c m (l.take k ++ l.drop k) := by rw [List.take_append_drop]
  rw [h]
  unfold rnB
  rw [List.filter_append, List.map_append, List.length_append]
  omega
end Go.Proofs.Grow
namespace Go.Proofs.Ytmpdmelkbemabaa
open Go.RowKit Go.Proofs.Grow

set_option maxHeartbeats 0 in
set_option maxRecDepth 1000000 in
theorem rt_l5 (w : World) (k k2 : Nat) (Bm : Nat) (mc : Array Value) (S : List Ln) (lA : Option Addr) (lc : Nat) (T : List Nt) (i0 : TypeInfo) (z0 : Value) (hi0 : Try.prog.info? 40 = some i0) (hz0 : i0.zero = some z0) (hz1 : i0.size = 15) (hz2 : i0.bytes = 128) (hzs : z0.cells.size = 15) (hv63 : S.length ≤ 9223372036854775807) (hLen : Hid (T.length + (rnB k k2 S).length ≤ 1000000000000)) (x : Ext w) (v0 : Value)
    (hO : Hid (Grow.Own x.val w.heap.size 40 15 Nt.cells v0 (T))) (hV : Hid (Grow.Own x.val w.heap.size 49 26 Ln.cells (.slice lA S.length lc) S)) (hM : Hid (x.val.heap[Bm]? = some (.cells mc 63 (0, 0)))) (q0 q1 q2 q5 q6 q8 q9 q10 q13 q14 q15 q16 q17 q18 q19 q20 q21 q22 q23 q24 q25 q26 q27 q28 q29 q30 q31 q32 q33 q34 q35 q36 q37 q38 q39 q40 q41 q42 q43 q44 q45 q46 q47 q48 q49 q50 q51 q52 q53 q54 q55 q56 q57 q58 q59 q60 q61 q62 q63 q64 q65 q66 q67 q68 q69 q70 q71 q72 q73 q74 q75 q76 q77 q78 q79 q80 q81 q82 q83 q84 q85 q86 q87 q88 q89 q90 q91 q92 q93 q94 q95 q96 q97 q98 q99 q100 q101 q102 q103 q104 q105 q106 q107 q108 q109 q110 q111 q112 q113 q114 q115 q116 q117 q118 q119 q120 q121 q122 q123 q124 q125 q126 q127 q128 q129 q130 q131 q132 q133 q134 q135 q136 : Value) (Q : Exit → Act → World → Prop) (hpan : ∀ c (a : Act) (d : Nat) v w, Q (.panic c) (a.put (some d) v) w → Q (.panic c) a w)
    (hexit : ∀ (r3 r12 r104 r105 r106 r107 r108 r109 r110 r111 r112 r113 r114 r115 r116 r117 r118 r119 r120 r121 r122 r123 r124 r125 r126 r127 r128 r129 r130 r131 r132 r133 r134 r135 : Value) (x' : Ext w), Hid (Grow.Own x'.val w.heap.size 40 15 Nt.cells r3 (T ++ rnB k k2 S)) → Hid (x'.val.heap[Bm]? = some (.cells mc 63 (0, 0))) → Q (.exit 8) ⟨List.toArray (q0 :: q1 :: q2 :: (r3) :: (Value.int .i64 k) :: q5 :: q6 :: (Value.int .i64 k2) :: q8 :: q9 :: q10 :: (Value.slice lA S.length lc) :: (r12) :: q13 :: q14 :: q15 :: q16 :: q17 :: q18 :: q19 :: q20 :: q21 :: q22 :: q23 :: q24 :: q25 :: q26 :: q27 :: q28 :: q29 :: q30 :: q31 :: q32 :: q33 :: q34 :: q35 :: q36 :: q37 :: q38 :: q39 :: q40 :: q41 :: q42 :: q43 :: q44 :: q45 :: q46 :: q47 :: q48 :: q49 :: q50 :: q51 :: q52 :: q53 :: q54 :: q55 :: q56 :: q57 :: q58 :: q59 :: q60 :: q61 :: q62 :: q63 :: q64 :: q65 :: q66 :: q67 :: q68 :: q69 :: q70 :: q71 :: q72 :: q73 :: q74 :: q75 :: q76 :: q77 :: q78 :: q79 :: q80 :: q81 :: q82 :: q83 :: q84 :: q85 :: q86 :: q87 :: q88 :: q89 :: q90 :: q91 :: q92 :: q93 :: q94 :: q95 :: q96 :: q97 :: q98 :: q99 :: q100 :: q101 :: q102 :: q103 :: (r104) :: (r105) :: (r106) :: (r107) :: (r108) :: (r109) :: (r110) :: (r111) :: (r112) :: (r113) :: (r114) :: (r115) :: (r116) :: (r117) :: (r118) :: (r119) :: (r120) :: (r121) :: (r122) :: (r123) :: (r124) :: (r125) :: (r126) :: (r127) :: (r128) :: (r129) :: (r130) :: (r131) :: (r132) :: (r133) :: (r134) :: (r135) :: q136 :: []), []⟩ x'.val) : Code.wp Try.prog (Code.loop (rtLoop 4)) Q ⟨List.toArray (q0 :: q1 :: q2 :: (v0) :: (Value.int .i64 k) :: q5 :: q6 :: (Value.int .i64 k2) :: q8 :: q9 :: q10 :: (Value.slice lA S.length lc) :: (Value.int .i64 0) :: q13 :: q14 :: q15 :: q16 :: q17 :: q18 :: q19 :: q20 :: q21 :: q22 :: q23 :: q24 :: q25 :: q26 :: q27 :: q28 :: q29 :: q30 :: q31 :: q32 :: q33 :: q34 :: q35 :: q36 :: q37 :: q38 :: q39 :: q40 :: q41 :: q42 :: q43 :: q44 :: q45 :: q46 :: q47 :: q48 :: q49 :: q50 :: q51 :: q52 :: q53 :: q54 :: q55 :: q56 :: q57 :: q58 :: q59 :: q60 :: q61 :: q62 :: q63 :: q64 :: q65 :: q66 :: q67 :: q68 :: q69 :: q70 :: q71 :: q72 :: q73 :: q74 :: q75 :: q76 :: q77 :: q78 :: q79 :: q80 :: q81 :: q82 :: q83 :: q84 :: q85 :: q86 :: q87 :: q88 :: q89 :: q90 :: q91 :: q92 :: q93 :: q94 :: q95 :: q96 :: q97 :: q98 :: q99 :: q100 :: q101 :: q102 :: q103 :: q104 :: q105 :: q106 :: q107 :: q108 :: q109 :: q110 :: q111 :: q112 :: q113 :: q114 :: q115 :: q116 :: q117 :: q118 :: q119 :: q120 :: q121 :: q122 :: q123 :: q124 :: q125 :: q126 :: q127 :: q128 :: q129 :: q130 :: q131 :: q132 :: q133 :: q134 :: q135 :: q136 :: []), []⟩ x.val := by
  conv => arg 2; arg 1; whnf
  go_loopw [3, 12] (fun s3 s10 wr => ∃ j : Nat, s10 = .int .i64 j ∧ j ≤ S.length ∧ ∃ y : Ext w, wr = y.val ∧ Hid (Grow.Own y.val w.heap.size 40 15 Nt.cells s3 (T ++ rnB k k2 (S.take j))) ∧ Hid (Grow.Own y.val w.heap.size 49 26 Ln.cells (.slice lA S.length lc) S) ∧ Hid (y.val.heap[Bm]? = some (.cells mc 63 (0, 0)))) (fun _ s10 _ => S.length - (intOf s10).toNat)
  case atStart => exact ⟨0, rfl, Nat.zero_le _, x, rfl, (show Grow.Own _ _ _ _ _ _ _ by simpa [rnB] using hO.out), hV, hM⟩
  case round =>
    obtain ⟨j, rfl, hj, y, rfl, hown, hV', hM'⟩ := hrel
    clear hO hV hM
    by_cases hlt : j < S.length
    · obtain ⟨vb, voff, hvA, hvb, hvc⟩ := hV'.out.lies_ Ln.cells_len j hlt
      have hlt' : (j : Int) < (S.length : Int) := by omega
      have HTj := rnB_take k k2 S j hlt
      have htl := rnB_take_le k k2 S (j + 1)
      obtain ⟨ln, hln⟩ : ∃ ln, ln = S[j] := ⟨_, rfl⟩
      rw [← hln] at HTj hvc
      have e7 := hvc 7 _ (ln_at7 ln)
      have e7' : y.val.cell? ⟨vb, voff + j * 26 + 3 + 4, none⟩ = some (.int .i64 ln.s.ty.k) := e7
      have e7'' : y.val.cell? ⟨vb, voff + j * 26 + 7, none⟩ = some (.int .i64 ln.s.ty.k) := e7
      have hlt9 := hide hlt
      obtain ⟨b, hb⟩ : ∃ b, (ln.s.ty.k == 2) = b := ⟨_, rfl⟩
      rw [hb] at HTj
      cases b with
      | false =>
        have ho9 : Hid (Grow.Own y.val w.heap.size 40 15 Nt.cells u3 (T ++ rnB k k2 (S.take (j + 1)))) := by
          have := hown.out
          show Grow.Own _ _ _ _ _ _ _
          rw [HTj]
          simpa using this
        subst hvA
        clear hvc hln hlt hown HTj e7 htl
        go_wp2_with fail
        go_roundw
        case rel => exact ⟨j + 1, by go_num, Nat.succ_le_of_lt hlt9.out, y, rfl, ho9, hV', hM'⟩
        case measure => have := hlt9.out; simp [intOf]; omega
      | true =>
      have HTj := hide HTj
      let Sw : World → Prop := fun X => Below w.heap.size w X ∧ Grow.Own X w.heap.size 49 26 Ln.cells (.slice lA S.length lc) S ∧ X.heap[Bm]? = some (.cells mc 63 (0, 0))
      have hSc : Hid (∀ X, Sw X → X.cell? ⟨vb, voff + j * 26 + 3 + 22, none⟩ = some (.int .i64 ln.s.pos) ∧ X.cell? ⟨vb, voff + j * 26 + 25, none⟩ = some (.int .i64 ln.s.pos) ∧ X.rangeAt vb (voff + j * 26 + 7) ln.s.ty.cells) := fun X h => by
        obtain ⟨b', off', e, _, hc⟩ := h.2.1.lies_ Ln.cells_len j hlt
        rw [hvA] at e
        cases e
        rw [← hln] at hc
        refine ⟨hc 25 _ (ln_at25 ln), hc 25 _ (ln_at25 ln), fun i u hi => ?_⟩
        have := hc (7 + i) u (ln_ty ln hi)
        rw [Nat.add_assoc]
        exact this
      have hb1 : Hid ((T ++ rnB k k2 (S.take j)).length + [Nt.mk k k2 (-1) ln.s.ty ln.s.pos].length ≤ maxLen ∧ ((T ++ rnB k k2 (S.take j)).length + [Nt.mk k k2 (-1) ln.s.ty ln.s.pos].length) * 128 ≤ 140737488355328) := by
        have := hLen.out
        have h2 := congrArg List.length HTj.out
        rw [List.length_append, if_pos rfl] at h2
        show _ ∧ _
        simp only [List.length_append, List.length_cons, List.length_nil] at h2 ⊢
        unfold maxLen
        omega
      have hS : Sw y.val.drew := ⟨y.below.drew, hV'.out.drew, hM'.out⟩
      have ho9 : Hid (Grow.Own y.val.drew w.heap.size 40 15 Nt.cells u3 (T ++ rnB k k2 (S.take j))) := hown.out.drew
      subst hvA
      clear hvc hln hlt hown hV' hM' htl e7
      go_wp2_with fail
      refine wp_region_till Sw 99 (by kernel_rfl) ?_
      simp only [List.size_toArray, List.length_cons, List.length_nil, Nat.reduceAdd]
      refine AnyTill.takeG (i := 0) (v := ?_) rfl (by kernel_rfl) (fun _ _ _ h => hpan _ _ _ _ _ h) hS ?_ rfl ?_
      rotate_left
      · intro X hSX
        skip
        go_simp
        all_goals with_reducible rfl
      try simp only [Act.put, List.getElem_toArray, List.getElem_cons_succ, List.getElem_cons_zero, List.setIfInBounds_toArray, List.set_cons_zero, List.set_cons_succ]
      refine AnyTill.takeG (i := 1) (v := ?_) rfl (by kernel_rfl) (fun _ _ _ h => hpan _ _ _ _ _ h) hS ?_ rfl ?_
      rotate_left
      · intro X hSX
        skip
        go_simp
        all_goals with_reducible rfl
      try simp only [Act.put, List.getElem_toArray, List.getElem_cons_succ, List.getElem_cons_zero, List.setIfInBounds_toArray, List.set_cons_zero, List.set_cons_succ]
      refine AnyTill.takeG (i := 2) (v := ?_) rfl (by kernel_rfl) (fun _ _ _ h => hpan _ _ _ _ _ h) hS ?_ rfl ?_
      rotate_left
      · intro X hSX
        skip
        go_simp
        all_goals with_reducible rfl
      try simp only [Act.put, List.getElem_toArray, List.getElem_cons_succ, List.getElem_cons_zero, List.setIfInBounds_toArray, List.set_cons_zero, List.set_cons_succ]
      refine AnyTill.takeG (i := 3) (v := ?_) rfl (by kernel_rfl) (fun _ _ _ h => hpan _ _ _ _ _ h) hS ?_ rfl ?_
      rotate_left
      · intro X hSX
        skip
        go_simp
        all_goals with_reducible rfl
      try simp only [Act.put, List.getElem_toArray, List.getElem_cons_succ, List.getElem_cons_zero, List.setIfInBounds_toArray, List.set_cons_zero, List.set_cons_succ]
      refine AnyTill.takeG (i := 4) (v := ?_) rfl (by kernel_rfl) (fun _ _ _ h => hpan _ _ _ _ _ h) hS ?_ rfl ?_
      rotate_left
      · intro X hSX
        skip
        go_simp
        all_goals with_reducible rfl
      try simp only [Act.put, List.getElem_toArray, List.getElem_cons_succ, List.getElem_cons_zero, List.setIfInBounds_toArray, List.set_cons_zero, List.set_cons_succ]
      refine AnyTill.takeG (i := 5) (v := ?_) rfl (by kernel_rfl) (fun _ _ _ h => hpan _ _ _ _ _ h) hS ?_ rfl ?_
      rotate_left
      · intro X hSX
        skip
        go_simp
        all_goals with_reducible rfl
      try simp only [Act.put, List.getElem_toArray, List.getElem_cons_succ, List.getElem_cons_zero, List.setIfInBounds_toArray, List.set_cons_zero, List.set_cons_succ]
      refine AnyTill.takeG (i := 6) (v := ?_) rfl (by kernel_rfl) (fun _ _ _ h => hpan _ _ _ _ _ h) hS ?_ rfl ?_
      rotate_left
      · intro X hSX
        skip
        go_simp
        all_goals with_reducible rfl
      try simp only [Act.put, List.getElem_toArray, List.getElem_cons_succ, List.getElem_cons_zero, List.setIfInBounds_toArray, List.set_cons_zero, List.set_cons_succ]
      refine AnyTill.takeG (i := 7) (v := ?_) rfl (by kernel_rfl) (fun _ _ _ h => hpan _ _ _ _ _ h) hS ?_ rfl ?_
      rotate_left
      · intro X hSX
        skip
        go_simp
        all_goals with_reducible rfl
      try simp only [Act.put, List.getElem_toArray, List.getElem_cons_succ, List.getElem_cons_zero, List.setIfInBounds_toArray, List.set_cons_zero, List.set_cons_succ]
      refine AnyTill.takeG (i := 8) (v := .agg ln.s.ty.cells.toArray) rfl (by kernel_rfl) (fun _ _ _ h => hpan _ _ _ _ _ h) hS (fun X hX => run_load_mid (b := vb) (off := voff + j * 26 + 7) rfl rfl (hSc.out X hX).2.2 Try.underlying37 rfl (by rw [Ty.cells_len]; kernel_rfl)) rfl ?_
      try simp only [Act.put, List.getElem_toArray, List.getElem_cons_succ, List.getElem_cons_zero, List.setIfInBounds_toArray, List.set_cons_zero, List.set_cons_succ]
      refine AnyTill.takeG (i := 9) (v := ?_) rfl (by kernel_rfl) (fun _ _ _ h => hpan _ _ _ _ _ h) hS ?_ rfl ?_
      rotate_left
      · intro X hSX
        skip
        go_simp
        all_goals with_reducible rfl
      try simp only [Act.put, List.getElem_toArray, List.getElem_cons_succ, List.getElem_cons_zero, List.setIfInBounds_toArray, List.set_cons_zero, List.set_cons_succ]
      refine AnyTill.takeG (i := 10) (v := ?_) rfl (by kernel_rfl) (fun _ _ _ h => hpan _ _ _ _ _ h) hS ?_ rfl ?_
      rotate_left
      · intro X hSX
        skip
        go_simp
        all_goals with_reducible rfl
      try simp only [Act.put, List.getElem_toArray, List.getElem_cons_succ, List.getElem_cons_zero, List.setIfInBounds_toArray, List.set_cons_zero, List.set_cons_succ]
      refine AnyTill.takeG (i := 11) (v := ?_) rfl (by kernel_rfl) (fun _ _ _ h => hpan _ _ _ _ _ h) hS ?_ rfl ?_
      rotate_left
      · intro X hSX
        skip
        go_simp
        all_goals with_reducible rfl
      try simp only [Act.put, List.getElem_toArray, List.getElem_cons_succ, List.getElem_cons_zero, List.setIfInBounds_toArray, List.set_cons_zero, List.set_cons_succ]
      refine AnyTill.takeG (i := 12) (v := ?_) rfl (by kernel_rfl) (fun _ _ _ h => hpan _ _ _ _ _ h) hS ?_ rfl ?_
      rotate_left
      · intro X hSX
        skip
        go_simp
        all_goals with_reducible rfl
      try simp only [Act.put, List.getElem_toArray, List.getElem_cons_succ, List.getElem_cons_zero, List.setIfInBounds_toArray, List.set_cons_zero, List.set_cons_succ]
      refine AnyTill.takeG (i := 13) (v := ?_) rfl (by kernel_rfl) (fun _ _ _ h => hpan _ _ _ _ _ h) hS ?_ rfl ?_
      rotate_left
      · intro X hSX
        skip
        go_simp
        all_goals with_reducible rfl
      try simp only [Act.put, List.getElem_toArray, List.getElem_cons_succ, List.getElem_cons_zero, List.setIfInBounds_toArray, List.set_cons_zero, List.set_cons_succ]
      refine AnyTill.takeG (i := 14) (v := ?_) rfl (by kernel_rfl) (fun _ _ _ h => hpan _ _ _ _ _ h) hS ?_ rfl ?_
      rotate_left
      · intro X hSX
        obtain ⟨h12, h12', _⟩ := hSc.out X hSX
        go_simp
        all_goals with_reducible rfl
      try simp only [Act.put, List.getElem_toArray, List.getElem_cons_succ, List.getElem_cons_zero, List.setIfInBounds_toArray, List.set_cons_zero, List.set_cons_succ]
      refine AnyTill.takeG (i := 15) (v := .agg (Nt.mk k k2 (-1) ln.s.ty ln.s.pos).cells.toArray) rfl (by kernel_rfl) (fun _ _ _ h => hpan _ _ _ _ _ h) hS (fun X _ => run_buildV 40 [(0, .tmp 119), (1, .tmp 120), (2, .const (.int .i64 (-1))), (3, .tmp 126), (4, .tmp 132)] rfl [(0, .int .i64 k), (1, .int .i64 k2), (2, .int .i64 (-1)), (3, .agg ln.s.ty.cells.toArray), (4, .int .i64 ln.s.pos)] (by kernel_rfl) _ (built_nt k k2 (-1) ln.s.ty ln.s.pos)) rfl ?_
      try simp only [Act.put, List.getElem_toArray, List.getElem_cons_succ, List.getElem_cons_zero, List.setIfInBounds_toArray, List.set_cons_zero, List.set_cons_succ]
      refine AnyTill.oneG (i := 16) rfl (by kernel_rfl) rfl ?_
      intro K hK
      refine wp_lit_one 27 40 (.tmp 133) rfl (Nt.mk k k2 (-1) ln.s.ty ln.s.pos).cells.toArray rfl i0 z0 15 Try.underlying27 hi0 hz0 hz1 (by rw [List.size_toArray, Nt.cells_len]) (by decide) (by decide) ?_
      obtain ⟨Z, hZ⟩ : ∃ Z, Z = y.val.drew.alloc (.cells (Nt.mk k k2 (-1) ln.s.ty ln.s.pos).cells.toArray 40) := ⟨_, rfl⟩
      have hSZ : Sw Z := by rw [hZ]; exact ⟨hS.1.alloc hS.1.size _, hS.2.1.alloc _, (Below.heap_alloc _ _ _ (row_lt hS.2.2)).trans hS.2.2⟩
      have hoZ : Hid (Grow.Own Z w.heap.size 40 15 Nt.cells u3 (T ++ rnB k k2 (S.take j))) := by show Grow.Own _ _ _ _ _ _ _; rw [hZ]; exact ho9.out.alloc _
      have hL1 : Hid (Lies Z 15 Nt.cells (some ⟨y.val.drew.heap.size, 0, none⟩) [Nt.mk k k2 (-1) ln.s.ty ln.s.pos]) := by show Lies _ _ _ _ _; rw [hZ]; exact Lies.one _ _ _ rfl
      rw [← hZ]
      clear hZ hS ho9
      refine hK _ _ (fun _ => hSZ) ?_
      clear hK K
      refine AnyTill.oneG (i := 17) rfl (by kernel_rfl) rfl ?_
      intro K hK
      refine wp_append_list Z (.tmp 118) (.tmp 134) 27 rfl w.heap.size 40 i0 z0 15 128 Try.underlying27 hi0 hz0 hz1 hz2 hzs (by decide) Nt.cells_len Nt.cells_one u3 (T ++ rnB k k2 (S.take j)) rfl hoZ.out _ 1 1 [Nt.mk k k2 (-1) ln.s.ty ln.s.pos] rfl rfl hL1.out hb1.out.1 hb1.out.2 hSZ.1.size ?_
      intro v3 W9 ho3 hgr hat
      have hS3 : Sw W9 := ⟨hSZ.1.grown hgr hSZ.1.size (fun g hg => (hoZ.out.from_ g hg).1), hoZ.out.aside hSZ.2.1 (by decide) hgr, (hgr.block _ (row_lt hSZ.2.2) (own_ne hoZ.out hSZ.2.2 (by decide))).trans hSZ.2.2⟩
      have ho39 : Hid (Grow.Own W9 w.heap.size 40 15 Nt.cells v3 (T ++ rnB k k2 (S.take (j + 1)))) := by show Grow.Own _ _ _ _ _ _ _; rw [HTj.out, ← List.append_assoc]; exact ho3
      clear hgr hat ho3 hoZ hL1 hSZ
      refine hK _ _ (fun _ => hS3) ?_
      clear hK K
      try simp only [Act.put, List.getElem_toArray, List.getElem_cons_succ, List.getElem_cons_zero, List.setIfInBounds_toArray, List.set_cons_zero, List.set_cons_succ]
      refine AnyTill.oneG (i := 18) rfl (by kernel_rfl) rfl ?_
      intro K hK
      go_simp
      refine hK _ _ (fun _ => hS3) ?_
      clear hK K
      refine AnyTill.done (by kernel_rfl) ?_ _
      obtain ⟨z, hz⟩ := Ext.of hS3.1
      have hV9 := hide hS3.2.1
      have hM9 := hide hS3.2.2
      rw [hz] at ho39 hV9 hM9
      have HZ := hide hz
      clear hS3 hz hSc
      go_wp2_with fail
      go_roundw
      case rel => exact ⟨j + 1, by go_num, Nat.succ_le_of_lt hlt9.out, z, HZ.out, ho39, hV9, hM9⟩
      case measure => have := hlt9.out; simp [intOf]; omega
    · obtain rfl : j = S.length := Nat.le_antisymm hj (Nat.le_of_not_lt hlt)
      have hlt' : ¬ (S.length : Int) < (S.length : Int) := by omega
      have hO9 : Hid (Grow.Own y.val w.heap.size 40 15 Nt.cells u3 (T ++ rnB k k2 S)) := by have := hown.out; rw [List.take_length] at this; exact this
      clear hown
      go_wp2_with fail
      exact hexit _ _ _ _ _ _ _ _ _ _ _ _ _ _ _ _ _ _ _ _ _ _ _ _ _ _ _ _ _ _ _ _ _ _ y hO9 hM'
end Go.Proofs.Ytmpdmelkbemabaa
