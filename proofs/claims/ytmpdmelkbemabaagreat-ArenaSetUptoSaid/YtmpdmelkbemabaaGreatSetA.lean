/- arena.Set: a program with other types, or that it can't have them. -/
import Derived.Test.YtmpdmelkbemabaaGreatSetter
import Derived.Test.YtmpdmelkbemabaaGreatSlots1
set_option linter.unusedSimpArgs false
set_option linter.unusedVariables false
namespace Go.Proofs.Grow
open Go.RowKit
/-- A value of one cell, whatever it is, goes into the box that was made last. -/
theorem wpListIn_store_one {F : Fence} {n : Nat} {P : Program} {ops : Array Oper} {Q : Exit → Act → World → Prop} {rest : List Oper} {o : Oper} {a : Act} {W : World} (hF : ∀ f, F.fn f) (hg : o.guard = none) (ty : TypeId) (x y : Operand) (ho : o.op = .store ty x y)
    (g : Nat) (hgn : g = W.heap.size) (hx : a.eval x = .pointer (some ⟨g, 0, none⟩)) (v : Value) (hy : a.eval y = v) (h1 : v.oneCell' = true) (t : TypeId) (old : Value) (hi : (P.info? ty).map (·.size) = some 1)
    (h : wpListIn F n P ops Q rest (a.put o.dst undef) (W.alloc (.cells #[v] t))) : wpListIn F n P ops Q (o :: rest) a (W.alloc (.cells #[old] t)) := by
  subst hgn
  have hr := run_storeVar_one (P := P) (W.alloc (.cells #[old] t)) W.heap.size t ty old v (heap_alloc_new W _) hi h1
  rw [World.setRow_alloc_new] at hr
  refine wpListIn_plain hg fun K hK => ?_
  unfold Oper.wpIn
  rw [Oper.semAt_plain F _ o (by rw [ho]; intro c h; cases h)]
  refine ⟨fun f _ => hF f, ?_⟩
  unfold execOp
  simp only [ho, hx, hy, Instr.storeAt, Instr.sureAddr, Sem.run_bind, Sem.run_pure, Result.andThen_ok, hr]
  exact hK _ _ h
end Go.Proofs.Grow
namespace Go.Proofs.YtmpdmelkbemabaaGreat
open Go.RowKit Go.Proofs.Grow
attribute [local go_sem] Oper.semAt_some

/-- May the types be laid into the slots, as many as there are? -/
def okSet (xs : List Sl) (L : List Ty) : Prop := xs.length = L.length ∧ ∀ i (h : i < xs.length), fitsAt xs[i] L i = true
/-- What arena.Set gives. -/
def SetRes (C : List Cl) (L : List Ty) (w : World) (e : Ending) (w' : World) : Prop :=
  ∃ (x : Ext w) (C' : List Cl), w' = x.val ∧ C'.map stCl = C.map stCl ∧
    ((okSet (slP C') L ∧ ∃ A, e = .returned (.tuple #[.slice A C.length C.length, .bool true]) ∧ Lies x.val 7 Cl.cells A (setCls C' L) ∧ ∀ c ∈ setCls C' L, ClIn x.val c) ∨
      (¬ okSet (slP C') L ∧ e = .returned (.tuple #[.slice none 0 0, .bool false])))

theorem fitsAt_yes {x : Sl} {L : List Ty} {k : Nat} (h : fitsAt x L k = true) : ∃ hk : k < L.length, x.st = false ∨ L[k].k = 2 := by
  unfold fitsAt at h
  rw [Bool.and_eq_true] at h
  have hk : k < L.length := by simpa using h.1
  refine ⟨hk, ?_⟩
  have h2 := h.2
  rw [List.getElem?_eq_getElem hk] at h2
  simp at h2
  rcases Bool.eq_false_or_eq_true x.st with hs | hs
  · exact .inr (by simpa [hs] using h2)
  · exact .inl hs
theorem fitsAt_ty {x : Sl} {L : List Ty} {k : Nat} (h : fitsAt x L k = true) (hk : k < L.length) (old : Ty) : pick old x.st (L.drop k) = L[k] := by
  obtain ⟨_, h2⟩ := fitsAt_yes h
  rw [List.drop_eq_getElem_cons hk]
  unfold pick
  rcases h2 with h2 | h2
  · simp [h2]
  · simp [h2]
/-- Between two rounds of arena.Set. -/
structure InL (n0 hi Bc Bn : Nat) (rs : List Rw) (L : List Ty) (Wr : World) (s : List Sl) (X : World) : Prop where
  laid : Laid rs s X
  bc : X.heap[Bc]? = some (.cells #[.int .i64 s.length] 3 (0, 0))
  bn : X.heap[Bn]? = some (.cells #[.int .i64 s.length] 3 (0, 0))
  r1 : X.heap[n0]? = some (.cells #[.slice none 0 0] 22 (0, 0))
  r2 : X.heap[n0 + 1]? = some (.cells #[.bool false] 4 (0, 0))
  fit : ∀ i (h : i < s.length), fitsAt s[i] L i = true
  keep : KeepsBut (fun j => j = n0 ∨ j = n0 + 1 ∨ Cpy (n0 + 2) hi j ∨ j = Bc ∨ j = Bn) Wr X
structure InLx (n0 hi Bc Bn : Nat) (rs : List Rw) (L : List Ty) (Wr : World) (c : Code) (s : List Sl) (X : World) : Prop where
  ret : c = .ret
  laid : ∃ q, Laid rs q X
  r1 : X.heap[n0]? = some (.cells #[.slice none 0 0] 22 (0, 0))
  r2 : X.heap[n0 + 1]? = some (.cells #[.bool false] 4 (0, 0))
  bad : ∃ i, ∃ h : i < s.length, fitsAt s[i] L i = false
  keep : KeepsBut (fun j => j = n0 ∨ j = n0 + 1 ∨ Cpy (n0 + 2) hi j ∨ j = Bc ∨ j = Bn) Wr X
section
variable {n0 hi Bc Bn : Nat} {rs : List Rw} {L : List Ty} {Wr X Y : World} {s : List Sl} {O : Nat → Prop} {c : Code}
theorem InL.turn (h : InL n0 hi Bc Bn rs L Wr s X) (hrng : ∀ r ∈ rs, n0 + 2 ≤ r.b ∧ r.b < hi) (t : Turns Wr.heap.size (fun j => j = n0 ∨ j = n0 + 1 ∨ Cpy (n0 + 2) hi j ∨ j = Bc ∨ j = Bn) X Y) : InL n0 hi Bc Bn rs L Wr s Y := by
  obtain ⟨D, hM, hD⟩ := h.laid
  exact ⟨⟨D, hM.blocks fun r hr => t.own (.inr (.inr (.inl (hrng r hr)))) (hM.lt hr), hD⟩, (t.own (.inr (.inr (.inr (.inl rfl)))) (row_lt h.bc)).trans h.bc, (t.own (.inr (.inr (.inr (.inr rfl)))) (row_lt h.bn)).trans h.bn,
    (t.own (.inl rfl) (row_lt h.r1)).trans h.r1, (t.own (.inr (.inl rfl)) (row_lt h.r2)).trans h.r2, h.fit, h.keep.trans t fun j hj => .inr hj.1⟩
theorem InLx.turn (h : InLx n0 hi Bc Bn rs L Wr c s X) (hrng : ∀ r ∈ rs, n0 + 2 ≤ r.b ∧ r.b < hi) (t : Turns Wr.heap.size (fun j => j = n0 ∨ j = n0 + 1 ∨ Cpy (n0 + 2) hi j ∨ j = Bc ∨ j = Bn) X Y) : InLx n0 hi Bc Bn rs L Wr c s Y := by
  obtain ⟨q, D, hM, hD⟩ := h.laid
  exact ⟨h.ret, ⟨q, D, hM.blocks fun r hr => t.own (.inr (.inr (.inl (hrng r hr)))) (hM.lt hr), hD⟩,
    (t.own (.inl rfl) (row_lt h.r1)).trans h.r1, (t.own (.inr (.inl rfl)) (row_lt h.r2)).trans h.r2, h.bad, h.keep.trans t fun j hj => .inr hj.1⟩
end

theorem fitsAt_st {x y : Sl} (h : x.st = y.st) (L : List Ty) (k : Nat) : fitsAt x L k = fitsAt y L k := by unfold fitsAt; rw [h]
theorem okSet_pour {xs : List Sl} {L : List Ty} (hl : (pour xs L).length = L.length) (h : ∀ i (h : i < (pour xs L).length), fitsAt (pour xs L)[i] L i = true) : okSet xs L := by
  refine ⟨by rw [← hl, pour_len], fun i hi => ?_⟩
  have hi' : i < (pour xs L).length := by rw [pour_len]; exact hi
  have h1 := h i hi'
  have h2 := pour_get xs L i hi'
  have h3 : (pour xs L)[i].st = xs[i].st := by rw [h2]
  rw [← fitsAt_st h3]; exact h1
theorem okSet_no {xs s : List Sl} {L : List Ty} (hs : s <+: pour xs L) (h : ∃ i, ∃ h : i < s.length, fitsAt s[i] L i = false) : ¬ okSet xs L := by
  rintro ⟨h1, h2⟩
  obtain ⟨i, hi, hf⟩ := h
  have hle := hs.length_le
  have hi' : i < (pour xs L).length := by omega
  have hi2 : i < xs.length := by rw [pour_len] at hi'; exact hi'
  have e1 : s[i] = (pour xs L)[i] := hs.getElem hi
  have e2 := pour_get xs L i hi'
  have e3 : s[i].st = xs[i].st := by rw [e1, e2]
  have := h2 i hi2
  rw [← fitsAt_st e3, hf] at this
  cases this

set_option maxHeartbeats 2000000 in
set_option maxRecDepth 100000 in
/-- The end of arena.Set: its two results' boxes are read. -/
theorem set_end (R : Ending → World → Prop) (V : World) (n0 D : Nat) (tmps : Array Value) (A : Option Addr) (n c : Nat) (b : Bool) (t4 : tmps.getD 4 undef = .pointer (some ⟨n0, 0, none⟩)) (t5 : tmps.getD 5 undef = .pointer (some ⟨n0 + 1, 0, none⟩))
    (h1 : V.heap[n0]? = some (.cells #[.slice A n c] 22 (0, 0))) (h2 : V.heap[n0 + 1]? = some (.cells #[.bool b] 4 (0, 0))) (hD : V.heap[D]? = some (.deferred (some []))) (d1 : D ≠ n0) (d2 : D ≠ n0 + 1)
    (hR : R (.returned (.tuple #[.slice A n c, .bool b])) (V.putObj D (.deferred none))) : Grow.NoPanic (bodyPostM Fence.wide 8 Tryz.prog Tryz.f6 R) .ret ⟨tmps, [{ target := .collected D, args := #[] }]⟩ V := by
  have e1 : (V.putObj D (.deferred none)).cell? ⟨n0, 0, none⟩ = some (.slice A n c) := (World.cell?_of_block (World.putObj_heap_other (Ne.symm d1))).trans (row_cell (cs := [.slice A n c]) h1 (j := 0) rfl).1
  have e2 : (V.putObj D (.deferred none)).cell? ⟨n0 + 1, 0, none⟩ = some (.bool b) := (World.cell?_of_block (World.putObj_heap_other (Ne.symm d2))).trans (row_cell (cs := [.bool b]) h2 (j := 0) rfl).1
  refine ⟨by simp, .inl ⟨_, _, rfl, run_takeDeferred hD, ?_⟩⟩
  refine ⟨_, ?_, hR⟩
  have t4' : tmps[4]?.getD undef = .pointer (some ⟨n0, 0, none⟩) := by simpa using t4
  have t5' : tmps[5]?.getD undef = .pointer (some ⟨n0 + 1, 0, none⟩) := by simpa using t5
  simp [results, Tryz.f6, go_sem, t4', t5', e1, e2]

set_option maxHeartbeats 8000000 in
set_option maxRecDepth 100000 in
theorem set_any (w : World) (A : Option Addr) (c : Nat) (C : List Cl) (AL : Option Addr) (cL : Nat) (L : List Ty) (hl : Lies w 7 Cl.cells A C) (hin : ∀ cl ∈ C, ClIn w cl) (hN : C.length ≤ 1048576) (hfw : ∀ cl ∈ C, cl.fw ≤ 1048576)
    (hL : Lies w 11 Ty.cells AL L) (hLn : L.length ≤ 1000000000) (hT : TysOk L) (hnum : nCls C ≤ 1000000000) :
    Calls Tryz.prog 6 #[.slice A C.length c, .slice AL L.length cL] w (SetRes C L w) := by
  have HL := hide hl
  have HI := hide hin
  have HFW := hide hfw
  have HLL := hide hL
  have HT := hide hT
  have HNUM := hide hnum
  clear hl hin hfw hL hT hnum
  refine (callsIn_wide (n := 8)).1 ?_
  refine callsIn_of_wp_marksN Tryz.func6 rfl trivial ?_ rfl
  simp only [Tryz.ntmps6, List.size_toArray, List.length_cons, List.length_nil, Nat.reduceAdd, Nat.reduceSub, Array.replicate_succ, Array.replicate_zero, List.push_toArray, List.append_toArray, List.nil_append, List.cons_append]
  gi_wp2
  obtain ⟨W2, hW2⟩ : ∃ W2, W2 = (w.alloc (.cells #[.slice none 0 0] 22)).alloc (.cells #[.bool false] 4) := ⟨_, rfl⟩
  have hs2 : W2.heap.size = w.heap.size + 2 := by rw [hW2]; simp
  have hb2 : Hid (Below w.heap.size w W2) := by show Below _ _ _; rw [hW2]; exact ((Below.refl _ _).alloc (Nat.le_refl _) _).alloc (by simp) _
  have hr1 : Hid (W2.heap[w.heap.size]? = some (.cells #[.slice none 0 0] 22 (0, 0))) := by show _ = _; rw [hW2]; exact (Below.heap_alloc _ _ _ (by simp)).trans (heap_alloc_new w _)
  have hr2 : Hid (W2.heap[w.heap.size + 1]? = some (.cells #[.bool false] 4 (0, 0))) := by
    show _ = _
    rw [hW2]
    have h := heap_alloc_new (w.alloc (.cells #[.slice none 0 0] 22)) (.cells #[.bool false] 4)
    rwa [World.size_alloc] at h
  rw [← hW2]
  refine ⟨trivial, ?_⟩
  refine (callsIn_wide.2 (own_any W2 A c C (HL.out.below hb2.out) (fun cl hcl => by obtain ⟨x, hx⟩ := Ext.of hb2.out; rw [hx]; exact (HI.out cl hcl).ext x) hN HFW.out)).mono ?_
  clear hW2
  rintro _ _ ⟨rfl, x, rfl, hown⟩
  rw [hs2] at hown ⊢
  obtain ⟨C', hi, q1, q2, q3, q4, q5, q6⟩ := hown
  have hlc : C'.length = C.length := by have := congrArg List.length q1; simpa using this
  obtain ⟨P, hP⟩ : ∃ P, P = setCls C' L := ⟨_, rfl⟩
  have hPl : P.length = C.length := by rw [hP, setCls_len, hlc]
  obtain ⟨rs, hrs⟩ : ∃ rs, rs = rwCls (some ⟨w.heap.size + 2, 0, none⟩) P := ⟨_, rfl⟩
  have hrel : All2 Rel (rwCls (some ⟨w.heap.size + 2, 0, none⟩) C') rs := by rw [hrs, hP]; exact rel_rwCls _ _ _
  have hsep : Hid (rs.Pairwise Rw.apart) := Rel.sep hrel q3
  have hrng : Hid (∀ r ∈ rs, w.heap.size + 2 ≤ r.b ∧ r.b < hi) := fun r hr => by
    obtain ⟨r0, h0, e1, _⟩ := hrel.right r hr
    rw [← e1]; exact q4 r0 h0
  have hlaid : Hid (Laid rs [] x.val) := Laid.start hrel q6
  have hPS : Hid (∀ c ∈ P, ClS c) := by show ∀ c ∈ P, _; rw [hP]; exact setS_cls _ _ HT.out q2
  have hsl : Hid (slP P = pour (slP C') L) := by show _ = _; rw [hP]; exact pour_slP _ _
  have hsr : Hid (∀ y ∈ slP P, SlotRow rs y) := by show ∀ y ∈ slP P, _; rw [hrs]; exact slotRow_p _ _
  have hrl : Hid (∀ r ∈ rs, RowSlot (slP P) r) := by show ∀ r ∈ rs, _; rw [hrs]; exact p_rowSlot _ _
  have hcnt : Hid ((slP P).length ≤ 1000000000) := by
    show _ ≤ _
    have h1 : nCls C' = nCls C := by rw [← nCls_st C', q1, nCls_st]
    rw [hsl.out, pour_len, slP_len, h1]; exact HNUM.out
  have hlie : Hid (∀ Z, (∀ r ∈ rs, Z.there r.b r.off r.len ∧ Z.rangeAt r.b r.off r.x.cells) → Lies Z 7 Cl.cells (some ⟨w.heap.size + 2, 0, none⟩) P ∧ ∀ c ∈ P, ClIn Z c) := fun Z h => cls_in (fun _ => ⟨_, _, rfl⟩) hPS.out fun r hr => by
    obtain ⟨h1, h2⟩ := h r (by rw [hrs]; exact hr)
    exact ⟨there_lt h1 r.x.cells_pos, h2⟩
  have HP := hide hP
  have HRS := hide hrs
  have HQ := hide q1
  obtain ⟨X0, hX0⟩ : ∃ X0, X0 = x.val := ⟨_, rfl⟩
  have hbx := x.below
  rw [← hX0] at hlaid q5 hbx ⊢
  have hb0 : Hid (Below w.heap.size w X0) := hb2.out.trans (hbx.mono (by omega))
  have hr10 : Hid (X0.heap[w.heap.size]? = some (.cells #[.slice none 0 0] 22 (0, 0))) := (hbx.block _ (by omega)).trans hr1.out
  have hr20 : Hid (X0.heap[w.heap.size + 1]? = some (.cells #[.bool false] 4 (0, 0))) := (hbx.block _ (by omega)).trans hr2.out
  have hX0s : w.heap.size + 2 ≤ X0.heap.size := by have := hbx.size; omega
  clear hX0 hbx hr1 hr2 hb2 hs2 q1 q2 q3 q4 q6 hrel hP hrs x W2
  gi_wp2
  refine ⟨trivial, ?_⟩
  refine (callsIn_wide.2 (setter_any AL L.length cL _)).mono ?_
  rintro _ _ ⟨rfl, rfl⟩
  gi_wp2_with (refine wpListIn_store_one (fun _ => trivial) rfl 64 (.tmp 7) (.tmp 13) rfl (X0.heap.size + 1 + 1) (by simp) rfl _ rfl rfl _ _ (by kernel_rfl) ?_)
  refine ⟨trivial, ?_⟩
  refine (callsIn_wide.2 (slots_seq (some ⟨w.heap.size + 2, 0, none⟩) C.length C.length _)).mono ?_
  rintro _ _ ⟨rfl, rfl⟩
  gi_wp2
  simp only [Nat.add_assoc, Nat.reduceAdd]
  obtain ⟨B, hB⟩ : ∃ B, B = X0.heap.size := ⟨_, rfl⟩
  obtain ⟨fv, hfv⟩ : ∃ fv, fv = Value.func (.func 29) #[] #[.pointer (some ⟨B + 1, 0, none⟩), .pointer (some ⟨B, 0, none⟩)] := ⟨_, rfl⟩
  obtain ⟨Y1, hY1⟩ : ∃ Y1, Y1 = X0.alloc (.cells #[.slice AL L.length cL] 23) := ⟨_, rfl⟩
  obtain ⟨Y2, hY2⟩ : ∃ Y2, Y2 = Y1.alloc (.cells #[.int .i64 0] 3) := ⟨_, rfl⟩
  obtain ⟨Y3, hY3⟩ : ∃ Y3, Y3 = Y2.alloc (.cells #[fv] 64) := ⟨_, rfl⟩
  obtain ⟨Y4, hY4⟩ : ∃ Y4, Y4 = Y3.alloc (.cells #[.int .i64 0] 3) := ⟨_, rfl⟩
  obtain ⟨Wr, hWr⟩ : ∃ Wr, Wr = Y4.alloc (.cells #[.slice (some ⟨w.heap.size + 2, 0, none⟩) C.length C.length] 22) := ⟨_, rfl⟩
  have z1 : Y1.heap.size = B + 1 := by rw [hY1, hB]; simp
  have z2 : Y2.heap.size = B + 2 := by rw [hY2]; simp [z1]
  have z3 : Y3.heap.size = B + 3 := by rw [hY3]; simp [z2]
  have z4 : Y4.heap.size = B + 4 := by rw [hY4]; simp [z3]
  have z5 : Wr.heap.size = B + 5 := by rw [hWr]; simp [z4]
  have b1 : Below X0.heap.size X0 Y1 := by rw [hY1]; exact (Below.refl _ _).alloc (Nat.le_refl _) _
  have b2 : Below Y1.heap.size Y1 Y2 := by rw [hY2]; exact (Below.refl _ _).alloc (Nat.le_refl _) _
  have b3 : Below Y2.heap.size Y2 Y3 := by rw [hY3]; exact (Below.refl _ _).alloc (Nat.le_refl _) _
  have b4 : Below Y3.heap.size Y3 Y4 := by rw [hY4]; exact (Below.refl _ _).alloc (Nat.le_refl _) _
  have b5 : Below Y4.heap.size Y4 Wr := by rw [hWr]; exact (Below.refl _ _).alloc (Nat.le_refl _) _
  have hBW : Hid (Below X0.heap.size X0 Wr) := (((b1.trans (b2.mono (by omega))).trans (b3.mono (by omega))).trans (b4.mono (by omega))).trans (b5.mono (by omega))
  have r0 : Hid (Wr.heap[B]? = some (.cells #[.slice AL L.length cL] 23 (0, 0))) := by
    show _ = _
    rw [b5.block _ (by omega), b4.block _ (by omega), b3.block _ (by omega), b2.block _ (by omega), hY1, hB]; exact heap_alloc_new _ _
  have r1 : Hid (Wr.heap[B + 1]? = some (.cells #[.int .i64 0] 3 (0, 0))) := by
    show _ = _
    rw [b5.block _ (by omega), b4.block _ (by omega), b3.block _ (by omega), hY2, ← z1]; exact heap_alloc_new _ _
  have r2 : Hid (Wr.heap[B + 2]? = some (.cells #[fv] 64 (0, 0))) := by
    show _ = _
    rw [b5.block _ (by omega), b4.block _ (by omega), hY3, ← z2]; exact heap_alloc_new _ _
  have r3 : Hid (Wr.heap[B + 3]? = some (.cells #[.int .i64 0] 3 (0, 0))) := by
    show _ = _
    rw [b5.block _ (by omega), hY4, ← z3]; exact heap_alloc_new _ _
  have r4 : Hid (Wr.heap[B + 4]? = some (.cells #[.slice (some ⟨w.heap.size + 2, 0, none⟩) C.length C.length] 22 (0, 0))) := by
    show _ = _
    rw [hWr, ← z4]; exact heap_alloc_new _ _
  have hWR : Hid (((((X0.alloc (.cells #[.slice AL L.length cL] 23)).alloc (.cells #[.int .i64 0] 3)).alloc (.cells #[Value.func (.func 29) #[] #[.pointer (some ⟨X0.heap.size + 1, 0, none⟩), .pointer (some ⟨X0.heap.size, 0, none⟩)]] 64)).alloc (.cells #[.int .i64 0] 3)).alloc (.cells #[.slice (some ⟨w.heap.size + 2, 0, none⟩) C.length C.length] 22) = Wr) := by
    show _ = _
    rw [hWr, hY4, hY3, hY2, hY1, hfv, hB]
  rw [hWR.out, ← hB]
  have HFV := hide hfv
  have hbW : Hid (Below w.heap.size w Wr) := hb0.out.trans (hBW.out.mono (by omega))
  have hB2 : w.heap.size + 2 ≤ B := by omega
  have hhB : hi ≤ B := by omega
  have hI0 : Hid (InL w.heap.size hi (B + 1) (B + 3) rs L Wr [] Wr) := by
    obtain ⟨D, hM, hD⟩ := hlaid.out
    exact ⟨⟨D, hM.below hBW.out (fun r hr => by have := (hrng.out r hr).2; omega), hD⟩, r1.out, r3.out, (hBW.out.block _ (by omega)).trans hr10.out, (hBW.out.block _ (by omega)).trans hr20.out, fun i h => absurd h (Nat.not_lt_zero _), KeepsBut.refl _ _⟩
  have hne : Hid (∀ j, (j = w.heap.size ∨ j = w.heap.size + 1 ∨ Cpy (w.heap.size + 2) hi j ∨ j = B + 1 ∨ j = B + 3) → w.heap.size ≤ j ∧ j ≠ B ∧ j ≠ B + 2 ∧ j ≠ B + 4 ∧ j < B + 5) := by
    rintro j (h | h | h | h | h)
    · omega
    · omega
    · have h1 := h.1
      have h2 := h.2
      omega
    · omega
    · omega
  have hz5 := hide z5
  clear hY1 hY2 hY3 hY4 hWr z1 z2 z3 z4 b1 b2 b3 b4 b5 hWR hfv hB hBW hlaid hr10 hr20 hb0 hX0s q5 z5 Y1 Y2 Y3 Y4
  refine wpIn_rangeR (gf := 30) (lb := #[.pointer (some ⟨B + 4, 0, none⟩)]) rfl (enters_of Tryz.func30 (by kernel_rfl) rfl) (slots1_push (B + 4) (some ⟨w.heap.size + 2, 0, none⟩) C.length P) (fun _ => rfl)
    (fun j => j = w.heap.size ∨ j = w.heap.size + 1 ∨ Cpy (w.heap.size + 2) hi j ∨ j = B + 1 ∨ j = B + 3) (fun s O Y => (O = fun j => j = w.heap.size ∨ j = w.heap.size + 1 ∨ Cpy (w.heap.size + 2) hi j ∨ j = B + 1 ∨ j = B + 3) ∧ InL w.heap.size hi (B + 1) (B + 3) rs L Wr s Y)
    (fun c s O Y => (O = fun j => j = w.heap.size ∨ j = w.heap.size + 1 ∨ Cpy (w.heap.size + 2) hi j ∨ j = B + 1 ∨ j = B + 3) ∧ InLx w.heap.size hi (B + 1) (B + 3) rs L Wr c s Y) ?hIT ?hIxT ?hIO ?hIR ?hIxR ⟨rfl, hI0.out⟩ ?hround ?hdone ?hstop
  case hIT => rintro s O X Y ⟨rfl, h⟩ t; exact ⟨rfl, h.turn hrng.out t⟩
  case hIxT => rintro c s O X Y ⟨rfl, h⟩ t; exact ⟨rfl, h.turn hrng.out t⟩
  case hIO =>
    rintro s O X ⟨rfl, h⟩ j hj
    have h1 := (hne.out j hj).2.2.2.2
    have h2 := h.keep.size
    have h3 := hz5.out
    omega
  case hIR =>
    rintro s O X ⟨rfl, h⟩
    have hl := h.laid
    rw [HRS.out] at hl
    refine ⟨hl.read (fun _ => ⟨_, _, rfl⟩) (by rw [hPl]; unfold maxLen; omega) hPS.out, ?_⟩
    rw [hPl]
    exact (cell_of_row _ _ _ _ _ _ ((h.keep.block _ (row_lt r4.out) (fun e => (hne.out _ e).2.2.2.1 rfl)).trans r4.out)).trans rfl
  case hIxR =>
    rintro c s O X ⟨rfl, h⟩
    obtain ⟨q, hl⟩ := h.laid
    rw [HRS.out] at hl
    refine ⟨hl.read (fun _ => ⟨_, _, rfl⟩) (by rw [hPl]; unfold maxLen; omega) hPS.out, ?_⟩
    rw [hPl]
    exact (cell_of_row _ _ _ _ _ _ ((h.keep.block _ (row_lt r4.out) (fun e => (hne.out _ e).2.2.2.1 rfl)).trans r4.out)).trans rfl
  case hround =>
    rintro m1 l1 s x O Y hl0 hlY hnl ⟨rfl, hI⟩ hpre
    have hxm : x ∈ slP P := hpre.subset (by simp)
    have hx := hide (hsr.out x hxm)
    have hs9 : Hid (s.length < (slP P).length ∧ (slP P)[s.length]? = some x) := by
      obtain ⟨r, hr⟩ := hpre
      rw [← hr]
      exact ⟨by simp, by simp⟩
    unfold Sl.args
    gi_wp2_with (refine wpListIn_store_mid (fun _ => trivial) rfl 71 (.tmp 9) (.tmp 16) rfl Y.heap.size 0 x.cells.toArray rfl rfl (there_of_row (heap_alloc_new Y _) 0 x.cells.toArray.size (by rw [List.size_toArray, Sl.cells_len]; decide)) (by rw [List.size_toArray, Sl.cells_len]; kernel_rfl) (all_oneCell_toArray x.cells_one) ?_)
    obtain ⟨O0, hO0⟩ : ∃ O0 : Nat → Prop, O0 = fun j => j = w.heap.size ∨ j = w.heap.size + 1 ∨ Cpy (w.heap.size + 2) hi j ∨ j = B + 1 ∨ j = B + 3 := ⟨_, rfl⟩
    have HO := hide hO0
    rw [← hO0]
    clear hO0 hnl
    refine ⟨fun j => O0 j ∨ j = Y.heap.size, fun j hj => hj.imp id (fun h => by omega), (KeepsBut.alloc Y _).trans (KeepsBut.setCells (O := fun j => j = Y.heap.size) _ _ _ _ rfl) (fun j hj => .inr (by omega)),
      fun Z => InL w.heap.size hi (B + 1) (B + 3) rs L Wr s Z ∧ Z.heap[Y.heap.size]? = some (.cells x.cells.toArray 71 (0, 0)), ?_, ⟨?_, ?_⟩, ?_⟩
    · rintro Z1 Z2 ⟨h1, h2⟩ t
      exact ⟨h1.turn hrng.out (HO.out ▸ t.mono (Nat.le_refl _) fun j hj => .inl hj), (t.own (.inr rfl) (row_lt h2)).trans h2⟩
    · refine hI.turn hrng.out ?_
      rw [← HO.out]
      have hsY : Wr.heap.size ≤ Y.heap.size := hI.keep.size
      refine KeepsBut.mono ((KeepsBut.alloc Y _).trans (KeepsBut.setCells (O := fun j => j = Y.heap.size) _ _ _ _ rfl) (O := fun _ => False) (fun j hj => .inr (by omega))) fun j _ h => h.elim
    · exact row_filled x.cells (heap_alloc_new Y _) rfl
    obtain ⟨Bx, hBx⟩ : ∃ B, B = Y.heap.size := ⟨_, rfl⟩
    rw [← hBx]
    have hBx1 : Wr.heap.size ≤ Bx := by rw [hBx]; exact hI.keep.size
    clear hI hl0 hlY hBx Y
    rintro m2 l2 Z hl2 hlZ hnl2 ⟨hI, hbx⟩
    have hI9 := hide hI
    have hk := hI.keep
    have hbZ : Below w.heap.size w Z := hbW.out.trans (hk.below (fun j hj => (hne.out j hj).1) hbW.out.size)
    have f2 : Z.heap[B + 2]? = some (.cells #[fv] 64 (0, 0)) := (hk.block _ (row_lt r2.out) (fun e => (hne.out _ e).2.2.1 rfl)).trans r2.out
    have f0 : Z.heap[B]? = some (.cells #[.slice AL L.length cL] 23 (0, 0)) := (hk.block _ (row_lt r0.out) (fun e => (hne.out _ e).2.1 rfl)).trans r0.out
    have c2 : Z.cell? ⟨B + 2, 0, none⟩ = some (.func (.func 29) #[] #[.pointer (some ⟨B + 1, 0, none⟩), .pointer (some ⟨B, 0, none⟩)]) := (cell_of_row _ _ _ _ _ _ f2).trans (by rw [HFV.out]; rfl)
    have hrx : Hid (Z.rangeAt Bx 0 x.cells) := fun j u h => (row_cell hbx (j := 0 + j) (by rw [Nat.zero_add]; exact h)).1
    have hF0 := hide f0
    have hLZ : Hid (Lies Z 11 Ty.cells AL L) := HLL.out.below hbZ
    obtain ⟨hxt, hxl⟩ := hI.laid.step hsep.out hx.out
    have hxb : w.heap.size + 2 ≤ x.b ∧ x.b < hi := by
      obtain ⟨r, hr, hb, _⟩ := hx.out
      rw [hb]; exact hrng.out r hr
    have hXT := hide (And.intro hxt (And.intro hxl hxb))
    have hALb : Hid (∀ k, k < L.length → ∀ ad, AL = some ad → ad.block ≠ x.b) := fun k hk ad e => by
      obtain ⟨b, off, hA, hb, _⟩ := HLL.out k hk
      rw [hA] at e
      cases e
      simp only
      omega
    clear f0 f2 hxt hxl hbx hl2 hlZ hnl2 hI
    gi_wp2_with (refine wpListIn_load_mid (fun _ => trivial) rfl 71 (.tmp 9) rfl Bx 0 rfl x.cells _ hrx.out Tryz.underlying71 rfl (by rw [Sl.cells_len]; kernel_rfl) ?_)
    refine ⟨trivial, fun h => (by simp [Fence.wide] at h), ?_⟩
    have hxty : Hid (∀ hk : s.length < L.length, fitsAt x L s.length = true → x.ty = L[s.length]) := fun hk hft => by
      have h1 := hs9.out.2
      have h2 := hs9.out.1
      rw [List.getElem?_eq_getElem h2, Option.some.injEq] at h1
      have hpl : s.length < (pour (slP C') L).length := by rw [← hsl.out]; exact h2
      have h3 := pour_get (slP C') L s.length hpl
      have h4 : (slP P)[s.length] = (pour (slP C') L)[s.length] := by simp only [hsl.out]
      rw [h1, h3] at h4
      have h5 := congrArg Sl.ty h4
      have h6 := congrArg Sl.st h4
      simp only at h5 h6
      rw [h5, ← h6]
      exact fitsAt_ty hft hk _
    have hOB : Hid (O0 (B + 1) ∧ O0 (B + 3) ∧ (∀ j, Cpy (w.heap.size + 2) hi j → O0 j) ∧ O0 w.heap.size ∧ O0 (w.heap.size + 1)) := by
      show _ ∧ _
      rw [HO.out]
      exact ⟨.inr (.inr (.inr (.inl rfl))), .inr (.inr (.inr (.inr rfl))), fun j hj => .inr (.inr (.inl hj)), .inl rfl, .inr (.inl rfl)⟩
    by_cases hft : fitsAt x L s.length = true
    · obtain ⟨hk, hst⟩ := fitsAt_yes hft
      have hty := hxty.out hk hft
      refine (CallsIn.inRound l2 (callsIn_wide.2 (setter1_yes x (B + 1) B AL cL s.length L Z hk hLn hI9.out.bc hF0.out hLZ.out hXT.out.1 (by have := hXT.out.2.2.2; omega) (by have := hXT.out.2.2.2; omega) (hALb.out _ hk) hst))).mono ?_
      rintro _ V ⟨rfl, hkV, hcV, hxV⟩
      rw [← hty] at hxV
      have hxlt := hXT.out.2.2
      have hbn := (hkV.block (B + 3) (row_lt hI9.out.bn) (fun h => h.elim (by omega) (by omega))).trans hI9.out.bn
      obtain ⟨c3, g3⟩ := row_cell (cs := [.int .i64 s.length]) hbn (j := 0) rfl
      have hwr9 : Hid (wrap64 ((s.length : Int) + 1) = (s.length : Int) + 1) := by show _ = _; unfold wrap64; omega
      have hF : Hid (InL w.heap.size hi (B + 1) (B + 3) rs L Wr (s ++ [x]) (V.setCell ⟨B + 3, 0, none⟩ (.int .i64 ((s.length : Int) + 1))) ∧ KeepsBut (fun j => O0 j ∨ j = Bx) Z (V.setCell ⟨B + 3, 0, none⟩ (.int .i64 ((s.length : Int) + 1)))) := by
        have hkB : KeepsBut (fun j => j = x.b ∨ j = B + 1 ∨ j = B + 3) Z (V.setCell ⟨B + 3, 0, none⟩ (.int .i64 ((s.length : Int) + 1))) := (hkV.mono fun j _ h => h.elim .inl (fun h => .inr (.inl h))).trans' (KeepsBut.setCell _ _ _ (.inr (.inr rfl)))
        have hlen : (s ++ [x]).length = s.length + 1 := by simp
        refine ⟨⟨?_, ?_, ?_, ?_, ?_, ?_, ?_⟩, hkB.mono fun j _ h => .inl ?_⟩
        · obtain ⟨D, hM, hD⟩ := hXT.out.2.1
          refine ⟨D, hM.blocks fun r hr => ?_, hD⟩
          have hrr := hrng.out r hr
          refine (Below.heap_setCell _ _ _ _ (by show r.b ≠ B + 3; omega)).trans ?_
          by_cases hrb : r.b = x.b
          · rw [hrb]; exact hxV
          · refine (hkV.block _ ?_ (fun h => h.elim hrb (by omega))).trans (setCells_other _ _ _ _ _ hrb).symm
            have := hM.lt hr
            rwa [setCells_size] at this
        · rw [hlen]
          exact (Below.heap_setCell _ _ _ _ (by show B + 1 ≠ B + 3; omega)).trans hcV
        · rw [hlen]
          exact row_store hbn 0 _
        · exact (hkB.block _ (row_lt hI9.out.r1) (fun h => by omega)).trans hI9.out.r1
        · exact (hkB.block _ (row_lt hI9.out.r2) (fun h => by omega)).trans hI9.out.r2
        · intro i hi
          by_cases his : i < s.length
          · rw [List.getElem_append_left his]; exact hI9.out.fit i his
          · obtain rfl : i = s.length := by omega
            simpa using hft
        · exact hI9.out.keep.trans' (hkB.mono fun j _ h => h.elim (fun e => .inr (.inr (.inl (by rw [e]; exact hXT.out.2.2)))) (fun e => e.elim (fun e => .inr (.inr (.inr (.inl e)))) (fun e => .inr (.inr (.inr (.inr e))))))
        · rcases h with rfl | rfl | rfl
          · exact hOB.out.2.2.1 _ hXT.out.2.2
          · exact hOB.out.1
          · exact hOB.out.2.1
      clear hkV hcV hxV hbn hxlt hty hxty
      have hwr := hwr9.out
      gi_wp2
      exact ⟨O0, fun j hj => .inl (.inl hj), hF.out.2, rfl, hF.out.1⟩
    · have hff : fitsAt x L s.length = false := by simpa using hft
      have hsL : s.length ≤ L.length := by
        by_cases h0 : s.length = 0
        · omega
        · obtain ⟨h1, _⟩ := fitsAt_yes (hI9.out.fit (s.length - 1) (by omega))
          omega
      refine (CallsIn.inRound l2 (callsIn_wide.2 (setter1_no x (B + 1) B AL cL s.length L Z hsL hLn hI9.out.bc hF0.out hLZ.out hff))).mono ?_
      rintro _ V ⟨y, rfl, rfl⟩
      have hrr1 := (y.below.block _ (row_lt hI9.out.r1)).trans hI9.out.r1
      have hrr2 := (y.below.block _ (row_lt hI9.out.r2)).trans hI9.out.r2
      obtain ⟨c3, g3⟩ := row_cell (cs := [.slice none 0 0]) hrr1 (j := 0) rfl
      have q1 := y.lt (n := w.heap.size) (row_lt hI9.out.r1)
      have q2 := y.lt (n := w.heap.size + 1) (row_lt hI9.out.r2)
      have hrr2' : (y.val.setCell ⟨w.heap.size, 0, none⟩ (.slice none 0 0)).heap[w.heap.size + 1]? = some (.cells #[.bool false] 4 (0, 0)) := (Below.heap_setCell _ _ _ _ (by show w.heap.size + 1 ≠ w.heap.size; omega)).trans hrr2
      obtain ⟨Y1, hY1⟩ : ∃ Y1, Y1 = y.val.setCell ⟨w.heap.size, 0, none⟩ (.slice none 0 0) := ⟨_, rfl⟩
      rw [← hY1] at hrr2'
      obtain ⟨c4, g4⟩ := row_cell (cs := [.bool false]) hrr2 (j := 0) rfl
      have hY19 : Hid (y.val.setCell ⟨w.heap.size, 0, none⟩ (.slice none 0 0) = Y1) := hY1.symm
      have hF : Hid (InLx w.heap.size hi (B + 1) (B + 3) rs L Wr .ret (s ++ [x]) (Y1.setCell ⟨w.heap.size + 1, 0, none⟩ (.bool false)) ∧ KeepsBut (fun j => O0 j ∨ j = Bx) Z (Y1.setCell ⟨w.heap.size + 1, 0, none⟩ (.bool false))) := by
        have hkB : KeepsBut (fun j => j = w.heap.size ∨ j = w.heap.size + 1) Z (Y1.setCell ⟨w.heap.size + 1, 0, none⟩ (.bool false)) := by
          rw [hY1]
          exact ((KeepsBut.of_below y.below).trans' (KeepsBut.setCell _ _ _ (.inl rfl))).trans' (KeepsBut.setCell _ _ _ (.inr rfl))
        refine ⟨⟨rfl, ⟨s, ?_⟩, ?_, row_store hrr2' 0 _, ⟨s.length, by simp, by simpa using hff⟩, ?_⟩, hkB.mono fun j _ h => .inl (h.elim (fun e => by rw [e]; exact hOB.out.2.2.2.1) (fun e => by rw [e]; exact hOB.out.2.2.2.2))⟩
        · exact hI9.out.laid.keep hkB fun r hr h => by have := (hrng.out r hr).1; omega
        · refine (Below.heap_setCell _ _ _ _ (by show w.heap.size ≠ w.heap.size + 1; omega)).trans ?_
          rw [hY1]
          exact row_store hrr1 0 _
        · exact hI9.out.keep.trans' (hkB.mono fun j _ h => h.elim .inl (fun h => .inr (.inl h)))
      clear hrr1 hrr2 hrr2' hY1 hxty
      gi_wp2
      rw [hY19.out]
      exact ⟨O0, fun j hj => .inl (.inl hj), hF.out.2, rfl, hF.out.1⟩
  case hdone =>
    rintro O D V hD hnD _ _ ⟨rfl, hI⟩ hKD
    have hI9 := hide hI
    have c3 : V.cell? ⟨B + 3, 0, none⟩ = some (.int .i64 (slP P).length) := (row_cell (cs := [.int .i64 (slP P).length]) hI.bn (j := 0) rfl).1
    have hDB : Hid (B + 5 ≤ D) := by show _ ≤ _; rw [← hz5.out]; exact hD
    have hKD9 := hide hKD
    have hbV : Hid (Below w.heap.size w V) := hbW.out.trans (hI.keep.below (fun j hj => (hne.out j hj).1) hbW.out.size)
    obtain ⟨a1, a2⟩ := row_cell (cs := [.slice none 0 0]) hI.r1 (j := 0) rfl
    obtain ⟨a3, a4⟩ := row_cell (cs := [.bool false]) hI.r2 (j := 0) rfl
    have hq1 := row_lt hI.r1
    have hq2 := row_lt hI.r2
    have hlP : Hid ((slP P).length = (slP C').length) := by show _ = _; rw [hsl.out, pour_len]
    clear hI hD hnD hKD
    by_cases hlen : (slP P).length = L.length
    · have hlen' : ((slP P).length : Int) = (L.length : Int) := by rw [hlen]
      gi_wp2
      obtain ⟨V2, hV2⟩ : ∃ V2, V2 = (V.setCell ⟨w.heap.size, 0, none⟩ (.slice (some ⟨w.heap.size + 2, 0, none⟩) C.length C.length)).setCell ⟨w.heap.size + 1, 0, none⟩ (.bool true) := ⟨_, rfl⟩
      rw [← hV2]
      have hkV : KeepsBut (fun j => j = w.heap.size ∨ j = w.heap.size + 1) V V2 := by rw [hV2]; exact (KeepsBut.setCell _ _ _ (.inl rfl)).trans' (KeepsBut.setCell _ _ _ (.inr rfl))
      have hdb := hDB.out
      refine set_end _ V2 w.heap.size D _ (some ⟨w.heap.size + 2, 0, none⟩) C.length C.length true rfl rfl ?_ ?_ ((hkV.block _ (row_lt hKD9.out) (fun h => by omega)).trans hKD9.out) (by omega) (by omega) ?_
      · rw [hV2]; exact (Below.heap_setCell _ _ _ _ (by show w.heap.size ≠ w.heap.size + 1; omega)).trans (row_store hI9.out.r1 0 _)
      · rw [hV2]; exact row_store ((Below.heap_setCell _ _ _ _ (by show w.heap.size + 1 ≠ w.heap.size; omega)).trans hI9.out.r2) 0 _
      have hkZ : KeepsBut (fun j => j = w.heap.size ∨ j = w.heap.size + 1 ∨ j = D) V (V2.putObj D (.deferred none)) := (hkV.mono fun j _ h => h.elim .inl (fun h => .inr (.inl h))).trans' (KeepsBut.putObj _ _ _ (.inr (.inr rfl)))
      have hbZ : Below w.heap.size w (V2.putObj D (.deferred none)) := hbV.out.trans (hkZ.below (fun j hj => by omega) hbV.out.size)
      have hex := (hI9.out.laid.keep hkZ fun r hr h => by have := hrng.out r hr; omega).done hrl.out
      obtain ⟨g1, g2⟩ := hlie.out _ hex
      refine ⟨⟨_, hbZ⟩, C', rfl, HQ.out, .inl ⟨?_, _, rfl, by rw [← HP.out]; exact g1, by rw [← HP.out]; exact g2⟩⟩
      refine okSet_pour (by rw [← hsl.out]; exact hlen) ?_
      have hfit := hI9.out.fit
      rw [hsl.out] at hfit
      exact hfit
    · have hlen' : ¬ ((slP P).length : Int) = (L.length : Int) := by omega
      gi_wp2
      obtain ⟨V2, hV2⟩ : ∃ V2, V2 = (V.setCell ⟨w.heap.size, 0, none⟩ (.slice none 0 0)).setCell ⟨w.heap.size + 1, 0, none⟩ (.bool false) := ⟨_, rfl⟩
      rw [← hV2]
      have hkV : KeepsBut (fun j => j = w.heap.size ∨ j = w.heap.size + 1) V V2 := by rw [hV2]; exact (KeepsBut.setCell _ _ _ (.inl rfl)).trans' (KeepsBut.setCell _ _ _ (.inr rfl))
      have hdb := hDB.out
      refine set_end _ V2 w.heap.size D _ none 0 0 false rfl rfl ?_ ?_ ((hkV.block _ (row_lt hKD9.out) (fun h => by omega)).trans hKD9.out) (by omega) (by omega) ?_
      · rw [hV2]; exact (Below.heap_setCell _ _ _ _ (by show w.heap.size ≠ w.heap.size + 1; omega)).trans (row_store hI9.out.r1 0 _)
      · rw [hV2]; exact row_store ((Below.heap_setCell _ _ _ _ (by show w.heap.size + 1 ≠ w.heap.size; omega)).trans hI9.out.r2) 0 _
      have hkZ : KeepsBut (fun j => j = w.heap.size ∨ j = w.heap.size + 1 ∨ j = D) V (V2.putObj D (.deferred none)) := (hkV.mono fun j _ h => h.elim .inl (fun h => .inr (.inl h))).trans' (KeepsBut.putObj _ _ _ (.inr (.inr rfl)))
      have hbZ : Below w.heap.size w (V2.putObj D (.deferred none)) := hbV.out.trans (hkZ.below (fun j hj => by omega) hbV.out.size)
      refine ⟨⟨_, hbZ⟩, C', rfl, HQ.out, .inr ⟨fun h => hlen ?_, rfl⟩⟩
      rw [hlP.out]; exact h.1
  case hstop =>
    rintro O D c0 pre V hD hnD _ _ hpre ⟨rfl, hX⟩ hKD
    obtain rfl := hX.ret
    have hDB : B + 5 ≤ D := by rw [← hz5.out]; exact hD
    have hbV : Below w.heap.size w V := hbW.out.trans (hX.keep.below (fun j hj => (hne.out j hj).1) hbW.out.size)
    have hX9 := hide hX
    have hKD9 := hide hKD
    clear hX hKD
    gi_wp2
    refine set_end _ V w.heap.size D _ none 0 0 false rfl rfl hX9.out.r1 hX9.out.r2 hKD9.out (by omega) (by omega) ?_
    have hkZ : KeepsBut (fun j => j = D) V (V.putObj D (.deferred none)) := KeepsBut.putObj _ _ _ rfl
    have hbZ : Below w.heap.size w (V.putObj D (.deferred none)) := hbV.trans (hkZ.below (fun j hj => by have : j = D := hj; omega) hbV.size)
    refine ⟨⟨_, hbZ⟩, C', rfl, HQ.out, .inr ⟨?_, rfl⟩⟩
    rw [hsl.out] at hpre
    exact okSet_no hpre hX9.out.bad
end Go.Proofs.YtmpdmelkbemabaaGreat
