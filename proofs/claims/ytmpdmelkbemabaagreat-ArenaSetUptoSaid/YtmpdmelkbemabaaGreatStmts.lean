/- The walk of arena.Stmts. -/
import Derived.Test.YtmpdmelkbemabaaGreatTillIn
import Derived.Test.YtmpdmelkbemabaaGreatReg
import Derived.Test.YtmpdmelkbemabaaGreatRefStmts
import Derived.Test.YtmpdmelkbemabaaGreatBody1
import Derived.Test.YtmpdmelkbemabaaGreatRdOf
set_option linter.unusedSimpArgs false
set_option linter.unusedVariables false
namespace Go.Proofs.Grow
open Go.RowKit

section
variable {F : Fence} {n : Nat} {P : Program} {ops : Array Oper} {Q : Exit → Act → World → Prop} {md : Region.Mode} {S : World → Prop}

def TillL (F : Fence) (n : Nat) (P : Program) (md : Region.Mode) (ops : Array Oper) (Q : Exit → Act → World → Prop) (S : World → Prop) (m : Nat) : Nat → Array Bool → Act → World → Prop
  | 0, listed, a, w => Region.ready md ops listed = [] ∧ Q .normal a w
  | k + 1, listed, a, w => (Region.ready md ops listed = [] → Q .normal a w) ∧
    ∀ i ∈ Region.ready md ops listed, wpOpIn F n P ops Q i (fun a' w' => (i ≠ m → S w') ∧ TillL F n P md ops Q S m k (listed.setIfInBounds i true) a' w') a w

variable {m : Nat}

theorem TillL.any : ∀ (k : Nat) (listed : Array Bool) (a : Act) (w : World), TillL F n P md ops Q S m k listed a w → wpAnyIn F n P md ops Q k listed a w
  | 0, _, _, _, h => h
  | k + 1, _, _, _, h => ⟨h.1, fun i hi => wpOpIn_mono (fun a' w' h' => TillL.any k _ a' w' h'.2) (h.2 i hi)⟩

theorem TillL.first {i : Nat} {oi : Oper} {v : Value} (hF : ∀ f, F.fn f) (hd : noDefer ops = true) (hi : ops[i]? = some oi) (him : i ≠ m) (hlast : waitsFor md ops m i = true) (hsel : ∀ (j : Nat) (o : Oper) cs b, ops[j]? = some o → o.op ≠ .select cs b) (hQ : ∀ c a w, Q (.panic c) (a.put oi.dst v) w → Q (.panic c) a w) :
    ∀ (k : Nat) (listed : Array Bool) (a : Act) (w : World), (∀ j oj, ops[j]? = some oj → j ≠ i → listed.getD j true = false → (∀ e ∈ oj.after, Region.binds md e = true → e.on ≠ i) → oi.apart ops oj = true) →
      i ∈ Region.ready md ops listed → YieldsIf P ops S oi v a → S w → TillL F n P md ops Q S m k (listed.setIfInBounds i true) (a.put oi.dst v) w → TillL F n P md ops Q S m (k + 1) listed a w
  | k, listed, a, w, hfree, hr, hy, hS, H => by
    refine ⟨fun h => (by rw [h] at hr; cases hr), fun j hj => ?_⟩
    by_cases hji : j = i
    · subst hji
      exact yieldsIf_opIn hF hd hi hy hS ⟨fun _ => hS, H⟩
    · cases k with
      | zero =>
        have := ready_mono hj hji
        rw [H.1] at this
        cases this
      | succ k =>
        obtain ⟨hjun, oj, hoj, hall⟩ := mem_ready.1 hj
        have hnot : ∀ e ∈ oj.after, Region.binds md e = true → e.on ≠ i := fun e he hb heq => by
          have h1 := hall e he hb
          have h0 := (mem_ready.1 hr).1
          rw [heq] at h1
          rcases Nat.lt_or_ge i listed.size with h' | h'
          · simp [h'] at h0 h1; rw [h0] at h1; cases h1
          · simp [Array.getElem?_eq_none h'] at h1
        have hjm : j ≠ m := fun e => by
          subst e
          unfold waitsFor at hlast
          rw [hoj] at hlast
          simp only [Array.any_eq_true', Bool.and_eq_true, beq_iff_eq] at hlast
          obtain ⟨e, he, hb, ho⟩ := hlast
          exact hnot e he hb ho
        have h2 := opIn_putIf hF hd hoj (hfree j oj hoj hji hjun hnot) (fun cs b => hsel i oi cs b hi) (fun cs b => hsel j oj cs b hoj) hQ hy (H.2 j (ready_mono hj hji))
        refine wpOpIn_mono (fun a' w' h3 => ?_) h2
        have hSw := h3.2.1 hjm
        refine ⟨fun _ => hSw, TillL.first hF hd hi him hlast hsel hQ k (listed.setIfInBounds j true) a' w' ?_ (ready_mono hr (Ne.symm hji)) h3.1 hSw ?_⟩
        · intro k ok hk hki hun hno
          refine hfree k ok hk hki ?_ hno
          by_cases hjk : j = k
          · subst hjk; exact hjun
          · rw [getD_set_ne true hjk] at hun; exact hun
        · rw [Array.setIfInBounds_comm _ _ hji]
          exact h3.2.2

/-- Take number i first: it is wanted, and yields v wherever S holds. -/
theorem TillL.take {i : Nat} {oi : Oper} {v : Value} {k : Nat} {listed : Array Bool} {a : Act} {w : World} (hF : ∀ f, F.fn f) (hi : ops[i]? = some oi) (hc : (waitsFor md ops m i && decide (i ≠ m) && noDefer ops && Region.noSelect ops && Region.free md ops listed i && (Region.ready md ops listed).contains i) = true)
    (hQ : ∀ c a w, Q (.panic c) (a.put oi.dst v) w → Q (.panic c) a w) (hS : S w) (hy : ∀ w, S w → (execOp a.eval oi).run P w = .ok (.value v) w) (hg : Region.wanted oi (yielded ops a.tmps) = true)
    (h : TillL F n P md ops Q S m k (listed.setIfInBounds i true) (a.put oi.dst v) w) : TillL F n P md ops Q S m (k + 1) listed a w := by
  simp only [Bool.and_eq_true, decide_eq_true_eq] at hc
  obtain ⟨⟨⟨⟨⟨g1, g2⟩, h1⟩, h2⟩, h4⟩, h5⟩ := hc
  exact TillL.first hF h1 hi g2 g1 (Region.noSelect_spec h2) hQ k listed a w (Region.free_spec hi h4) (by simpa using h5) (.inl ⟨hg, hy⟩) hS h

/-- The one that may come up now; what follows behind a variable. -/
theorem TillL.one {i : Nat} {oi : Oper} {k : Nat} {listed : Array Bool} {a : Act} {w : World} (hi : ops[i]? = some oi) (hr : Region.ready md ops listed = [i]) (hg : Region.wanted oi (yielded ops a.tmps) = true)
    (h : ∀ K : Act → World → Prop, (∀ a' w', (i ≠ m → S w') → TillL F n P md ops Q S m k (listed.setIfInBounds i true) a' w' → K a' w') → oi.wpIn F n P a w K Q) : TillL F n P md ops Q S m (k + 1) listed a w := by
  refine ⟨fun e => (by rw [hr] at e; cases e), fun j hj => ?_⟩
  rw [hr] at hj
  obtain rfl : j = i := by simpa using hj
  unfold wpOpIn
  simp only [hi]
  rw [if_pos hg]
  exact h _ fun _ _ h1 h2 => ⟨h1, h2⟩

theorem TillL.done {listed : Array Bool} {a : Act} {w : World} (hr : Region.ready md ops listed = []) (h : Q .normal a w) : ∀ k, TillL F n P md ops Q S m k listed a w
  | 0 => ⟨hr, h⟩
  | _ + 1 => ⟨fun _ => h, by rw [hr]; simp⟩

theorem wpIn_region_tillL {id : Nat} {a : Act} {w : World} (S : World → Prop) (m : Nat) (hm : P.follows .mixedOrders = true) (h : TillL F n P .any ops Q S m ops.size (Array.replicate ops.size false) a w.drew) : (Code.region id ops true).wpIn F n P Q a w :=
  wpIn_region_any hm (TillL.any _ _ _ _ h)

/-- The marks of ranges that left no call behind. -/
def Marks (Ds : List Nat) : List Deferred := Ds.map fun D => { target := .collected D, args := #[] }
theorem leaves_marks {fn : Func} {tmps : Array Value} {R : Ending → World → Prop} : ∀ (Ds : List Nat) (W : World), Ds.Nodup → (∀ D ∈ Ds, W.heap[D]? = some (.deferred (some []))) →
    (∀ Z, KeepsBut (fun k => k ∈ Ds) W Z → LeavesInM F n P fn tmps R [] .returning Z) → LeavesInM F n P fn tmps R (Marks Ds) .returning W
  | [], W, _, _, h => h W (KeepsBut.refl _ _)
  | D :: Ds, W, hn, hd, h => by
    have hD := hd D (by simp)
    refine ⟨by simp, .inl ⟨_, _, rfl, run_takeDeferred hD, ?_⟩⟩
    have hk : KeepsBut (fun k => k ∈ D :: Ds) W (W.putObj D (.deferred none)) := KeepsBut.putObj W D _ (by simp)
    refine leaves_marks Ds _ (List.nodup_cons.1 hn).2 (fun E hE => ?_) fun Z hZ => h Z (hk.trans' (hZ.mono fun k _ h => List.mem_cons_of_mem _ h))
    have hne : E ≠ D := fun e => (List.nodup_cons.1 hn).1 (e ▸ hE)
    rw [World.putObj_heap_other hne]
    exact hd E (List.mem_cons_of_mem _ hE)

theorem opIn_append_list {α : Type} (W : World) {o : Oper} {a : Act} {K : Act → World → Prop} {enc : α → List Value} (hF : ∀ f, F.fn f) (s x : Operand) (t : TypeId)
    (ho : o.op = .call { callee := .builtin .append, args := #[s, x], argTypes := #[t, t] })
    (base : Nat) (e : TypeId) (i : TypeInfo) (z : Value) (size bytes : Nat) (ht : P.underlying t = some (.slice e)) (hi : P.info? e = some i) (hz : i.zero = some z)
    (hsize : i.size = size) (hby : i.bytes = bytes) (hzs : z.cells.size = size) (hsz : 0 < size) (henc : ∀ a, (enc a).length = size) (hone : ∀ a, ∀ u ∈ enc a, u.oneCell' = true)
    (v : Value) (l : List α) (hs : a.eval s = v) (hown : Grow.Own W base e size enc v l) (A : Option Addr) (k c : Nat) (m : List α) (hx : a.eval x = .slice A k c) (hn : k = m.length) (hm : Lies W size enc A m)
    (h63 : l.length + m.length ≤ maxLen) (hbytes : (l.length + m.length) * bytes ≤ 140737488355328) (hbase : base ≤ W.heap.size)
    (h : ∀ v' w', Grow.Own w' base e size enc v' (l ++ m) → W.grownBy w' v.ownBlock → (v'.ownBlock = v.ownBlock ∨ v'.ownBlock = some W.heap.size) → K (a.put o.dst v') w') : o.wpIn F n P a W K Q := by
  subst hn
  obtain ⟨v', w', hr, h1, h2, h3⟩ := run_append_list (P := P) W base t o.type e i z size bytes ht hi hz hsize hby hzs hsz henc hone v l hown A c m hm h63 hbytes hbase
  unfold Oper.wpIn
  refine ⟨fun f _ => hF f, ?_⟩
  rw [Oper.semAt_plain F _ _ (by rw [ho]; intro c hc'; cases hc')]
  simp [execOp, ho, resolve, invoke, builtin, hs, hx, hr, Result.andThen]
  exact h v' w' h1 h2 h3
end
end Go.Proofs.Grow
set_option linter.unusedSimpArgs false
set_option linter.unusedVariables false
namespace Go.Proofs.YtmpdmelkbemabaaGreat
open Go.RowKit Go.Proofs.Grow
attribute [local go_sem] Oper.semAt_some

theorem infoAl : (Tryz.prog.info? 96).map (fun i => (i.zero.map (·.cells.size), i.size, i.bytes)) = some (some 26, 26, 312) := by kernel_rfl
theorem built_al (i k d : Int) (s : St) : Tryz.prog.built 96 [(0, .int .i64 i), (1, .int .i64 k), (2, .int .i64 d), (3, .agg s.cells.toArray)] = some (Ln.mk i k d s).cells.toArray := by
  obtain ⟨k, x, y, name, ⟨tk, tc, tn, ⟨k0, n0⟩, ⟨k1, n1⟩, ⟨k2, n2⟩, ⟨k3, n3⟩⟩, ⟨ek, en, ename, eA, ec, kids⟩, aA, ac, args, bA, bc, body, lA, lc, els, pos⟩ := s
  kernel_rfl

/-- Where arena.Stmts stands: the marks behind it, the lines so far, in the value v of out's box. -/
structure InS (w : World) (ds : List Nat) (s : List Ln) (X : World) (v : Value) : Prop where
  row : X.heap[w.heap.size]? = some (.cells #[v] 59 (0, 0))
  own : Grow.Own X (w.heap.size + 1) 96 26 Ln.cells v s
  bel : Below w.heap.size w X
  nd : ds.Nodup
  mark : ∀ D ∈ ds, w.heap.size < D ∧ v.ownBlock ≠ some D ∧ X.heap[D]? = some (.deferred (some []))
theorem InS.more {w : World} {ds : List Nat} {s : List Ln} {X Y : World} {v : Value} (h : InS w ds s X v) (hk : Below X.heap.size X Y) : InS w ds s Y v :=
  ⟨(hk.block _ (row_lt h.row)).trans h.row, h.own.keep fun g hg => hk.block g (h.own.from_ g hg).2, h.bel.trans (hk.mono h.bel.size), h.nd, fun D hD => ⟨(h.mark D hD).1, (h.mark D hD).2.1, (hk.block _ (row_lt (h.mark D hD).2.2)).trans (h.mark D hD).2.2⟩⟩

/-- Between two rounds of the range over a method's statements. -/
def InR (w Wr : World) (s0 : List Ln) (i k : Int) (v0 : Value) (s : List Li) (O : Nat → Prop) (X : World) : Prop :=
  ∃ v, (O = fun j => j = w.heap.size ∨ v.ownBlock = some j) ∧ X.heap[w.heap.size]? = some (.cells #[v] 59 (0, 0)) ∧ Grow.Own X (w.heap.size + 1) 96 26 Ln.cells v (s0 ++ s.map (Li.ln i k)) ∧
    SubO (fun j => j = w.heap.size ∨ v0.ownBlock = some j) Wr.heap.size O ∧ KeepsBut (fun j => j = w.heap.size ∨ v0.ownBlock = some j) Wr X
section
variable {w Wr X Y : World} {s0 : List Ln} {i k : Int} {v0 : Value} {s : List Li} {O : Nat → Prop}
theorem InR.turn (h : InR w Wr s0 i k v0 s O X) (t : Turns Wr.heap.size O X Y) : InR w Wr s0 i k v0 s O Y := by
  obtain ⟨v, rfl, h1, h2, h3, h4⟩ := h
  exact ⟨v, rfl, (t.own (.inl rfl) (row_lt h1)).trans h1, h2.keep fun g hg => t.own (.inr hg) (h2.from_ g hg).2, h3, h4.trans t fun j hj => .inr hj.1⟩
theorem InR.there (h : InR w Wr s0 i k v0 s O X) : ∀ j, O j → j < X.heap.size := by
  obtain ⟨v, rfl, h1, h2, h3, h4⟩ := h
  rintro j (rfl | hj)
  · exact row_lt h1
  · exact (h2.from_ j hj).2
theorem InR.below (h : InR w Wr s0 i k v0 s O X) (hw : Below w.heap.size w Wr) (hv : ∀ g, v0.ownBlock = some g → w.heap.size ≤ g) : Below w.heap.size w X := by
  obtain ⟨v, rfl, h1, h2, h3, h4⟩ := h
  exact hw.trans (h4.below (fun j hj => hj.elim (fun e => Nat.le_of_eq e.symm) (hv j)) hw.size)
end

/-- Two boxes, made and filled. -/
theorem two_there {X : World} {t4 t5 : TypeId} {u : Value} {cs0 : Array Value} (n : Nat) (hn : n ≤ cs0.size) : ((X.alloc (.cells #[u] t4)).alloc (.cells cs0 t5)).there (X.heap.size + 1) 0 n := by
  have h := heap_alloc_new (X.alloc (.cells #[u] t4)) (.cells cs0 t5)
  rw [World.size_alloc] at h
  exact there_of_row h 0 n (by omega)
theorem two_boxes {X Z : World} {t4 t5 : TypeId} {u : Value} {cs0 : Array Value} {vs : List Value} (hZ : ((X.alloc (.cells #[u] t4)).alloc (.cells cs0 t5)).setCells (X.heap.size + 1) 0 vs = Z) (hs : cs0.size = vs.length) :
    Z.heap[X.heap.size]? = some (.cells #[u] t4 (0, 0)) ∧ Z.heap[X.heap.size + 1]? = some (.cells vs.toArray t5 (0, 0)) ∧ Below X.heap.size X Z := by
  subst hZ
  have h5 := heap_alloc_new (X.alloc (.cells #[u] t4)) (.cells cs0 t5)
  rw [World.size_alloc] at h5
  have h4 : ((X.alloc (.cells #[u] t4)).alloc (.cells cs0 t5)).heap[X.heap.size]? = some (.cells #[u] t4 (0, 0)) := (Below.heap_alloc _ _ _ (by simp)).trans (heap_alloc_new X _)
  refine ⟨(setCells_other _ _ _ _ _ (by omega)).trans h4, row_filled vs h5 hs, ?_⟩
  exact (((Below.refl _ X).alloc (Nat.le_refl _) _).alloc (by simp) _).trans (setCells_below (Nat.le_succ _) _ _ _)

set_option maxHeartbeats 40000000 in
set_option maxRecDepth 100000 in
theorem stmts_any (w : World) (A : Option Addr) (c : Nat) (l : List Cl) (hl63 : l.length ≤ 9223372036854775807) (hs : Lies w 7 Cl.cells A l) (hin : ∀ cl ∈ l, ClIn w cl) (hn : (lnP l).length ≤ 400000000000) :
    GivesNew Tryz.prog 14 #[.slice A l.length c] w 26 Ln.cells (lnP l) := by
  obtain ⟨i0, z0, hi0, hz0, hz1, hz2, hzs⟩ := info_row infoAl
  have HS := hide hs
  have HI := hide hin
  have HN := hide hn
  clear hs hin hn
  refine (callsIn_wide (n := 8)).1 ?_
  refine callsIn_of_wp_marksN Tryz.func14 rfl trivial ?_ rfl
  simp only [Tryz.ntmps14, List.size_toArray, List.length_cons, List.length_nil, Nat.reduceAdd, Nat.reduceSub, Array.replicate_succ, Array.replicate_zero, List.push_toArray, List.append_toArray, List.nil_append, List.cons_append]
  gi_wp2
  obtain ⟨X0, hX0⟩ : ∃ X, X = w.alloc (.cells #[.slice none 0 0] 59) := ⟨_, rfl⟩
  have hS0 : Hid (InS w [] [] X0 (.slice none 0 0)) := by
    show InS _ _ _ _ _
    rw [hX0]
    exact ⟨heap_alloc_new w _, Own.nil, (Below.refl _ w).alloc (Nat.le_refl _) _, List.nodup_nil, fun D hD => by cases hD⟩
  rw [← hX0]
  clear hX0
  obtain ⟨I1, HI1⟩ : ∃ I1 : Act → World → Prop, Hid (∀ a X, I1 a X ↔ ∃ (k : Nat) (ds : List Nat) (v : Value) (u4 u5 u6 u7 u8 u9 u13 u14 u15 u16 u17 u18 u19 u20 u21 u22 u23 u24 u25 u26 u27 u28 u29 u30 u31 u32 u33 u34 u35 u36 u37 u38 u39 u40 u41 : Value), a = ⟨List.toArray [.slice A l.length c, undef, .slice none 0 0, .pointer (some ⟨w.heap.size, 0, none⟩), u4, u5, u6, u7, u8, u9, .slice A l.length c, .int .i64 l.length, .int .i64 k, u13, u14, u15, u16, u17, u18, u19, u20, u21, u22, u23, u24, u25, u26, u27, u28, u29, u30, u31, u32, u33, u34, u35, u36, u37, u38, u39, u40, u41], Marks ds⟩ ∧ k ≤ l.length ∧ Hid (InS w ds (lnP (l.take k)) X v)) := ⟨_, fun _ _ => Iff.rfl⟩
  refine wpIn_loop I1 (fun a _ => l.length - (intOf (a.tmps.getD 12 undef)).toNat) ?atStart ?round
  case atStart => exact (HI1.out _ _).2 ⟨0, [], .slice none 0 0, _, _, _, _, _, _, _, _, _, _, _, _, _, _, _, _, _, _, _, _, _, _, _, _, _, _, _, _, _, _, _, _, _, _, _, rfl, Nat.zero_le _, hS0⟩
  case round =>
    clear hS0
    intro a X hrel
    obtain ⟨k, ds, v, u4, u5, u6, u7, u8, u9, u13, u14, u15, u16, u17, u18, u19, u20, u21, u22, u23, u24, u25, u26, u27, u28, u29, u30, u31, u32, u33, u34, u35, u36, u37, u38, u39, u40, u41, rfl, hk, hS⟩ := (HI1.out _ _).1 hrel
    clear hrel
    by_cases hlt : k < l.length
    · obtain ⟨b, off, hA, hb, hcell⟩ := HS.out k hlt
      have hlt' : (k : Int) < (l.length : Int) := by omega
      have hmem := List.getElem_mem hlt
      have HT := lnP_take l k hlt
      have hpl := (lnP_prefix l (k + 1)).length_le
      obtain ⟨cl, hcl⟩ : ∃ cl, cl = l[k] := ⟨_, rfl⟩
      rw [← hcl] at hcell hmem HT
      have hIn := hide (HI.out cl hmem)
      have hrc : Hid (X.rangeAt b (off + k * 7) cl.cells) := fun j u h => (World.cell?_of_block (hS.out.bel.block _ hb)).trans (hcell j u h)
      have HLen : Hid ((lnP (l.take k)).length + (lnMs k cl.methods).length ≤ 400000000000) := by
        rw [HT, List.length_append] at hpl
        have := HN.out
        show _ ≤ _
        omega
      have hm63 : cl.methods.length ≤ 9223372036854775807 := by have h1 := hIn.out.mc; have h2 := hIn.out.mm; unfold maxLen at h2; omega
      have HKW : Hid (wrap64 ((k : Int) + 1) = ((k + 1 : Nat) : Int)) := by
        show wrap64 _ = _
        unfold wrap64
        omega
      have HT9 := hide HT
      have hlt9 := hide hlt
      obtain ⟨T, hT⟩ : ∃ T, T = lnP (l.take k) := ⟨_, rfl⟩
      rw [← hT] at hS HLen HT9
      have hc5 : cl.cells.toArray[5]? = some (.slice cl.mA cl.methods.length cl.mc) := rfl
      obtain ⟨M, hM⟩ : ∃ M, M = cl.methods := ⟨_, rfl⟩
      have HM : Hid (Lies w 17 Me.cells cl.mA M) := by show Lies _ _ _ _ _; rw [hM]; exact hIn.out.methods
      have HMI : Hid (∀ m ∈ M, MeIn w m) := by show ∀ m ∈ M, _; rw [hM]; exact hIn.out.each
      rw [← hM] at hm63 HLen HT9 hc5
      obtain ⟨mA, hmA⟩ : ∃ mA, mA = cl.mA := ⟨_, rfl⟩
      obtain ⟨cm, hcm⟩ : ∃ cm, cm = cl.mc := ⟨_, rfl⟩
      rw [← hmA] at HM hc5
      rw [← hcm] at hc5
      have HC5 := hide hc5
      subst hA
      clear hcell hcl hmem HT hpl hlt hT hM hIn hmA hcm hc5
      gi_wp2_with (first | (refine wpListIn_load_mid (fun _ => trivial) rfl 35 (.tmp 15) rfl b (off + k * 7) rfl cl.cells _ hrc.out Tryz.underlying35 rfl (by rw [Cl.cells_len]; kernel_rfl) ?_) | (refine wpListIn_store_mid (fun _ => trivial) rfl 35 (.tmp 5) (.tmp 16) rfl (X.heap.size + 1) 0 cl.cells.toArray rfl rfl (two_there cl.cells.toArray.size (by rw [List.size_toArray, Cl.cells_len]; decide)) (by rw [List.size_toArray, Cl.cells_len]; kernel_rfl) (all_oneCell_toArray cl.cells_one) ?_; generalize hW4 : World.setCells _ _ _ _ = W4; obtain ⟨r4, r5, bl4⟩ := two_boxes hW4 rfl; have hr4 := hide r4; have c5 : W4.cell? ⟨X.heap.size + 1, 5, none⟩ = some (.slice mA M.length cm) := (row_cell r5 (j := 5) (by simpa using HC5.out)).1; have hS4 := hide (hS.out.more bl4); have hB4 := hide bl4; clear r4 r5 bl4 hW4))
      clear hrc c5 HC5
      obtain ⟨B4, hBe⟩ : ∃ B4, B4 = X.heap.size := ⟨_, rfl⟩
      have hB40 : w.heap.size < B4 := by rw [hBe]; exact row_lt hS.out.row
      have hB4o : Hid (v.ownBlock ≠ some B4) := fun h => by have := (hS.out.own.from_ _ h).2; omega
      rw [← hBe] at hr4 ⊢
      obtain ⟨B5, hB5⟩ : ∃ B5, B5 = B4 + 1 := ⟨_, rfl⟩
      rw [← hB5]
      clear hBe hB5 hS hB4
      obtain ⟨I2, HI2⟩ : ∃ I2 : Act → World → Prop, Hid (∀ a X, I2 a X ↔ ∃ (j : Nat) (ds : List Nat) (v : Value) (u6 u7 u8 u9 u13 u14 u15 u16 u17 u21 u22 u23 u24 u25 u26 u27 u28 u29 u30 u31 u32 u33 u34 u35 u36 u37 u38 u39 u40 u41 : Value) , a = ⟨List.toArray [.slice (some ⟨b, off, none⟩) l.length c, undef, .slice none 0 0, .pointer (some ⟨w.heap.size, 0, none⟩), .pointer (some ⟨B4, 0, none⟩), .pointer (some ⟨B5, 0, none⟩), u6, u7, u8, u9, .slice (some ⟨b, off, none⟩) l.length c, .int .i64 l.length, .int .i64 k, u13, u14, u15, u16, u17, .slice mA M.length cm, .int .i64 M.length, .int .i64 j, u21, u22, u23, u24, u25, u26, u27, u28, u29, u30, u31, u32, u33, u34, u35, u36, u37, u38, u39, u40, u41], Marks ds⟩ ∧ j ≤ M.length ∧ Hid (InS w ds (T ++ lnMs k (M.take j)) X v) ∧ Hid (X.heap[B4]? = some (.cells #[.int .i64 k] 3 (0, 0))) ∧ Hid (v.ownBlock ≠ some B4)) := ⟨_, fun _ _ => Iff.rfl⟩
      refine wpIn_loop I2 (fun a _ => M.length - (intOf (a.tmps.getD 20 undef)).toNat) ?atStart ?round
      case atStart => exact (HI2.out _ _).2 ⟨0, ds, v, _, _, _, _, _, _, _, _, _, _, _, _, _, _, _, _, _, _, _, _, _, _, _, _, _, _, _, _, _, _, rfl, Nat.zero_le _, by simpa [lnMs] using hS4, hr4, hB4o⟩
      case round =>
        clear hS4 hr4 hB4o
        intro a X hrel
        obtain ⟨j, ds, v, u6, u7, u8, u9, u13, u14, u15, u16, u17, u21, u22, u23, u24, u25, u26, u27, u28, u29, u30, u31, u32, u33, u34, u35, u36, u37, u38, u39, u40, u41, rfl, hj, hS, hr4, hB4o⟩ := (HI2.out _ _).1 hrel
        clear hrel
        by_cases hltj : j < M.length
        · obtain ⟨b2, off2, hA2, hb2, hcell2⟩ := HM.out j hltj
          have hltj' : (j : Int) < (M.length : Int) := by omega
          have hmem2 := List.getElem_mem hltj
          have HT2 := lnMs_take k M j hltj
          have hpl2 := (lnMs_prefix k M (j + 1)).length_le
          obtain ⟨m, hm⟩ : ∃ m, m = M[j] := ⟨_, rfl⟩
          rw [← hm] at hcell2 hmem2 HT2
          have hMI := hide (HMI.out m hmem2)
          have hrm : Hid (X.rangeAt b2 (off2 + j * 17) m.cells) := fun j u h => (World.cell?_of_block (hS.out.bel.block _ hb2)).trans (hcell2 j u h)
          have HL : Hid ((T ++ lnMs k (M.take j)).length + (liAll m.body 0 (bkA m.bA) (ofA m.bA)).length ≤ 400000000000) := by
            rw [HT2, List.length_append] at hpl2
            unfold lnM at hpl2
            rw [List.length_map] at hpl2
            have := HLen.out
            show _ ≤ _
            rw [List.length_append]
            omega
          have HJW : Hid (wrap64 ((j : Int) + 1) = ((j + 1 : Nat) : Int)) := by
            show wrap64 _ = _
            unfold wrap64
            omega
          have HT29 := hide HT2
          have hltj9 := hide hltj
          have hB4X := hide (row_lt hr4.out)
          obtain ⟨T2, hT2⟩ : ∃ T2, T2 = T ++ lnMs k (M.take j) := ⟨_, rfl⟩
          have HT2e := hide hT2
          rw [← hT2] at hS HL
          subst hA2
          clear hcell2 hm hmem2 HT2 hpl2 hltj hT2
          gi_wp2_with (first | (refine wpListIn_load_mid (fun _ => trivial) rfl 43 (.tmp 23) rfl b2 (off2 + j * 17) rfl m.cells _ hrm.out Tryz.underlying43 rfl (by rw [Me.cells_len]; kernel_rfl) ?_) | (refine wpListIn_store_mid (fun _ => trivial) rfl 43 (.tmp 7) (.tmp 24) rfl (X.heap.size + 1) 0 m.cells.toArray rfl rfl (two_there m.cells.toArray.size (by rw [List.size_toArray, Me.cells_len]; decide)) (by rw [List.size_toArray, Me.cells_len]; kernel_rfl) (all_oneCell_toArray m.cells_one) ?_; generalize hW5 : World.setCells _ _ _ _ = W5; obtain ⟨r6, r7, bl5⟩ := two_boxes hW5 rfl; have hr6 := hide r6; have hr7 : Hid (W5.rangeAt (X.heap.size + 1) 0 m.cells) := (fun j u h => (row_cell r7 (j := 0 + j) (by rw [Nat.zero_add]; exact h)).1); have hl5 := hide (row_lt r7); have hB5 := hide bl5; clear r6 r7 bl5 hW5) | (refine wpListIn_load_mid (fun _ => trivial) rfl 43 (.tmp 7) rfl (X.heap.size + 1) 0 rfl m.cells _ hr7.out Tryz.underlying43 rfl (by rw [Me.cells_len]; kernel_rfl) ?_))
          refine ⟨trivial, ?_⟩
          refine (callsIn_wide.2 (body_seq m _)).mono ?_
          rintro _ _ ⟨rfl, rfl⟩
          gi_wp2
          obtain ⟨Wr, hWr⟩ : ∃ Wr, Wr = W5.alloc (.cells m.cells.toArray 43) := ⟨_, rfl⟩
          obtain ⟨B, hBe⟩ : ∃ B, B = W5.heap.size := ⟨_, rfl⟩
          obtain ⟨B6, hB6e⟩ : ∃ B6, B6 = X.heap.size := ⟨_, rfl⟩
          have hbl : Below X.heap.size X Wr := by rw [hWr]; exact hB5.out.alloc hB5.out.size _
          have hSr : Hid (InS w ds T2 Wr v) := hS.out.more hbl
          have hr4r : Hid (Wr.heap[B4]? = some (.cells #[.int .i64 k] 3 (0, 0))) := (hbl.block _ hB4X.out).trans hr4.out
          have hr6r : Hid (Wr.heap[B6]? = some (.cells #[.int .i64 j] 3 (0, 0))) := by
            show _ = _
            rw [hWr, hB6e]
            exact (Below.heap_alloc _ _ _ (row_lt hr6.out)).trans hr6.out
          have hrB : Hid (Wr.heap[B]? = some (.cells m.cells.toArray 43 (0, 0))) := by show _ = _; rw [hWr, hBe]; exact heap_alloc_new _ _
          have hvX : ∀ g, v.ownBlock = some g → w.heap.size + 1 ≤ g ∧ g < X.heap.size := hS.out.own.from_
          have hXs : w.heap.size < X.heap.size := row_lt hS.out.row
          have hX5 : X.heap.size ≤ W5.heap.size := hB5.out.size
          have hB6o : Hid (v.ownBlock ≠ some B6) := fun h => by have := hvX _ h; omega
          have hBo : Hid (v.ownBlock ≠ some B) := fun h => by have := hvX _ h; omega
          have hB6w : w.heap.size < B6 := by omega
          have hBw : w.heap.size < B := by omega
          have hOv : Hid (∀ g, v.ownBlock = some g → w.heap.size + 1 ≤ g ∧ g < Wr.heap.size) := fun g hg => by
            have h1 := hvX g hg
            have h2 := hbl.size
            exact ⟨h1.1, by omega⟩
          rw [← hWr, ← hBe, ← hB6e]
          clear hWr hBe hB6e hbl hS hr4 hr6 hvX hXs hX5 hB4X hl5 hB5 hrm
          have hI0 : Hid (InR w Wr T2 k j v [] (fun g => g = w.heap.size ∨ v.ownBlock = some g) Wr) := ⟨v, rfl, hSr.out.row, by simpa using hSr.out.own, SubO.refl _ _, KeepsBut.refl _ _⟩
          refine wpIn_rangeR (gf := 44) (lb := #[.pointer (some ⟨B, 0, none⟩)]) rfl (enters_of Tryz.func44 (by kernel_rfl) rfl) (body1_push B m.bA m.bc m.body) (fun _ => rfl)
            (fun g => g = w.heap.size ∨ v.ownBlock = some g) (fun s O Y => InR w Wr T2 k j v s O Y) (fun _ _ _ _ => False) ?hIT (fun _ _ _ _ _ h _ => h) ?hIO ?hIR (fun _ _ _ _ h => h.elim) hI0.out ?hround ?hdone (fun _ _ _ _ _ _ _ _ _ _ h _ => h.elim)
          case hIT => exact fun s O X Y h t => h.turn t
          case hIO => exact fun s O X h => h.there
          case hIR =>
            intro s O Y h
            have hb := h.below hSr.out.bel (fun g hg => Nat.le_of_succ_le (hOv.out g hg).1)
            obtain ⟨u, hu⟩ := Ext.of hb
            obtain ⟨_, _, _, _, _, hk⟩ := h
            refine ⟨RdB.of_st _ _ (hMI.out.body.below hb) (fun t ht => hu ▸ (hMI.out.stmts t ht).ext u) (Nat.le_trans hMI.out.bc hMI.out.bm), ?_⟩
            exact (World.cell?_of_block (hk.block B (row_lt hrB.out) (fun h => h.elim (by omega) hBo.out))).trans (row_cell hrB.out (j := 15) rfl).1
          case hround => 
            rintro m1 l1 s x O Y hl0 hlY hnl hI hpre
            have hx := hide (liAll_ty m.body 0 m.bA hMI.out.body hMI.out.stmts x (hpre.subset (by simp)))
            have hst : Hid (T2.length + (s.length + 1) ≤ 400000000000) := by
              have h1 := hpre.length_le
              have h2 := HL.out
              simp at h1
              show _ ≤ _
              omega
            unfold Li.args
            gi_wp2
            refine ⟨O, SubO.refl _ _, KeepsBut.refl _ _, fun Z => InR w Wr T2 k j v s O Z, fun _ _ h t => h.turn t, hI, ?_⟩
            clear hI hl0 hlY hnl Y
            rintro m2 l2 Y hl2 hlY hnl hI
            obtain ⟨v1, hO, hv, hown, hsub, hkeep⟩ := hI
            have hbY : Below w.heap.size w Y := InR.below ⟨v1, hO, hv, hown, hsub, hkeep⟩ hSr.out.bel (fun g hg => Nat.le_of_succ_le (hOv.out g hg).1)
            have hxr : Y.rangeAt x.b x.off x.s.cells := fun i u hi => (World.cell?_of_block (hbY.block _ hx.out.1)).trans (hx.out.2 i u hi)
            have h4 : Y.heap[B4]? = some (.cells #[.int .i64 k] 3 (0, 0)) := (hkeep.block B4 (row_lt hr4r.out) (fun h => h.elim (by omega) hB4o.out)).trans hr4r.out
            have h6 : Y.heap[B6]? = some (.cells #[.int .i64 j] 3 (0, 0)) := (hkeep.block B6 (row_lt hr6r.out) (fun h => h.elim (by omega) hB6o.out)).trans hr6r.out
            have hv1 := hown.from_
            have hsubv : ∀ g, v1.ownBlock = some g → v.ownBlock = some g ∨ Wr.heap.size ≤ g := fun g hg => by
              have h1 := hv1 g hg
              rcases hsub g (by rw [hO]; exact .inr hg) with (h | h) | h
              · omega
              · exact .inl h
              · exact .inr h
            have n4 : v1.ownBlock ≠ some B4 := fun h => (hsubv _ h).elim hB4o.out (fun h => by have := row_lt hr4r.out; omega)
            have n6 : v1.ownBlock ≠ some B6 := fun h => (hsubv _ h).elim hB6o.out (fun h => by have := row_lt hr6r.out; omega)
            have nw : v1.ownBlock ≠ some w.heap.size := fun h => by have := hv1 _ h; omega
            have nx : v1.ownBlock ≠ some x.b := fun h => by have := hv1 _ h; have := hx.out.1; omega
            have hxY : x.b < Y.heap.size := Nat.lt_of_lt_of_le hx.out.1 hbY.size
            let S : World → Prop := fun Z => KeepsBut (fun g => v1.ownBlock = some g) Y Z
            have hSc : ∀ Z, S Z → Z.cell? ⟨w.heap.size, 0, none⟩ = some v1 ∧ Z.cell? ⟨B4, 0, none⟩ = some (.int .i64 k) ∧ Z.cell? ⟨B6, 0, none⟩ = some (.int .i64 j) := fun Z h =>
              ⟨(h.cell (a := ⟨w.heap.size, 0, none⟩) (row_lt hv) nw).trans (row_cell (cs := [v1]) hv (j := 0) rfl).1, (h.cell (a := ⟨B4, 0, none⟩) (row_lt h4) n4).trans (row_cell (cs := [.int .i64 k]) h4 (j := 0) rfl).1, (h.cell (a := ⟨B6, 0, none⟩) (row_lt h6) n6).trans (row_cell (cs := [.int .i64 j]) h6 (j := 0) rfl).1⟩
            have hSr2 : ∀ Z, S Z → Z.rangeAt x.b x.off x.s.cells := fun Z h i u hi => (h.cell (a := ⟨x.b, x.off + i, none⟩) hxY nx).trans (hxr i u hi)
            have hS : S Y.drew := KeepsBut.drew Y
            have hO9 := hide hO
            have hvd : Hid (Y.drew.heap[w.heap.size]? = some (.cells #[v1] 59 (0, 0))) := hv
            have hod : Hid (Grow.Own Y.drew (w.heap.size + 1) 96 26 Ln.cells v1 (T2 ++ s.map (Li.ln k j))) := hown.drew
            have hsub9 := hide hsub
            have hk9 : Hid (KeepsBut (fun g => g = w.heap.size ∨ v.ownBlock = some g) Wr Y.drew) := hkeep.trans' (KeepsBut.drew _)
            have hwY : Hid (w.heap.size + 1 ≤ Y.heap.size) := row_lt hv
            have hlen : Hid ((T2 ++ s.map (Li.ln k j)).length + [Ln.mk k j x.d x.s].length ≤ maxLen ∧ ((T2 ++ s.map (Li.ln k j)).length + [Ln.mk k j x.d x.s].length) * 312 ≤ 140737488355328) := by
              have := hst.out
              show _ ∧ _
              simp only [List.length_append, List.length_map, List.length_cons, List.length_nil]
              unfold maxLen
              omega
            clear hO hv hown hsub hkeep hbY hxr h4 h6 hv1 hsubv n4 n6 nx hxY hl2 hlY hnl
            gi_wp2
            refine wpIn_region_tillL S 10 (by kernel_rfl) ?_
            simp only [List.size_toArray, List.length_cons, List.length_nil, Nat.reduceAdd]
            refine TillL.take (i := 0) (v := ?_) (fun _ => trivial) rfl (by kernel_rfl) (fun _ _ _ h => h) hS ?_ rfl ?_
            rotate_left
            · intro X hSX
              obtain ⟨e0, e1, e2⟩ := hSc X hSX
              go_simp
              all_goals with_reducible rfl
            try simp only [Act.put, List.getElem_toArray, List.getElem_cons_succ, List.getElem_cons_zero, List.setIfInBounds_toArray, List.set_cons_zero, List.set_cons_succ]
            refine TillL.take (i := 1) (v := ?_) (fun _ => trivial) rfl (by kernel_rfl) (fun _ _ _ h => h) hS ?_ rfl ?_
            rotate_left
            · intro X hSX
              obtain ⟨e0, e1, e2⟩ := hSc X hSX
              go_simp
              all_goals with_reducible rfl
            try simp only [Act.put, List.getElem_toArray, List.getElem_cons_succ, List.getElem_cons_zero, List.setIfInBounds_toArray, List.set_cons_zero, List.set_cons_succ]
            refine TillL.take (i := 2) (v := ?_) (fun _ => trivial) rfl (by kernel_rfl) (fun _ _ _ h => h) hS ?_ rfl ?_
            rotate_left
            · intro X hSX
              obtain ⟨e0, e1, e2⟩ := hSc X hSX
              go_simp
              all_goals with_reducible rfl
            try simp only [Act.put, List.getElem_toArray, List.getElem_cons_succ, List.getElem_cons_zero, List.setIfInBounds_toArray, List.set_cons_zero, List.set_cons_succ]
            refine TillL.take (i := 3) (v := ?_) (fun _ => trivial) rfl (by kernel_rfl) (fun _ _ _ h => h) hS ?_ rfl ?_
            rotate_left
            · intro X hSX
              skip
              go_simp
              all_goals with_reducible rfl
            try simp only [Act.put, List.getElem_toArray, List.getElem_cons_succ, List.getElem_cons_zero, List.setIfInBounds_toArray, List.set_cons_zero, List.set_cons_succ]
            refine TillL.take (i := 4) (v := ?_) (fun _ => trivial) rfl (by kernel_rfl) (fun _ _ _ h => h) hS ?_ rfl ?_
            rotate_left
            · intro X hSX
              skip
              go_simp
              all_goals with_reducible rfl
            try simp only [Act.put, List.getElem_toArray, List.getElem_cons_succ, List.getElem_cons_zero, List.setIfInBounds_toArray, List.set_cons_zero, List.set_cons_succ]
            refine TillL.take (i := 5) (v := ?_) (fun _ => trivial) rfl (by kernel_rfl) (fun _ _ _ h => h) hS ?_ rfl ?_
            rotate_left
            · intro X hSX
              skip
              go_simp
              all_goals with_reducible rfl
            try simp only [Act.put, List.getElem_toArray, List.getElem_cons_succ, List.getElem_cons_zero, List.setIfInBounds_toArray, List.set_cons_zero, List.set_cons_succ]
            refine TillL.take (i := 6) (v := .agg x.s.cells.toArray) (fun _ => trivial) rfl (by kernel_rfl) (fun _ _ _ h => h) hS (fun X hX => run_load_mid rfl rfl (hSr2 X hX) Tryz.underlying50 rfl (by rw [St.cells_len]; kernel_rfl)) rfl ?_
            try simp only [Act.put, List.getElem_toArray, List.getElem_cons_succ, List.getElem_cons_zero, List.setIfInBounds_toArray, List.set_cons_zero, List.set_cons_succ]
            refine TillL.take (i := 7) (v := .agg (Ln.mk k j x.d x.s).cells.toArray) (fun _ => trivial) rfl (by kernel_rfl) (fun _ _ _ h => h) hS (fun X hX => run_buildV 96 [(0, .tmp 30), (1, .tmp 31), (2, .tmp 32), (3, .tmp 35)] rfl [(0, .int .i64 k), (1, .int .i64 j), (2, .int .i64 x.d), (3, .agg x.s.cells.toArray)] (by kernel_rfl) _ (built_al _ _ _ _)) rfl ?_
            try simp only [Act.put, List.getElem_toArray, List.getElem_cons_succ, List.getElem_cons_zero, List.setIfInBounds_toArray, List.set_cons_zero, List.set_cons_succ]
            refine TillL.one (i := 8) rfl (by kernel_rfl) rfl ?_
            intro K hK
            refine opIn_run (fun _ => trivial) (by intro c h; cases h) (run_lit_one 59 96 (.tmp 36) rfl (Ln.mk k j x.d x.s).cells.toArray rfl i0 z0 26 Tryz.underlying59 hi0 hz0 hz1 (by rw [List.size_toArray, Ln.cells_len]) (by decide) (by decide)) ?_
            refine hK _ _ (fun _ => hS.trans' (KeepsBut.alloc _ _)) ?_
            clear hK K
            try simp only [Act.put, List.getElem_toArray, List.getElem_cons_succ, List.getElem_cons_zero, List.setIfInBounds_toArray, List.set_cons_zero, List.set_cons_succ]
            refine TillL.one (i := 9) rfl (by kernel_rfl) rfl ?_
            intro K hK
            refine opIn_append_list _ (fun _ => trivial) (.tmp 29) (.tmp 37) 59 rfl (w.heap.size + 1) 96 i0 z0 26 312 Tryz.underlying59 hi0 hz0 hz1 hz2 hzs (by decide) Ln.cells_len Ln.cells_one v1 (T2 ++ s.map (Li.ln k j)) rfl (hod.out.alloc _) _ 1 1 [Ln.mk k j x.d x.s] rfl rfl (Lies.one _ _ _ rfl) hlen.out.1 hlen.out.2 (by rw [World.size_alloc]; exact Nat.le_succ_of_le hwY.out) ?_
            intro v' w' hown' hgr hat
            obtain ⟨g', N, cap', rfl⟩ : ∃ g' N cap', v' = .slice (some ⟨g', 0, none⟩) N cap' := by
              obtain ⟨g, c, h⟩ := hown'.some_
              exact ⟨g, _, c, h⟩
            have hk10 : KeepsBut (fun g => v1.ownBlock = some g) Y.drew w' := (KeepsBut.alloc Y.drew _).trans' (KeepsBut.of_grown hgr fun g hg => hg)
            have hrow' : w'.heap[w.heap.size]? = some (.cells #[v1] 59 (0, 0)) := (hk10.block _ (row_lt hvd.out) nw).trans hvd.out
            refine hK _ _ (fun _ => hS.trans' hk10) ?_
            clear hK K
            obtain ⟨c0, f0⟩ := row_cell (cs := [v1]) hrow' (j := 0) rfl
            have hF := hide (And.intro hown' (And.intro hat (And.intro hk10 hrow')))
            have hYw' : Hid (Y.heap.size ≤ w'.heap.size) := hk10.size
            clear hown' hgr hat hk10 hrow'
            try simp only [Act.put, List.getElem_toArray, List.getElem_cons_succ, List.getElem_cons_zero, List.setIfInBounds_toArray, List.set_cons_zero, List.set_cons_succ]
            refine TillL.one (i := 10) rfl (by kernel_rfl) rfl ?_
            intro K hK
            go_simp
            refine hK _ _ (fun h => absurd rfl h) ?_
            clear hK K
            refine TillL.done (by kernel_rfl) ?_ _
            gi_wp2
            have hO1 : O w.heap.size := by rw [hO9.out]; exact .inl rfl
            have hO2 : ∀ g, v1.ownBlock = some g → O g := fun g hg => by rw [hO9.out]; exact .inr hg
            have hSO : SubO O Y.heap.size (fun g => g = w.heap.size ∨ (Value.slice (some ⟨g', 0, none⟩) N cap').ownBlock = some g) := by
              rintro g (rfl | hg)
              · exact .inl hO1
              · rcases hF.out.2.1 with h | h
                · exact .inl (hO2 g (h.symm.trans hg))
                · rw [hg] at h
                  simp only [Option.some.injEq] at h
                  exact .inr (by rw [h, World.size_alloc]; exact Nat.le_succ _)
            have hKO : KeepsBut O Y (w'.setCell ⟨w.heap.size, 0, none⟩ (.slice (some ⟨g', 0, none⟩) N cap')) := ((KeepsBut.drew Y).trans' (hF.out.2.2.1.mono fun g _ h => hO2 g h)).trans' (KeepsBut.setCell _ _ _ hO1)
            refine ⟨_, hSO, hKO, _, rfl, row_store hF.out.2.2.2 0 (.slice (some ⟨g', 0, none⟩) N cap'), ?_, ?_, ?_⟩
            · have h5 := hF.out.1
              rw [List.map_append, ← List.append_assoc]
              refine Own.keep (A := w') h5 fun g hg => Below.heap_setCell _ _ _ _ ?_
              have := (h5.from_ g hg).1
              show g ≠ w.heap.size
              omega
            · exact hsub9.out.trans hSO hk9.out.size
            · have h1 : KeepsBut (fun g => g = w.heap.size ∨ v.ownBlock = some g) Wr Y := ⟨hk9.out.size, hk9.out.os, hk9.out.tape, hk9.out.output, hk9.out.block⟩
              exact h1.trans hKO hsub9.out
          case hdone => 
            rintro O D V hD hnD _ _ ⟨v1, rfl, hv, hown, hsub, hkeep⟩ hKD
            have hbV : Below w.heap.size w V := InR.below ⟨v1, rfl, hv, hown, hsub, hkeep⟩ hSr.out.bel (fun g hg => Nat.le_of_succ_le (hOv.out g hg).1)
            have hv1 := hown.from_
            have hWrw : w.heap.size < Wr.heap.size := row_lt hSr.out.row
            have hsubv : ∀ g, v1.ownBlock = some g → v.ownBlock = some g ∨ Wr.heap.size ≤ g := fun g hg => by
              have h1 := hv1 g hg
              rcases hsub g (.inr hg) with (h | h) | h
              · omega
              · exact .inl h
              · exact .inr h
            have hSV : Hid (InS w (D :: ds) (T ++ lnMs k (M.take (j + 1))) V v1) := by
              refine ⟨hv, ?_, hbV, List.nodup_cons.2 ⟨fun h => ?_, hSr.out.nd⟩, fun E hE => ?_⟩
              · rw [HT29.out, ← List.append_assoc, ← HT2e.out]
                exact hown
              · have := row_lt (hSr.out.mark D h).2.2
                omega
              · rcases List.mem_cons.1 hE with rfl | hE
                · exact ⟨by omega, fun h => hnD (.inr h), hKD⟩
                · obtain ⟨g1, g2, g3⟩ := hSr.out.mark E hE
                  have hlt := row_lt g3
                  exact ⟨g1, fun h => (hsubv E h).elim g2 (by omega), (hkeep.block E hlt (fun h => h.elim (by omega) g2)).trans g3⟩
            have hr4V : Hid (V.heap[B4]? = some (.cells #[.int .i64 k] 3 (0, 0))) := (hkeep.block B4 (row_lt hr4r.out) (fun h => h.elim (by omega) hB4o.out)).trans hr4r.out
            have hB4V : Hid (v1.ownBlock ≠ some B4) := fun h => (hsubv _ h).elim hB4o.out (fun h => by have := row_lt hr4r.out; omega)
            clear hv hown hsub hkeep hKD hbV hv1 hWrw hsubv hnD hD hSr hr4r hr6r hrB hI0 hOv
            gi_wp2
            refine ⟨(HI2.out _ _).2 ⟨j + 1, D :: ds, v1, _, _, _, _, _, _, _, _, _, _, _, _, _, _, _, _, _, _, _, _, _, _, _, _, _, _, _, _, _, _, rfl, hltj9.out, hSV, hr4V, hB4V⟩, ?_⟩
            have := hltj9.out
            show M.length - (intOf (.int .i64 _)).toNat < M.length - (intOf (.int .i64 _)).toNat
            rw [intOf_int, intOf_int]
            omega
        · obtain rfl : j = M.length := by omega
          have hltj' : ¬ (M.length : Int) < (M.length : Int) := by omega
          have hS9 : Hid (InS w ds (lnP (l.take (k + 1))) X v) := by
            have h := hS.out
            rw [List.take_length] at h
            show InS _ _ _ _ _
            rw [HT9.out]
            exact h
          clear hS hr4 hB4o
          gi_wp2
          refine ⟨(HI1.out _ _).2 ⟨k + 1, ds, v, _, _, _, _, _, _, _, _, _, _, _, _, _, _, _, _, _, _, _, _, _, _, _, _, _, _, _, _, _, _, _, _, _, _, _, rfl, hlt9.out, hS9⟩, ?_⟩
          have := hlt9.out
          show l.length - (intOf (.int .i64 _)).toNat < l.length - (intOf (.int .i64 _)).toNat
          rw [intOf_int, intOf_int]
          omega
    · obtain rfl : k = l.length := by omega
      have hlt' : ¬ (l.length : Int) < (l.length : Int) := by omega
      rw [List.take_length] at hS
      have c3 : X.cell? ⟨w.heap.size, 0, none⟩ = some v := (row_cell (cs := [v]) hS.out.row (j := 0) rfl).1
      gi_wp2
      refine leaves_marks ds X hS.out.nd (fun D hD => (hS.out.mark D hD).2.2) fun Z hZ => ?_
      have hbZ : Below w.heap.size w Z := hS.out.bel.trans (hZ.below (fun D hD => Nat.le_of_lt (hS.out.mark D hD).1) hS.out.bel.size)
      have hoZ : Grow.Own Z (w.heap.size + 1) 96 26 Ln.cells v (lnP l) := hS.out.own.keep fun g hg => hZ.block g (hS.out.own.from_ g hg).2 (fun h => (hS.out.mark g h).2.1 hg)
      have hfr := hoZ.from_
      obtain ⟨A', c', rfl, g1, g2, g3⟩ := hoZ.lies Ln.cells_len
      refine ⟨_, results_tmp rfl _ _ _, ⟨_, hbZ⟩, A', c', rfl, rfl, g1, g2, g3, fun ad e => ?_⟩
      have := (hfr ad.block (by rw [e]; rfl)).1
      omega
end Go.Proofs.YtmpdmelkbemabaaGreat
