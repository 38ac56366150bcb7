/- A range over an iterator that keeps state in cells of its own: T says what the iterator turns by itself between two rounds, Kp what a round that goes on keeps. -/
import Derived.Test.YtglgoegabihngaaApp
import Derived.RangeFuncNested
import Derived.RangeFuncBound
import Derived.RangeFuncCalls
import Derived.RangeFuncLeaves
import Derived.OwnWalkIn
import Derived.TacticsInMore
import Derived.LoopNIn
import Derived.LoopIn
set_option linter.unusedSimpArgs false
set_option linter.unusedVariables false
namespace Go.Proofs.Grow
open Go.RowKit

/-- An iterator's promise: at whatever caller's record l, for a caller's facts J, Jx that abide T, it comes through xs, round by round. -/
def SeqT {α : Type} (F : Fence) (n : Nat) (P : Program) (g : Nat) (lb : Array Value) (encs : α → Array Value) (T Kp : World → World → Prop) (xs : List α) (w : World) : Prop :=
  ∀ (l : Nat) (J Jx : List α → World → Prop) (W : World), Below w.heap.size w W →
    (∀ s A B, J s A → T A B → J s B) → (∀ s A B, Jx s A → T A B → Jx s B) →
    (∀ pre x W1, J pre W1 → pre ++ [x] <+: xs → YieldAt F (n - 1) P l (encs x) W1 fun e W' =>
      (e = .returned (.bool true) ∧ J (pre ++ [x]) W' ∧ Kp W1 W') ∨ (e = .returned (.bool false) ∧ Jx (pre ++ [x]) W')) →
    J [] W →
    CallsIn F n P g (#[.func (.yield l) #[] #[]] ++ lb) W fun e W' => (∃ v, e = .returned v) ∧ (J xs W' ∨ ∃ pre, pre <+: xs ∧ Jx pre W')

/-- How a round's body is left. -/
def roundEnd {α : Type} (Kp : World → World → Prop) (I : List α → World → Prop) (Ix : Code → List α → World → Prop) (xs : List α) (W : World) : Exit → Act → World → Prop
  | .normal, _, W' => KeepsOthers W W' ∧ Kp W W' ∧ I xs W'
  | .ret, _, W' => KeepsOthers W W' ∧ Ix .ret xs W'
  | .exit id, _, W' => KeepsOthers W W' ∧ Ix (.exit id) xs W'
  | .goto t, _, W' => KeepsOthers W W' ∧ Ix (.goto t) xs W'
  | .panic _, _, _ => False
  | .outgrown, _, _ => False

section
variable {F : Fence} {n : Nat} {P : Program}

/-- The law for the caller. -/
theorem wpIn_range {α : Type} {g : Operand} {ps : Array Tmp} {assign body : Code} {Q : Exit → Act → World → Prop} {a : Act} {w : World}
    (hro : F.round = none) (h1 : 1 ≤ n) {gf : Nat} {lb : Array Value} (hg : a.eval g = .func (.func gf) #[] lb) (hFg : F.fn gf) (eg : ∀ args w, (callFunc gf args).run P w = .ok (.enter gf args) w)
    {encs : α → Array Value} {T Kp : World → World → Prop} {xs : List α} (hseq : SeqT F (n - 1) P gf lb encs T Kp xs w)
    (hTo : ∀ A B k o, T A B → w.heap.size ≤ k → A.heap[k]? = some o → o.isCells = false → B.heap[k]? = some o)
    (hKt : ∀ {A B C : World}, Kp A B → Kp B C → Kp A C) (hKb : ∀ (W : World) (l : Nat) (o o' : Obj), w.heap.size ≤ l → W.heap[l]? = some o → o.isCells = false → Kp W (W.putObj l o')) (hps : ∀ x, (encs x).size = ps.size)
    (I : List α → World → Prop) (Ix : Code → List α → World → Prop) (hI : OwnFrom w.heap.size I) (hIx : ∀ c, OwnFrom w.heap.size (Ix c))
    (hIT : ∀ s A B, I s A → T A B → I s B) (hIxT : ∀ c s A B, Ix c s A → T A B → Ix c s B) (h0 : I [] w) (a₁ : α → Act)
    (hassign : ∀ (l : Nat) (x : α) (W : World) (K : Act → World → Prop), K (a₁ x) W →
      assign.wpIn (F.inRound l) (n - 1 - 1) P (Exit.then K (fun _ _ _ => False)) { tmps := (ps.zip (encs x)).foldl (fun t (p, v) => t.setIfInBounds p v) a.tmps, defers := [] } W)
    (hbody : ∀ (l : Nat) (pre : List α) (x : α) (W : World), I pre W → pre ++ [x] <+: xs → body.wpIn (F.inRound l) (n - 1 - 1) P (roundEnd Kp I Ix (pre ++ [x]) W) (a₁ x) W)
    (hdone : ∀ (D : Nat) (W : World), w.heap.size ≤ D → I xs W → W.heap[D]? = some (.deferred (some [])) → Q .normal { a with defers := { target := .collected D, args := #[] } :: a.defers } W)
    (hstop : ∀ (D : Nat) (c : Code) (pre : List α) (W : World), w.heap.size ≤ D → pre <+: xs → Ix c pre W → W.heap[D]? = some (.deferred (some [])) → c.wpIn F n P Q { a with defers := { target := .collected D, args := #[] } :: a.defers } W) :
    (Code.rangeFunc g ps assign body).wpIn F n P Q a w := by
  refine wpIn_rangeFunc fun fn hfn => ?_
  rw [hro]
  -- the record in its states, the two blocks of book-keeping
  let rc : LoopState → Option Code → Loop := fun st pe => { state := st, pending := pe, fn, tmps := a.tmps, params := ps, assign, body, defers := w.heap.size }
  let Bk : Loop → World → Prop := fun r W => W.heap[w.heap.size + 1]? = some (.loop r) ∧ W.heap[w.heap.size]? = some (.deferred (some []))
  have bkT : ∀ r A B, Bk r A → T A B → Bk r B := fun r A B h t => ⟨hTo A B _ _ t (by omega) h.1 rfl, hTo A B _ _ t (Nat.le_refl _) h.2 rfl⟩
  have bkPut : ∀ r r' W, Bk r W → Bk r' (W.putObj (w.heap.size + 1) (.loop r')) := fun r r' W h => ⟨World.putObj_heap_same (Array.getElem?_eq_some_iff.1 h.1).1, (World.putObj_heap_other (by omega)).trans h.2⟩
  have iPut : ∀ s r r' W, I s W → Bk r W → I s (W.putObj (w.heap.size + 1) (.loop r')) := fun s r r' W h hb => hI.putObj _ h (by omega) hb.1 rfl
  let W1 : World := (w.alloc (.deferred (some []))).alloc (.loop (rc .ready none))
  have hbk1 : Bk (rc .ready none) W1 := by
    constructor
    · have := World.alloc_heap_new (w.alloc (.deferred (some []))) (.loop (rc .ready none)); rwa [World.size_alloc] at this
    · exact (Below.heap_alloc _ _ _ (by simp)).trans (World.alloc_heap_new w _)
  refine ⟨w.heap.size + 1, [{ target := .collected w.heap.size, args := #[] }], W1, { target := .fn (.func gf) lb, args := #[.func (.yield (w.heap.size + 1)) #[] #[]] }, W1, gf,
    #[.func (.yield (w.heap.size + 1)) #[] #[]] ++ lb, W1, run_enterLoop_outer _ _ _ _ _, ?_, ?_, ?_, fun _ => h1, ?_⟩
  · simp only [resolve, hg]; simp [go_sem]
  · intro f' hf'; simp [Target.leads] at hf'; subst hf'; exact hFg
  · simp [invoke, go_sem, eg]
  refine (hseq (w.heap.size + 1) (fun pre W => I pre W ∧ Bk (rc .ready none) W) (fun pre W => ∃ c, Ix c pre W ∧ Bk (rc .done (some c)) W) W1
    (((Below.refl _ w).alloc (Nat.le_refl _) _).alloc (by simp) _)
    (fun s A B h t => ⟨hIT s A B h.1 t, bkT _ A B h.2 t⟩) (fun s A B ⟨c, h, hb⟩ t => ⟨c, hIxT c s A B h t, bkT _ A B hb t⟩) ?_ ⟨hI.alloc _ (hI.alloc _ h0), hbk1⟩).mono ?_
  · rintro pre x W ⟨hi, hb⟩ hpre
    refine ⟨fn, _, assign, body, run_yield hb.1 (hps x), roundIn_of_wpIn hfn (hassign _ x W _ ⟨_, run_beginRound hb.1 rfl, ?_⟩)⟩
    have hb2 := bkPut _ (rc .busy none) W hb
    have k1 : Kp W (W.putObj (w.heap.size + 1) (.loop (rc .busy none))) := hKb _ _ _ _ (by omega) hb.1 rfl
    have key : ∀ W3, KeepsOthers (W.putObj (w.heap.size + 1) (.loop (rc .busy none))) W3 → Bk (rc .busy none) W3 := fun W3 hk => ⟨hk.same _ _ hb2.1 rfl, hk.same _ _ hb2.2 rfl⟩
    refine wpIn_mono (hbody (w.heap.size + 1) pre x _ (iPut _ _ _ W hi hb) hpre) fun e a3 W3 hp => ?_
    cases e with
    | normal =>
      obtain ⟨hk, hkp, hi3⟩ := hp
      have hb3 := key W3 hk
      exact ⟨_, _, run_endRound none hb3.1, .inl ⟨rfl, ⟨iPut _ _ _ W3 hi3 hb3, bkPut _ _ W3 hb3⟩, hKt (hKt k1 hkp) (hKb _ _ _ _ (by omega) hb3.1 rfl)⟩⟩
    | ret =>
      obtain ⟨hk, hi3⟩ := hp
      have hb3 := key W3 hk
      exact ⟨_, _, run_endRound (some .ret) hb3.1, .inr ⟨rfl, .ret, (hIx _).putObj _ hi3 (by omega) hb3.1 rfl, bkPut _ _ W3 hb3⟩⟩
    | exit id =>
      obtain ⟨hk, hi3⟩ := hp
      have hb3 := key W3 hk
      exact ⟨_, _, run_endRound (some (.exit id)) hb3.1, .inr ⟨rfl, .exit id, (hIx _).putObj _ hi3 (by omega) hb3.1 rfl, bkPut _ _ W3 hb3⟩⟩
    | goto t =>
      obtain ⟨hk, hi3⟩ := hp
      have hb3 := key W3 hk
      exact ⟨_, _, run_endRound (some (.goto t)) hb3.1, .inr ⟨rfl, .goto t, (hIx _).putObj _ hi3 (by omega) hb3.1 rfl, bkPut _ _ W3 hb3⟩⟩
    | panic ch => exact hp.elim
    | outgrown => exact hp.elim
  · rintro e W2 ⟨⟨v, rfl⟩, ⟨hi, hb⟩ | ⟨pre, hpre, c, hi, hb⟩⟩
    · exact ⟨none, _, run_endLoop hb.1 (by simp [rc]), hdone _ _ (Nat.le_refl _) (iPut _ _ _ W2 hi hb) (bkPut _ _ W2 hb).2⟩
    · exact ⟨some c, _, run_endLoop hb.1 (by simp [rc]), hstop _ c pre _ (Nat.le_refl _) hpre ((hIx c).putObj _ hi (by omega) hb.1 rfl) (bkPut _ _ W2 hb).2⟩
end

/-- An iterator that turns one block of cells, ob, beside new ones. -/
def TurnsOne (ob : Nat) (A B : World) : Prop := A.grownBy B (some ob) ∧ ∃ o, A.heap[ob]? = some o ∧ o.isCells = true
/-- What a round keeps: the blocks in S. -/
structure KeepsSet (S : Nat → Prop) (A B : World) : Prop where
  size : A.heap.size ≤ B.heap.size
  os : B.os = A.os
  tape : B.tape = A.tape
  output : B.output = A.output
  block : ∀ k, S k → B.heap[k]? = A.heap[k]?
theorem KeepsSet.refl (S : Nat → Prop) (A : World) : KeepsSet S A A := ⟨Nat.le_refl _, rfl, rfl, rfl, fun _ _ => rfl⟩
theorem KeepsSet.trans {S : Nat → Prop} {A B C : World} (h : KeepsSet S A B) (k : KeepsSet S B C) : KeepsSet S A C :=
  ⟨Nat.le_trans h.size k.size, k.os.trans h.os, k.tape.trans h.tape, k.output.trans h.output, fun i hi => (k.block i hi).trans (h.block i hi)⟩
theorem TurnsOne.others {ob : Nat} {A B : World} (h : TurnsOne ob A B) {k : Nat} {o : Obj} (hk : A.heap[k]? = some o) (hc : o.isCells = false) : B.heap[k]? = some o := by
  refine (h.1.block k (Array.getElem?_eq_some_iff.1 hk).1 fun e => ?_).trans hk
  obtain ⟨o', h', hc'⟩ := h.2
  cases e
  rw [hk] at h'; cases h'; rw [hc] at hc'; cases hc'
theorem TurnsOne.cell {ob : Nat} {A B : World} (h : TurnsOne ob A B) {a : Addr} (ha : a.block < A.heap.size) (hne : a.block ≠ ob) : B.cell? a = A.cell? a :=
  World.cell?_of_block (h.1.block _ ha (fun e => hne (by cases e; rfl)))
theorem TurnsOne.below {ob n : Nat} {w A B : World} (h : TurnsOne ob A B) (hw : Below n w A) (hn : n ≤ w.heap.size) (ho : n ≤ ob) : Below n w B :=
  hw.grown h.1 (Nat.le_trans hn hw.size) (fun k e => by cases e; exact ho)
theorem KeepsSet.below {S : Nat → Prop} {n : Nat} {A B : World} (h : KeepsSet S A B) (hS : ∀ k, k < n → S k) : Below n A B := ⟨h.os, h.tape, h.output, h.size, fun k hk => h.block k (hS k hk)⟩
theorem KeepsSet.cell {S : Nat → Prop} {A B : World} (h : KeepsSet S A B) {a : Addr} (ha : S a.block) : B.cell? a = A.cell? a := World.cell?_of_block (h.block _ ha)
theorem KeepsSet.frozen {S : Nat → Prop} {A B : World} (h : KeepsSet S A B) {a : Addr} (ha : S a.block) : B.frozen? a = A.frozen? a := World.frozen?_of_block (h.block _ ha)
theorem KeepsSet.putObj {S : Nat → Prop} (W : World) (l : Nat) (o' : Obj) (hl : ¬ S l) : KeepsSet S W (W.putObj l o') :=
  ⟨(grownBy_putObj' W l o').size, rfl, rfl, rfl, fun k hk => World.putObj_heap_other (fun e => hl (e ▸ hk))⟩
theorem KeepsSet.of_below {S : Nat → Prop} {n : Nat} {A B : World} (h : Below n A B) (hS : ∀ k, S k → k < n) : KeepsSet S A B := ⟨h.size, h.os, h.tape, h.output, fun k hk => h.block k (hS k hk)⟩
theorem KeepsSet.setCell {S : Nat → Prop} (W : World) (a : Addr) (v : Value) (ha : ¬ S a.block) : KeepsSet S W (W.setCell a v) :=
  ⟨(KeepsOthers.setCell W a v).size, rfl, rfl, rfl, fun k hk => Below.heap_setCell W a v k (fun e => ha (e ▸ hk))⟩
theorem TurnsOne.setCell (W : World) (b j : Nat) (v u : Value) (h : W.cell? ⟨b, j, none⟩ = some u) : TurnsOne b W (W.setCell ⟨b, j, none⟩ v) :=
  ⟨⟨rfl, rfl, rfl, (KeepsOthers.setCell W ⟨b, j, none⟩ v).size, fun k _ hk => Below.heap_setCell W ⟨b, j, none⟩ v k (fun e => hk (by rw [e]))⟩, cells_of_cell h⟩
end Go.Proofs.Grow
