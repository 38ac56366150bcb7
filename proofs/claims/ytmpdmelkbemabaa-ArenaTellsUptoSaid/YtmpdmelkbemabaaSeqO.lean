/- Iterators and what they hand round: a ghost set O says which blocks the rounds may turn; everything else stays. -/
import Derived.Test.YtmpdmelkbemabaaApp
import Derived.RangeFuncNested
import Derived.RangeFuncBound
import Derived.RangeFuncCalls
import Derived.RangeFuncLeaves
import Derived.OwnWalkIn
import Derived.TacticsInMore
import Derived.LoopNIn
import Derived.LoopIn
set_option linter.unusedSimpArgs false
set_option linter.unusedVariables false
namespace Go.Proofs.Grow
open Go.RowKit

/-- All blocks but those of O are as they were. -/
structure KeepsBut (O : Nat → Prop) (A B : World) : Prop where
  size : A.heap.size ≤ B.heap.size
  os : B.os = A.os
  tape : B.tape = A.tape
  output : B.output = A.output
  block : ∀ k, k < A.heap.size → ¬ O k → B.heap[k]? = A.heap[k]?
/-- What an iterator that began at n0 turns by itself. -/
def Turns (n0 : Nat) (O : Nat → Prop) : World → World → Prop := KeepsBut fun k => n0 ≤ k ∧ ¬ O k
/-- A set of blocks that grew by new ones alone. -/
def SubO (O : Nat → Prop) (n : Nat) (O' : Nat → Prop) : Prop := ∀ k, O' k → O k ∨ n ≤ k

section
variable {O O1 O2 : Nat → Prop} {A B C : World} {n n0 n1 : Nat}
theorem KeepsBut.refl (O : Nat → Prop) (A : World) : KeepsBut O A A := ⟨Nat.le_refl _, rfl, rfl, rfl, fun _ _ _ => rfl⟩
theorem KeepsBut.mono (h : KeepsBut O A B) (hO : ∀ k, k < A.heap.size → O k → O1 k) : KeepsBut O1 A B := ⟨h.size, h.os, h.tape, h.output, fun k hk hn => h.block k hk (fun ho => hn (hO k hk ho))⟩
theorem KeepsBut.trans (h : KeepsBut O A B) (h2 : KeepsBut O1 B C) (hs : SubO O A.heap.size O1) : KeepsBut O A C :=
  ⟨Nat.le_trans h.size h2.size, h2.os.trans h.os, h2.tape.trans h.tape, h2.output.trans h.output, fun k hk hn =>
    (h2.block k (Nat.lt_of_lt_of_le hk h.size) (fun ho => (hs k ho).elim hn (by omega))).trans (h.block k hk hn)⟩
theorem KeepsBut.trans' (h : KeepsBut O A B) (h2 : KeepsBut O B C) : KeepsBut O A C := h.trans h2 fun _ h => .inl h
theorem KeepsBut.below (h : KeepsBut O A B) (hO : ∀ k, O k → n ≤ k) (hn : n ≤ A.heap.size) : Below n A B := ⟨h.os, h.tape, h.output, h.size, fun k hk => h.block k (by omega) (fun ho => by have := hO k ho; omega)⟩
theorem KeepsBut.of_below (h : Below A.heap.size A B) : KeepsBut O A B := ⟨h.size, h.os, h.tape, h.output, fun k hk _ => h.block k hk⟩
theorem KeepsBut.of_grown {g : Option Nat} (h : A.grownBy B g) (hg : ∀ k, g = some k → O k) : KeepsBut O A B := ⟨h.size, h.os, h.tape, h.output, fun k hk hn => h.block k hk (fun e => hn (hg k e.symm))⟩
theorem KeepsBut.cell (h : KeepsBut O A B) {a : Addr} (ha : a.block < A.heap.size) (hn : ¬ O a.block) : B.cell? a = A.cell? a := World.cell?_of_block (h.block _ ha hn)
theorem KeepsBut.frozen (h : KeepsBut O A B) {a : Addr} (ha : a.block < A.heap.size) (hn : ¬ O a.block) : B.frozen? a = A.frozen? a := World.frozen?_of_block (h.block _ ha hn)
theorem KeepsBut.alloc (A : World) (o : Obj) : KeepsBut O A (A.alloc o) := ⟨by simp, rfl, rfl, rfl, fun k hk _ => Below.heap_alloc _ _ _ hk⟩
theorem KeepsBut.drew (A : World) : KeepsBut O A A.drew := ⟨Nat.le_refl _, rfl, rfl, rfl, fun _ _ _ => rfl⟩
theorem KeepsBut.setCell (A : World) (a : Addr) (v : Value) (ha : O a.block) : KeepsBut O A (A.setCell a v) :=
  ⟨by simp [World.setCell], rfl, rfl, rfl, fun k hk hn => Below.heap_setCell A a v k (fun e => hn (e ▸ ha))⟩
theorem KeepsBut.putObj (W : World) (l : Nat) (o' : Obj) (hl : O l) : KeepsBut O W (W.putObj l o') :=
  ⟨(grownBy_putObj' W l o').size, rfl, rfl, rfl, fun k _ hk => World.putObj_heap_other (fun e => hk (e ▸ hl))⟩
theorem Turns.mono (h : Turns n O A B) (hn : n0 ≤ n) (hO : ∀ k, O1 k → O k) : Turns n0 O1 A B := KeepsBut.mono h fun k _ ⟨h1, h2⟩ => ⟨by omega, fun h => h2 (hO k h)⟩
theorem Turns.low (h : Turns n O A B) {k : Nat} (hk : k < n) (hs : k < A.heap.size) : B.heap[k]? = A.heap[k]? := h.block k hs (fun ⟨h1, _⟩ => by omega)
theorem Turns.own (h : Turns n O A B) {k : Nat} (hk : O k) (hs : k < A.heap.size) : B.heap[k]? = A.heap[k]? := h.block k hs (fun ⟨_, h2⟩ => h2 hk)
theorem SubO.refl (O : Nat → Prop) (n : Nat) : SubO O n O := fun _ h => .inl h
theorem SubO.trans (h : SubO O n O1) (h2 : SubO O1 n1 O2) (hn : n ≤ n1) : SubO O n O2 := fun k hk => (h2 k hk).elim (h k) (fun h => .inr (by omega))

theorem Turns.below (h : Turns n O A B) (hn : n0 ≤ n) (hs : n0 ≤ A.heap.size) : Below n0 A B := ⟨h.os, h.tape, h.output, h.size, fun k hk => h.low (by omega) (by omega)⟩
end

theorem YieldAt.anyDepth {m : Nat} (m' : Nat) {P : Program} {l : Nat} {args : Array Value} {W : World} {R : Ending → World → Prop} (h : YieldAt Fence.wide m P l args W R) : YieldAt Fence.wide m' P l args W R := by
  obtain ⟨fn, tmps, assign, body, hy, hR⟩ := h
  exact ⟨fn, tmps, assign, body, hy, hR.1, fun c cs _ => hR.2 c cs (fun d h => by cases h)⟩
theorem YieldAt.inRound {F : Fence} {P : Program} {m : Nat} {l : Nat} {args : Array Value} {W : World} {R : Ending → World → Prop} (l' : Nat) (h : YieldAt F m P l args W R) : YieldAt (F.inRound l') m P l args W R := h
theorem YieldAt.next {F : Fence} {P : Program} {m : Nat} {l : Nat} {args : Array Value} {W : World} {R R' : Ending → World → Prop} (h : YieldAt F m P l args W R) (hr : ∀ e w, R e w → R' e w) : YieldAt F m P l args W R' := by
  obtain ⟨fn, tmps, assign, body, hy, hR⟩ := h
  exact ⟨fn, tmps, assign, body, hy, hR.mono hr⟩

/-- What a call that hands xs round, one by one, comes to: all were taken (J), or one was the last (Jx). 'yes', 'no': what it returns. -/
def Goes {α : Type} (yes no : Ending → Prop) (J Jx : List α → (Nat → Prop) → World → Prop) (pre xs : List α) (O : Nat → Prop) (W : World) (e : Ending) (W' : World) : Prop :=
  ∃ O', SubO O W.heap.size O' ∧ KeepsBut O W W' ∧ ((yes e ∧ J (pre ++ xs) O' W') ∨ (no e ∧ ∃ q, q <+: xs ∧ Jx (pre ++ q) O' W'))
def isTrue (e : Ending) : Prop := e = .returned (.bool true)
def isFalse (e : Ending) : Prop := e = .returned (.bool false)
def isDone (e : Ending) : Prop := ∃ v, e = .returned v

/-- A caller's conditions, for xs handed round behind pre, from a world of size n0 on: what the iterator turns by itself does not matter; the blocks in O are there; the reading Rd stands; each round may be asked. -/
structure Hears {α : Type} (P : Program) (l : Nat) (encs : α → Array Value) (Rd : World → Prop) (J Jx : List α → (Nat → Prop) → World → Prop) (pre xs : List α) (n0 : Nat) : Prop where
  turn : ∀ s O A B, J s O A → Turns n0 O A B → J s O B
  turnx : ∀ s O A B, Jx s O A → Turns n0 O A B → Jx s O B
  there : ∀ s O A, J s O A → ∀ k, O k → k < A.heap.size
  read : ∀ s O A, J s O A → Rd A
  readx : ∀ s O A, Jx s O A → Rd A
  round : ∀ (m : Nat) s x O W, J (pre ++ s) O W → s ++ [x] <+: xs → YieldAt Fence.wide m P l (encs x) W (Goes isTrue isFalse J Jx (pre ++ s) [x] O W)

theorem Hears.mono {α : Type} {P : Program} {l : Nat} {encs : α → Array Value} {Rd Rd' : World → Prop} {J Jx : List α → (Nat → Prop) → World → Prop} {pre xs ys : List α} {n0 n1 : Nat} (h : Hears P l encs Rd J Jx pre xs n0) (hn : n0 ≤ n1) (hr : ∀ W, Rd W → Rd' W)
    (p : List α) (hp : p ++ ys <+: xs) : Hears P l encs Rd' J Jx (pre ++ p) ys n1 :=
  ⟨fun s O A B hJ t => h.turn s O A B hJ (t.mono hn fun _ h => h), fun s O A B hJ t => h.turnx s O A B hJ (t.mono hn fun _ h => h), h.there, fun s O A hJ => hr A (h.read s O A hJ), fun s O A hJ => hr A (h.readx s O A hJ), fun m s x O W hJ hx => by
    rw [List.append_assoc] at hJ ⊢
    refine h.round m (p ++ s) x O W hJ ?_
    rw [List.append_assoc]
    exact (List.prefix_append_right_inj p |>.2 hx).trans hp⟩

/-- A function that hands xs round, by calls of the yield it is given. -/
def Pushes {α : Type} (P : Program) (f : FuncId) (args : Value → Array Value) (encs : α → Array Value) (Rd : World → Prop) (yes no : Ending → Prop) (xs : List α) : Prop :=
  ∀ (m l : Nat) (J Jx : List α → (Nat → Prop) → World → Prop) (pre : List α) (O : Nat → Prop) (W : World), Hears P l encs Rd J Jx pre xs W.heap.size → J pre O W →
    CallsIn Fence.wide m P f (args (.func (.yield l) #[] #[])) W (Goes yes no J Jx pre xs O W)

/-- How a round's body is left. -/
def roundEndO {α : Type} (I : List α → (Nat → Prop) → World → Prop) (Ix : Code → List α → (Nat → Prop) → World → Prop) (xs : List α) (O : Nat → Prop) (W : World) : Exit → Act → World → Prop
  | .normal, _, W' => ∃ O', SubO O W.heap.size O' ∧ KeepsBut O W W' ∧ I xs O' W'
  | .ret, _, W' => ∃ O', SubO O W.heap.size O' ∧ KeepsBut O W W' ∧ Ix .ret xs O' W'
  | .exit id, _, W' => ∃ O', SubO O W.heap.size O' ∧ KeepsBut O W W' ∧ Ix (.exit id) xs O' W'
  | .goto t, _, W' => ∃ O', SubO O W.heap.size O' ∧ KeepsBut O W W' ∧ Ix (.goto t) xs O' W'
  | .panic _, _, _ => False
  | .outgrown, _, _ => False

section
variable {n : Nat} {P : Program}
/-- The law for the caller: 'for .. := range g { .. }' in a function's own frame. -/
theorem wpIn_rangeO {α : Type} {g : Operand} {ps : Array Tmp} {assign body : Code} {Q : Exit → Act → World → Prop} {a : Act} {w : World}
    {gf : Nat} {lb : Array Value} (hg : a.eval g = .func (.func gf) #[] lb) (eg : ∀ args w, (callFunc gf args).run P w = .ok (.enter gf args) w)
    {encs : α → Array Value} {Rd : World → Prop} {xs : List α} (hseq : Pushes P gf (fun y => #[y] ++ lb) encs Rd isDone isDone xs) (hps : ∀ x, (encs x).size = ps.size)
    (O0 : Nat → Prop) (I : List α → (Nat → Prop) → World → Prop) (Ix : Code → List α → (Nat → Prop) → World → Prop) (Ax : List α → α → (Nat → Prop) → Act → World → Prop)
    (hIT : ∀ s O A B, I s O A → Turns w.heap.size O A B → I s O B) (hIxT : ∀ c s O A B, Ix c s O A → Turns w.heap.size O A B → Ix c s O B) (hAT : ∀ s x O a' A B, Ax s x O a' A → Turns w.heap.size O A B → Ax s x O a' B)
    (hIO : ∀ s O A, I s O A → ∀ k, O k → k < A.heap.size) (hIR : ∀ s O A, I s O A → Rd A) (hIxR : ∀ c s O A, Ix c s O A → Rd A) (h0 : I [] O0 w)
    (hassign : ∀ (m l : Nat) (pre : List α) (x : α) (O : Nat → Prop) (W : World), w.heap.size ≤ l → l < W.heap.size → ¬ O l → I pre O W → pre ++ [x] <+: xs →
      assign.wpIn (Fence.wide.inRound l) m P (Exit.then (fun a' W' => ∃ O', SubO O W.heap.size O' ∧ KeepsBut O W W' ∧ Ax pre x O' a' W') (fun _ _ _ => False)) { tmps := (ps.zip (encs x)).foldl (fun t (p, v) => t.setIfInBounds p v) a.tmps, defers := [] } W)
    (hbody : ∀ (m l : Nat) (pre : List α) (x : α) (O : Nat → Prop) (a' : Act) (W : World), w.heap.size ≤ l → l < W.heap.size → ¬ O l → Ax pre x O a' W → pre ++ [x] <+: xs →
      body.wpIn (Fence.wide.inRound l) m P (roundEndO I Ix (pre ++ [x]) O W) a' W)
    (hdone : ∀ (O : Nat → Prop) (D : Nat) (W : World), w.heap.size ≤ D → ¬ O D → SubO O0 w.heap.size O → KeepsBut O0 w W → I xs O W → W.heap[D]? = some (.deferred (some [])) → Q .normal { a with defers := { target := .collected D, args := #[] } :: a.defers } W)
    (hstop : ∀ (O : Nat → Prop) (D : Nat) (c : Code) (pre : List α) (W : World), w.heap.size ≤ D → ¬ O D → SubO O0 w.heap.size O → KeepsBut O0 w W → pre <+: xs → Ix c pre O W → W.heap[D]? = some (.deferred (some [])) → c.wpIn Fence.wide n P Q { a with defers := { target := .collected D, args := #[] } :: a.defers } W) :
    (Code.rangeFunc g ps assign body).wpIn Fence.wide n P Q a w := by
  refine wpIn_rangeFunc fun fn hfn => ?_
  let rc : LoopState → Option Code → Loop := fun st pe => { state := st, pending := pe, fn, tmps := a.tmps, params := ps, assign, body, defers := w.heap.size }
  let l := w.heap.size + 1
  let Bk : Loop → World → Prop := fun r W => W.heap[l]? = some (.loop r) ∧ W.heap[w.heap.size]? = some (.deferred (some []))
  have bkL : ∀ r W, Bk r W → l < W.heap.size := fun r W h => (Array.getElem?_eq_some_iff.1 h.1).1
  have bkD : ∀ r W, Bk r W → w.heap.size < W.heap.size := fun r W h => (Array.getElem?_eq_some_iff.1 h.2).1
  have bkPut : ∀ r r' W, Bk r W → Bk r' (W.putObj l (.loop r')) := fun r r' W h => ⟨World.putObj_heap_same (bkL r W h), (World.putObj_heap_other (by show w.heap.size ≠ w.heap.size + 1; omega)).trans h.2⟩
  have bkK : ∀ r A B (O : Nat → Prop), Bk r A → KeepsBut O A B → ¬ O l → ¬ O w.heap.size → Bk r B := fun r A B O h k n1 n2 => ⟨(k.block l (bkL r A h) n1).trans h.1, (k.block _ (bkD r A h) n2).trans h.2⟩
  have putT : ∀ (O : Nat → Prop) W (o : Obj), ¬ O l → Turns w.heap.size O W (W.putObj l o) := fun O W o h => KeepsBut.putObj W l o ⟨by show w.heap.size ≤ w.heap.size + 1; omega, h⟩
  let W1 : World := (w.alloc (.deferred (some []))).alloc (.loop (rc .ready none))
  have hW1 : W1.heap.size = w.heap.size + 2 := by simp [W1]
  have hbk1 : Bk (rc .ready none) W1 := by
    constructor
    · have := World.alloc_heap_new (w.alloc (.deferred (some []))) (.loop (rc .ready none)); rwa [World.size_alloc] at this
    · exact (Below.heap_alloc _ _ _ (by simp)).trans (World.alloc_heap_new w _)
  have keep1 : ∀ O : Nat → Prop, KeepsBut O w W1 := fun O => (KeepsBut.alloc w _).trans' (KeepsBut.alloc _ _)
  have hO0 : ∀ k, O0 k → k < w.heap.size := hIO [] O0 w h0
  refine ⟨l, [{ target := .collected w.heap.size, args := #[] }], W1, { target := .fn (.func gf) lb, args := #[.func (.yield l) #[] #[]] }, W1, gf,
    #[.func (.yield l) #[] #[]] ++ lb, W1, run_enterLoop_outer _ _ _ _ _, ?_, ?_, ?_, fun h => (by simp [Fence.wide] at h), ?_⟩
  · simp only [resolve, hg]; simp [go_sem]
  · intro f' hf'; trivial
  · simp [invoke, go_sem, eg]
  let J : List α → (Nat → Prop) → World → Prop := fun pre O W => ∃ O1 : Nat → Prop, (O = fun k => O1 k ∨ k = l) ∧ ¬ O1 l ∧ ¬ O1 w.heap.size ∧ SubO O0 w.heap.size O1 ∧ I pre O1 W ∧ Bk (rc .ready none) W
  let Jx : List α → (Nat → Prop) → World → Prop := fun pre O W => ∃ O1 : Nat → Prop, (O = fun k => O1 k ∨ k = l) ∧ ¬ O1 l ∧ ¬ O1 w.heap.size ∧ SubO O0 w.heap.size O1 ∧ ∃ c, Ix c pre O1 W ∧ Bk (rc .done (some c)) W
  have hears : Hears P l encs Rd J Jx [] xs W1.heap.size := by
    refine ⟨?_, ?_, ?_, ?_, ?_, ?_⟩
    · rintro s O A B ⟨O1, rfl, n1, n2, hs, hi, hb⟩ t
      refine ⟨O1, rfl, n1, n2, hs, hIT s O1 A B hi (t.mono (by omega) fun _ h => .inl h), ?_⟩
      exact ⟨(t.low (by rw [hW1]; show w.heap.size + 1 < _; omega) (bkL _ _ hb)).trans hb.1, (t.low (by omega) (bkD _ _ hb)).trans hb.2⟩
    · rintro s O A B ⟨O1, rfl, n1, n2, hs, c, hi, hb⟩ t
      refine ⟨O1, rfl, n1, n2, hs, c, hIxT c s O1 A B hi (t.mono (by omega) fun _ h => .inl h), ?_⟩
      exact ⟨(t.low (by rw [hW1]; show w.heap.size + 1 < _; omega) (bkL _ _ hb)).trans hb.1, (t.low (by omega) (bkD _ _ hb)).trans hb.2⟩
    · rintro s O A ⟨O1, rfl, n1, n2, hs, hi, hb⟩ k hk
      rcases hk with hk | rfl
      · exact hIO s O1 A hi k hk
      · exact bkL _ _ hb
    · rintro s O A ⟨O1, rfl, n1, n2, hs, hi, hb⟩
      exact hIR s O1 A hi
    · rintro s O A ⟨O1, rfl, n1, n2, hs, c, hi, hb⟩
      exact hIxR c s O1 A hi
    · rintro m s x O W ⟨O1, rfl, n1, n2, hs, hi, hb⟩ hpre
      rw [List.nil_append] at hi ⊢
      refine ⟨fn, _, assign, body, run_yield hb.1 (hps x), roundIn_of_wpIn hfn ?_⟩
      refine wpIn_mono (hassign m l s x O1 W (by show w.heap.size ≤ w.heap.size + 1; omega) (bkL _ _ hb) n1 hi hpre) fun e a' W2 hp => ?_
      cases e with
      | normal =>
        obtain ⟨O2, hs2, hk2, hax⟩ := hp
        have n1' : ¬ O2 l := fun h => (hs2 l h).elim n1 (by have := bkL _ _ hb; omega)
        have n2' : ¬ O2 w.heap.size := fun h => (hs2 _ h).elim n2 (by have := bkD _ _ hb; omega)
        have hb2 := bkK _ _ _ _ hb hk2 n1 n2
        refine ⟨_, run_beginRound hb2.1 rfl, ?_⟩
        have hb3 := bkPut _ (rc .busy none) W2 hb2
        have hs3 : (W2.putObj l (.loop (rc .busy none))).heap.size = W2.heap.size := by simp [World.putObj]
        refine wpIn_mono (hbody m l s x O2 a' _ (by show w.heap.size ≤ w.heap.size + 1; omega) (bkL _ _ hb3) n1' (hAT _ _ _ _ _ _ hax (putT O2 W2 _ n1')) hpre) fun e a3 W4 hp => ?_
        have fin : ∀ (O3 : Nat → Prop), SubO O2 (W2.putObj l (.loop (rc .busy none))).heap.size O3 → KeepsBut O2 (W2.putObj l (.loop (rc .busy none))) W4 → ∀ r', Bk r' (W4.putObj l (.loop r')) ∧ ¬ O3 l ∧ ¬ O3 w.heap.size ∧ SubO O0 w.heap.size O3 ∧ Turns w.heap.size O3 W4 (W4.putObj l (.loop r')) ∧ SubO (fun k => O1 k ∨ k = l) W.heap.size (fun k => O3 k ∨ k = l) ∧ KeepsBut (fun k => O1 k ∨ k = l) W (W4.putObj l (.loop r')) ∧ Bk (rc .busy none) W4 := by
          intro O3 hs4 hk4 r'
          have hb4 := bkK _ _ _ _ hb3 hk4 n1' n2'
          have hs5 : SubO O1 W.heap.size O3 := hs2.trans hs4 (by rw [hs3]; exact hk2.size)
          have n1'' : ¬ O3 l := fun h => (hs5 l h).elim n1 (by have := bkL _ _ hb; omega)
          have n2'' : ¬ O3 w.heap.size := fun h => (hs5 _ h).elim n2 (by have := bkD _ _ hb; omega)
          refine ⟨bkPut _ r' W4 hb4, n1'', n2'', hs.trans hs5 (by have := bkD _ _ hb; omega), putT O3 W4 _ n1'', fun k hk => ?_, ?_, hb4⟩
          · rcases hk with hk | rfl
            · exact (hs5 k hk).imp .inl id
            · exact .inl (.inr rfl)
          · have k1 : KeepsBut (fun k => O1 k ∨ k = l) W W2 := hk2.mono fun k _ h => .inl h
            have k2 : KeepsBut (fun k => O1 k ∨ k = l) W2 (W2.putObj l (.loop (rc .busy none))) := KeepsBut.putObj W2 l _ (.inr rfl)
            have k4 : KeepsBut (fun k => O1 k ∨ k = l) W W4 := (k1.trans' k2).trans hk4 fun k hk => (hs2 k hk).imp .inl id
            exact k4.trans' (KeepsBut.putObj W4 l _ (.inr rfl))
        cases e with
        | normal =>
          obtain ⟨O3, hs4, hk4, hi4⟩ := hp
          obtain ⟨f1, f2, f3, f4, f5, f6, f7, f8⟩ := fin O3 hs4 hk4 (rc .ready none)
          exact ⟨_, _, run_endRound none f8.1, _, f6, f7, .inl ⟨rfl, O3, rfl, f2, f3, f4, hIT _ _ _ _ hi4 f5, f1⟩⟩
        | ret =>
          obtain ⟨O3, hs4, hk4, hi4⟩ := hp
          obtain ⟨f1, f2, f3, f4, f5, f6, f7, f8⟩ := fin O3 hs4 hk4 (rc .done (some .ret))
          exact ⟨_, _, run_endRound (some .ret) f8.1, _, f6, f7, .inr ⟨rfl, [x], List.prefix_refl _, O3, rfl, f2, f3, f4, .ret, hIxT _ _ _ _ _ hi4 f5, f1⟩⟩
        | exit id =>
          obtain ⟨O3, hs4, hk4, hi4⟩ := hp
          obtain ⟨f1, f2, f3, f4, f5, f6, f7, f8⟩ := fin O3 hs4 hk4 (rc .done (some (.exit id)))
          exact ⟨_, _, run_endRound (some (.exit id)) f8.1, _, f6, f7, .inr ⟨rfl, [x], List.prefix_refl _, O3, rfl, f2, f3, f4, .exit id, hIxT _ _ _ _ _ hi4 f5, f1⟩⟩
        | goto t =>
          obtain ⟨O3, hs4, hk4, hi4⟩ := hp
          obtain ⟨f1, f2, f3, f4, f5, f6, f7, f8⟩ := fin O3 hs4 hk4 (rc .done (some (.goto t)))
          exact ⟨_, _, run_endRound (some (.goto t)) f8.1, _, f6, f7, .inr ⟨rfl, [x], List.prefix_refl _, O3, rfl, f2, f3, f4, .goto t, hIxT _ _ _ _ _ hi4 f5, f1⟩⟩
        | panic ch => exact hp.elim
        | outgrown => exact hp.elim
      | _ => exact hp.elim
  have hJ0 : J [] (fun k => O0 k ∨ k = l) W1 := ⟨O0, rfl, fun h => (by have := hO0 _ h; show False; have : l = w.heap.size + 1 := rfl; omega), fun h => (by have := hO0 _ h; omega), SubO.refl _ _, hIT _ _ _ _ h0 (keep1 _), hbk1⟩
  have last : ∀ W2, KeepsBut (fun k => O0 k ∨ k = l) W1 W2 → ∀ r', KeepsBut O0 w (W2.putObj l (.loop r')) := fun W2 hk r' => by
    have k1 : KeepsBut O0 w W2 := ⟨Nat.le_trans (keep1 O0).size hk.size, hk.os.trans (keep1 O0).os, hk.tape.trans (keep1 O0).tape, hk.output.trans (keep1 O0).output, fun k h1 h2 =>
      (hk.block k (by omega) (fun h => h.elim h2 (by show k = w.heap.size + 1 → False; omega))).trans ((keep1 O0).block k h1 h2)⟩
    refine ⟨Nat.le_trans k1.size (by simp [World.putObj]), k1.os, k1.tape, k1.output, fun k h1 h2 => (World.putObj_heap_other (by show k ≠ w.heap.size + 1; omega)).trans (k1.block k h1 h2)⟩
  refine (hseq _ l J Jx [] _ W1 hears hJ0).mono ?_
  rintro e W2 ⟨O2, hs2, hk2, ⟨⟨v, rfl⟩, O3, rfl, n1, n2, hs3, hi, hb⟩ | ⟨⟨v, rfl⟩, q, hq, O3, rfl, n1, n2, hs3, c, hi, hb⟩⟩
  · rw [List.nil_append] at hi
    exact ⟨none, _, run_endLoop hb.1 (by simp [rc]), hdone O3 _ _ (Nat.le_refl _) n2 hs3 (last W2 hk2 _) (hIT _ _ _ _ hi (putT O3 W2 _ n1)) (bkPut _ _ W2 hb).2⟩
  · rw [List.nil_append] at hi
    exact ⟨some c, _, run_endLoop hb.1 (by simp [rc]), hstop O3 _ c q _ (Nat.le_refl _) n2 hs3 (last W2 hk2 _) hq (hIxT _ _ _ _ _ hi (putT O3 W2 _ n1)) (bkPut _ _ W2 hb).2⟩

/-- The same; a round in one walk: the assignment, then (G: what the body's walk starts from) the body. -/
theorem wpIn_rangeR {α : Type} {g : Operand} {ps : Array Tmp} {assign body : Code} {Q : Exit → Act → World → Prop} {a : Act} {w : World}
    {gf : Nat} {lb : Array Value} (hg : a.eval g = .func (.func gf) #[] lb) (eg : ∀ args w, (callFunc gf args).run P w = .ok (.enter gf args) w)
    {encs : α → Array Value} {Rd : World → Prop} {xs : List α} (hseq : Pushes P gf (fun y => #[y] ++ lb) encs Rd isDone isDone xs) (hps : ∀ x, (encs x).size = ps.size)
    (O0 : Nat → Prop) (I : List α → (Nat → Prop) → World → Prop) (Ix : Code → List α → (Nat → Prop) → World → Prop)
    (hIT : ∀ s O A B, I s O A → Turns w.heap.size O A B → I s O B) (hIxT : ∀ c s O A B, Ix c s O A → Turns w.heap.size O A B → Ix c s O B)
    (hIO : ∀ s O A, I s O A → ∀ k, O k → k < A.heap.size) (hIR : ∀ s O A, I s O A → Rd A) (hIxR : ∀ c s O A, Ix c s O A → Rd A) (h0 : I [] O0 w)
    (hround : ∀ (m l : Nat) (pre : List α) (x : α) (O : Nat → Prop) (W : World), w.heap.size ≤ l → l < W.heap.size → ¬ O l → I pre O W → pre ++ [x] <+: xs →
      assign.wpIn (Fence.wide.inRound l) m P (Exit.then (fun a' W' => ∃ O', SubO O W.heap.size O' ∧ KeepsBut O W W' ∧ ∃ G : World → Prop, (∀ A B, G A → Turns w.heap.size O' A B → G B) ∧ G W' ∧
        ∀ (m l : Nat) (W2 : World), w.heap.size ≤ l → l < W2.heap.size → ¬ O' l → G W2 → body.wpIn (Fence.wide.inRound l) m P (roundEndO I Ix (pre ++ [x]) O' W2) a' W2) (fun _ _ _ => False)) { tmps := (ps.zip (encs x)).foldl (fun t (p, v) => t.setIfInBounds p v) a.tmps, defers := [] } W)
    (hdone : ∀ (O : Nat → Prop) (D : Nat) (W : World), w.heap.size ≤ D → ¬ O D → SubO O0 w.heap.size O → KeepsBut O0 w W → I xs O W → W.heap[D]? = some (.deferred (some [])) → Q .normal { a with defers := { target := .collected D, args := #[] } :: a.defers } W)
    (hstop : ∀ (O : Nat → Prop) (D : Nat) (c : Code) (pre : List α) (W : World), w.heap.size ≤ D → ¬ O D → SubO O0 w.heap.size O → KeepsBut O0 w W → pre <+: xs → Ix c pre O W → W.heap[D]? = some (.deferred (some [])) → c.wpIn Fence.wide n P Q { a with defers := { target := .collected D, args := #[] } :: a.defers } W) :
    (Code.rangeFunc g ps assign body).wpIn Fence.wide n P Q a w :=
  wpIn_rangeO hg eg hseq hps O0 I Ix
    (fun pre x O' a' W => ∃ G : World → Prop, (∀ A B, G A → Turns w.heap.size O' A B → G B) ∧ G W ∧ ∀ (m l : Nat) (W2 : World), w.heap.size ≤ l → l < W2.heap.size → ¬ O' l → G W2 → body.wpIn (Fence.wide.inRound l) m P (roundEndO I Ix (pre ++ [x]) O' W2) a' W2)
    hIT hIxT (fun s x O a' A B ⟨G, h1, h2, h3⟩ t => ⟨G, h1, h1 A B h2 t, h3⟩) hIO hIR hIxR h0 hround
    (fun m l pre x O a' W hl hlt hO ⟨G, h1, h2, h3⟩ hpre => h3 m l W hl hlt hO h2) hdone hstop
end
end Go.Proofs.Grow
