/- A region that draws its order, inside a fence: operations that yield under a condition S on the world are taken first; S holds behind every operation. -/
import Derived.Test.YtmpdmelkbemabaaGreatApp
import Derived.RangeFuncNested
import Derived.RangeFuncBound
import Derived.RangeFuncCalls
import Derived.RangeFuncLeaves
import Derived.OwnWalkIn
import Derived.TacticsInMore
import Derived.LoopNIn
import Derived.LoopIn
import Derived.OrdersIn
import Derived.OrdersHeld
import Derived.Deep.MidRow
set_option linter.unusedSimpArgs false
set_option linter.unusedVariables false
namespace Go.Proofs.Grow
open Go.RowKit

/-- All blocks but those of O are as they were. -/
structure KeepsBut (O : Nat → Prop) (A B : World) : Prop where
  size : A.heap.size ≤ B.heap.size
  os : B.os = A.os
  tape : B.tape = A.tape
  output : B.output = A.output
  block : ∀ k, k < A.heap.size → ¬ O k → B.heap[k]? = A.heap[k]?
/-- What an iterator that began at n0 turns by itself. -/
def Turns (n0 : Nat) (O : Nat → Prop) : World → World → Prop := KeepsBut fun k => n0 ≤ k ∧ ¬ O k
/-- A set of blocks that grew by new ones alone. -/
def SubO (O : Nat → Prop) (n : Nat) (O' : Nat → Prop) : Prop := ∀ k, O' k → O k ∨ n ≤ k

section
variable {O O1 O2 : Nat → Prop} {A B C : World} {n n0 n1 : Nat}
theorem KeepsBut.refl (O : Nat → Prop) (A : World) : KeepsBut O A A := ⟨Nat.le_refl _, rfl, rfl, rfl, fun _ _ _ => rfl⟩
theorem KeepsBut.mono (h : KeepsBut O A B) (hO : ∀ k, k < A.heap.size → O k → O1 k) : KeepsBut O1 A B := ⟨h.size, h.os, h.tape, h.output, fun k hk hn => h.block k hk (fun ho => hn (hO k hk ho))⟩
theorem KeepsBut.trans (h : KeepsBut O A B) (h2 : KeepsBut O1 B C) (hs : SubO O A.heap.size O1) : KeepsBut O A C :=
  ⟨Nat.le_trans h.size h2.size, h2.os.trans h.os, h2.tape.trans h.tape, h2.output.trans h.output, fun k hk hn =>
    (h2.block k (Nat.lt_of_lt_of_le hk h.size) (fun ho => (hs k ho).elim hn (by omega))).trans (h.block k hk hn)⟩
theorem KeepsBut.trans' (h : KeepsBut O A B) (h2 : KeepsBut O B C) : KeepsBut O A C := h.trans h2 fun _ h => .inl h
theorem KeepsBut.below (h : KeepsBut O A B) (hO : ∀ k, O k → n ≤ k) (hn : n ≤ A.heap.size) : Below n A B := ⟨h.os, h.tape, h.output, h.size, fun k hk => h.block k (by omega) (fun ho => by have := hO k ho; omega)⟩
theorem KeepsBut.of_below (h : Below A.heap.size A B) : KeepsBut O A B := ⟨h.size, h.os, h.tape, h.output, fun k hk _ => h.block k hk⟩
theorem KeepsBut.of_grown {g : Option Nat} (h : A.grownBy B g) (hg : ∀ k, g = some k → O k) : KeepsBut O A B := ⟨h.size, h.os, h.tape, h.output, fun k hk hn => h.block k hk (fun e => hn (hg k e.symm))⟩
theorem KeepsBut.cell (h : KeepsBut O A B) {a : Addr} (ha : a.block < A.heap.size) (hn : ¬ O a.block) : B.cell? a = A.cell? a := World.cell?_of_block (h.block _ ha hn)
theorem KeepsBut.frozen (h : KeepsBut O A B) {a : Addr} (ha : a.block < A.heap.size) (hn : ¬ O a.block) : B.frozen? a = A.frozen? a := World.frozen?_of_block (h.block _ ha hn)
theorem KeepsBut.alloc (A : World) (o : Obj) : KeepsBut O A (A.alloc o) := ⟨by simp, rfl, rfl, rfl, fun k hk _ => Below.heap_alloc _ _ _ hk⟩
theorem KeepsBut.drew (A : World) : KeepsBut O A A.drew := ⟨Nat.le_refl _, rfl, rfl, rfl, fun _ _ _ => rfl⟩
theorem KeepsBut.setCell (A : World) (a : Addr) (v : Value) (ha : O a.block) : KeepsBut O A (A.setCell a v) :=
  ⟨by simp [World.setCell], rfl, rfl, rfl, fun k hk hn => Below.heap_setCell A a v k (fun e => hn (e ▸ ha))⟩
theorem KeepsBut.putObj (W : World) (l : Nat) (o' : Obj) (hl : O l) : KeepsBut O W (W.putObj l o') :=
  ⟨(grownBy_putObj' W l o').size, rfl, rfl, rfl, fun k _ hk => World.putObj_heap_other (fun e => hk (e ▸ hl))⟩
theorem Turns.mono (h : Turns n O A B) (hn : n0 ≤ n) (hO : ∀ k, O1 k → O k) : Turns n0 O1 A B := KeepsBut.mono h fun k _ ⟨h1, h2⟩ => ⟨by omega, fun h => h2 (hO k h)⟩
theorem Turns.low (h : Turns n O A B) {k : Nat} (hk : k < n) (hs : k < A.heap.size) : B.heap[k]? = A.heap[k]? := h.block k hs (fun ⟨h1, _⟩ => by omega)
theorem Turns.own (h : Turns n O A B) {k : Nat} (hk : O k) (hs : k < A.heap.size) : B.heap[k]? = A.heap[k]? := h.block k hs (fun ⟨_, h2⟩ => h2 hk)
theorem SubO.refl (O : Nat → Prop) (n : Nat) : SubO O n O := fun _ h => .inl h
theorem SubO.trans (h : SubO O n O1) (h2 : SubO O1 n1 O2) (hn : n ≤ n1) : SubO O n O2 := fun k hk => (h2 k hk).elim (h k) (fun h => .inr (by omega))

theorem Turns.below (h : Turns n O A B) (hn : n0 ≤ n) (hs : n0 ≤ A.heap.size) : Below n0 A B := ⟨h.os, h.tape, h.output, h.size, fun k hk => h.low (by omega) (by omega)⟩
end

theorem YieldAt.anyDepth {m : Nat} (m' : Nat) {P : Program} {l : Nat} {args : Array Value} {W : World} {R : Ending → World → Prop} (h : YieldAt Fence.wide m P l args W R) : YieldAt Fence.wide m' P l args W R := by
  obtain ⟨fn, tmps, assign, body, hy, hR⟩ := h
  exact ⟨fn, tmps, assign, body, hy, hR.1, fun c cs _ => hR.2 c cs (fun d h => by cases h)⟩
theorem YieldAt.inRound {F : Fence} {P : Program} {m : Nat} {l : Nat} {args : Array Value} {W : World} {R : Ending → World → Prop} (l' : Nat) (h : YieldAt F m P l args W R) : YieldAt (F.inRound l') m P l args W R := h
theorem YieldAt.next {F : Fence} {P : Program} {m : Nat} {l : Nat} {args : Array Value} {W : World} {R R' : Ending → World → Prop} (h : YieldAt F m P l args W R) (hr : ∀ e w, R e w → R' e w) : YieldAt F m P l args W R' := by
  obtain ⟨fn, tmps, assign, body, hy, hR⟩ := h
  exact ⟨fn, tmps, assign, body, hy, hR.mono hr⟩

/-- What a call that hands xs round, one by one, comes to: all were taken (J), or one was the last (Jx). 'yes', 'no': what it returns. -/
def Goes {α : Type} (yes no : Ending → Prop) (J Jx : List α → (Nat → Prop) → World → Prop) (pre xs : List α) (O : Nat → Prop) (W : World) (e : Ending) (W' : World) : Prop :=
  ∃ O', SubO O W.heap.size O' ∧ KeepsBut O W W' ∧ ((yes e ∧ J (pre ++ xs) O' W') ∨ (no e ∧ ∃ q, q <+: xs ∧ Jx (pre ++ q) O' W'))
def isTrue (e : Ending) : Prop := e = .returned (.bool true)
def isFalse (e : Ending) : Prop := e = .returned (.bool false)
def isDone (e : Ending) : Prop := ∃ v, e = .returned v

/-- A caller's conditions, for xs handed round behind pre, from a world of size n0 on: what the iterator turns by itself does not matter; the blocks in O are there; the reading Rd stands; each round may be asked. -/
structure Hears {α : Type} (P : Program) (l : Nat) (encs : α → Array Value) (Rd : World → Prop) (J Jx : List α → (Nat → Prop) → World → Prop) (pre xs : List α) (n0 : Nat) : Prop where
  turn : ∀ s O A B, J s O A → Turns n0 O A B → J s O B
  turnx : ∀ s O A B, Jx s O A → Turns n0 O A B → Jx s O B
  there : ∀ s O A, J s O A → ∀ k, O k → k < A.heap.size
  read : ∀ s O A, J s O A → Rd A
  readx : ∀ s O A, Jx s O A → Rd A
  round : ∀ (m : Nat) s x O W, J (pre ++ s) O W → s ++ [x] <+: xs → YieldAt Fence.wide m P l (encs x) W (Goes isTrue isFalse J Jx (pre ++ s) [x] O W)

theorem Hears.mono {α : Type} {P : Program} {l : Nat} {encs : α → Array Value} {Rd Rd' : World → Prop} {J Jx : List α → (Nat → Prop) → World → Prop} {pre xs ys : List α} {n0 n1 : Nat} (h : Hears P l encs Rd J Jx pre xs n0) (hn : n0 ≤ n1) (hr : ∀ W, Rd W → Rd' W)
    (p : List α) (hp : p ++ ys <+: xs) : Hears P l encs Rd' J Jx (pre ++ p) ys n1 :=
  ⟨fun s O A B hJ t => h.turn s O A B hJ (t.mono hn fun _ h => h), fun s O A B hJ t => h.turnx s O A B hJ (t.mono hn fun _ h => h), h.there, fun s O A hJ => hr A (h.read s O A hJ), fun s O A hJ => hr A (h.readx s O A hJ), fun m s x O W hJ hx => by
    rw [List.append_assoc] at hJ ⊢
    refine h.round m (p ++ s) x O W hJ ?_
    rw [List.append_assoc]
    exact (List.prefix_append_right_inj p |>.2 hx).trans hp⟩

/-- A function that hands xs round, by calls of the yield it is given. -/
def Pushes {α : Type} (P : Program) (f : FuncId) (args : Value → Array Value) (encs : α → Array Value) (Rd : World → Prop) (yes no : Ending → Prop) (xs : List α) : Prop :=
  ∀ (m l : Nat) (J Jx : List α → (Nat → Prop) → World → Prop) (pre : List α) (O : Nat → Prop) (W : World), Hears P l encs Rd J Jx pre xs W.heap.size → J pre O W →
    CallsIn Fence.wide m P f (args (.func (.yield l) #[] #[])) W (Goes yes no J Jx pre xs O W)

/-- How a round's body is left. -/
def roundEndO {α : Type} (I : List α → (Nat → Prop) → World → Prop) (Ix : Code → List α → (Nat → Prop) → World → Prop) (xs : List α) (O : Nat → Prop) (W : World) : Exit → Act → World → Prop
  | .normal, _, W' => ∃ O', SubO O W.heap.size O' ∧ KeepsBut O W W' ∧ I xs O' W'
  | .ret, _, W' => ∃ O', SubO O W.heap.size O' ∧ KeepsBut O W W' ∧ Ix .ret xs O' W'
  | .exit id, _, W' => ∃ O', SubO O W.heap.size O' ∧ KeepsBut O W W' ∧ Ix (.exit id) xs O' W'
  | .goto t, _, W' => ∃ O', SubO O W.heap.size O' ∧ KeepsBut O W W' ∧ Ix (.goto t) xs O' W'
  | .panic _, _, _ => False
  | .outgrown, _, _ => False

section
variable {n : Nat} {P : Program}
/-- The law for the caller: 'for .. := range g { .. }' in a function's own frame. -/
theorem wpIn_rangeO {α : Type} {g : Operand} {ps : Array Tmp} {assign body : Code} {Q : Exit → Act → World → Prop} {a : Act} {w : World}
    {gf : Nat} {lb : Array Value} (hg : a.eval g = .func (.func gf) #[] lb) (eg : ∀ args w, (callFunc gf args).run P w = .ok (.enter gf args) w)
    {encs : α → Array Value} {Rd : World → Prop} {xs : List α} (hseq : Pushes P gf (fun y => #[y] ++ lb) encs Rd isDone isDone xs) (hps : ∀ x, (encs x).size = ps.size)
    (O0 : Nat → Prop) (I : List α → (Nat → Prop) → World → Prop) (Ix : Code → List α → (Nat → Prop) → World → Prop) (Ax : List α → α → (Nat → Prop) → Act → World → Prop)
    (hIT : ∀ s O A B, I s O A → Turns w.heap.size O A B → I s O B) (hIxT : ∀ c s O A B, Ix c s O A → Turns w.heap.size O A B → Ix c s O B) (hAT : ∀ s x O a' A B, Ax s x O a' A → Turns w.heap.size O A B → Ax s x O a' B)
    (hIO : ∀ s O A, I s O A → ∀ k, O k → k < A.heap.size) (hIR : ∀ s O A, I s O A → Rd A) (hIxR : ∀ c s O A, Ix c s O A → Rd A) (h0 : I [] O0 w)
    (hassign : ∀ (m l : Nat) (pre : List α) (x : α) (O : Nat → Prop) (W : World), w.heap.size ≤ l → l < W.heap.size → ¬ O l → I pre O W → pre ++ [x] <+: xs →
      assign.wpIn (Fence.wide.inRound l) m P (Exit.then (fun a' W' => ∃ O', SubO O W.heap.size O' ∧ KeepsBut O W W' ∧ Ax pre x O' a' W') (fun _ _ _ => False)) { tmps := (ps.zip (encs x)).foldl (fun t (p, v) => t.setIfInBounds p v) a.tmps, defers := [] } W)
    (hbody : ∀ (m l : Nat) (pre : List α) (x : α) (O : Nat → Prop) (a' : Act) (W : World), w.heap.size ≤ l → l < W.heap.size → ¬ O l → Ax pre x O a' W → pre ++ [x] <+: xs →
      body.wpIn (Fence.wide.inRound l) m P (roundEndO I Ix (pre ++ [x]) O W) a' W)
    (hdone : ∀ (O : Nat → Prop) (D : Nat) (W : World), w.heap.size ≤ D → ¬ O D → SubO O0 w.heap.size O → KeepsBut O0 w W → I xs O W → W.heap[D]? = some (.deferred (some [])) → Q .normal { a with defers := { target := .collected D, args := #[] } :: a.defers } W)
    (hstop : ∀ (O : Nat → Prop) (D : Nat) (c : Code) (pre : List α) (W : World), w.heap.size ≤ D → ¬ O D → SubO O0 w.heap.size O → KeepsBut O0 w W → pre <+: xs → Ix c pre O W → W.heap[D]? = some (.deferred (some [])) → c.wpIn Fence.wide n P Q { a with defers := { target := .collected D, args := #[] } :: a.defers } W) :
    (Code.rangeFunc g ps assign body).wpIn Fence.wide n P Q a w := by
  refine wpIn_rangeFunc fun fn hfn => ?_
  let rc : LoopState → Option Code → Loop := fun st pe => { state := st, pending := pe, fn, tmps := a.tmps, params := ps, assign, body, defers := w.heap.size }
  let l := w.heap.size + 1
  let Bk : Loop → World → Prop := fun r W => W.heap[l]? = some (.loop r) ∧ W.heap[w.heap.size]? = some (.deferred (some []))
  have bkL : ∀ r W, Bk r W → l < W.heap.size := fun r W h => (Array.getElem?_eq_some_iff.1 h.1).1
  have bkD : ∀ r W, Bk r W → w.heap.size < W.heap.size := fun r W h => (Array.getElem?_eq_some_iff.1 h.2).1
  have bkPut : ∀ r r' W, Bk r W → Bk r' (W.putObj l (.loop r')) := fun r r' W h => ⟨World.putObj_heap_same (bkL r W h), (World.putObj_heap_other (by show w.heap.size ≠ w.heap.size + 1; omega)).trans h.2⟩
  have bkK : ∀ r A B (O : Nat → Prop), Bk r A → KeepsBut O A B → ¬ O l → ¬ O w.heap.size → Bk r B := fun r A B O h k n1 n2 => ⟨(k.block l (bkL r A h) n1).trans h.1, (k.block _ (bkD r A h) n2).trans h.2⟩
  have putT : ∀ (O : Nat → Prop) W (o : Obj), ¬ O l → Turns w.heap.size O W (W.putObj l o) := fun O W o h => KeepsBut.putObj W l o ⟨by show w.heap.size ≤ w.heap.size + 1; omega, h⟩
  let W1 : World := (w.alloc (.deferred (some []))).alloc (.loop (rc .ready none))
  have hW1 : W1.heap.size = w.heap.size + 2 := by simp [W1]
  have hbk1 : Bk (rc .ready none) W1 := by
    constructor
    · have := World.alloc_heap_new (w.alloc (.deferred (some []))) (.loop (rc .ready none)); rwa [World.size_alloc] at this
    · exact (Below.heap_alloc _ _ _ (by simp)).trans (World.alloc_heap_new w _)
  have keep1 : ∀ O : Nat → Prop, KeepsBut O w W1 := fun O => (KeepsBut.alloc w _).trans' (KeepsBut.alloc _ _)
  have hO0 : ∀ k, O0 k → k < w.heap.size := hIO [] O0 w h0
  refine ⟨l, [{ target := .collected w.heap.size, args := #[] }], W1, { target := .fn (.func gf) lb, args := #[.func (.yield l) #[] #[]] }, W1, gf,
    #[.func (.yield l) #[] #[]] ++ lb, W1, run_enterLoop_outer _ _ _ _ _, ?_, ?_, ?_, fun h => (by simp [Fence.wide] at h), ?_⟩
  · simp only [resolve, hg]; simp [go_sem]
  · intro f' hf'; trivial
  · simp [invoke, go_sem, eg]
  let J : List α → (Nat → Prop) → World → Prop := fun pre O W => ∃ O1 : Nat → Prop, (O = fun k => O1 k ∨ k = l) ∧ ¬ O1 l ∧ ¬ O1 w.heap.size ∧ SubO O0 w.heap.size O1 ∧ I pre O1 W ∧ Bk (rc .ready none) W
  let Jx : List α → (Nat → Prop) → World → Prop := fun pre O W => ∃ O1 : Nat → Prop, (O = fun k => O1 k ∨ k = l) ∧ ¬ O1 l ∧ ¬ O1 w.heap.size ∧ SubO O0 w.heap.size O1 ∧ ∃ c, Ix c pre O1 W ∧ Bk (rc .done (some c)) W
  have hears : Hears P l encs Rd J Jx [] xs W1.heap.size := by
    refine ⟨?_, ?_, ?_, ?_, ?_, ?_⟩
    · rintro s O A B ⟨O1, rfl, n1, n2, hs, hi, hb⟩ t
      refine ⟨O1, rfl, n1, n2, hs, hIT s O1 A B hi (t.mono (by omega) fun _ h => .inl h), ?_⟩
      exact ⟨(t.low (by rw [hW1]; show w.heap.size + 1 < _; omega) (bkL _ _ hb)).trans hb.1, (t.low (by omega) (bkD _ _ hb)).trans hb.2⟩
    · rintro s O A B ⟨O1, rfl, n1, n2, hs, c, hi, hb⟩ t
      refine ⟨O1, rfl, n1, n2, hs, c, hIxT c s O1 A B hi (t.mono (by omega) fun _ h => .inl h), ?_⟩
      exact ⟨(t.low (by rw [hW1]; show w.heap.size + 1 < _; omega) (bkL _ _ hb)).trans hb.1, (t.low (by omega) (bkD _ _ hb)).trans hb.2⟩
    · rintro s O A ⟨O1, rfl, n1, n2, hs, hi, hb⟩ k hk
      rcases hk with hk | rfl
      · exact hIO s O1 A hi k hk
      · exact bkL _ _ hb
    · rintro s O A ⟨O1, rfl, n1, n2, hs, hi, hb⟩
      exact hIR s O1 A hi
    · rintro s O A ⟨O1, rfl, n1, n2, hs, c, hi, hb⟩
      exact hIxR c s O1 A hi
    · rintro m s x O W ⟨O1, rfl, n1, n2, hs, hi, hb⟩ hpre
      rw [List.nil_append] at hi ⊢
      refine ⟨fn, _, assign, body, run_yield hb.1 (hps x), roundIn_of_wpIn hfn ?_⟩
      refine wpIn_mono (hassign m l s x O1 W (by show w.heap.size ≤ w.heap.size + 1; omega) (bkL _ _ hb) n1 hi hpre) fun e a' W2 hp => ?_
      cases e with
      | normal =>
        obtain ⟨O2, hs2, hk2, hax⟩ := hp
        have n1' : ¬ O2 l := fun h => (hs2 l h).elim n1 (by have := bkL _ _ hb; omega)
        have n2' : ¬ O2 w.heap.size := fun h => (hs2 _ h).elim n2 (by have := bkD _ _ hb; omega)
        have hb2 := bkK _ _ _ _ hb hk2 n1 n2
        refine ⟨_, run_beginRound hb2.1 rfl, ?_⟩
        have hb3 := bkPut _ (rc .busy none) W2 hb2
        have hs3 : (W2.putObj l (.loop (rc .busy none))).heap.size = W2.heap.size := by simp [World.putObj]
        refine wpIn_mono (hbody m l s x O2 a' _ (by show w.heap.size ≤ w.heap.size + 1; omega) (bkL _ _ hb3) n1' (hAT _ _ _ _ _ _ hax (putT O2 W2 _ n1')) hpre) fun e a3 W4 hp => ?_
        have fin : ∀ (O3 : Nat → Prop), SubO O2 (W2.putObj l (.loop (rc .busy none))).heap.size O3 → KeepsBut O2 (W2.putObj l (.loop (rc .busy none))) W4 → ∀ r', Bk r' (W4.putObj l (.loop r')) ∧ ¬ O3 l ∧ ¬ O3 w.heap.size ∧ SubO O0 w.heap.size O3 ∧ Turns w.heap.size O3 W4 (W4.putObj l (.loop r')) ∧ SubO (fun k => O1 k ∨ k = l) W.heap.size (fun k => O3 k ∨ k = l) ∧ KeepsBut (fun k => O1 k ∨ k = l) W (W4.putObj l (.loop r')) ∧ Bk (rc .busy none) W4 := by
          intro O3 hs4 hk4 r'
          have hb4 := bkK _ _ _ _ hb3 hk4 n1' n2'
          have hs5 : SubO O1 W.heap.size O3 := hs2.trans hs4 (by rw [hs3]; exact hk2.size)
          have n1'' : ¬ O3 l := fun h => (hs5 l h).elim n1 (by have := bkL _ _ hb; omega)
          have n2'' : ¬ O3 w.heap.size := fun h => (hs5 _ h).elim n2 (by have := bkD _ _ hb; omega)
          refine ⟨bkPut _ r' W4 hb4, n1'', n2'', hs.trans hs5 (by have := bkD _ _ hb; omega), putT O3 W4 _ n1'', fun k hk => ?_, ?_, hb4⟩
          · rcases hk with hk | rfl
            · exact (hs5 k hk).imp .inl id
            · exact .inl (.inr rfl)
          · have k1 : KeepsBut (fun k => O1 k ∨ k = l) W W2 := hk2.mono fun k _ h => .inl h
            have k2 : KeepsBut (fun k => O1 k ∨ k = l) W2 (W2.putObj l (.loop (rc .busy none))) := KeepsBut.putObj W2 l _ (.inr rfl)
            have k4 : KeepsBut (fun k => O1 k ∨ k = l) W W4 := (k1.trans' k2).trans hk4 fun k hk => (hs2 k hk).imp .inl id
            exact k4.trans' (KeepsBut.putObj W4 l _ (.inr rfl))
        cases e with
        | normal =>
          obtain ⟨O3, hs4, hk4, hi4⟩ := hp
          obtain ⟨f1, f2, f3, f4, f5, f6, f7, f8⟩ := fin O3 hs4 hk4 (rc .ready none)
          exact ⟨_, _, run_endRound none f8.1, _, f6, f7, .inl ⟨rfl, O3, rfl, f2, f3, f4, hIT _ _ _ _ hi4 f5, f1⟩⟩
        | ret =>
          obtain ⟨O3, hs4, hk4, hi4⟩ := hp
          obtain ⟨f1, f2, f3, f4, f5, f6, f7, f8⟩ := fin O3 hs4 hk4 (rc .done (some .ret))
          exact ⟨_, _, run_endRound (some .ret) f8.1, _, f6, f7, .inr ⟨rfl, [x], List.prefix_refl _, O3, rfl, f2, f3, f4, .ret, hIxT _ _ _ _ _ hi4 f5, f1⟩⟩
        | exit id =>
          obtain ⟨O3, hs4, hk4, hi4⟩ := hp
          obtain ⟨f1, f2, f3, f4, f5, f6, f7, f8⟩ := fin O3 hs4 hk4 (rc .done (some (.exit id)))
          exact ⟨_, _, run_endRound (some (.exit id)) f8.1, _, f6, f7, .inr ⟨rfl, [x], List.prefix_refl _, O3, rfl, f2, f3, f4, .exit id, hIxT _ _ _ _ _ hi4 f5, f1⟩⟩
        | goto t =>
          obtain ⟨O3, hs4, hk4, hi4⟩ := hp
          obtain ⟨f1, f2, f3, f4, f5, f6, f7, f8⟩ := fin O3 hs4 hk4 (rc .done (some (.goto t)))
          exact ⟨_, _, run_endRound (some (.goto t)) f8.1, _, f6, f7, .inr ⟨rfl, [x], List.prefix_refl _, O3, rfl, f2, f3, f4, .goto t, hIxT _ _ _ _ _ hi4 f5, f1⟩⟩
        | panic ch => exact hp.elim
        | outgrown => exact hp.elim
      | _ => exact hp.elim
  have hJ0 : J [] (fun k => O0 k ∨ k = l) W1 := ⟨O0, rfl, fun h => (by have := hO0 _ h; show False; have : l = w.heap.size + 1 := rfl; omega), fun h => (by have := hO0 _ h; omega), SubO.refl _ _, hIT _ _ _ _ h0 (keep1 _), hbk1⟩
  have last : ∀ W2, KeepsBut (fun k => O0 k ∨ k = l) W1 W2 → ∀ r', KeepsBut O0 w (W2.putObj l (.loop r')) := fun W2 hk r' => by
    have k1 : KeepsBut O0 w W2 := ⟨Nat.le_trans (keep1 O0).size hk.size, hk.os.trans (keep1 O0).os, hk.tape.trans (keep1 O0).tape, hk.output.trans (keep1 O0).output, fun k h1 h2 =>
      (hk.block k (by omega) (fun h => h.elim h2 (by show k = w.heap.size + 1 → False; omega))).trans ((keep1 O0).block k h1 h2)⟩
    refine ⟨Nat.le_trans k1.size (by simp [World.putObj]), k1.os, k1.tape, k1.output, fun k h1 h2 => (World.putObj_heap_other (by show k ≠ w.heap.size + 1; omega)).trans (k1.block k h1 h2)⟩
  refine (hseq _ l J Jx [] _ W1 hears hJ0).mono ?_
  rintro e W2 ⟨O2, hs2, hk2, ⟨⟨v, rfl⟩, O3, rfl, n1, n2, hs3, hi, hb⟩ | ⟨⟨v, rfl⟩, q, hq, O3, rfl, n1, n2, hs3, c, hi, hb⟩⟩
  · rw [List.nil_append] at hi
    exact ⟨none, _, run_endLoop hb.1 (by simp [rc]), hdone O3 _ _ (Nat.le_refl _) n2 hs3 (last W2 hk2 _) (hIT _ _ _ _ hi (putT O3 W2 _ n1)) (bkPut _ _ W2 hb).2⟩
  · rw [List.nil_append] at hi
    exact ⟨some c, _, run_endLoop hb.1 (by simp [rc]), hstop O3 _ c q _ (Nat.le_refl _) n2 hs3 (last W2 hk2 _) hq (hIxT _ _ _ _ _ hi (putT O3 W2 _ n1)) (bkPut _ _ W2 hb).2⟩

/-- The same; a round in one walk: the assignment, then (G: what the body's walk starts from) the body. -/
theorem wpIn_rangeR {α : Type} {g : Operand} {ps : Array Tmp} {assign body : Code} {Q : Exit → Act → World → Prop} {a : Act} {w : World}
    {gf : Nat} {lb : Array Value} (hg : a.eval g = .func (.func gf) #[] lb) (eg : ∀ args w, (callFunc gf args).run P w = .ok (.enter gf args) w)
    {encs : α → Array Value} {Rd : World → Prop} {xs : List α} (hseq : Pushes P gf (fun y => #[y] ++ lb) encs Rd isDone isDone xs) (hps : ∀ x, (encs x).size = ps.size)
    (O0 : Nat → Prop) (I : List α → (Nat → Prop) → World → Prop) (Ix : Code → List α → (Nat → Prop) → World → Prop)
    (hIT : ∀ s O A B, I s O A → Turns w.heap.size O A B → I s O B) (hIxT : ∀ c s O A B, Ix c s O A → Turns w.heap.size O A B → Ix c s O B)
    (hIO : ∀ s O A, I s O A → ∀ k, O k → k < A.heap.size) (hIR : ∀ s O A, I s O A → Rd A) (hIxR : ∀ c s O A, Ix c s O A → Rd A) (h0 : I [] O0 w)
    (hround : ∀ (m l : Nat) (pre : List α) (x : α) (O : Nat → Prop) (W : World), w.heap.size ≤ l → l < W.heap.size → ¬ O l → I pre O W → pre ++ [x] <+: xs →
      assign.wpIn (Fence.wide.inRound l) m P (Exit.then (fun a' W' => ∃ O', SubO O W.heap.size O' ∧ KeepsBut O W W' ∧ ∃ G : World → Prop, (∀ A B, G A → Turns w.heap.size O' A B → G B) ∧ G W' ∧
        ∀ (m l : Nat) (W2 : World), w.heap.size ≤ l → l < W2.heap.size → ¬ O' l → G W2 → body.wpIn (Fence.wide.inRound l) m P (roundEndO I Ix (pre ++ [x]) O' W2) a' W2) (fun _ _ _ => False)) { tmps := (ps.zip (encs x)).foldl (fun t (p, v) => t.setIfInBounds p v) a.tmps, defers := [] } W)
    (hdone : ∀ (O : Nat → Prop) (D : Nat) (W : World), w.heap.size ≤ D → ¬ O D → SubO O0 w.heap.size O → KeepsBut O0 w W → I xs O W → W.heap[D]? = some (.deferred (some [])) → Q .normal { a with defers := { target := .collected D, args := #[] } :: a.defers } W)
    (hstop : ∀ (O : Nat → Prop) (D : Nat) (c : Code) (pre : List α) (W : World), w.heap.size ≤ D → ¬ O D → SubO O0 w.heap.size O → KeepsBut O0 w W → pre <+: xs → Ix c pre O W → W.heap[D]? = some (.deferred (some [])) → c.wpIn Fence.wide n P Q { a with defers := { target := .collected D, args := #[] } :: a.defers } W) :
    (Code.rangeFunc g ps assign body).wpIn Fence.wide n P Q a w :=
  wpIn_rangeO hg eg hseq hps O0 I Ix
    (fun pre x O' a' W => ∃ G : World → Prop, (∀ A B, G A → Turns w.heap.size O' A B → G B) ∧ G W ∧ ∀ (m l : Nat) (W2 : World), w.heap.size ≤ l → l < W2.heap.size → ¬ O' l → G W2 → body.wpIn (Fence.wide.inRound l) m P (roundEndO I Ix (pre ++ [x]) O' W2) a' W2)
    hIT hIxT (fun s x O a' A B ⟨G, h1, h2, h3⟩ t => ⟨G, h1, h1 A B h2 t, h3⟩) hIO hIR hIxR h0 hround
    (fun m l pre x O a' W hl hlt hO ⟨G, h1, h2, h3⟩ hpre => h3 m l W hl hlt hO h2) hdone hstop
end
end Go.Proofs.Grow
set_option linter.unusedSimpArgs false
set_option linter.unusedVariables false
namespace Go.Proofs.Grow
open Go.RowKit

def noDefer (ops : Array Oper) : Bool := ops.all fun o => match o.op with | .defer _ => false | _ => true
theorem noDefer_spec {ops : Array Oper} (h : noDefer ops = true) {j : Nat} {o : Oper} (hj : ops[j]? = some o) : ∀ c, o.op ≠ .defer c := fun c e => by
  unfold noDefer at h
  rw [Array.all_eq_true_iff_forall_mem] at h
  have := h o (Array.mem_of_getElem? hj)
  rw [e] at this
  cases this

section
variable {F : Fence} {n : Nat} {P : Program} {ops : Array Oper} {Q : Exit → Act → World → Prop} {md : Region.Mode} {S : World → Prop}

def TillIn (F : Fence) (n : Nat) (P : Program) (md : Region.Mode) (ops : Array Oper) (Q : Exit → Act → World → Prop) (S : World → Prop) : Nat → Array Bool → Act → World → Prop
  | 0, listed, a, w => Region.ready md ops listed = [] ∧ Q .normal a w
  | k + 1, listed, a, w => (Region.ready md ops listed = [] → Q .normal a w) ∧
    ∀ i ∈ Region.ready md ops listed, wpOpIn F n P ops Q i (fun a' w' => S w' ∧ TillIn F n P md ops Q S k (listed.setIfInBounds i true) a' w') a w

theorem TillIn.any : ∀ (k : Nat) (listed : Array Bool) (a : Act) (w : World), TillIn F n P md ops Q S k listed a w → wpAnyIn F n P md ops Q k listed a w
  | 0, _, _, _, h => h
  | k + 1, _, _, _, h => ⟨h.1, fun i hi => wpOpIn_mono (fun a' w' h' => TillIn.any k _ a' w' h'.2) (h.2 i hi)⟩

theorem yieldsIf_opIn {i : Nat} {o : Oper} {v : Value} {a : Act} (hF : ∀ f, F.fn f) (hd : noDefer ops = true) (hi : ops[i]? = some o) (hy : YieldsIf P ops S o v a)
    {K : Act → World → Prop} {w : World} (hS : S w) (h : K (a.put o.dst v) w) : wpOpIn F n P ops Q i K a w := by
  unfold Go.wpOpIn
  simp only [hi]
  rcases hy with ⟨hw, hv⟩ | ⟨hw, rfl⟩
  · simp only [hw, if_true]
    unfold Oper.wpIn
    rw [Oper.semAt_plain F _ o (noDefer_spec hd hi), hv w hS]
    exact ⟨fun f _ => hF f, h⟩
  · simp only [hw, Bool.false_eq_true, if_false]
    exact ⟨fun f _ => hF f, h⟩

theorem opIn_putIf {j : Nat} {oi oj : Oper} {v : Value} (hF : ∀ f, F.fn f) (hd : noDefer ops = true) (hj : ops[j]? = some oj) (hap : oi.apart ops oj = true)
    (hsi : ∀ cs b, oi.op ≠ .select cs b) (hsj : ∀ cs b, oj.op ≠ .select cs b)
    (hQ : ∀ c a w, Q (.panic c) (a.put oi.dst v) w → Q (.panic c) a w) {K : Act → World → Prop} {a : Act} {w : World}
    (hy : YieldsIf P ops S oi v a) (h : wpOpIn F n P ops Q j K (a.put oi.dst v) w) :
    wpOpIn F n P ops Q j (fun a' w' => YieldsIf P ops S oi v a' ∧ K (a'.put oi.dst v) w') a w := by
  obtain ⟨h1, h2, h3⟩ := Oper.apart_spec hap
  have keep : ∀ (a : Act), YieldsIf P ops S oi v a → ∀ u, YieldsIf P ops S oi v (a.put oj.dst u) := fun a hy u =>
    hy.of_same (execOp_put oi hsi a oj.dst u h3) (wanted_put oi a oj.dst u h3)
  have keepD : ∀ d, YieldsIf P ops S oi v { a with defers := d :: a.defers } := fun d => hy.of_same rfl rfl
  have hnd := noDefer_spec hd hj
  unfold wpOpIn at *
  simp only [hj] at h ⊢
  rw [wanted_put oj a oi.dst v h1] at h
  split
  · rename_i hw
    simp only [hw, if_true] at h
    unfold Oper.wpIn at *
    refine ⟨fun f _ => hF f, ?_⟩
    have h := h.2
    rw [Oper.semAt_plain F _ oj hnd, execOp_put oj hsj a oi.dst v h1] at h
    rw [Oper.semAt_plain F _ oj hnd]
    generalize (execOp a.eval oj).run P w = r at *
    cases r with
    | ok x w' =>
      cases x <;> simp only [Oper.uponIn] at h ⊢
      case value u => exact ⟨keep a hy u, by rw [← Act.put_comm a v u h2]; exact h⟩
      case skip => exact ⟨keep a hy _, by rw [← Act.put_comm a v undef h2]; exact h⟩
      case defer d =>
        refine ⟨keep _ (keepD d) _, ?_⟩
        rw [← Act.put_comm _ v undef h2, ← Act.put_defers]
        exact h
      case enter f args =>
        refine ⟨h.1, CallsIn.mono h.2 fun e w'' he => ?_⟩
        cases e with
        | returned u => exact ⟨keep a hy u, by rw [← Act.put_comm a v u h2]; exact he⟩
        | panicked c => exact hQ _ _ _ he
        | outgrown => exact he
      case row row args => exact ⟨h.1, RowsIn.mono h.2 fun u w'' he => ⟨keep a hy u, by rw [← Act.put_comm a v u h2]; exact he⟩⟩
      case round l f tmps assign body =>
        refine ⟨h.1, RoundIn.mono h.2 fun e w'' he => ?_⟩
        cases e with
        | returned u => exact ⟨keep a hy u, by rw [← Act.put_comm a v u h2]; exact he⟩
        | panicked c => exact hQ _ _ _ he
        | outgrown => exact he
    | halt x w' =>
      cases x <;> simp only [Oper.uponIn] at h ⊢
      case panic u => exact hQ _ _ _ h
  · rename_i hw
    simp only [hw] at h
    exact ⟨fun f _ => hF f, keep a hy _, by rw [← Act.put_comm a v undef h2]; exact h.2⟩

theorem TillIn.first {i : Nat} {oi : Oper} {v : Value} (hF : ∀ f, F.fn f) (hd : noDefer ops = true) (hi : ops[i]? = some oi) (hsel : ∀ (j : Nat) (o : Oper) cs b, ops[j]? = some o → o.op ≠ .select cs b) (hQ : ∀ c a w, Q (.panic c) (a.put oi.dst v) w → Q (.panic c) a w) :
    ∀ (k : Nat) (listed : Array Bool) (a : Act) (w : World), (∀ j oj, ops[j]? = some oj → j ≠ i → listed.getD j true = false → (∀ e ∈ oj.after, Region.binds md e = true → e.on ≠ i) → oi.apart ops oj = true) →
      i ∈ Region.ready md ops listed → YieldsIf P ops S oi v a → S w → TillIn F n P md ops Q S k (listed.setIfInBounds i true) (a.put oi.dst v) w → TillIn F n P md ops Q S (k + 1) listed a w
  | k, listed, a, w, hfree, hr, hy, hS, H => by
    refine ⟨fun h => (by rw [h] at hr; cases hr), fun j hj => ?_⟩
    by_cases hji : j = i
    · subst hji
      exact yieldsIf_opIn hF hd hi hy hS ⟨hS, H⟩
    · cases k with
      | zero =>
        have := ready_mono hj hji
        rw [H.1] at this
        cases this
      | succ k =>
        obtain ⟨hjun, oj, hoj, hall⟩ := mem_ready.1 hj
        have hnot : ∀ e ∈ oj.after, Region.binds md e = true → e.on ≠ i := fun e he hb heq => by
          have h1 := hall e he hb
          have h0 := (mem_ready.1 hr).1
          rw [heq] at h1
          rcases Nat.lt_or_ge i listed.size with h' | h'
          · simp [h'] at h0 h1; rw [h0] at h1; cases h1
          · simp [Array.getElem?_eq_none h'] at h1
        have h2 := opIn_putIf hF hd hoj (hfree j oj hoj hji hjun hnot) (fun cs b => hsel i oi cs b hi) (fun cs b => hsel j oj cs b hoj) hQ hy (H.2 j (ready_mono hj hji))
        refine wpOpIn_mono (fun a' w' h3 => ?_) h2
        have hSw := h3.2.1
        refine ⟨hSw, TillIn.first hF hd hi hsel hQ k (listed.setIfInBounds j true) a' w' ?_ (ready_mono hr (Ne.symm hji)) h3.1 hSw ?_⟩
        · intro k ok hk hki hun hno
          refine hfree k ok hk hki ?_ hno
          by_cases hjk : j = k
          · subst hjk; exact hjun
          · rw [getD_set_ne true hjk] at hun; exact hun
        · rw [Array.setIfInBounds_comm _ _ hji]
          exact h3.2.2

/-- Take number i first: it is wanted, and yields v wherever S holds. -/
theorem TillIn.take {i : Nat} {oi : Oper} {v : Value} {k : Nat} {listed : Array Bool} {a : Act} {w : World} (hF : ∀ f, F.fn f) (hi : ops[i]? = some oi) (hc : (noDefer ops && Region.noSelect ops && Region.free md ops listed i && (Region.ready md ops listed).contains i) = true)
    (hQ : ∀ c a w, Q (.panic c) (a.put oi.dst v) w → Q (.panic c) a w) (hS : S w) (hy : ∀ w, S w → (execOp a.eval oi).run P w = .ok (.value v) w) (hg : Region.wanted oi (yielded ops a.tmps) = true)
    (h : TillIn F n P md ops Q S k (listed.setIfInBounds i true) (a.put oi.dst v) w) : TillIn F n P md ops Q S (k + 1) listed a w := by
  simp only [Bool.and_eq_true] at hc
  obtain ⟨⟨⟨h1, h2⟩, h4⟩, h5⟩ := hc
  exact TillIn.first hF h1 hi (Region.noSelect_spec h2) hQ k listed a w (Region.free_spec hi h4) (by simpa using h5) (.inl ⟨hg, hy⟩) hS h
/-- Take number i first: it is not wanted. -/
theorem TillIn.skip {i : Nat} {oi : Oper} {k : Nat} {listed : Array Bool} {a : Act} {w : World} (hF : ∀ f, F.fn f) (hi : ops[i]? = some oi) (hc : (noDefer ops && Region.noSelect ops && Region.free md ops listed i && (Region.ready md ops listed).contains i) = true)
    (hQ : ∀ c a w, Q (.panic c) (a.put oi.dst undef) w → Q (.panic c) a w) (hS : S w) (hg : Region.wanted oi (yielded ops a.tmps) = false)
    (h : TillIn F n P md ops Q S k (listed.setIfInBounds i true) (a.put oi.dst undef) w) : TillIn F n P md ops Q S (k + 1) listed a w := by
  simp only [Bool.and_eq_true] at hc
  obtain ⟨⟨⟨h1, h2⟩, h4⟩, h5⟩ := hc
  exact TillIn.first hF h1 hi (Region.noSelect_spec h2) hQ k listed a w (Region.free_spec hi h4) (by simpa using h5) (.inr ⟨hg, rfl⟩) hS h

/-- The one that may come up now; what follows behind a variable. -/
theorem TillIn.one {i : Nat} {oi : Oper} {k : Nat} {listed : Array Bool} {a : Act} {w : World} (hi : ops[i]? = some oi) (hr : Region.ready md ops listed = [i]) (hg : Region.wanted oi (yielded ops a.tmps) = true)
    (h : ∀ K : Act → World → Prop, (∀ a' w', S w' → TillIn F n P md ops Q S k (listed.setIfInBounds i true) a' w' → K a' w') → oi.wpIn F n P a w K Q) : TillIn F n P md ops Q S (k + 1) listed a w := by
  refine ⟨fun e => (by rw [hr] at e; cases e), fun j hj => ?_⟩
  rw [hr] at hj
  obtain rfl : j = i := by simpa using hj
  unfold wpOpIn
  simp only [hi]
  rw [if_pos hg]
  exact h _ fun _ _ h1 h2 => ⟨h1, h2⟩

theorem TillIn.done {listed : Array Bool} {a : Act} {w : World} (hr : Region.ready md ops listed = []) (h : Q .normal a w) : ∀ k, TillIn F n P md ops Q S k listed a w
  | 0 => ⟨hr, h⟩
  | _ + 1 => ⟨fun _ => h, by rw [hr]; simp⟩

theorem wpIn_region_till {id : Nat} {a : Act} {w : World} (S : World → Prop) (hm : P.follows .mixedOrders = true) (h : TillIn F n P .any ops Q S ops.size (Array.replicate ops.size false) a w.drew) : (Code.region id ops true).wpIn F n P Q a w :=
  wpIn_region_any hm (TillIn.any _ _ _ _ h)



theorem run_load_mid {P : Program} {W : World} {o : Oper} {a : Act} {x : Operand} {ty : TypeId} {b off : Nat} {cs : List Value} {d : TypeDesc} (ho : o.op = .load ty x) (hx : a.eval x = .pointer (some ⟨b, off, none⟩)) (hc : W.rangeAt b off cs)
    (hu : P.underlying ty = some d) (hd : d.isRow = true) (hi : (P.info? ty).map (·.size) = some cs.length) : (execOp a.eval o).run P W = .ok (.value (.agg cs.toArray)) W := by
  unfold execOp
  simp only [ho, hx, Instr.loadAt, Instr.sureAddr, Sem.run_bind, Sem.run_pure, Result.andThen_ok, run_loadVar_mid W b off ty cs d hc hu hd hi]
/-- A function's walk that never panics. -/
def NoPanic (Q : Exit → Act → World → Prop) : Exit → Act → World → Prop
  | .panic _, _, _ => False
  | e, a, w => Q e a w
theorem NoPanic.out {Q : Exit → Act → World → Prop} {e : Exit} {a : Act} {w : World} (h : NoPanic Q e a w) : Q e a w := by
  cases e <;> first | exact h | exact h.elim
theorem callsIn_of_wp_marksN {f : FuncId} {fn : Func} {c : Code} {args : Array Value} {w : World} {R : Ending → World → Prop}
    (hf : P.funcs[f]? = some fn) (hb : fn.body = some c) (hF : F.fn f)
    (h : c.wpIn F n P (NoPanic (bodyPostM F n P fn R)) { tmps := args ++ Array.replicate (fn.ntmps - args.size) undef, defers := [] } w) (hro : F.round = none := by rfl) : CallsIn F n P f args w R :=
  callsIn_of_wp_marks hf hb hF (wpIn_mono h fun e a w h => h.out) hro
/-- An operation whose run is known. -/
theorem opIn_run {o : Oper} {a : Act} {w w' : World} {v : Value} {K : Act → World → Prop} (hF : ∀ f, F.fn f) (hnd : ∀ c, o.op ≠ .defer c) (hr : (execOp a.eval o).run P w = .ok (.value v) w') (h : K (a.put o.dst v) w') : o.wpIn F n P a w K Q := by
  unfold Oper.wpIn
  rw [Oper.semAt_plain F _ o hnd, hr]
  exact ⟨fun f _ => hF f, h⟩
theorem wpListIn_run {rest : List Oper} {o : Oper} {a : Act} {w w' : World} {v : Value} (hF : ∀ f, F.fn f) (hg : o.guard = none) (hnd : ∀ c, o.op ≠ .defer c) (hr : (execOp a.eval o).run P w = .ok (.value v) w')
    (h : wpListIn F n P ops Q rest (a.put o.dst v) w') : wpListIn F n P ops Q (o :: rest) a w :=
  wpListIn_plain hg fun K hK => opIn_run hF hnd hr (hK _ _ h)
end
end Go.Proofs.Grow
