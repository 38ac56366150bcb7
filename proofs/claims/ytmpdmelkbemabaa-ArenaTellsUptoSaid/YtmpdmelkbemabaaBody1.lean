/- The walks of arena.body and its iterator. -/
import Derived.Test.YtmpdmelkbemabaaInner
set_option linter.unusedSimpArgs false
set_option linter.unusedVariables false
namespace Go.Proofs.Ytmpdmelkbemabaa
open Go.RowKit Go.Proofs.Grow
attribute [local go_sem] Oper.semAt_some

set_option maxRecDepth 100000 in
theorem body1_push (B : Nat) (A : Option Addr) (c : Nat) (l : List St) :
    Pushes Try.prog 36 (fun y => #[y] ++ #[.pointer (some ⟨B, 0, none⟩)]) Li.args (fun W => RdB W A l ∧ W.cell? ⟨B, 15, none⟩ = some (.slice A l.length c)) isDone isDone (liAll l 0 (bkA A) (ofA A)) := by
  intro n ln J Jx pre O W hH h0
  have hc := (hH.read _ _ _ h0).2
  have hC := hide (inner_ok l A c 0 (n - 1) ln J Jx pre O W (by have := hH.mono (ys := liAll l 0 (bkA A) (ofA A)) (Nat.le_refl _) (fun X hX => hX.1) [] (List.prefix_refl _); simpa using this) h0)
  clear hH h0
  refine callsIn_of_wp Try.func36 rfl trivial ?_ rfl
  simp only [Try.ntmps36, List.size_toArray, List.length_cons, List.length_nil, Nat.reduceAdd, Nat.reduceSub, Array.replicate_succ, Array.replicate_zero, List.push_toArray, List.append_toArray, List.nil_append, List.cons_append]
  gi_wp2
  refine ⟨trivial, fun h => (by simp [Fence.wide] at h), ?_⟩
  refine hC.out.mono ?_
  rintro e W' ⟨O', hs, hk, ⟨he, hJ⟩ | ⟨he, q, hq, hJ⟩⟩
  · obtain rfl : e = .returned (.bool true) := he
    have HG := hide (And.intro hs (And.intro hk hJ))
    clear hs hk hJ
    gi_wp2
    go_end0
    exact ⟨O', HG.out.1, HG.out.2.1, .inl ⟨⟨_, rfl⟩, HG.out.2.2⟩⟩
  · obtain rfl : e = .returned (.bool false) := he
    have HG := hide (And.intro hs (And.intro hk hJ))
    clear hs hk hJ
    gi_wp2
    go_end0
    exact ⟨O', HG.out.1, HG.out.2.1, .inr ⟨⟨_, rfl⟩, q, hq, HG.out.2.2⟩⟩

/-- arena.body: its closure over a copy of the method. -/
theorem body_seq (m : Me) (w : World) : Calls Try.prog 21 #[.agg m.cells.toArray] w fun e w' => e = .returned (.func (.func 36) #[] #[.pointer (some ⟨w.heap.size, 0, none⟩)]) ∧ w' = w.alloc (.cells m.cells.toArray 63) := by
  obtain ⟨v, hv⟩ : ∃ v, v = m.cells.toArray := ⟨_, rfl⟩
  rw [← hv]
  have HV := hide hv
  clear hv
  go_enter Try.func21, Try.ntmps21
  go_wp2
  go_ret
  exact ⟨rfl, rfl⟩
end Go.Proofs.Ytmpdmelkbemabaa
