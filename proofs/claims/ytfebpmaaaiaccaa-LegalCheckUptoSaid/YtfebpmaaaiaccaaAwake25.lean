/- Chapter 25's example. -/
import Derived.Test.YtfebpmaaaiaccaaLType
set_option linter.unusedSimpArgs false
set_option linter.unusedVariables false
namespace Go.Proofs.Ytfebpmaaaiaccaa
open Go.RowKit Go.Proofs.Grow

def exC (A : Addr) : Cl := ⟨⟨#[76, 105, 115, 116]⟩, some A, 1, [⟨#[100]⟩], ⟨#[]⟩, none, 0, [], none, 0, [], none, 0, [], 0⟩
def exT : Ty := ⟨2, ⟨#[76, 105, 115, 116]⟩, 1, ⟨4, 0⟩, ⟨2, 0⟩, ⟨0, 0⟩, ⟨0, 0⟩⟩
theorem exTyp (A : Addr) : typT [exC A] exT 1 = 23 := by
  have h : arity [exC A] exT.cls = 1 := by simp [arity, isName, exC, exT]
  unfold typT
  rw [if_pos (show exT.k = 2 from rfl), h, if_neg (by decide), if_pos (show (1 : Int) = exT.n from rfl), if_pos (show exT.o0.k ∈ firsts 1 by decide)]
  first | rfl | decide

set_option maxHeartbeats 2000000 in
set_option maxRecDepth 100000 in
theorem awake25_any (w : World) : Gives Try.prog 21 #[] w (.bool true) := by
  refine Gives.mk ?_
  have H1 := hide (fun (W : World) (A : Option Addr) (ad : Addr) (hs : Lies W 7 Cl.cells A [exC ad]) => show Gives Try.prog 19 #[.slice A 1 1, .agg exT.cells.toArray, .int .i64 1] W (.int .i64 23) from by
    rw [← exTyp ad]; exact legType_any W A 1 [exC ad] exT 1 (by simp) hs)
  have H2 := hide (fun (W : World) (ad : Addr) => show Gives Try.prog 17 #[.agg (exC ad).cells.toArray, .int .i64 2] W (.int .i64 19) from class_any (exC ad) 2 W)
  go_enter Try.func21, Try.ntmps21
  go_wp2_with fail
  refine (H1.out _ _ ⟨w.heap.size, 0, none⟩ ?_).mono ?_
  · have h := (Lies.fresh (enc := Cl.cells) (e := 45) (w.alloc (.cells #[.string ⟨#[100]⟩] 9)) [exC ⟨w.heap.size, 0, none⟩] #[.string ⟨#[76, 105, 115, 116]⟩, .slice (some ⟨w.heap.size, 0, none⟩) 1 1, .string ⟨#[]⟩, .slice none 0 0, .slice none 0 0, .slice none 0 0, .int .i64 0] Cl.cells_len rfl)
    rw [World.size_alloc] at h
    exact h.alloc _
  rintro _ _ ⟨y, rfl, rfl⟩
  go_wp2_with fail
  refine (H2.out _ ⟨w.heap.size, 0, none⟩).mono ?_
  rintro _ _ ⟨z, rfl, rfl⟩
  go_wp2_with fail
  go_ret
  refine ⟨rfl, ?_⟩
  repeat (first | exact Below.refl _ _ | exact Nat.le_refl _ | assumption | refine below_ext ?_ ?_ _ | refine Below.alloc ?_ ?_ _ | refine Below.drew ?_ | refine Below.setCell ?_ ?_ _ | refine Ext.le _ ?_ | refine le_alloc ?_ | refine le_drew ?_ | refine le_setCell ?_)
  all_goals omega
end Go.Proofs.Ytfebpmaaaiaccaa
