/-
  NARROWER THAN 'FOR EVERY INPUT', by the rows' own cells (each row's printed sentence says how): LegalType: loops · LegalPut: loops · LegalCheck: loops.
  DERIVED. THE GIVEN ROWS OF THIS SEAT. 6 by the template 'for every input the law returns true; each argument reads behind the call as it read before'; 0 by the template 'total and deterministic' (their statements: YtfebpmaaaiaccaaTotals.lean).
  GIVEN WITH THE SEED: the statements are not yours to turn. If you find one false, say at which input.
  Laid BY PROGRAM, IN A SANDBOX (cutbox-rows.mjs): the forced cells as the released guide's own fill.sh prints them over the translation e73e687282617be3… (all of the seat's roots in one cut). By AI agents, Wed Nov 11 2026. No macro, syntax, notation, axiom, sorry.
-/
import Derived.Test.YtfebpmaaaiaccaaChecked
import GoSem.Claim
import GoSem.ClaimJoined
import GoSem.ClaimMapViews
import Derived.JoinedTies
import Derived.KernelRfl
namespace Go.Proofs.Ytfebpmaaaiaccaa
/- THE CELL 'sum', in the pinned program and in every row, IS THE sha256 OF THE DUMP (.gsa) THAT YtfebpmaaaiaccaaProg.lean LOADS. Nothing in Lean hashes anything: it is a label: what it is worth is what the hold of that sum in a sandbox is worth. -/
noncomputable def Try.pinned : Pinned := { name := "ytfebpmaaaiaccaa", sum := "e73e687282617be301b561da0ef516b46bac3f4b55065d5b7941020b37e39fa3", checked := Try.checked }
namespace Rows
def none {H : Type} : Left H := { results := [], args := [] }

/-- 'demesnelaw24.InsideOrder': WHATEVER THE INPUT: true; the input reads as it did. -/
def insideOrderSpec : ChangeSpec := { name := "insideOrder", fn := fun _ => fun
  | [d] => { results := [.lit (.bool true)], args := [d] }
  | _ => none }
def insideOrderRow : OpenClaim := { program := "ytfebpmaaaiaccaa", sum := "e73e687282617be301b561da0ef516b46bac3f4b55065d5b7941020b37e39fa3", func := "demesne/demesnelaw24.InsideOrder", spec := "insideOrder", unfollowed := true, recurses := true, apart := false }
def InsideOrderSaid : Prop := insideOrderRow.holds Try.pinned (OpenSpec.ofChange insideOrderSpec)

/-- ITS FALSE NEIGHBOUR: 'it returns false'. Refute it at one input. -/
def insideOrderWrong : ChangeSpec := { name := "insideOrder", fn := fun _ => fun
  | [d] => { results := [.lit (.bool false)], args := [d] }
  | _ => none }
def InsideOrderWrongFalsely : Prop := insideOrderRow.holds Try.pinned (OpenSpec.ofChange insideOrderWrong)

/-- 'demesnelaw24.InsidePut': WHATEVER THE INPUT: true; the input reads as it did. -/
def insidePutSpec : ChangeSpec := { name := "insidePut", fn := fun _ => fun
  | [d1, d2] => { results := [.lit (.bool true)], args := [d1, d2] }
  | _ => none }
def insidePutRow : OpenClaim := { program := "ytfebpmaaaiaccaa", sum := "e73e687282617be301b561da0ef516b46bac3f4b55065d5b7941020b37e39fa3", func := "demesne/demesnelaw24.InsidePut", spec := "insidePut", unfollowed := true, recurses := true, apart := false }
def InsidePutSaid : Prop := insidePutRow.holds Try.pinned (OpenSpec.ofChange insidePutSpec)

/-- ITS FALSE NEIGHBOUR: 'it returns false'. Refute it at one input. -/
def insidePutWrong : ChangeSpec := { name := "insidePut", fn := fun _ => fun
  | [d1, d2] => { results := [.lit (.bool false)], args := [d1, d2] }
  | _ => none }
def InsidePutWrongFalsely : Prop := insidePutRow.holds Try.pinned (OpenSpec.ofChange insidePutWrong)

/-- 'demesnelaw24.InsideTells': WHATEVER THE INPUT: true; the input reads as it did. -/
def insideTellsSpec : ChangeSpec := { name := "insideTells", fn := fun _ => fun
  | [d1, d2, d3] => { results := [.lit (.bool true)], args := [d1, d2, d3] }
  | _ => none }
def insideTellsRow : OpenClaim := { program := "ytfebpmaaaiaccaa", sum := "e73e687282617be301b561da0ef516b46bac3f4b55065d5b7941020b37e39fa3", func := "demesne/demesnelaw24.InsideTells", spec := "insideTells", unfollowed := true, recurses := true, apart := false }
def InsideTellsSaid : Prop := insideTellsRow.holds Try.pinned (OpenSpec.ofChange insideTellsSpec)

/-- ITS FALSE NEIGHBOUR: 'it returns false'. Refute it at one input. -/
def insideTellsWrong : ChangeSpec := { name := "insideTells", fn := fun _ => fun
  | [d1, d2, d3] => { results := [.lit (.bool false)], args := [d1, d2, d3] }
  | _ => none }
def InsideTellsWrongFalsely : Prop := insideTellsRow.holds Try.pinned (OpenSpec.ofChange insideTellsWrong)

/-- 'demesnelaw25.LegalType': WHATEVER THE INPUT: true; the input reads as it did. -/
def legalTypeSpec : ChangeSpec := { name := "legalType", fn := fun _ => fun
  | [d1, d2, d3] => { results := [.lit (.bool true)], args := [d1, d2, d3] }
  | _ => none }
def legalTypeRow : OpenClaim := { program := "ytfebpmaaaiaccaa", sum := "e73e687282617be301b561da0ef516b46bac3f4b55065d5b7941020b37e39fa3", func := "demesne/demesnelaw25.LegalType", spec := "legalType", unfollowed := true, recurses := true, loops := true, apart := false }
def LegalTypeSaid : Prop := legalTypeRow.holds Try.pinned (OpenSpec.ofChange legalTypeSpec)

/-- ITS FALSE NEIGHBOUR: 'it returns false'. Refute it at one input. -/
def legalTypeWrong : ChangeSpec := { name := "legalType", fn := fun _ => fun
  | [d1, d2, d3] => { results := [.lit (.bool false)], args := [d1, d2, d3] }
  | _ => none }
def LegalTypeWrongFalsely : Prop := legalTypeRow.holds Try.pinned (OpenSpec.ofChange legalTypeWrong)

/-- 'demesnelaw25.LegalPut': WHATEVER THE INPUT: true; the input reads as it did. -/
def legalPutSpec : ChangeSpec := { name := "legalPut", fn := fun _ => fun
  | [d1, d2, d3] => { results := [.lit (.bool true)], args := [d1, d2, d3] }
  | _ => none }
def legalPutRow : OpenClaim := { program := "ytfebpmaaaiaccaa", sum := "e73e687282617be301b561da0ef516b46bac3f4b55065d5b7941020b37e39fa3", func := "demesne/demesnelaw25.LegalPut", spec := "legalPut", unfollowed := true, recurses := true, loops := true, apart := false }
def LegalPutSaid : Prop := legalPutRow.holds Try.pinned (OpenSpec.ofChange legalPutSpec)

/-- ITS FALSE NEIGHBOUR: 'it returns false'. Refute it at one input. -/
def legalPutWrong : ChangeSpec := { name := "legalPut", fn := fun _ => fun
  | [d1, d2, d3] => { results := [.lit (.bool false)], args := [d1, d2, d3] }
  | _ => none }
def LegalPutWrongFalsely : Prop := legalPutRow.holds Try.pinned (OpenSpec.ofChange legalPutWrong)

/-- 'demesnelaw25.LegalCheck': WHATEVER THE INPUT: true; the input reads as it did. -/
def legalCheckSpec : ChangeSpec := { name := "legalCheck", fn := fun _ => fun
  | [d1, d2] => { results := [.lit (.bool true)], args := [d1, d2] }
  | _ => none }
def legalCheckRow : OpenClaim := { program := "ytfebpmaaaiaccaa", sum := "e73e687282617be301b561da0ef516b46bac3f4b55065d5b7941020b37e39fa3", func := "demesne/demesnelaw25.LegalCheck", spec := "legalCheck", unfollowed := true, recurses := true, loops := true, apart := false }
def LegalCheckSaid : Prop := legalCheckRow.holds Try.pinned (OpenSpec.ofChange legalCheckSpec)

/-- ITS FALSE NEIGHBOUR: 'it returns false'. Refute it at one input. -/
def legalCheckWrong : ChangeSpec := { name := "legalCheck", fn := fun _ => fun
  | [d1, d2] => { results := [.lit (.bool false)], args := [d1, d2] }
  | _ => none }
def LegalCheckWrongFalsely : Prop := legalCheckRow.holds Try.pinned (OpenSpec.ofChange legalCheckWrong)

/- THE SECOND FORM. 'bulk': how many values and letters a reading holds, each counted each time it is reached (what is shared counts as often as it is met; a slice's spare places count too). A statement '..UptoSaid' is the law's where the arguments, and the package variables that the reading takes, are together of bulk at most 1048576: NARROWER than '..Said'. Prove '..Said' where nothing that the law and all that it calls make is longer than what came in: it says more and counts as full. Else prove '..UptoSaid'. A law counts once. -/
mutual
def uptoBulk {H : Type} : DataW H → Nat
  | .lit (.string bytes) => bytes.length + 1
  | .lit _ => 1
  | .nil => 1
  | .ptr d => uptoBulk d + 1
  | .slice elems spare => uptoBulkAll elems + uptoBulkAll spare + 1
  | .agg parts => uptoBulkAll parts + 1
  | .iface _ d => uptoBulk d + 1
  | .map entries => uptoBulkEntries entries + 1
  | .held _ => 1
def uptoBulkAll {H : Type} : List (DataW H) → Nat
  | [] => 0
  | d :: r => uptoBulk d + uptoBulkAll r
def uptoBulkEntries {H : Type} : List (Lit × DataW H) → Nat
  | [] => 0
  | x :: r => uptoBulkEntry x + uptoBulkEntries r
def uptoBulkEntry {H : Type} : Lit × DataW H → Nat
  | (.string bytes, d) => bytes.length + uptoBulk d + 1
  | (_, d) => uptoBulk d + 1
 end
def uptoSmall : (H : Type) → List (DataW H) → Bool := fun _ ds => decide (uptoBulkAll ds ≤ 1048576)
def OpenSpec.upto (s : _root_.Go.ChangeSpec) : _root_.Go.OpenSpec := { _root_.Go.OpenSpec.ofChange s with cond := some uptoSmall }

/-- 'demesnelaw24.InsideOrder', WHERE WHAT IT READS IS OF BULK AT MOST 1048576: true; the input reads as it did. -/
def insideOrderUptoRow : OpenClaim := { program := "ytfebpmaaaiaccaa", sum := "e73e687282617be301b561da0ef516b46bac3f4b55065d5b7941020b37e39fa3", func := "demesne/demesnelaw24.InsideOrder", spec := "insideOrder", unfollowed := true, recurses := true, apart := false, narrowed := true }
def InsideOrderUptoSaid : Prop := insideOrderUptoRow.holds Try.pinned (OpenSpec.upto insideOrderSpec)

/-- 'demesnelaw24.InsidePut', WHERE WHAT IT READS IS OF BULK AT MOST 1048576: true; the input reads as it did. -/
def insidePutUptoRow : OpenClaim := { program := "ytfebpmaaaiaccaa", sum := "e73e687282617be301b561da0ef516b46bac3f4b55065d5b7941020b37e39fa3", func := "demesne/demesnelaw24.InsidePut", spec := "insidePut", unfollowed := true, recurses := true, apart := false, narrowed := true }
def InsidePutUptoSaid : Prop := insidePutUptoRow.holds Try.pinned (OpenSpec.upto insidePutSpec)

/-- 'demesnelaw24.InsideTells', WHERE WHAT IT READS IS OF BULK AT MOST 1048576: true; the input reads as it did. -/
def insideTellsUptoRow : OpenClaim := { program := "ytfebpmaaaiaccaa", sum := "e73e687282617be301b561da0ef516b46bac3f4b55065d5b7941020b37e39fa3", func := "demesne/demesnelaw24.InsideTells", spec := "insideTells", unfollowed := true, recurses := true, apart := false, narrowed := true }
def InsideTellsUptoSaid : Prop := insideTellsUptoRow.holds Try.pinned (OpenSpec.upto insideTellsSpec)

/-- 'demesnelaw25.LegalType', WHERE WHAT IT READS IS OF BULK AT MOST 1048576: true; the input reads as it did. -/
def legalTypeUptoRow : OpenClaim := { program := "ytfebpmaaaiaccaa", sum := "e73e687282617be301b561da0ef516b46bac3f4b55065d5b7941020b37e39fa3", func := "demesne/demesnelaw25.LegalType", spec := "legalType", unfollowed := true, recurses := true, loops := true, apart := false, narrowed := true }
def LegalTypeUptoSaid : Prop := legalTypeUptoRow.holds Try.pinned (OpenSpec.upto legalTypeSpec)

/-- 'demesnelaw25.LegalPut', WHERE WHAT IT READS IS OF BULK AT MOST 1048576: true; the input reads as it did. -/
def legalPutUptoRow : OpenClaim := { program := "ytfebpmaaaiaccaa", sum := "e73e687282617be301b561da0ef516b46bac3f4b55065d5b7941020b37e39fa3", func := "demesne/demesnelaw25.LegalPut", spec := "legalPut", unfollowed := true, recurses := true, loops := true, apart := false, narrowed := true }
def LegalPutUptoSaid : Prop := legalPutUptoRow.holds Try.pinned (OpenSpec.upto legalPutSpec)

/-- 'demesnelaw25.LegalCheck', WHERE WHAT IT READS IS OF BULK AT MOST 1048576: true; the input reads as it did. -/
def legalCheckUptoRow : OpenClaim := { program := "ytfebpmaaaiaccaa", sum := "e73e687282617be301b561da0ef516b46bac3f4b55065d5b7941020b37e39fa3", func := "demesne/demesnelaw25.LegalCheck", spec := "legalCheck", unfollowed := true, recurses := true, loops := true, apart := false, narrowed := true }
def LegalCheckUptoSaid : Prop := legalCheckUptoRow.holds Try.pinned (OpenSpec.upto legalCheckSpec)

end Rows
end Go.Proofs.Ytfebpmaaaiaccaa
