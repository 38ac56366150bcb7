/-
  NARROWER THAN 'FOR EVERY INPUT', by the rows' own cells (each row's printed sentence says how): CodeOf: loops · CodeNext: loops · CodeWays: loops.
  DERIVED. THE GIVEN ROWS OF THIS SEAT. 3 by the template 'for every input the law returns true; each argument reads behind the call as it read before'; 0 by the template 'total and deterministic' (their statements: YtlgnjbocdmbeiaaTotals.lean).
  GIVEN WITH THE SEED: the statements are not yours to turn. If you find one false, say at which input.
  Laid BY PROGRAM, IN A SANDBOX (cutbox-rows.mjs): the forced cells as the released guide's own fill.sh prints them over the translation cfe1c3ecfc55159e… (all of the seat's roots in one cut). By AI agents, Wed Nov 11 2026. No macro, syntax, notation, axiom, sorry.
-/
import Derived.Test.YtlgnjbocdmbeiaaChecked
import GoSem.Claim
import GoSem.ClaimJoined
import GoSem.ClaimMapViews
import Derived.JoinedTies
import Derived.KernelRfl
namespace Go.Proofs.Ytlgnjbocdmbeiaa
/- THE CELL 'sum', in the pinned program and in every row, IS THE sha256 OF THE DUMP (.gsa) THAT YtlgnjbocdmbeiaaProg.lean LOADS. Nothing in Lean hashes anything: it is a label: what it is worth is what the hold of that sum in a sandbox is worth. -/
noncomputable def Try.pinned : Pinned := { name := "ytlgnjbocdmbeiaa", sum := "cfe1c3ecfc55159e66170a92bfd077efdbe8247c46b4fa6ae0764e6116391145", checked := Try.checked }
namespace Rows
def none {H : Type} : Left H := { results := [], args := [] }

/-- 'demesnelaw34.CodeOf': WHATEVER THE INPUT: true; the input reads as it did. -/
def codeOfSpec : ChangeSpec := { name := "codeOf", fn := fun _ => fun
  | [d] => { results := [.lit (.bool true)], args := [d] }
  | _ => none }
def codeOfRow : OpenClaim := { program := "ytlgnjbocdmbeiaa", sum := "cfe1c3ecfc55159e66170a92bfd077efdbe8247c46b4fa6ae0764e6116391145", func := "demesne/demesnelaw34.CodeOf", spec := "codeOf", recurses := true, loops := true, apart := false }
def CodeOfSaid : Prop := codeOfRow.holds Try.pinned (OpenSpec.ofChange codeOfSpec)

/-- ITS FALSE NEIGHBOUR: 'it returns false'. Refute it at one input. -/
def codeOfWrong : ChangeSpec := { name := "codeOf", fn := fun _ => fun
  | [d] => { results := [.lit (.bool false)], args := [d] }
  | _ => none }
def CodeOfWrongFalsely : Prop := codeOfRow.holds Try.pinned (OpenSpec.ofChange codeOfWrong)

/-- 'demesnelaw34.CodeNext': WHATEVER THE INPUT: true; the input reads as it did. -/
def codeNextSpec : ChangeSpec := { name := "codeNext", fn := fun _ => fun
  | [d1, d2] => { results := [.lit (.bool true)], args := [d1, d2] }
  | _ => none }
def codeNextRow : OpenClaim := { program := "ytlgnjbocdmbeiaa", sum := "cfe1c3ecfc55159e66170a92bfd077efdbe8247c46b4fa6ae0764e6116391145", func := "demesne/demesnelaw34.CodeNext", spec := "codeNext", recurses := true, loops := true, apart := false }
def CodeNextSaid : Prop := codeNextRow.holds Try.pinned (OpenSpec.ofChange codeNextSpec)

/-- ITS FALSE NEIGHBOUR: 'it returns false'. Refute it at one input. -/
def codeNextWrong : ChangeSpec := { name := "codeNext", fn := fun _ => fun
  | [d1, d2] => { results := [.lit (.bool false)], args := [d1, d2] }
  | _ => none }
def CodeNextWrongFalsely : Prop := codeNextRow.holds Try.pinned (OpenSpec.ofChange codeNextWrong)

/-- 'demesnelaw34.CodeWays': WHATEVER THE INPUT: true; the input reads as it did. -/
def codeWaysSpec : ChangeSpec := { name := "codeWays", fn := fun _ => fun
  | [d1, d2] => { results := [.lit (.bool true)], args := [d1, d2] }
  | _ => none }
def codeWaysRow : OpenClaim := { program := "ytlgnjbocdmbeiaa", sum := "cfe1c3ecfc55159e66170a92bfd077efdbe8247c46b4fa6ae0764e6116391145", func := "demesne/demesnelaw34.CodeWays", spec := "codeWays", recurses := true, loops := true, apart := false }
def CodeWaysSaid : Prop := codeWaysRow.holds Try.pinned (OpenSpec.ofChange codeWaysSpec)

/-- ITS FALSE NEIGHBOUR: 'it returns false'. Refute it at one input. -/
def codeWaysWrong : ChangeSpec := { name := "codeWays", fn := fun _ => fun
  | [d1, d2] => { results := [.lit (.bool false)], args := [d1, d2] }
  | _ => none }
def CodeWaysWrongFalsely : Prop := codeWaysRow.holds Try.pinned (OpenSpec.ofChange codeWaysWrong)

/- THE SECOND FORM. 'bulk': how many values and letters a reading holds, each counted each time it is reached (what is shared counts as often as it is met; a slice's spare places count too). A statement '..UptoSaid' is the law's where the arguments, and the package variables that the reading takes, are together of bulk at most 1048576: NARROWER than '..Said'. Prove '..Said' where nothing that the law and all that it calls make is longer than what came in: it says more and counts as full. Else prove '..UptoSaid'. A law counts once. -/
mutual
def uptoBulk {H : Type} : DataW H → Nat
  | .lit (.string bytes) => bytes.length + 1
  | .lit _ => 1
  | .nil => 1
  | .ptr d => uptoBulk d + 1
  | .slice elems spare => uptoBulkAll elems + uptoBulkAll spare + 1
  | .agg parts => uptoBulkAll parts + 1
  | .iface _ d => uptoBulk d + 1
  | .map entries => uptoBulkEntries entries + 1
  | .held _ => 1
def uptoBulkAll {H : Type} : List (DataW H) → Nat
  | [] => 0
  | d :: r => uptoBulk d + uptoBulkAll r
def uptoBulkEntries {H : Type} : List (Lit × DataW H) → Nat
  | [] => 0
  | x :: r => uptoBulkEntry x + uptoBulkEntries r
def uptoBulkEntry {H : Type} : Lit × DataW H → Nat
  | (.string bytes, d) => bytes.length + uptoBulk d + 1
  | (_, d) => uptoBulk d + 1
 end
def uptoSmall : (H : Type) → List (DataW H) → Bool := fun _ ds => decide (uptoBulkAll ds ≤ 1048576)
def OpenSpec.upto (s : _root_.Go.ChangeSpec) : _root_.Go.OpenSpec := { _root_.Go.OpenSpec.ofChange s with cond := some uptoSmall }

/-- 'demesnelaw34.CodeOf', WHERE WHAT IT READS IS OF BULK AT MOST 1048576: true; the input reads as it did. -/
def codeOfUptoRow : OpenClaim := { program := "ytlgnjbocdmbeiaa", sum := "cfe1c3ecfc55159e66170a92bfd077efdbe8247c46b4fa6ae0764e6116391145", func := "demesne/demesnelaw34.CodeOf", spec := "codeOf", recurses := true, loops := true, apart := false, narrowed := true }
def CodeOfUptoSaid : Prop := codeOfUptoRow.holds Try.pinned (OpenSpec.upto codeOfSpec)

/-- 'demesnelaw34.CodeNext', WHERE WHAT IT READS IS OF BULK AT MOST 1048576: true; the input reads as it did. -/
def codeNextUptoRow : OpenClaim := { program := "ytlgnjbocdmbeiaa", sum := "cfe1c3ecfc55159e66170a92bfd077efdbe8247c46b4fa6ae0764e6116391145", func := "demesne/demesnelaw34.CodeNext", spec := "codeNext", recurses := true, loops := true, apart := false, narrowed := true }
def CodeNextUptoSaid : Prop := codeNextUptoRow.holds Try.pinned (OpenSpec.upto codeNextSpec)

/-- 'demesnelaw34.CodeWays', WHERE WHAT IT READS IS OF BULK AT MOST 1048576: true; the input reads as it did. -/
def codeWaysUptoRow : OpenClaim := { program := "ytlgnjbocdmbeiaa", sum := "cfe1c3ecfc55159e66170a92bfd077efdbe8247c46b4fa6ae0764e6116391145", func := "demesne/demesnelaw34.CodeWays", spec := "codeWays", recurses := true, loops := true, apart := false, narrowed := true }
def CodeWaysUptoSaid : Prop := codeWaysUptoRow.holds Try.pinned (OpenSpec.upto codeWaysSpec)

end Rows
end Go.Proofs.Ytlgnjbocdmbeiaa
