/-
  No cell of these rows narrows 'for every input' (looked for: loops, veiled, ifaces, maps, wideKeys, modest, calm, conditions, laid).
  DERIVED. THE GIVEN ROWS OF THIS SEAT. 6 by the template 'for every input the law returns true; each argument reads behind the call as it read before'; 0 by the template 'total and deterministic' (their statements: YtglgoegabihngaaTotals.lean).
  GIVEN WITH THE SEED: the statements are not yours to turn. If you find one false, say at which input.
  Laid BY PROGRAM, IN A SANDBOX (cutbox-rows.mjs): the forced cells as the released guide's own fill.sh prints them over the translation 3acfe511be4e8061… (all of the seat's roots in one cut). By AI agents, Wed Nov 11 2026. No macro, syntax, notation, axiom, sorry.
-/
import Derived.Test.YtglgoegabihngaaChecked
import GoSem.Claim
import GoSem.ClaimJoined
import GoSem.ClaimMapViews
import Derived.JoinedTies
import Derived.KernelRfl
namespace Go.Proofs.Ytglgoegabihngaa
/- THE CELL 'sum', in the pinned program and in every row, IS THE sha256 OF THE DUMP (.gsa) THAT YtglgoegabihngaaProg.lean LOADS. Nothing in Lean hashes anything: it is a label: what it is worth is what the hold of that sum in a sandbox is worth. -/
noncomputable def Try.pinned : Pinned := { name := "ytglgoegabihngaa", sum := "3acfe511be4e806170290f87a4804c2eabf653e5f9903f4659aaf139cf0205aa", checked := Try.checked }
namespace Rows
def none {H : Type} : Left H := { results := [], args := [] }

/-- 'demesnelaw36.ForestUp': WHATEVER THE INPUT: true; the input reads as it did. -/
def forestUpSpec : ChangeSpec := { name := "forestUp", fn := fun _ => fun
  | [d1, d2, d3] => { results := [.lit (.bool true)], args := [d1, d2, d3] }
  | _ => none }
def forestUpRow : OpenClaim := { program := "ytglgoegabihngaa", sum := "3acfe511be4e806170290f87a4804c2eabf653e5f9903f4659aaf139cf0205aa", func := "demesne/demesnelaw36.ForestUp", spec := "forestUp", unfollowed := true, recurses := true, apart := false }
def ForestUpSaid : Prop := forestUpRow.holds Try.pinned (OpenSpec.ofChange forestUpSpec)

/-- ITS FALSE NEIGHBOUR: 'it returns false'. Refute it at one input. -/
def forestUpWrong : ChangeSpec := { name := "forestUp", fn := fun _ => fun
  | [d1, d2, d3] => { results := [.lit (.bool false)], args := [d1, d2, d3] }
  | _ => none }
def ForestUpWrongFalsely : Prop := forestUpRow.holds Try.pinned (OpenSpec.ofChange forestUpWrong)

/-- 'demesnelaw36.ForestOrder': WHATEVER THE INPUT: true; the input reads as it did. -/
def forestOrderSpec : ChangeSpec := { name := "forestOrder", fn := fun _ => fun
  | [d1, d2, d3] => { results := [.lit (.bool true)], args := [d1, d2, d3] }
  | _ => none }
def forestOrderRow : OpenClaim := { program := "ytglgoegabihngaa", sum := "3acfe511be4e806170290f87a4804c2eabf653e5f9903f4659aaf139cf0205aa", func := "demesne/demesnelaw36.ForestOrder", spec := "forestOrder", unfollowed := true, recurses := true, apart := false }
def ForestOrderSaid : Prop := forestOrderRow.holds Try.pinned (OpenSpec.ofChange forestOrderSpec)

/-- ITS FALSE NEIGHBOUR: 'it returns false'. Refute it at one input. -/
def forestOrderWrong : ChangeSpec := { name := "forestOrder", fn := fun _ => fun
  | [d1, d2, d3] => { results := [.lit (.bool false)], args := [d1, d2, d3] }
  | _ => none }
def ForestOrderWrongFalsely : Prop := forestOrderRow.holds Try.pinned (OpenSpec.ofChange forestOrderWrong)

/-- 'demesnelaw36.ForestTells': WHATEVER THE INPUT: true; the input reads as it did. -/
def forestTellsSpec : ChangeSpec := { name := "forestTells", fn := fun _ => fun
  | [d1, d2, d3] => { results := [.lit (.bool true)], args := [d1, d2, d3] }
  | _ => none }
def forestTellsRow : OpenClaim := { program := "ytglgoegabihngaa", sum := "3acfe511be4e806170290f87a4804c2eabf653e5f9903f4659aaf139cf0205aa", func := "demesne/demesnelaw36.ForestTells", spec := "forestTells", unfollowed := true, recurses := true, apart := false }
def ForestTellsSaid : Prop := forestTellsRow.holds Try.pinned (OpenSpec.ofChange forestTellsSpec)

/-- ITS FALSE NEIGHBOUR: 'it returns false'. Refute it at one input. -/
def forestTellsWrong : ChangeSpec := { name := "forestTells", fn := fun _ => fun
  | [d1, d2, d3] => { results := [.lit (.bool false)], args := [d1, d2, d3] }
  | _ => none }
def ForestTellsWrongFalsely : Prop := forestTellsRow.holds Try.pinned (OpenSpec.ofChange forestTellsWrong)

/-- 'demesnelaw37.ClusterTells': WHATEVER THE INPUT: true; the input reads as it did. -/
def clusterTellsSpec : ChangeSpec := { name := "clusterTells", fn := fun _ => fun
  | [d1, d2] => { results := [.lit (.bool true)], args := [d1, d2] }
  | _ => none }
def clusterTellsRow : OpenClaim := { program := "ytglgoegabihngaa", sum := "3acfe511be4e806170290f87a4804c2eabf653e5f9903f4659aaf139cf0205aa", func := "demesne/demesnelaw37.ClusterTells", spec := "clusterTells", unfollowed := true, recurses := true, apart := false }
def ClusterTellsSaid : Prop := clusterTellsRow.holds Try.pinned (OpenSpec.ofChange clusterTellsSpec)

/-- ITS FALSE NEIGHBOUR: 'it returns false'. Refute it at one input. -/
def clusterTellsWrong : ChangeSpec := { name := "clusterTells", fn := fun _ => fun
  | [d1, d2] => { results := [.lit (.bool false)], args := [d1, d2] }
  | _ => none }
def ClusterTellsWrongFalsely : Prop := clusterTellsRow.holds Try.pinned (OpenSpec.ofChange clusterTellsWrong)

/-- 'demesnelaw37.ClusterOutside': WHATEVER THE INPUT: true; the input reads as it did. -/
def clusterOutsideSpec : ChangeSpec := { name := "clusterOutside", fn := fun _ => fun
  | [d1, d2, d3] => { results := [.lit (.bool true)], args := [d1, d2, d3] }
  | _ => none }
def clusterOutsideRow : OpenClaim := { program := "ytglgoegabihngaa", sum := "3acfe511be4e806170290f87a4804c2eabf653e5f9903f4659aaf139cf0205aa", func := "demesne/demesnelaw37.ClusterOutside", spec := "clusterOutside", unfollowed := true, recurses := true, apart := false }
def ClusterOutsideSaid : Prop := clusterOutsideRow.holds Try.pinned (OpenSpec.ofChange clusterOutsideSpec)

/-- ITS FALSE NEIGHBOUR: 'it returns false'. Refute it at one input. -/
def clusterOutsideWrong : ChangeSpec := { name := "clusterOutside", fn := fun _ => fun
  | [d1, d2, d3] => { results := [.lit (.bool false)], args := [d1, d2, d3] }
  | _ => none }
def ClusterOutsideWrongFalsely : Prop := clusterOutsideRow.holds Try.pinned (OpenSpec.ofChange clusterOutsideWrong)

/-- 'demesnelaw37.ClusterGone': WHATEVER THE INPUT: true; the input reads as it did. -/
def clusterGoneSpec : ChangeSpec := { name := "clusterGone", fn := fun _ => fun
  | [d1, d2, d3] => { results := [.lit (.bool true)], args := [d1, d2, d3] }
  | _ => none }
def clusterGoneRow : OpenClaim := { program := "ytglgoegabihngaa", sum := "3acfe511be4e806170290f87a4804c2eabf653e5f9903f4659aaf139cf0205aa", func := "demesne/demesnelaw37.ClusterGone", spec := "clusterGone", unfollowed := true, recurses := true, apart := false }
def ClusterGoneSaid : Prop := clusterGoneRow.holds Try.pinned (OpenSpec.ofChange clusterGoneSpec)

/-- ITS FALSE NEIGHBOUR: 'it returns false'. Refute it at one input. -/
def clusterGoneWrong : ChangeSpec := { name := "clusterGone", fn := fun _ => fun
  | [d1, d2, d3] => { results := [.lit (.bool false)], args := [d1, d2, d3] }
  | _ => none }
def ClusterGoneWrongFalsely : Prop := clusterGoneRow.holds Try.pinned (OpenSpec.ofChange clusterGoneWrong)

/- THE SECOND FORM. 'bulk': how many values and letters a reading holds, each counted each time it is reached (what is shared counts as often as it is met; a slice's spare places count too). A statement '..UptoSaid' is the law's where the arguments, and the package variables that the reading takes, are together of bulk at most 1048576: NARROWER than '..Said'. Prove '..Said' where nothing that the law and all that it calls make is longer than what came in: it says more and counts as full. Else prove '..UptoSaid'. A law counts once. -/
mutual
def uptoBulk {H : Type} : DataW H → Nat
  | .lit (.string bytes) => bytes.length + 1
  | .lit _ => 1
  | .nil => 1
  | .ptr d => uptoBulk d + 1
  | .slice elems spare => uptoBulkAll elems + uptoBulkAll spare + 1
  | .agg parts => uptoBulkAll parts + 1
  | .iface _ d => uptoBulk d + 1
  | .map entries => uptoBulkEntries entries + 1
  | .held _ => 1
def uptoBulkAll {H : Type} : List (DataW H) → Nat
  | [] => 0
  | d :: r => uptoBulk d + uptoBulkAll r
def uptoBulkEntries {H : Type} : List (Lit × DataW H) → Nat
  | [] => 0
  | x :: r => uptoBulkEntry x + uptoBulkEntries r
def uptoBulkEntry {H : Type} : Lit × DataW H → Nat
  | (.string bytes, d) => bytes.length + uptoBulk d + 1
  | (_, d) => uptoBulk d + 1
 end
def uptoSmall : (H : Type) → List (DataW H) → Bool := fun _ ds => decide (uptoBulkAll ds ≤ 1048576)
def OpenSpec.upto (s : _root_.Go.ChangeSpec) : _root_.Go.OpenSpec := { _root_.Go.OpenSpec.ofChange s with cond := some uptoSmall }

/-- 'demesnelaw36.ForestUp', WHERE WHAT IT READS IS OF BULK AT MOST 1048576: true; the input reads as it did. -/
def forestUpUptoRow : OpenClaim := { program := "ytglgoegabihngaa", sum := "3acfe511be4e806170290f87a4804c2eabf653e5f9903f4659aaf139cf0205aa", func := "demesne/demesnelaw36.ForestUp", spec := "forestUp", unfollowed := true, recurses := true, apart := false, narrowed := true }
def ForestUpUptoSaid : Prop := forestUpUptoRow.holds Try.pinned (OpenSpec.upto forestUpSpec)

/-- 'demesnelaw36.ForestOrder', WHERE WHAT IT READS IS OF BULK AT MOST 1048576: true; the input reads as it did. -/
def forestOrderUptoRow : OpenClaim := { program := "ytglgoegabihngaa", sum := "3acfe511be4e806170290f87a4804c2eabf653e5f9903f4659aaf139cf0205aa", func := "demesne/demesnelaw36.ForestOrder", spec := "forestOrder", unfollowed := true, recurses := true, apart := false, narrowed := true }
def ForestOrderUptoSaid : Prop := forestOrderUptoRow.holds Try.pinned (OpenSpec.upto forestOrderSpec)

/-- 'demesnelaw36.ForestTells', WHERE WHAT IT READS IS OF BULK AT MOST 1048576: true; the input reads as it did. -/
def forestTellsUptoRow : OpenClaim := { program := "ytglgoegabihngaa", sum := "3acfe511be4e806170290f87a4804c2eabf653e5f9903f4659aaf139cf0205aa", func := "demesne/demesnelaw36.ForestTells", spec := "forestTells", unfollowed := true, recurses := true, apart := false, narrowed := true }
def ForestTellsUptoSaid : Prop := forestTellsUptoRow.holds Try.pinned (OpenSpec.upto forestTellsSpec)

/-- 'demesnelaw37.ClusterTells', WHERE WHAT IT READS IS OF BULK AT MOST 1048576: true; the input reads as it did. -/
def clusterTellsUptoRow : OpenClaim := { program := "ytglgoegabihngaa", sum := "3acfe511be4e806170290f87a4804c2eabf653e5f9903f4659aaf139cf0205aa", func := "demesne/demesnelaw37.ClusterTells", spec := "clusterTells", unfollowed := true, recurses := true, apart := false, narrowed := true }
def ClusterTellsUptoSaid : Prop := clusterTellsUptoRow.holds Try.pinned (OpenSpec.upto clusterTellsSpec)

/-- 'demesnelaw37.ClusterOutside', WHERE WHAT IT READS IS OF BULK AT MOST 1048576: true; the input reads as it did. -/
def clusterOutsideUptoRow : OpenClaim := { program := "ytglgoegabihngaa", sum := "3acfe511be4e806170290f87a4804c2eabf653e5f9903f4659aaf139cf0205aa", func := "demesne/demesnelaw37.ClusterOutside", spec := "clusterOutside", unfollowed := true, recurses := true, apart := false, narrowed := true }
def ClusterOutsideUptoSaid : Prop := clusterOutsideUptoRow.holds Try.pinned (OpenSpec.upto clusterOutsideSpec)

/-- 'demesnelaw37.ClusterGone', WHERE WHAT IT READS IS OF BULK AT MOST 1048576: true; the input reads as it did. -/
def clusterGoneUptoRow : OpenClaim := { program := "ytglgoegabihngaa", sum := "3acfe511be4e806170290f87a4804c2eabf653e5f9903f4659aaf139cf0205aa", func := "demesne/demesnelaw37.ClusterGone", spec := "clusterGone", unfollowed := true, recurses := true, apart := false, narrowed := true }
def ClusterGoneUptoSaid : Prop := clusterGoneUptoRow.holds Try.pinned (OpenSpec.upto clusterGoneSpec)

end Rows
end Go.Proofs.Ytglgoegabihngaa
