/-
  NARROWER THAN 'FOR EVERY INPUT', by the rows' own cells (each row's printed sentence says how): IndexingFrom: loops · IndexingPick: loops · IndexingAmend: loops · IndexingAll: loops · IndexingBack: loops.
  DERIVED. THE GIVEN ROWS OF THIS SEAT. 5 by the template 'for every input the law returns true; each argument reads behind the call as it read before'; 0 by the template 'total and deterministic' (their statements: YtcoknjlkhefgpaaTotals.lean).
  GIVEN WITH THE SEED: the statements are not yours to turn. If you find one false, say at which input.
  Laid BY PROGRAM, IN A SANDBOX (cutbox-rows.mjs): the forced cells as the released guide's own fill.sh prints them over the translation b6a7dfe45bec1100… (all of the seat's roots in one cut). By AI agents, Wed Nov 11 2026. No macro, syntax, notation, axiom, sorry.
-/
import Derived.Test.YtcoknjlkhefgpaaChecked
import GoSem.Claim
import GoSem.ClaimJoined
import GoSem.ClaimMapViews
import Derived.JoinedTies
import Derived.KernelRfl
namespace Go.Proofs.Ytcoknjlkhefgpaa
/- THE CELL 'sum', in the pinned program and in every row, IS THE sha256 OF THE DUMP (.gsa) THAT YtcoknjlkhefgpaaProg.lean LOADS. Nothing in Lean hashes anything: it is a label: what it is worth is what the hold of that sum in a sandbox is worth. -/
noncomputable def Try.pinned : Pinned := { name := "ytcoknjlkhefgpaa", sum := "b6a7dfe45bec1100cd3123d6d6ccecaf875beddc13db26cfa9d2a28f0b3cf8ff", checked := Try.checked }
namespace Rows
def none {H : Type} : Left H := { results := [], args := [] }

/-- 'arraylanglaw23.IndexingFrom': WHATEVER THE INPUT: true; the input reads as it did. -/
def indexingFromSpec : ChangeSpec := { name := "indexingFrom", fn := fun _ => fun
  | [d1, d2] => { results := [.lit (.bool true)], args := [d1, d2] }
  | _ => none }
def indexingFromRow : OpenClaim := { program := "ytcoknjlkhefgpaa", sum := "b6a7dfe45bec1100cd3123d6d6ccecaf875beddc13db26cfa9d2a28f0b3cf8ff", func := "arraylang/arraylanglaw23.IndexingFrom", spec := "indexingFrom", unfollowed := true, recurses := true, loops := true, apart := false }
def IndexingFromSaid : Prop := indexingFromRow.holds Try.pinned (OpenSpec.ofChange indexingFromSpec)

/-- ITS FALSE NEIGHBOUR: 'it returns false'. Refute it at one input. -/
def indexingFromWrong : ChangeSpec := { name := "indexingFrom", fn := fun _ => fun
  | [d1, d2] => { results := [.lit (.bool false)], args := [d1, d2] }
  | _ => none }
def IndexingFromWrongFalsely : Prop := indexingFromRow.holds Try.pinned (OpenSpec.ofChange indexingFromWrong)

/-- 'arraylanglaw23.IndexingPick': WHATEVER THE INPUT: true; the input reads as it did. -/
def indexingPickSpec : ChangeSpec := { name := "indexingPick", fn := fun _ => fun
  | [d1, d2] => { results := [.lit (.bool true)], args := [d1, d2] }
  | _ => none }
def indexingPickRow : OpenClaim := { program := "ytcoknjlkhefgpaa", sum := "b6a7dfe45bec1100cd3123d6d6ccecaf875beddc13db26cfa9d2a28f0b3cf8ff", func := "arraylang/arraylanglaw23.IndexingPick", spec := "indexingPick", unfollowed := true, recurses := true, loops := true, apart := false }
def IndexingPickSaid : Prop := indexingPickRow.holds Try.pinned (OpenSpec.ofChange indexingPickSpec)

/-- ITS FALSE NEIGHBOUR: 'it returns false'. Refute it at one input. -/
def indexingPickWrong : ChangeSpec := { name := "indexingPick", fn := fun _ => fun
  | [d1, d2] => { results := [.lit (.bool false)], args := [d1, d2] }
  | _ => none }
def IndexingPickWrongFalsely : Prop := indexingPickRow.holds Try.pinned (OpenSpec.ofChange indexingPickWrong)

/-- 'arraylanglaw23.IndexingAmend': WHATEVER THE INPUT: true; the input reads as it did. -/
def indexingAmendSpec : ChangeSpec := { name := "indexingAmend", fn := fun _ => fun
  | [d1, d2] => { results := [.lit (.bool true)], args := [d1, d2] }
  | _ => none }
def indexingAmendRow : OpenClaim := { program := "ytcoknjlkhefgpaa", sum := "b6a7dfe45bec1100cd3123d6d6ccecaf875beddc13db26cfa9d2a28f0b3cf8ff", func := "arraylang/arraylanglaw23.IndexingAmend", spec := "indexingAmend", unfollowed := true, recurses := true, loops := true, apart := false }
def IndexingAmendSaid : Prop := indexingAmendRow.holds Try.pinned (OpenSpec.ofChange indexingAmendSpec)

/-- ITS FALSE NEIGHBOUR: 'it returns false'. Refute it at one input. -/
def indexingAmendWrong : ChangeSpec := { name := "indexingAmend", fn := fun _ => fun
  | [d1, d2] => { results := [.lit (.bool false)], args := [d1, d2] }
  | _ => none }
def IndexingAmendWrongFalsely : Prop := indexingAmendRow.holds Try.pinned (OpenSpec.ofChange indexingAmendWrong)

/-- 'arraylanglaw23.IndexingAll': WHATEVER THE INPUT: true; the input reads as it did. -/
def indexingAllSpec : ChangeSpec := { name := "indexingAll", fn := fun _ => fun
  | [d] => { results := [.lit (.bool true)], args := [d] }
  | _ => none }
def indexingAllRow : OpenClaim := { program := "ytcoknjlkhefgpaa", sum := "b6a7dfe45bec1100cd3123d6d6ccecaf875beddc13db26cfa9d2a28f0b3cf8ff", func := "arraylang/arraylanglaw23.IndexingAll", spec := "indexingAll", unfollowed := true, recurses := true, loops := true, apart := false }
def IndexingAllSaid : Prop := indexingAllRow.holds Try.pinned (OpenSpec.ofChange indexingAllSpec)

/-- ITS FALSE NEIGHBOUR: 'it returns false'. Refute it at one input. -/
def indexingAllWrong : ChangeSpec := { name := "indexingAll", fn := fun _ => fun
  | [d] => { results := [.lit (.bool false)], args := [d] }
  | _ => none }
def IndexingAllWrongFalsely : Prop := indexingAllRow.holds Try.pinned (OpenSpec.ofChange indexingAllWrong)

/-- 'arraylanglaw23.IndexingBack': WHATEVER THE INPUT: true; the input reads as it did. -/
def indexingBackSpec : ChangeSpec := { name := "indexingBack", fn := fun _ => fun
  | [d1, d2, d3] => { results := [.lit (.bool true)], args := [d1, d2, d3] }
  | _ => none }
def indexingBackRow : OpenClaim := { program := "ytcoknjlkhefgpaa", sum := "b6a7dfe45bec1100cd3123d6d6ccecaf875beddc13db26cfa9d2a28f0b3cf8ff", func := "arraylang/arraylanglaw23.IndexingBack", spec := "indexingBack", unfollowed := true, recurses := true, loops := true, apart := false }
def IndexingBackSaid : Prop := indexingBackRow.holds Try.pinned (OpenSpec.ofChange indexingBackSpec)

/-- ITS FALSE NEIGHBOUR: 'it returns false'. Refute it at one input. -/
def indexingBackWrong : ChangeSpec := { name := "indexingBack", fn := fun _ => fun
  | [d1, d2, d3] => { results := [.lit (.bool false)], args := [d1, d2, d3] }
  | _ => none }
def IndexingBackWrongFalsely : Prop := indexingBackRow.holds Try.pinned (OpenSpec.ofChange indexingBackWrong)

/- THE SECOND FORM. 'bulk': how many values and letters a reading holds, each counted each time it is reached (what is shared counts as often as it is met; a slice's spare places count too). A statement '..UptoSaid' is the law's where the arguments, and the package variables that the reading takes, are together of bulk at most 1048576: NARROWER than '..Said'. Prove '..Said' where nothing that the law and all that it calls make is longer than what came in: it says more and counts as full. Else prove '..UptoSaid'. A law counts once. -/
mutual
def uptoBulk {H : Type} : DataW H → Nat
  | .lit (.string bytes) => bytes.length + 1
  | .lit _ => 1
  | .nil => 1
  | .ptr d => uptoBulk d + 1
  | .slice elems spare => uptoBulkAll elems + uptoBulkAll spare + 1
  | .agg parts => uptoBulkAll parts + 1
  | .iface _ d => uptoBulk d + 1
  | .map entries => uptoBulkEntries entries + 1
  | .held _ => 1
def uptoBulkAll {H : Type} : List (DataW H) → Nat
  | [] => 0
  | d :: r => uptoBulk d + uptoBulkAll r
def uptoBulkEntries {H : Type} : List (Lit × DataW H) → Nat
  | [] => 0
  | x :: r => uptoBulkEntry x + uptoBulkEntries r
def uptoBulkEntry {H : Type} : Lit × DataW H → Nat
  | (.string bytes, d) => bytes.length + uptoBulk d + 1
  | (_, d) => uptoBulk d + 1
 end
def uptoSmall : (H : Type) → List (DataW H) → Bool := fun _ ds => decide (uptoBulkAll ds ≤ 1048576)
def OpenSpec.upto (s : _root_.Go.ChangeSpec) : _root_.Go.OpenSpec := { _root_.Go.OpenSpec.ofChange s with cond := some uptoSmall }

/-- 'arraylanglaw23.IndexingFrom', WHERE WHAT IT READS IS OF BULK AT MOST 1048576: true; the input reads as it did. -/
def indexingFromUptoRow : OpenClaim := { program := "ytcoknjlkhefgpaa", sum := "b6a7dfe45bec1100cd3123d6d6ccecaf875beddc13db26cfa9d2a28f0b3cf8ff", func := "arraylang/arraylanglaw23.IndexingFrom", spec := "indexingFrom", unfollowed := true, recurses := true, loops := true, apart := false, narrowed := true }
def IndexingFromUptoSaid : Prop := indexingFromUptoRow.holds Try.pinned (OpenSpec.upto indexingFromSpec)

/-- 'arraylanglaw23.IndexingPick', WHERE WHAT IT READS IS OF BULK AT MOST 1048576: true; the input reads as it did. -/
def indexingPickUptoRow : OpenClaim := { program := "ytcoknjlkhefgpaa", sum := "b6a7dfe45bec1100cd3123d6d6ccecaf875beddc13db26cfa9d2a28f0b3cf8ff", func := "arraylang/arraylanglaw23.IndexingPick", spec := "indexingPick", unfollowed := true, recurses := true, loops := true, apart := false, narrowed := true }
def IndexingPickUptoSaid : Prop := indexingPickUptoRow.holds Try.pinned (OpenSpec.upto indexingPickSpec)

/-- 'arraylanglaw23.IndexingAmend', WHERE WHAT IT READS IS OF BULK AT MOST 1048576: true; the input reads as it did. -/
def indexingAmendUptoRow : OpenClaim := { program := "ytcoknjlkhefgpaa", sum := "b6a7dfe45bec1100cd3123d6d6ccecaf875beddc13db26cfa9d2a28f0b3cf8ff", func := "arraylang/arraylanglaw23.IndexingAmend", spec := "indexingAmend", unfollowed := true, recurses := true, loops := true, apart := false, narrowed := true }
def IndexingAmendUptoSaid : Prop := indexingAmendUptoRow.holds Try.pinned (OpenSpec.upto indexingAmendSpec)

/-- 'arraylanglaw23.IndexingAll', WHERE WHAT IT READS IS OF BULK AT MOST 1048576: true; the input reads as it did. -/
def indexingAllUptoRow : OpenClaim := { program := "ytcoknjlkhefgpaa", sum := "b6a7dfe45bec1100cd3123d6d6ccecaf875beddc13db26cfa9d2a28f0b3cf8ff", func := "arraylang/arraylanglaw23.IndexingAll", spec := "indexingAll", unfollowed := true, recurses := true, loops := true, apart := false, narrowed := true }
def IndexingAllUptoSaid : Prop := indexingAllUptoRow.holds Try.pinned (OpenSpec.upto indexingAllSpec)

/-- 'arraylanglaw23.IndexingBack', WHERE WHAT IT READS IS OF BULK AT MOST 1048576: true; the input reads as it did. -/
def indexingBackUptoRow : OpenClaim := { program := "ytcoknjlkhefgpaa", sum := "b6a7dfe45bec1100cd3123d6d6ccecaf875beddc13db26cfa9d2a28f0b3cf8ff", func := "arraylang/arraylanglaw23.IndexingBack", spec := "indexingBack", unfollowed := true, recurses := true, loops := true, apart := false, narrowed := true }
def IndexingBackUptoSaid : Prop := indexingBackUptoRow.holds Try.pinned (OpenSpec.upto indexingBackSpec)

end Rows
end Go.Proofs.Ytcoknjlkhefgpaa
