/-
  NARROWER THAN 'FOR EVERY INPUT', by the rows' own cells (each row's printed sentence says how): JoiningLast: loops · JoiningFirst: loops · JoiningEmpty: loops · JoiningAssociates: loops · JoiningParts: loops · CopyingCopies: loops · CopyingExpands: loops · CopyingCuts: loops · CopyingOnce: loops · CopyingBack: loops · CopyingGroups: loops.
  DERIVED. THE GIVEN ROWS OF THIS SEAT. 12 by the template 'for every input the law returns true; each argument reads behind the call as it read before'; 0 by the template 'total and deterministic' (their statements: YthhffneibcpbdaaTotals.lean).
  GIVEN WITH THE SEED: the statements are not yours to turn. If you find one false, say at which input.
  Laid BY PROGRAM, IN A SANDBOX (cutbox-rows.mjs): the forced cells as the released guide's own fill.sh prints them over the translation 6495966a265f8d6d… (all of the seat's roots in one cut). By AI agents, Wed Nov 11 2026. No macro, syntax, notation, axiom, sorry.
-/
import Derived.Test.YthhffneibcpbdaaChecked
import GoSem.Claim
import GoSem.ClaimJoined
import GoSem.ClaimMapViews
import Derived.JoinedTies
import Derived.KernelRfl
namespace Go.Proofs.Ythhffneibcpbdaa
/- THE CELL 'sum', in the pinned program and in every row, IS THE sha256 OF THE DUMP (.gsa) THAT YthhffneibcpbdaaProg.lean LOADS. Nothing in Lean hashes anything: it is a label: what it is worth is what the hold of that sum in a sandbox is worth. -/
noncomputable def Try.pinned : Pinned := { name := "ythhffneibcpbdaa", sum := "6495966a265f8d6d526c55e0100bfdfe97eb357e1c2553ab5c4eddec700e007e", checked := Try.checked }
namespace Rows
def none {H : Type} : Left H := { results := [], args := [] }

/-- 'arraylanglaw20.JoiningLast': WHATEVER THE INPUT: true; the input reads as it did. -/
def joiningLastSpec : ChangeSpec := { name := "joiningLast", fn := fun _ => fun
  | [d1, d2] => { results := [.lit (.bool true)], args := [d1, d2] }
  | _ => none }
def joiningLastRow : OpenClaim := { program := "ythhffneibcpbdaa", sum := "6495966a265f8d6d526c55e0100bfdfe97eb357e1c2553ab5c4eddec700e007e", func := "arraylang/arraylanglaw20.JoiningLast", spec := "joiningLast", inPlace := ["slices.overlaps[int]"], unfollowed := true, recurses := true, loops := true, apart := false }
def JoiningLastSaid : Prop := joiningLastRow.holds Try.pinned (OpenSpec.ofChange joiningLastSpec)

/-- ITS FALSE NEIGHBOUR: 'it returns false'. Refute it at one input. -/
def joiningLastWrong : ChangeSpec := { name := "joiningLast", fn := fun _ => fun
  | [d1, d2] => { results := [.lit (.bool false)], args := [d1, d2] }
  | _ => none }
def JoiningLastWrongFalsely : Prop := joiningLastRow.holds Try.pinned (OpenSpec.ofChange joiningLastWrong)

/-- 'arraylanglaw20.JoiningFirst': WHATEVER THE INPUT: true; the input reads as it did. -/
def joiningFirstSpec : ChangeSpec := { name := "joiningFirst", fn := fun _ => fun
  | [d1, d2] => { results := [.lit (.bool true)], args := [d1, d2] }
  | _ => none }
def joiningFirstRow : OpenClaim := { program := "ythhffneibcpbdaa", sum := "6495966a265f8d6d526c55e0100bfdfe97eb357e1c2553ab5c4eddec700e007e", func := "arraylang/arraylanglaw20.JoiningFirst", spec := "joiningFirst", inPlace := ["slices.overlaps[int]"], unfollowed := true, recurses := true, loops := true, apart := false }
def JoiningFirstSaid : Prop := joiningFirstRow.holds Try.pinned (OpenSpec.ofChange joiningFirstSpec)

/-- ITS FALSE NEIGHBOUR: 'it returns false'. Refute it at one input. -/
def joiningFirstWrong : ChangeSpec := { name := "joiningFirst", fn := fun _ => fun
  | [d1, d2] => { results := [.lit (.bool false)], args := [d1, d2] }
  | _ => none }
def JoiningFirstWrongFalsely : Prop := joiningFirstRow.holds Try.pinned (OpenSpec.ofChange joiningFirstWrong)

/-- 'arraylanglaw20.JoiningEmpty': WHATEVER THE INPUT: true; the input reads as it did. -/
def joiningEmptySpec : ChangeSpec := { name := "joiningEmpty", fn := fun _ => fun
  | [d] => { results := [.lit (.bool true)], args := [d] }
  | _ => none }
def joiningEmptyRow : OpenClaim := { program := "ythhffneibcpbdaa", sum := "6495966a265f8d6d526c55e0100bfdfe97eb357e1c2553ab5c4eddec700e007e", func := "arraylang/arraylanglaw20.JoiningEmpty", spec := "joiningEmpty", inPlace := ["slices.overlaps[int]"], unfollowed := true, recurses := true, loops := true, apart := false }
def JoiningEmptySaid : Prop := joiningEmptyRow.holds Try.pinned (OpenSpec.ofChange joiningEmptySpec)

/-- ITS FALSE NEIGHBOUR: 'it returns false'. Refute it at one input. -/
def joiningEmptyWrong : ChangeSpec := { name := "joiningEmpty", fn := fun _ => fun
  | [d] => { results := [.lit (.bool false)], args := [d] }
  | _ => none }
def JoiningEmptyWrongFalsely : Prop := joiningEmptyRow.holds Try.pinned (OpenSpec.ofChange joiningEmptyWrong)

/-- 'arraylanglaw20.JoiningAssociates': WHATEVER THE INPUT: true; the input reads as it did. -/
def joiningAssociatesSpec : ChangeSpec := { name := "joiningAssociates", fn := fun _ => fun
  | [d1, d2, d3] => { results := [.lit (.bool true)], args := [d1, d2, d3] }
  | _ => none }
def joiningAssociatesRow : OpenClaim := { program := "ythhffneibcpbdaa", sum := "6495966a265f8d6d526c55e0100bfdfe97eb357e1c2553ab5c4eddec700e007e", func := "arraylang/arraylanglaw20.JoiningAssociates", spec := "joiningAssociates", inPlace := ["slices.overlaps[int]"], unfollowed := true, recurses := true, loops := true, apart := false }
def JoiningAssociatesSaid : Prop := joiningAssociatesRow.holds Try.pinned (OpenSpec.ofChange joiningAssociatesSpec)

/-- ITS FALSE NEIGHBOUR: 'it returns false'. Refute it at one input. -/
def joiningAssociatesWrong : ChangeSpec := { name := "joiningAssociates", fn := fun _ => fun
  | [d1, d2, d3] => { results := [.lit (.bool false)], args := [d1, d2, d3] }
  | _ => none }
def JoiningAssociatesWrongFalsely : Prop := joiningAssociatesRow.holds Try.pinned (OpenSpec.ofChange joiningAssociatesWrong)

/-- 'arraylanglaw20.JoiningParts': WHATEVER THE INPUT: true; the input reads as it did. -/
def joiningPartsSpec : ChangeSpec := { name := "joiningParts", fn := fun _ => fun
  | [d1, d2] => { results := [.lit (.bool true)], args := [d1, d2] }
  | _ => none }
def joiningPartsRow : OpenClaim := { program := "ythhffneibcpbdaa", sum := "6495966a265f8d6d526c55e0100bfdfe97eb357e1c2553ab5c4eddec700e007e", func := "arraylang/arraylanglaw20.JoiningParts", spec := "joiningParts", inPlace := ["slices.overlaps[int]"], unfollowed := true, recurses := true, loops := true, apart := false }
def JoiningPartsSaid : Prop := joiningPartsRow.holds Try.pinned (OpenSpec.ofChange joiningPartsSpec)

/-- ITS FALSE NEIGHBOUR: 'it returns false'. Refute it at one input. -/
def joiningPartsWrong : ChangeSpec := { name := "joiningParts", fn := fun _ => fun
  | [d1, d2] => { results := [.lit (.bool false)], args := [d1, d2] }
  | _ => none }
def JoiningPartsWrongFalsely : Prop := joiningPartsRow.holds Try.pinned (OpenSpec.ofChange joiningPartsWrong)

/-- 'arraylanglaw20.JoiningLimit': WHATEVER THE INPUT: true; the input reads as it did. -/
def joiningLimitSpec : ChangeSpec := { name := "joiningLimit", fn := fun _ => fun
  | [d1, d2] => { results := [.lit (.bool true)], args := [d1, d2] }
  | _ => none }
def joiningLimitRow : OpenClaim := { program := "ythhffneibcpbdaa", sum := "6495966a265f8d6d526c55e0100bfdfe97eb357e1c2553ab5c4eddec700e007e", func := "arraylang/arraylanglaw20.JoiningLimit", spec := "joiningLimit", inPlace := ["slices.overlaps[int]"], unfollowed := true, recurses := true, apart := false }
def JoiningLimitSaid : Prop := joiningLimitRow.holds Try.pinned (OpenSpec.ofChange joiningLimitSpec)

/-- ITS FALSE NEIGHBOUR: 'it returns false'. Refute it at one input. -/
def joiningLimitWrong : ChangeSpec := { name := "joiningLimit", fn := fun _ => fun
  | [d1, d2] => { results := [.lit (.bool false)], args := [d1, d2] }
  | _ => none }
def JoiningLimitWrongFalsely : Prop := joiningLimitRow.holds Try.pinned (OpenSpec.ofChange joiningLimitWrong)

/-- 'arraylanglaw26.CopyingCopies': WHATEVER THE INPUT: true; the input reads as it did. -/
def copyingCopiesSpec : ChangeSpec := { name := "copyingCopies", fn := fun _ => fun
  | [d1, d2] => { results := [.lit (.bool true)], args := [d1, d2] }
  | _ => none }
def copyingCopiesRow : OpenClaim := { program := "ythhffneibcpbdaa", sum := "6495966a265f8d6d526c55e0100bfdfe97eb357e1c2553ab5c4eddec700e007e", func := "arraylang/arraylanglaw26.CopyingCopies", spec := "copyingCopies", unfollowed := true, recurses := true, loops := true, apart := false }
def CopyingCopiesSaid : Prop := copyingCopiesRow.holds Try.pinned (OpenSpec.ofChange copyingCopiesSpec)

/-- ITS FALSE NEIGHBOUR: 'it returns false'. Refute it at one input. -/
def copyingCopiesWrong : ChangeSpec := { name := "copyingCopies", fn := fun _ => fun
  | [d1, d2] => { results := [.lit (.bool false)], args := [d1, d2] }
  | _ => none }
def CopyingCopiesWrongFalsely : Prop := copyingCopiesRow.holds Try.pinned (OpenSpec.ofChange copyingCopiesWrong)

/-- 'arraylanglaw26.CopyingExpands': WHATEVER THE INPUT: true; the input reads as it did. -/
def copyingExpandsSpec : ChangeSpec := { name := "copyingExpands", fn := fun _ => fun
  | [d1, d2] => { results := [.lit (.bool true)], args := [d1, d2] }
  | _ => none }
def copyingExpandsRow : OpenClaim := { program := "ythhffneibcpbdaa", sum := "6495966a265f8d6d526c55e0100bfdfe97eb357e1c2553ab5c4eddec700e007e", func := "arraylang/arraylanglaw26.CopyingExpands", spec := "copyingExpands", unfollowed := true, recurses := true, loops := true, apart := false }
def CopyingExpandsSaid : Prop := copyingExpandsRow.holds Try.pinned (OpenSpec.ofChange copyingExpandsSpec)

/-- ITS FALSE NEIGHBOUR: 'it returns false'. Refute it at one input. -/
def copyingExpandsWrong : ChangeSpec := { name := "copyingExpands", fn := fun _ => fun
  | [d1, d2] => { results := [.lit (.bool false)], args := [d1, d2] }
  | _ => none }
def CopyingExpandsWrongFalsely : Prop := copyingExpandsRow.holds Try.pinned (OpenSpec.ofChange copyingExpandsWrong)

/-- 'arraylanglaw26.CopyingCuts': WHATEVER THE INPUT: true; the input reads as it did. -/
def copyingCutsSpec : ChangeSpec := { name := "copyingCuts", fn := fun _ => fun
  | [d1, d2] => { results := [.lit (.bool true)], args := [d1, d2] }
  | _ => none }
def copyingCutsRow : OpenClaim := { program := "ythhffneibcpbdaa", sum := "6495966a265f8d6d526c55e0100bfdfe97eb357e1c2553ab5c4eddec700e007e", func := "arraylang/arraylanglaw26.CopyingCuts", spec := "copyingCuts", unfollowed := true, recurses := true, loops := true, apart := false }
def CopyingCutsSaid : Prop := copyingCutsRow.holds Try.pinned (OpenSpec.ofChange copyingCutsSpec)

/-- ITS FALSE NEIGHBOUR: 'it returns false'. Refute it at one input. -/
def copyingCutsWrong : ChangeSpec := { name := "copyingCuts", fn := fun _ => fun
  | [d1, d2] => { results := [.lit (.bool false)], args := [d1, d2] }
  | _ => none }
def CopyingCutsWrongFalsely : Prop := copyingCutsRow.holds Try.pinned (OpenSpec.ofChange copyingCutsWrong)

/-- 'arraylanglaw26.CopyingOnce': WHATEVER THE INPUT: true; the input reads as it did. -/
def copyingOnceSpec : ChangeSpec := { name := "copyingOnce", fn := fun _ => fun
  | [d] => { results := [.lit (.bool true)], args := [d] }
  | _ => none }
def copyingOnceRow : OpenClaim := { program := "ythhffneibcpbdaa", sum := "6495966a265f8d6d526c55e0100bfdfe97eb357e1c2553ab5c4eddec700e007e", func := "arraylang/arraylanglaw26.CopyingOnce", spec := "copyingOnce", unfollowed := true, recurses := true, loops := true, apart := false }
def CopyingOnceSaid : Prop := copyingOnceRow.holds Try.pinned (OpenSpec.ofChange copyingOnceSpec)

/-- ITS FALSE NEIGHBOUR: 'it returns false'. Refute it at one input. -/
def copyingOnceWrong : ChangeSpec := { name := "copyingOnce", fn := fun _ => fun
  | [d] => { results := [.lit (.bool false)], args := [d] }
  | _ => none }
def CopyingOnceWrongFalsely : Prop := copyingOnceRow.holds Try.pinned (OpenSpec.ofChange copyingOnceWrong)

/-- 'arraylanglaw26.CopyingBack': WHATEVER THE INPUT: true; the input reads as it did. -/
def copyingBackSpec : ChangeSpec := { name := "copyingBack", fn := fun _ => fun
  | [d1, d2] => { results := [.lit (.bool true)], args := [d1, d2] }
  | _ => none }
def copyingBackRow : OpenClaim := { program := "ythhffneibcpbdaa", sum := "6495966a265f8d6d526c55e0100bfdfe97eb357e1c2553ab5c4eddec700e007e", func := "arraylang/arraylanglaw26.CopyingBack", spec := "copyingBack", unfollowed := true, recurses := true, loops := true, apart := false }
def CopyingBackSaid : Prop := copyingBackRow.holds Try.pinned (OpenSpec.ofChange copyingBackSpec)

/-- ITS FALSE NEIGHBOUR: 'it returns false'. Refute it at one input. -/
def copyingBackWrong : ChangeSpec := { name := "copyingBack", fn := fun _ => fun
  | [d1, d2] => { results := [.lit (.bool false)], args := [d1, d2] }
  | _ => none }
def CopyingBackWrongFalsely : Prop := copyingBackRow.holds Try.pinned (OpenSpec.ofChange copyingBackWrong)

/-- 'arraylanglaw26.CopyingGroups': WHATEVER THE INPUT: true; the input reads as it did. -/
def copyingGroupsSpec : ChangeSpec := { name := "copyingGroups", fn := fun _ => fun
  | [d1, d2] => { results := [.lit (.bool true)], args := [d1, d2] }
  | _ => none }
def copyingGroupsRow : OpenClaim := { program := "ythhffneibcpbdaa", sum := "6495966a265f8d6d526c55e0100bfdfe97eb357e1c2553ab5c4eddec700e007e", func := "arraylang/arraylanglaw26.CopyingGroups", spec := "copyingGroups", unfollowed := true, recurses := true, loops := true, apart := false }
def CopyingGroupsSaid : Prop := copyingGroupsRow.holds Try.pinned (OpenSpec.ofChange copyingGroupsSpec)

/-- ITS FALSE NEIGHBOUR: 'it returns false'. Refute it at one input. -/
def copyingGroupsWrong : ChangeSpec := { name := "copyingGroups", fn := fun _ => fun
  | [d1, d2] => { results := [.lit (.bool false)], args := [d1, d2] }
  | _ => none }
def CopyingGroupsWrongFalsely : Prop := copyingGroupsRow.holds Try.pinned (OpenSpec.ofChange copyingGroupsWrong)

/- THE SECOND FORM. 'bulk': how many values and letters a reading holds, each counted each time it is reached (what is shared counts as often as it is met; a slice's spare places count too). A statement '..UptoSaid' is the law's where the arguments, and the package variables that the reading takes, are together of bulk at most 1048576: NARROWER than '..Said'. Prove '..Said' where nothing that the law and all that it calls make is longer than what came in: it says more and counts as full. Else prove '..UptoSaid'. A law counts once. -/
mutual
def uptoBulk {H : Type} : DataW H → Nat
  | .lit (.string bytes) => bytes.length + 1
  | .lit _ => 1
  | .nil => 1
  | .ptr d => uptoBulk d + 1
  | .slice elems spare => uptoBulkAll elems + uptoBulkAll spare + 1
  | .agg parts => uptoBulkAll parts + 1
  | .iface _ d => uptoBulk d + 1
  | .map entries => uptoBulkEntries entries + 1
  | .held _ => 1
def uptoBulkAll {H : Type} : List (DataW H) → Nat
  | [] => 0
  | d :: r => uptoBulk d + uptoBulkAll r
def uptoBulkEntries {H : Type} : List (Lit × DataW H) → Nat
  | [] => 0
  | x :: r => uptoBulkEntry x + uptoBulkEntries r
def uptoBulkEntry {H : Type} : Lit × DataW H → Nat
  | (.string bytes, d) => bytes.length + uptoBulk d + 1
  | (_, d) => uptoBulk d + 1
 end
def uptoSmall : (H : Type) → List (DataW H) → Bool := fun _ ds => decide (uptoBulkAll ds ≤ 1048576)
def OpenSpec.upto (s : _root_.Go.ChangeSpec) : _root_.Go.OpenSpec := { _root_.Go.OpenSpec.ofChange s with cond := some uptoSmall }

/-- 'arraylanglaw20.JoiningLast', WHERE WHAT IT READS IS OF BULK AT MOST 1048576: true; the input reads as it did. -/
def joiningLastUptoRow : OpenClaim := { program := "ythhffneibcpbdaa", sum := "6495966a265f8d6d526c55e0100bfdfe97eb357e1c2553ab5c4eddec700e007e", func := "arraylang/arraylanglaw20.JoiningLast", spec := "joiningLast", inPlace := ["slices.overlaps[int]"], unfollowed := true, recurses := true, loops := true, apart := false, narrowed := true }
def JoiningLastUptoSaid : Prop := joiningLastUptoRow.holds Try.pinned (OpenSpec.upto joiningLastSpec)

/-- 'arraylanglaw20.JoiningFirst', WHERE WHAT IT READS IS OF BULK AT MOST 1048576: true; the input reads as it did. -/
def joiningFirstUptoRow : OpenClaim := { program := "ythhffneibcpbdaa", sum := "6495966a265f8d6d526c55e0100bfdfe97eb357e1c2553ab5c4eddec700e007e", func := "arraylang/arraylanglaw20.JoiningFirst", spec := "joiningFirst", inPlace := ["slices.overlaps[int]"], unfollowed := true, recurses := true, loops := true, apart := false, narrowed := true }
def JoiningFirstUptoSaid : Prop := joiningFirstUptoRow.holds Try.pinned (OpenSpec.upto joiningFirstSpec)

/-- 'arraylanglaw20.JoiningEmpty', WHERE WHAT IT READS IS OF BULK AT MOST 1048576: true; the input reads as it did. -/
def joiningEmptyUptoRow : OpenClaim := { program := "ythhffneibcpbdaa", sum := "6495966a265f8d6d526c55e0100bfdfe97eb357e1c2553ab5c4eddec700e007e", func := "arraylang/arraylanglaw20.JoiningEmpty", spec := "joiningEmpty", inPlace := ["slices.overlaps[int]"], unfollowed := true, recurses := true, loops := true, apart := false, narrowed := true }
def JoiningEmptyUptoSaid : Prop := joiningEmptyUptoRow.holds Try.pinned (OpenSpec.upto joiningEmptySpec)

/-- 'arraylanglaw20.JoiningAssociates', WHERE WHAT IT READS IS OF BULK AT MOST 1048576: true; the input reads as it did. -/
def joiningAssociatesUptoRow : OpenClaim := { program := "ythhffneibcpbdaa", sum := "6495966a265f8d6d526c55e0100bfdfe97eb357e1c2553ab5c4eddec700e007e", func := "arraylang/arraylanglaw20.JoiningAssociates", spec := "joiningAssociates", inPlace := ["slices.overlaps[int]"], unfollowed := true, recurses := true, loops := true, apart := false, narrowed := true }
def JoiningAssociatesUptoSaid : Prop := joiningAssociatesUptoRow.holds Try.pinned (OpenSpec.upto joiningAssociatesSpec)

/-- 'arraylanglaw20.JoiningParts', WHERE WHAT IT READS IS OF BULK AT MOST 1048576: true; the input reads as it did. -/
def joiningPartsUptoRow : OpenClaim := { program := "ythhffneibcpbdaa", sum := "6495966a265f8d6d526c55e0100bfdfe97eb357e1c2553ab5c4eddec700e007e", func := "arraylang/arraylanglaw20.JoiningParts", spec := "joiningParts", inPlace := ["slices.overlaps[int]"], unfollowed := true, recurses := true, loops := true, apart := false, narrowed := true }
def JoiningPartsUptoSaid : Prop := joiningPartsUptoRow.holds Try.pinned (OpenSpec.upto joiningPartsSpec)

/-- 'arraylanglaw20.JoiningLimit', WHERE WHAT IT READS IS OF BULK AT MOST 1048576: true; the input reads as it did. -/
def joiningLimitUptoRow : OpenClaim := { program := "ythhffneibcpbdaa", sum := "6495966a265f8d6d526c55e0100bfdfe97eb357e1c2553ab5c4eddec700e007e", func := "arraylang/arraylanglaw20.JoiningLimit", spec := "joiningLimit", inPlace := ["slices.overlaps[int]"], unfollowed := true, recurses := true, apart := false, narrowed := true }
def JoiningLimitUptoSaid : Prop := joiningLimitUptoRow.holds Try.pinned (OpenSpec.upto joiningLimitSpec)

/-- 'arraylanglaw26.CopyingCopies', WHERE WHAT IT READS IS OF BULK AT MOST 1048576: true; the input reads as it did. -/
def copyingCopiesUptoRow : OpenClaim := { program := "ythhffneibcpbdaa", sum := "6495966a265f8d6d526c55e0100bfdfe97eb357e1c2553ab5c4eddec700e007e", func := "arraylang/arraylanglaw26.CopyingCopies", spec := "copyingCopies", unfollowed := true, recurses := true, loops := true, apart := false, narrowed := true }
def CopyingCopiesUptoSaid : Prop := copyingCopiesUptoRow.holds Try.pinned (OpenSpec.upto copyingCopiesSpec)

/-- 'arraylanglaw26.CopyingExpands', WHERE WHAT IT READS IS OF BULK AT MOST 1048576: true; the input reads as it did. -/
def copyingExpandsUptoRow : OpenClaim := { program := "ythhffneibcpbdaa", sum := "6495966a265f8d6d526c55e0100bfdfe97eb357e1c2553ab5c4eddec700e007e", func := "arraylang/arraylanglaw26.CopyingExpands", spec := "copyingExpands", unfollowed := true, recurses := true, loops := true, apart := false, narrowed := true }
def CopyingExpandsUptoSaid : Prop := copyingExpandsUptoRow.holds Try.pinned (OpenSpec.upto copyingExpandsSpec)

/-- 'arraylanglaw26.CopyingCuts', WHERE WHAT IT READS IS OF BULK AT MOST 1048576: true; the input reads as it did. -/
def copyingCutsUptoRow : OpenClaim := { program := "ythhffneibcpbdaa", sum := "6495966a265f8d6d526c55e0100bfdfe97eb357e1c2553ab5c4eddec700e007e", func := "arraylang/arraylanglaw26.CopyingCuts", spec := "copyingCuts", unfollowed := true, recurses := true, loops := true, apart := false, narrowed := true }
def CopyingCutsUptoSaid : Prop := copyingCutsUptoRow.holds Try.pinned (OpenSpec.upto copyingCutsSpec)

/-- 'arraylanglaw26.CopyingOnce', WHERE WHAT IT READS IS OF BULK AT MOST 1048576: true; the input reads as it did. -/
def copyingOnceUptoRow : OpenClaim := { program := "ythhffneibcpbdaa", sum := "6495966a265f8d6d526c55e0100bfdfe97eb357e1c2553ab5c4eddec700e007e", func := "arraylang/arraylanglaw26.CopyingOnce", spec := "copyingOnce", unfollowed := true, recurses := true, loops := true, apart := false, narrowed := true }
def CopyingOnceUptoSaid : Prop := copyingOnceUptoRow.holds Try.pinned (OpenSpec.upto copyingOnceSpec)

/-- 'arraylanglaw26.CopyingBack', WHERE WHAT IT READS IS OF BULK AT MOST 1048576: true; the input reads as it did. -/
def copyingBackUptoRow : OpenClaim := { program := "ythhffneibcpbdaa", sum := "6495966a265f8d6d526c55e0100bfdfe97eb357e1c2553ab5c4eddec700e007e", func := "arraylang/arraylanglaw26.CopyingBack", spec := "copyingBack", unfollowed := true, recurses := true, loops := true, apart := false, narrowed := true }
def CopyingBackUptoSaid : Prop := copyingBackUptoRow.holds Try.pinned (OpenSpec.upto copyingBackSpec)

/-- 'arraylanglaw26.CopyingGroups', WHERE WHAT IT READS IS OF BULK AT MOST 1048576: true; the input reads as it did. -/
def copyingGroupsUptoRow : OpenClaim := { program := "ythhffneibcpbdaa", sum := "6495966a265f8d6d526c55e0100bfdfe97eb357e1c2553ab5c4eddec700e007e", func := "arraylang/arraylanglaw26.CopyingGroups", spec := "copyingGroups", unfollowed := true, recurses := true, loops := true, apart := false, narrowed := true }
def CopyingGroupsUptoSaid : Prop := copyingGroupsUptoRow.holds Try.pinned (OpenSpec.upto copyingGroupsSpec)

end Rows
end Go.Proofs.Ythhffneibcpbdaa
