/-
  NARROWER THAN 'FOR EVERY INPUT', by the rows' own cells (each row's printed sentence says how): StructureIota: loops · StructureCounts: loops · StructureConverts: loops · StructureDescribes: loops · StructureBack: loops · StructureBoxes: loops.
  DERIVED. THE GIVEN ROWS OF THIS SEAT. 6 by the template 'for every input the law returns true; each argument reads behind the call as it read before'; 0 by the template 'total and deterministic' (their statements: YtkbbdlibamcilaaTotals.lean).
  GIVEN WITH THE SEED: the statements are not yours to turn. If you find one false, say at which input.
  Laid BY PROGRAM, IN A SANDBOX (cutbox-rows.mjs): the forced cells as the released guide's own fill.sh prints them over the translation efb76cf8cb372f28… (all of the seat's roots in one cut). By AI agents, Wed Nov 11 2026. No macro, syntax, notation, axiom, sorry.
-/
import Derived.Test.YtkbbdlibamcilaaChecked
import GoSem.Claim
import GoSem.ClaimJoined
import GoSem.ClaimMapViews
import Derived.JoinedTies
import Derived.KernelRfl
namespace Go.Proofs.Ytkbbdlibamcilaa
/- THE CELL 'sum', in the pinned program and in every row, IS THE sha256 OF THE DUMP (.gsa) THAT YtkbbdlibamcilaaProg.lean LOADS. Nothing in Lean hashes anything: it is a label: what it is worth is what the hold of that sum in a sandbox is worth. -/
noncomputable def Try.pinned : Pinned := { name := "ytkbbdlibamcilaa", sum := "efb76cf8cb372f283f5e858f57857e2c1243106c8f65b3cd0537f39896a9650c", checked := Try.checked }
namespace Rows
def none {H : Type} : Left H := { results := [], args := [] }

/-- 'arraylanglaw17.StructureIota': WHATEVER THE INPUT: true; the input reads as it did. -/
def structureIotaSpec : ChangeSpec := { name := "structureIota", fn := fun _ => fun
  | [d] => { results := [.lit (.bool true)], args := [d] }
  | _ => none }
def structureIotaRow : OpenClaim := { program := "ytkbbdlibamcilaa", sum := "efb76cf8cb372f283f5e858f57857e2c1243106c8f65b3cd0537f39896a9650c", func := "arraylang/arraylanglaw17.StructureIota", spec := "structureIota", unfollowed := true, recurses := true, loops := true, apart := false }
def StructureIotaSaid : Prop := structureIotaRow.holds Try.pinned (OpenSpec.ofChange structureIotaSpec)

/-- ITS FALSE NEIGHBOUR: 'it returns false'. Refute it at one input. -/
def structureIotaWrong : ChangeSpec := { name := "structureIota", fn := fun _ => fun
  | [d] => { results := [.lit (.bool false)], args := [d] }
  | _ => none }
def StructureIotaWrongFalsely : Prop := structureIotaRow.holds Try.pinned (OpenSpec.ofChange structureIotaWrong)

/-- 'arraylanglaw17.StructureCounts': WHATEVER THE INPUT: true; the input reads as it did. -/
def structureCountsSpec : ChangeSpec := { name := "structureCounts", fn := fun _ => fun
  | [d] => { results := [.lit (.bool true)], args := [d] }
  | _ => none }
def structureCountsRow : OpenClaim := { program := "ytkbbdlibamcilaa", sum := "efb76cf8cb372f283f5e858f57857e2c1243106c8f65b3cd0537f39896a9650c", func := "arraylang/arraylanglaw17.StructureCounts", spec := "structureCounts", unfollowed := true, recurses := true, loops := true, apart := false }
def StructureCountsSaid : Prop := structureCountsRow.holds Try.pinned (OpenSpec.ofChange structureCountsSpec)

/-- ITS FALSE NEIGHBOUR: 'it returns false'. Refute it at one input. -/
def structureCountsWrong : ChangeSpec := { name := "structureCounts", fn := fun _ => fun
  | [d] => { results := [.lit (.bool false)], args := [d] }
  | _ => none }
def StructureCountsWrongFalsely : Prop := structureCountsRow.holds Try.pinned (OpenSpec.ofChange structureCountsWrong)

/-- 'arraylanglaw17.StructureConverts': WHATEVER THE INPUT: true; the input reads as it did. -/
def structureConvertsSpec : ChangeSpec := { name := "structureConverts", fn := fun _ => fun
  | [d] => { results := [.lit (.bool true)], args := [d] }
  | _ => none }
def structureConvertsRow : OpenClaim := { program := "ytkbbdlibamcilaa", sum := "efb76cf8cb372f283f5e858f57857e2c1243106c8f65b3cd0537f39896a9650c", func := "arraylang/arraylanglaw17.StructureConverts", spec := "structureConverts", unfollowed := true, recurses := true, loops := true, apart := false }
def StructureConvertsSaid : Prop := structureConvertsRow.holds Try.pinned (OpenSpec.ofChange structureConvertsSpec)

/-- ITS FALSE NEIGHBOUR: 'it returns false'. Refute it at one input. -/
def structureConvertsWrong : ChangeSpec := { name := "structureConverts", fn := fun _ => fun
  | [d] => { results := [.lit (.bool false)], args := [d] }
  | _ => none }
def StructureConvertsWrongFalsely : Prop := structureConvertsRow.holds Try.pinned (OpenSpec.ofChange structureConvertsWrong)

/-- 'arraylanglaw17.StructureDescribes': WHATEVER THE INPUT: true; the input reads as it did. -/
def structureDescribesSpec : ChangeSpec := { name := "structureDescribes", fn := fun _ => fun
  | [d] => { results := [.lit (.bool true)], args := [d] }
  | _ => none }
def structureDescribesRow : OpenClaim := { program := "ytkbbdlibamcilaa", sum := "efb76cf8cb372f283f5e858f57857e2c1243106c8f65b3cd0537f39896a9650c", func := "arraylang/arraylanglaw17.StructureDescribes", spec := "structureDescribes", unfollowed := true, recurses := true, loops := true, apart := false }
def StructureDescribesSaid : Prop := structureDescribesRow.holds Try.pinned (OpenSpec.ofChange structureDescribesSpec)

/-- ITS FALSE NEIGHBOUR: 'it returns false'. Refute it at one input. -/
def structureDescribesWrong : ChangeSpec := { name := "structureDescribes", fn := fun _ => fun
  | [d] => { results := [.lit (.bool false)], args := [d] }
  | _ => none }
def StructureDescribesWrongFalsely : Prop := structureDescribesRow.holds Try.pinned (OpenSpec.ofChange structureDescribesWrong)

/-- 'arraylanglaw17.StructureBack': WHATEVER THE INPUT: true; the input reads as it did. -/
def structureBackSpec : ChangeSpec := { name := "structureBack", fn := fun _ => fun
  | [d] => { results := [.lit (.bool true)], args := [d] }
  | _ => none }
def structureBackRow : OpenClaim := { program := "ytkbbdlibamcilaa", sum := "efb76cf8cb372f283f5e858f57857e2c1243106c8f65b3cd0537f39896a9650c", func := "arraylang/arraylanglaw17.StructureBack", spec := "structureBack", unfollowed := true, recurses := true, loops := true, apart := false }
def StructureBackSaid : Prop := structureBackRow.holds Try.pinned (OpenSpec.ofChange structureBackSpec)

/-- ITS FALSE NEIGHBOUR: 'it returns false'. Refute it at one input. -/
def structureBackWrong : ChangeSpec := { name := "structureBack", fn := fun _ => fun
  | [d] => { results := [.lit (.bool false)], args := [d] }
  | _ => none }
def StructureBackWrongFalsely : Prop := structureBackRow.holds Try.pinned (OpenSpec.ofChange structureBackWrong)

/-- 'arraylanglaw17.StructureBoxes': WHATEVER THE INPUT: true; the input reads as it did. -/
def structureBoxesSpec : ChangeSpec := { name := "structureBoxes", fn := fun _ => fun
  | [d] => { results := [.lit (.bool true)], args := [d] }
  | _ => none }
def structureBoxesRow : OpenClaim := { program := "ytkbbdlibamcilaa", sum := "efb76cf8cb372f283f5e858f57857e2c1243106c8f65b3cd0537f39896a9650c", func := "arraylang/arraylanglaw17.StructureBoxes", spec := "structureBoxes", unfollowed := true, recurses := true, loops := true, apart := false }
def StructureBoxesSaid : Prop := structureBoxesRow.holds Try.pinned (OpenSpec.ofChange structureBoxesSpec)

/-- ITS FALSE NEIGHBOUR: 'it returns false'. Refute it at one input. -/
def structureBoxesWrong : ChangeSpec := { name := "structureBoxes", fn := fun _ => fun
  | [d] => { results := [.lit (.bool false)], args := [d] }
  | _ => none }
def StructureBoxesWrongFalsely : Prop := structureBoxesRow.holds Try.pinned (OpenSpec.ofChange structureBoxesWrong)

/- THE SECOND FORM. 'bulk': how many values and letters a reading holds, each counted each time it is reached (what is shared counts as often as it is met; a slice's spare places count too). A statement '..UptoSaid' is the law's where the arguments, and the package variables that the reading takes, are together of bulk at most 1048576: NARROWER than '..Said'. Prove '..Said' where nothing that the law and all that it calls make is longer than what came in: it says more and counts as full. Else prove '..UptoSaid'. A law counts once. -/
mutual
def uptoBulk {H : Type} : DataW H → Nat
  | .lit (.string bytes) => bytes.length + 1
  | .lit _ => 1
  | .nil => 1
  | .ptr d => uptoBulk d + 1
  | .slice elems spare => uptoBulkAll elems + uptoBulkAll spare + 1
  | .agg parts => uptoBulkAll parts + 1
  | .iface _ d => uptoBulk d + 1
  | .map entries => uptoBulkEntries entries + 1
  | .held _ => 1
def uptoBulkAll {H : Type} : List (DataW H) → Nat
  | [] => 0
  | d :: r => uptoBulk d + uptoBulkAll r
def uptoBulkEntries {H : Type} : List (Lit × DataW H) → Nat
  | [] => 0
  | x :: r => uptoBulkEntry x + uptoBulkEntries r
def uptoBulkEntry {H : Type} : Lit × DataW H → Nat
  | (.string bytes, d) => bytes.length + uptoBulk d + 1
  | (_, d) => uptoBulk d + 1
 end
def uptoSmall : (H : Type) → List (DataW H) → Bool := fun _ ds => decide (uptoBulkAll ds ≤ 1048576)
def OpenSpec.upto (s : _root_.Go.ChangeSpec) : _root_.Go.OpenSpec := { _root_.Go.OpenSpec.ofChange s with cond := some uptoSmall }

/-- 'arraylanglaw17.StructureIota', WHERE WHAT IT READS IS OF BULK AT MOST 1048576: true; the input reads as it did. -/
def structureIotaUptoRow : OpenClaim := { program := "ytkbbdlibamcilaa", sum := "efb76cf8cb372f283f5e858f57857e2c1243106c8f65b3cd0537f39896a9650c", func := "arraylang/arraylanglaw17.StructureIota", spec := "structureIota", unfollowed := true, recurses := true, loops := true, apart := false, narrowed := true }
def StructureIotaUptoSaid : Prop := structureIotaUptoRow.holds Try.pinned (OpenSpec.upto structureIotaSpec)

/-- 'arraylanglaw17.StructureCounts', WHERE WHAT IT READS IS OF BULK AT MOST 1048576: true; the input reads as it did. -/
def structureCountsUptoRow : OpenClaim := { program := "ytkbbdlibamcilaa", sum := "efb76cf8cb372f283f5e858f57857e2c1243106c8f65b3cd0537f39896a9650c", func := "arraylang/arraylanglaw17.StructureCounts", spec := "structureCounts", unfollowed := true, recurses := true, loops := true, apart := false, narrowed := true }
def StructureCountsUptoSaid : Prop := structureCountsUptoRow.holds Try.pinned (OpenSpec.upto structureCountsSpec)

/-- 'arraylanglaw17.StructureConverts', WHERE WHAT IT READS IS OF BULK AT MOST 1048576: true; the input reads as it did. -/
def structureConvertsUptoRow : OpenClaim := { program := "ytkbbdlibamcilaa", sum := "efb76cf8cb372f283f5e858f57857e2c1243106c8f65b3cd0537f39896a9650c", func := "arraylang/arraylanglaw17.StructureConverts", spec := "structureConverts", unfollowed := true, recurses := true, loops := true, apart := false, narrowed := true }
def StructureConvertsUptoSaid : Prop := structureConvertsUptoRow.holds Try.pinned (OpenSpec.upto structureConvertsSpec)

/-- 'arraylanglaw17.StructureDescribes', WHERE WHAT IT READS IS OF BULK AT MOST 1048576: true; the input reads as it did. -/
def structureDescribesUptoRow : OpenClaim := { program := "ytkbbdlibamcilaa", sum := "efb76cf8cb372f283f5e858f57857e2c1243106c8f65b3cd0537f39896a9650c", func := "arraylang/arraylanglaw17.StructureDescribes", spec := "structureDescribes", unfollowed := true, recurses := true, loops := true, apart := false, narrowed := true }
def StructureDescribesUptoSaid : Prop := structureDescribesUptoRow.holds Try.pinned (OpenSpec.upto structureDescribesSpec)

/-- 'arraylanglaw17.StructureBack', WHERE WHAT IT READS IS OF BULK AT MOST 1048576: true; the input reads as it did. -/
def structureBackUptoRow : OpenClaim := { program := "ytkbbdlibamcilaa", sum := "efb76cf8cb372f283f5e858f57857e2c1243106c8f65b3cd0537f39896a9650c", func := "arraylang/arraylanglaw17.StructureBack", spec := "structureBack", unfollowed := true, recurses := true, loops := true, apart := false, narrowed := true }
def StructureBackUptoSaid : Prop := structureBackUptoRow.holds Try.pinned (OpenSpec.upto structureBackSpec)

/-- 'arraylanglaw17.StructureBoxes', WHERE WHAT IT READS IS OF BULK AT MOST 1048576: true; the input reads as it did. -/
def structureBoxesUptoRow : OpenClaim := { program := "ytkbbdlibamcilaa", sum := "efb76cf8cb372f283f5e858f57857e2c1243106c8f65b3cd0537f39896a9650c", func := "arraylang/arraylanglaw17.StructureBoxes", spec := "structureBoxes", unfollowed := true, recurses := true, loops := true, apart := false, narrowed := true }
def StructureBoxesUptoSaid : Prop := structureBoxesUptoRow.holds Try.pinned (OpenSpec.upto structureBoxesSpec)

end Rows
end Go.Proofs.Ytkbbdlibamcilaa
