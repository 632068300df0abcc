/-
  NARROWER THAN 'FOR EVERY INPUT', by the rows' own cells (each row's printed sentence says how): BudgetCosts: loops · RotatingReverse: loops · RotatingRotate: loops · RotatingBack: loops · RotatingTwice: loops · ReshapingDims: loops · ReshapingSays: loops · ReshapingBack: loops.
  DERIVED. THE GIVEN ROWS OF THIS SEAT. 12 by the template 'for every input the law returns true; each argument reads behind the call as it read before'; 0 by the template 'total and deterministic' (their statements: YtmclggonmekanaaTotals.lean).
  GIVEN WITH THE SEED: the statements are not yours to turn. If you find one false, say at which input.
  Laid BY PROGRAM, IN A SANDBOX (cutbox-rows.mjs): the forced cells as the released guide's own fill.sh prints them over the translation 627a9659e8891b04… (all of the seat's roots in one cut). By AI agents, Wed Nov 11 2026. No macro, syntax, notation, axiom, sorry.
-/
import Derived.Test.YtmclggonmekanaaChecked
import GoSem.Claim
import GoSem.ClaimJoined
import GoSem.ClaimMapViews
import Derived.JoinedTies
import Derived.KernelRfl
namespace Go.Proofs.Ytmclggonmekanaa
/- THE CELL 'sum', in the pinned program and in every row, IS THE sha256 OF THE DUMP (.gsa) THAT YtmclggonmekanaaProg.lean LOADS. Nothing in Lean hashes anything: it is a label: what it is worth is what the hold of that sum in a sandbox is worth. -/
noncomputable def Try.pinned : Pinned := { name := "ytmclggonmekanaa", sum := "627a9659e8891b040fc5a6f4307fd78d6393cad166439b8676689d54c79782a1", checked := Try.checked }
namespace Rows
def none {H : Type} : Left H := { results := [], args := [] }

/-- 'arraylanglaw38.BudgetPlays': WHATEVER THE INPUT: true; the input reads as it did. -/
def budgetPlaysSpec : ChangeSpec := { name := "budgetPlays", fn := fun _ => fun
  | [d1, d2] => { results := [.lit (.bool true)], args := [d1, d2] }
  | _ => none }
def budgetPlaysRow : OpenClaim := { program := "ytmclggonmekanaa", sum := "627a9659e8891b040fc5a6f4307fd78d6393cad166439b8676689d54c79782a1", func := "arraylang/arraylanglaw38.BudgetPlays", spec := "budgetPlays", apart := false }
def BudgetPlaysSaid : Prop := budgetPlaysRow.holds Try.pinned (OpenSpec.ofChange budgetPlaysSpec)

/-- ITS FALSE NEIGHBOUR: 'it returns false'. Refute it at one input. -/
def budgetPlaysWrong : ChangeSpec := { name := "budgetPlays", fn := fun _ => fun
  | [d1, d2] => { results := [.lit (.bool false)], args := [d1, d2] }
  | _ => none }
def BudgetPlaysWrongFalsely : Prop := budgetPlaysRow.holds Try.pinned (OpenSpec.ofChange budgetPlaysWrong)

/-- 'arraylanglaw38.BudgetGrows': WHATEVER THE INPUT: true; the input reads as it did. -/
def budgetGrowsSpec : ChangeSpec := { name := "budgetGrows", fn := fun _ => fun
  | [d1, d2, d3] => { results := [.lit (.bool true)], args := [d1, d2, d3] }
  | _ => none }
def budgetGrowsRow : OpenClaim := { program := "ytmclggonmekanaa", sum := "627a9659e8891b040fc5a6f4307fd78d6393cad166439b8676689d54c79782a1", func := "arraylang/arraylanglaw38.BudgetGrows", spec := "budgetGrows", apart := false }
def BudgetGrowsSaid : Prop := budgetGrowsRow.holds Try.pinned (OpenSpec.ofChange budgetGrowsSpec)

/-- ITS FALSE NEIGHBOUR: 'it returns false'. Refute it at one input. -/
def budgetGrowsWrong : ChangeSpec := { name := "budgetGrows", fn := fun _ => fun
  | [d1, d2, d3] => { results := [.lit (.bool false)], args := [d1, d2, d3] }
  | _ => none }
def BudgetGrowsWrongFalsely : Prop := budgetGrowsRow.holds Try.pinned (OpenSpec.ofChange budgetGrowsWrong)

/-- 'arraylanglaw38.BudgetNone': WHATEVER THE INPUT: true; the input reads as it did. -/
def budgetNoneSpec : ChangeSpec := { name := "budgetNone", fn := fun _ => fun
  | [d] => { results := [.lit (.bool true)], args := [d] }
  | _ => none }
def budgetNoneRow : OpenClaim := { program := "ytmclggonmekanaa", sum := "627a9659e8891b040fc5a6f4307fd78d6393cad166439b8676689d54c79782a1", func := "arraylang/arraylanglaw38.BudgetNone", spec := "budgetNone", apart := false }
def BudgetNoneSaid : Prop := budgetNoneRow.holds Try.pinned (OpenSpec.ofChange budgetNoneSpec)

/-- ITS FALSE NEIGHBOUR: 'it returns false'. Refute it at one input. -/
def budgetNoneWrong : ChangeSpec := { name := "budgetNone", fn := fun _ => fun
  | [d] => { results := [.lit (.bool false)], args := [d] }
  | _ => none }
def BudgetNoneWrongFalsely : Prop := budgetNoneRow.holds Try.pinned (OpenSpec.ofChange budgetNoneWrong)

/-- 'arraylanglaw38.BudgetCosts': WHATEVER THE INPUT: true; the input reads as it did. -/
def budgetCostsSpec : ChangeSpec := { name := "budgetCosts", fn := fun _ => fun
  | [d] => { results := [.lit (.bool true)], args := [d] }
  | _ => none }
def budgetCostsRow : OpenClaim := { program := "ytmclggonmekanaa", sum := "627a9659e8891b040fc5a6f4307fd78d6393cad166439b8676689d54c79782a1", func := "arraylang/arraylanglaw38.BudgetCosts", spec := "budgetCosts", unfollowed := true, recurses := true, loops := true, apart := false }
def BudgetCostsSaid : Prop := budgetCostsRow.holds Try.pinned (OpenSpec.ofChange budgetCostsSpec)

/-- ITS FALSE NEIGHBOUR: 'it returns false'. Refute it at one input. -/
def budgetCostsWrong : ChangeSpec := { name := "budgetCosts", fn := fun _ => fun
  | [d] => { results := [.lit (.bool false)], args := [d] }
  | _ => none }
def BudgetCostsWrongFalsely : Prop := budgetCostsRow.holds Try.pinned (OpenSpec.ofChange budgetCostsWrong)

/-- 'arraylanglaw22.RotatingReverse': WHATEVER THE INPUT: true; the input reads as it did. -/
def rotatingReverseSpec : ChangeSpec := { name := "rotatingReverse", fn := fun _ => fun
  | [d] => { results := [.lit (.bool true)], args := [d] }
  | _ => none }
def rotatingReverseRow : OpenClaim := { program := "ytmclggonmekanaa", sum := "627a9659e8891b040fc5a6f4307fd78d6393cad166439b8676689d54c79782a1", func := "arraylang/arraylanglaw22.RotatingReverse", spec := "rotatingReverse", unfollowed := true, recurses := true, loops := true, apart := false }
def RotatingReverseSaid : Prop := rotatingReverseRow.holds Try.pinned (OpenSpec.ofChange rotatingReverseSpec)

/-- ITS FALSE NEIGHBOUR: 'it returns false'. Refute it at one input. -/
def rotatingReverseWrong : ChangeSpec := { name := "rotatingReverse", fn := fun _ => fun
  | [d] => { results := [.lit (.bool false)], args := [d] }
  | _ => none }
def RotatingReverseWrongFalsely : Prop := rotatingReverseRow.holds Try.pinned (OpenSpec.ofChange rotatingReverseWrong)

/-- 'arraylanglaw22.RotatingRotate': WHATEVER THE INPUT: true; the input reads as it did. -/
def rotatingRotateSpec : ChangeSpec := { name := "rotatingRotate", fn := fun _ => fun
  | [d1, d2] => { results := [.lit (.bool true)], args := [d1, d2] }
  | _ => none }
def rotatingRotateRow : OpenClaim := { program := "ytmclggonmekanaa", sum := "627a9659e8891b040fc5a6f4307fd78d6393cad166439b8676689d54c79782a1", func := "arraylang/arraylanglaw22.RotatingRotate", spec := "rotatingRotate", unfollowed := true, recurses := true, loops := true, apart := false }
def RotatingRotateSaid : Prop := rotatingRotateRow.holds Try.pinned (OpenSpec.ofChange rotatingRotateSpec)

/-- ITS FALSE NEIGHBOUR: 'it returns false'. Refute it at one input. -/
def rotatingRotateWrong : ChangeSpec := { name := "rotatingRotate", fn := fun _ => fun
  | [d1, d2] => { results := [.lit (.bool false)], args := [d1, d2] }
  | _ => none }
def RotatingRotateWrongFalsely : Prop := rotatingRotateRow.holds Try.pinned (OpenSpec.ofChange rotatingRotateWrong)

/-- 'arraylanglaw22.RotatingBack': WHATEVER THE INPUT: true; the input reads as it did. -/
def rotatingBackSpec : ChangeSpec := { name := "rotatingBack", fn := fun _ => fun
  | [d1, d2] => { results := [.lit (.bool true)], args := [d1, d2] }
  | _ => none }
def rotatingBackRow : OpenClaim := { program := "ytmclggonmekanaa", sum := "627a9659e8891b040fc5a6f4307fd78d6393cad166439b8676689d54c79782a1", func := "arraylang/arraylanglaw22.RotatingBack", spec := "rotatingBack", unfollowed := true, recurses := true, loops := true, apart := false }
def RotatingBackSaid : Prop := rotatingBackRow.holds Try.pinned (OpenSpec.ofChange rotatingBackSpec)

/-- ITS FALSE NEIGHBOUR: 'it returns false'. Refute it at one input. -/
def rotatingBackWrong : ChangeSpec := { name := "rotatingBack", fn := fun _ => fun
  | [d1, d2] => { results := [.lit (.bool false)], args := [d1, d2] }
  | _ => none }
def RotatingBackWrongFalsely : Prop := rotatingBackRow.holds Try.pinned (OpenSpec.ofChange rotatingBackWrong)

/-- 'arraylanglaw22.RotatingTwice': WHATEVER THE INPUT: true; the input reads as it did. -/
def rotatingTwiceSpec : ChangeSpec := { name := "rotatingTwice", fn := fun _ => fun
  | [d1, d2, d3] => { results := [.lit (.bool true)], args := [d1, d2, d3] }
  | _ => none }
def rotatingTwiceRow : OpenClaim := { program := "ytmclggonmekanaa", sum := "627a9659e8891b040fc5a6f4307fd78d6393cad166439b8676689d54c79782a1", func := "arraylang/arraylanglaw22.RotatingTwice", spec := "rotatingTwice", unfollowed := true, recurses := true, loops := true, apart := false }
def RotatingTwiceSaid : Prop := rotatingTwiceRow.holds Try.pinned (OpenSpec.ofChange rotatingTwiceSpec)

/-- ITS FALSE NEIGHBOUR: 'it returns false'. Refute it at one input. -/
def rotatingTwiceWrong : ChangeSpec := { name := "rotatingTwice", fn := fun _ => fun
  | [d1, d2, d3] => { results := [.lit (.bool false)], args := [d1, d2, d3] }
  | _ => none }
def RotatingTwiceWrongFalsely : Prop := rotatingTwiceRow.holds Try.pinned (OpenSpec.ofChange rotatingTwiceWrong)

/-- 'arraylanglaw18.ReshapingDims': WHATEVER THE INPUT: true; the input reads as it did. -/
def reshapingDimsSpec : ChangeSpec := { name := "reshapingDims", fn := fun _ => fun
  | [d] => { results := [.lit (.bool true)], args := [d] }
  | _ => none }
def reshapingDimsRow : OpenClaim := { program := "ytmclggonmekanaa", sum := "627a9659e8891b040fc5a6f4307fd78d6393cad166439b8676689d54c79782a1", func := "arraylang/arraylanglaw18.ReshapingDims", spec := "reshapingDims", unfollowed := true, recurses := true, loops := true, apart := false }
def ReshapingDimsSaid : Prop := reshapingDimsRow.holds Try.pinned (OpenSpec.ofChange reshapingDimsSpec)

/-- ITS FALSE NEIGHBOUR: 'it returns false'. Refute it at one input. -/
def reshapingDimsWrong : ChangeSpec := { name := "reshapingDims", fn := fun _ => fun
  | [d] => { results := [.lit (.bool false)], args := [d] }
  | _ => none }
def ReshapingDimsWrongFalsely : Prop := reshapingDimsRow.holds Try.pinned (OpenSpec.ofChange reshapingDimsWrong)

/-- 'arraylanglaw18.ReshapingSays': WHATEVER THE INPUT: true; the input reads as it did. -/
def reshapingSaysSpec : ChangeSpec := { name := "reshapingSays", fn := fun _ => fun
  | [d1, d2] => { results := [.lit (.bool true)], args := [d1, d2] }
  | _ => none }
def reshapingSaysRow : OpenClaim := { program := "ytmclggonmekanaa", sum := "627a9659e8891b040fc5a6f4307fd78d6393cad166439b8676689d54c79782a1", func := "arraylang/arraylanglaw18.ReshapingSays", spec := "reshapingSays", unfollowed := true, recurses := true, loops := true, apart := false }
def ReshapingSaysSaid : Prop := reshapingSaysRow.holds Try.pinned (OpenSpec.ofChange reshapingSaysSpec)

/-- ITS FALSE NEIGHBOUR: 'it returns false'. Refute it at one input. -/
def reshapingSaysWrong : ChangeSpec := { name := "reshapingSays", fn := fun _ => fun
  | [d1, d2] => { results := [.lit (.bool false)], args := [d1, d2] }
  | _ => none }
def ReshapingSaysWrongFalsely : Prop := reshapingSaysRow.holds Try.pinned (OpenSpec.ofChange reshapingSaysWrong)

/-- 'arraylanglaw18.ReshapingBack': WHATEVER THE INPUT: true; the input reads as it did. -/
def reshapingBackSpec : ChangeSpec := { name := "reshapingBack", fn := fun _ => fun
  | [d] => { results := [.lit (.bool true)], args := [d] }
  | _ => none }
def reshapingBackRow : OpenClaim := { program := "ytmclggonmekanaa", sum := "627a9659e8891b040fc5a6f4307fd78d6393cad166439b8676689d54c79782a1", func := "arraylang/arraylanglaw18.ReshapingBack", spec := "reshapingBack", unfollowed := true, recurses := true, loops := true, apart := false }
def ReshapingBackSaid : Prop := reshapingBackRow.holds Try.pinned (OpenSpec.ofChange reshapingBackSpec)

/-- ITS FALSE NEIGHBOUR: 'it returns false'. Refute it at one input. -/
def reshapingBackWrong : ChangeSpec := { name := "reshapingBack", fn := fun _ => fun
  | [d] => { results := [.lit (.bool false)], args := [d] }
  | _ => none }
def ReshapingBackWrongFalsely : Prop := reshapingBackRow.holds Try.pinned (OpenSpec.ofChange reshapingBackWrong)

/-- 'arraylanglaw18.ReshapingTwice': WHATEVER THE INPUT: true; the input reads as it did. -/
def reshapingTwiceSpec : ChangeSpec := { name := "reshapingTwice", fn := fun _ => fun
  | [d1, d2, d3] => { results := [.lit (.bool true)], args := [d1, d2, d3] }
  | _ => none }
def reshapingTwiceRow : OpenClaim := { program := "ytmclggonmekanaa", sum := "627a9659e8891b040fc5a6f4307fd78d6393cad166439b8676689d54c79782a1", func := "arraylang/arraylanglaw18.ReshapingTwice", spec := "reshapingTwice", unfollowed := true, recurses := true, apart := false }
def ReshapingTwiceSaid : Prop := reshapingTwiceRow.holds Try.pinned (OpenSpec.ofChange reshapingTwiceSpec)

/-- ITS FALSE NEIGHBOUR: 'it returns false'. Refute it at one input. -/
def reshapingTwiceWrong : ChangeSpec := { name := "reshapingTwice", fn := fun _ => fun
  | [d1, d2, d3] => { results := [.lit (.bool false)], args := [d1, d2, d3] }
  | _ => none }
def ReshapingTwiceWrongFalsely : Prop := reshapingTwiceRow.holds Try.pinned (OpenSpec.ofChange reshapingTwiceWrong)

/- THE SECOND FORM. 'bulk': how many values and letters a reading holds, each counted each time it is reached (what is shared counts as often as it is met; a slice's spare places count too). A statement '..UptoSaid' is the law's where the arguments, and the package variables that the reading takes, are together of bulk at most 1048576: NARROWER than '..Said'. Prove '..Said' where nothing that the law and all that it calls make is longer than what came in: it says more and counts as full. Else prove '..UptoSaid'. A law counts once. -/
mutual
def uptoBulk {H : Type} : DataW H → Nat
  | .lit (.string bytes) => bytes.length + 1
  | .lit _ => 1
  | .nil => 1
  | .ptr d => uptoBulk d + 1
  | .slice elems spare => uptoBulkAll elems + uptoBulkAll spare + 1
  | .agg parts => uptoBulkAll parts + 1
  | .iface _ d => uptoBulk d + 1
  | .map entries => uptoBulkEntries entries + 1
  | .held _ => 1
def uptoBulkAll {H : Type} : List (DataW H) → Nat
  | [] => 0
  | d :: r => uptoBulk d + uptoBulkAll r
def uptoBulkEntries {H : Type} : List (Lit × DataW H) → Nat
  | [] => 0
  | x :: r => uptoBulkEntry x + uptoBulkEntries r
def uptoBulkEntry {H : Type} : Lit × DataW H → Nat
  | (.string bytes, d) => bytes.length + uptoBulk d + 1
  | (_, d) => uptoBulk d + 1
 end
def uptoSmall : (H : Type) → List (DataW H) → Bool := fun _ ds => decide (uptoBulkAll ds ≤ 1048576)
def OpenSpec.upto (s : _root_.Go.ChangeSpec) : _root_.Go.OpenSpec := { _root_.Go.OpenSpec.ofChange s with cond := some uptoSmall }

/-- 'arraylanglaw38.BudgetPlays', WHERE WHAT IT READS IS OF BULK AT MOST 1048576: true; the input reads as it did. -/
def budgetPlaysUptoRow : OpenClaim := { program := "ytmclggonmekanaa", sum := "627a9659e8891b040fc5a6f4307fd78d6393cad166439b8676689d54c79782a1", func := "arraylang/arraylanglaw38.BudgetPlays", spec := "budgetPlays", apart := false, narrowed := true }
def BudgetPlaysUptoSaid : Prop := budgetPlaysUptoRow.holds Try.pinned (OpenSpec.upto budgetPlaysSpec)

/-- 'arraylanglaw38.BudgetGrows', WHERE WHAT IT READS IS OF BULK AT MOST 1048576: true; the input reads as it did. -/
def budgetGrowsUptoRow : OpenClaim := { program := "ytmclggonmekanaa", sum := "627a9659e8891b040fc5a6f4307fd78d6393cad166439b8676689d54c79782a1", func := "arraylang/arraylanglaw38.BudgetGrows", spec := "budgetGrows", apart := false, narrowed := true }
def BudgetGrowsUptoSaid : Prop := budgetGrowsUptoRow.holds Try.pinned (OpenSpec.upto budgetGrowsSpec)

/-- 'arraylanglaw38.BudgetNone', WHERE WHAT IT READS IS OF BULK AT MOST 1048576: true; the input reads as it did. -/
def budgetNoneUptoRow : OpenClaim := { program := "ytmclggonmekanaa", sum := "627a9659e8891b040fc5a6f4307fd78d6393cad166439b8676689d54c79782a1", func := "arraylang/arraylanglaw38.BudgetNone", spec := "budgetNone", apart := false, narrowed := true }
def BudgetNoneUptoSaid : Prop := budgetNoneUptoRow.holds Try.pinned (OpenSpec.upto budgetNoneSpec)

/-- 'arraylanglaw38.BudgetCosts', WHERE WHAT IT READS IS OF BULK AT MOST 1048576: true; the input reads as it did. -/
def budgetCostsUptoRow : OpenClaim := { program := "ytmclggonmekanaa", sum := "627a9659e8891b040fc5a6f4307fd78d6393cad166439b8676689d54c79782a1", func := "arraylang/arraylanglaw38.BudgetCosts", spec := "budgetCosts", unfollowed := true, recurses := true, loops := true, apart := false, narrowed := true }
def BudgetCostsUptoSaid : Prop := budgetCostsUptoRow.holds Try.pinned (OpenSpec.upto budgetCostsSpec)

/-- 'arraylanglaw22.RotatingReverse', WHERE WHAT IT READS IS OF BULK AT MOST 1048576: true; the input reads as it did. -/
def rotatingReverseUptoRow : OpenClaim := { program := "ytmclggonmekanaa", sum := "627a9659e8891b040fc5a6f4307fd78d6393cad166439b8676689d54c79782a1", func := "arraylang/arraylanglaw22.RotatingReverse", spec := "rotatingReverse", unfollowed := true, recurses := true, loops := true, apart := false, narrowed := true }
def RotatingReverseUptoSaid : Prop := rotatingReverseUptoRow.holds Try.pinned (OpenSpec.upto rotatingReverseSpec)

/-- 'arraylanglaw22.RotatingRotate', WHERE WHAT IT READS IS OF BULK AT MOST 1048576: true; the input reads as it did. -/
def rotatingRotateUptoRow : OpenClaim := { program := "ytmclggonmekanaa", sum := "627a9659e8891b040fc5a6f4307fd78d6393cad166439b8676689d54c79782a1", func := "arraylang/arraylanglaw22.RotatingRotate", spec := "rotatingRotate", unfollowed := true, recurses := true, loops := true, apart := false, narrowed := true }
def RotatingRotateUptoSaid : Prop := rotatingRotateUptoRow.holds Try.pinned (OpenSpec.upto rotatingRotateSpec)

/-- 'arraylanglaw22.RotatingBack', WHERE WHAT IT READS IS OF BULK AT MOST 1048576: true; the input reads as it did. -/
def rotatingBackUptoRow : OpenClaim := { program := "ytmclggonmekanaa", sum := "627a9659e8891b040fc5a6f4307fd78d6393cad166439b8676689d54c79782a1", func := "arraylang/arraylanglaw22.RotatingBack", spec := "rotatingBack", unfollowed := true, recurses := true, loops := true, apart := false, narrowed := true }
def RotatingBackUptoSaid : Prop := rotatingBackUptoRow.holds Try.pinned (OpenSpec.upto rotatingBackSpec)

/-- 'arraylanglaw22.RotatingTwice', WHERE WHAT IT READS IS OF BULK AT MOST 1048576: true; the input reads as it did. -/
def rotatingTwiceUptoRow : OpenClaim := { program := "ytmclggonmekanaa", sum := "627a9659e8891b040fc5a6f4307fd78d6393cad166439b8676689d54c79782a1", func := "arraylang/arraylanglaw22.RotatingTwice", spec := "rotatingTwice", unfollowed := true, recurses := true, loops := true, apart := false, narrowed := true }
def RotatingTwiceUptoSaid : Prop := rotatingTwiceUptoRow.holds Try.pinned (OpenSpec.upto rotatingTwiceSpec)

/-- 'arraylanglaw18.ReshapingDims', WHERE WHAT IT READS IS OF BULK AT MOST 1048576: true; the input reads as it did. -/
def reshapingDimsUptoRow : OpenClaim := { program := "ytmclggonmekanaa", sum := "627a9659e8891b040fc5a6f4307fd78d6393cad166439b8676689d54c79782a1", func := "arraylang/arraylanglaw18.ReshapingDims", spec := "reshapingDims", unfollowed := true, recurses := true, loops := true, apart := false, narrowed := true }
def ReshapingDimsUptoSaid : Prop := reshapingDimsUptoRow.holds Try.pinned (OpenSpec.upto reshapingDimsSpec)

/-- 'arraylanglaw18.ReshapingSays', WHERE WHAT IT READS IS OF BULK AT MOST 1048576: true; the input reads as it did. -/
def reshapingSaysUptoRow : OpenClaim := { program := "ytmclggonmekanaa", sum := "627a9659e8891b040fc5a6f4307fd78d6393cad166439b8676689d54c79782a1", func := "arraylang/arraylanglaw18.ReshapingSays", spec := "reshapingSays", unfollowed := true, recurses := true, loops := true, apart := false, narrowed := true }
def ReshapingSaysUptoSaid : Prop := reshapingSaysUptoRow.holds Try.pinned (OpenSpec.upto reshapingSaysSpec)

/-- 'arraylanglaw18.ReshapingBack', WHERE WHAT IT READS IS OF BULK AT MOST 1048576: true; the input reads as it did. -/
def reshapingBackUptoRow : OpenClaim := { program := "ytmclggonmekanaa", sum := "627a9659e8891b040fc5a6f4307fd78d6393cad166439b8676689d54c79782a1", func := "arraylang/arraylanglaw18.ReshapingBack", spec := "reshapingBack", unfollowed := true, recurses := true, loops := true, apart := false, narrowed := true }
def ReshapingBackUptoSaid : Prop := reshapingBackUptoRow.holds Try.pinned (OpenSpec.upto reshapingBackSpec)

/-- 'arraylanglaw18.ReshapingTwice', WHERE WHAT IT READS IS OF BULK AT MOST 1048576: true; the input reads as it did. -/
def reshapingTwiceUptoRow : OpenClaim := { program := "ytmclggonmekanaa", sum := "627a9659e8891b040fc5a6f4307fd78d6393cad166439b8676689d54c79782a1", func := "arraylang/arraylanglaw18.ReshapingTwice", spec := "reshapingTwice", unfollowed := true, recurses := true, apart := false, narrowed := true }
def ReshapingTwiceUptoSaid : Prop := reshapingTwiceUptoRow.holds Try.pinned (OpenSpec.upto reshapingTwiceSpec)

end Rows
end Go.Proofs.Ytmclggonmekanaa
