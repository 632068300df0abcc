/-
  NARROWER THAN 'FOR EVERY INPUT', by the rows' own cells (each row's printed sentence says how): ArrayValid: loops, laid · ArrayMeasures: loops, laid · ArrayEqual: loops, laid · ArrayConstructors: loops, laid · ArrayElements: loops, laid · ArrayOf: loops, laid · ArrayRoundTrip: loops, laid · ArrayLimits: laid.
  DERIVED. THE GIVEN ROWS OF THIS SEAT. 8 by the template 'for every input the law returns true; each argument reads behind the call as it read before'; 0 by the template 'total and deterministic' (their statements: YtdobnkbmjkcpoaaDoorTotals.lean).
  GIVEN WITH THE SEED: the statements are not yours to turn. If you find one false, say at which input.
  Laid BY PROGRAM, IN A SANDBOX (cutbox-rows.mjs): the forced cells as the released guide's own fill.sh prints them over the translation 59447f22cf184e6a… (all of the seat's roots in one cut). By AI agents, Wed Nov 11 2026. No macro, syntax, notation, axiom, sorry.
-/
import Derived.Test.YtdobnkbmjkcpoaaDoorChecked
import GoSem.PinnedTables
import GoSem.Claim
import GoSem.ClaimJoined
import GoSem.ClaimMapViews
import Derived.JoinedTies
import Derived.KernelRfl
namespace Go.Proofs.YtdobnkbmjkcpoaaDoor
/- THE CELL 'sum', in the pinned program and in every row, IS THE sha256 OF THE DUMP (.gsa) THAT YtdobnkbmjkcpoaaDoorProg.lean LOADS. Nothing in Lean hashes anything: it is a label: what it is worth is what the hold of that sum in a sandbox is worth. -/
noncomputable def Tryd.pinned : Pinned := { name := "ytdobnkbmjkcpoaadoor", sum := "59447f22cf184e6a9effdf6191cc743d4fb883b8cb7bc0760246312293fb76f5", checked := Tryd.checked }
namespace Rows
def none {H : Type} : Left H := { results := [], args := [] }

/- WHAT THE LISTED PACKAGE-LEVEL VARIABLES READ AS WHEN THE CALL BEGINS. Each datum BY PROGRAM (the guide's laid-datum.mjs) off the statement by which the dump's own 'gosem.cut.vars' lays the variable. In a bare row this is a premise. The card (YtdobnkbmjkcpoaaDoorCards.lean) ties it to the program's text. -/
def laid_unicode_utf8_acceptRanges {H : Type} : DataW H := .agg [.agg [.lit (.int .u8 128), .lit (.int .u8 191)], .agg [.lit (.int .u8 160), .lit (.int .u8 191)], .agg [.lit (.int .u8 128), .lit (.int .u8 159)], .agg [.lit (.int .u8 144), .lit (.int .u8 191)], .agg [.lit (.int .u8 128), .lit (.int .u8 143)], .agg [.lit (.int .u8 0), .lit (.int .u8 0)], .agg [.lit (.int .u8 0), .lit (.int .u8 0)], .agg [.lit (.int .u8 0), .lit (.int .u8 0)], .agg [.lit (.int .u8 0), .lit (.int .u8 0)], .agg [.lit (.int .u8 0), .lit (.int .u8 0)], .agg [.lit (.int .u8 0), .lit (.int .u8 0)], .agg [.lit (.int .u8 0), .lit (.int .u8 0)], .agg [.lit (.int .u8 0), .lit (.int .u8 0)], .agg [.lit (.int .u8 0), .lit (.int .u8 0)], .agg [.lit (.int .u8 0), .lit (.int .u8 0)], .agg [.lit (.int .u8 0), .lit (.int .u8 0)]]
/-- One of Go's own tables, pinned by name: the form's constant. -/
def laid_unicode_utf8_first : DataW Unit := Go.Pinned.utf8First

/-- 'arraylanglaw03.ArrayValid': WHATEVER THE INPUT: true; the input reads as it did. -/
def arrayValidSpec : ChangeSpec := { name := "arrayValid", fn := fun _ => fun
  | [d] => { results := [.lit (.bool true)], args := [d] }
  | _ => none }
def arrayValidRow : OpenClaim := { program := "ytdobnkbmjkcpoaadoor", sum := "59447f22cf184e6a9effdf6191cc743d4fb883b8cb7bc0760246312293fb76f5", func := "arraylang/arraylanglaw03.ArrayValid", spec := "arrayValid", unfollowed := true, recurses := true, named := ["unicode/utf8.first", "unicode/utf8.acceptRanges"], loops := true, apart := false, laid := [("unicode/utf8.acceptRanges", laid_unicode_utf8_acceptRanges), ("unicode/utf8.first", laid_unicode_utf8_first)] }
def ArrayValidSaid : Prop := arrayValidRow.holds Tryd.pinned (OpenSpec.ofChange arrayValidSpec)

/-- ITS FALSE NEIGHBOUR: 'it returns false'. Refute it at one input. -/
def arrayValidWrong : ChangeSpec := { name := "arrayValid", fn := fun _ => fun
  | [d] => { results := [.lit (.bool false)], args := [d] }
  | _ => none }
def ArrayValidWrongFalsely : Prop := arrayValidRow.holds Tryd.pinned (OpenSpec.ofChange arrayValidWrong)

/-- 'arraylanglaw03.ArrayMeasures': WHATEVER THE INPUT: true; the input reads as it did. -/
def arrayMeasuresSpec : ChangeSpec := { name := "arrayMeasures", fn := fun _ => fun
  | [d] => { results := [.lit (.bool true)], args := [d] }
  | _ => none }
def arrayMeasuresRow : OpenClaim := { program := "ytdobnkbmjkcpoaadoor", sum := "59447f22cf184e6a9effdf6191cc743d4fb883b8cb7bc0760246312293fb76f5", func := "arraylang/arraylanglaw03.ArrayMeasures", spec := "arrayMeasures", unfollowed := true, recurses := true, named := ["unicode/utf8.first", "unicode/utf8.acceptRanges"], loops := true, apart := false, laid := [("unicode/utf8.acceptRanges", laid_unicode_utf8_acceptRanges), ("unicode/utf8.first", laid_unicode_utf8_first)] }
def ArrayMeasuresSaid : Prop := arrayMeasuresRow.holds Tryd.pinned (OpenSpec.ofChange arrayMeasuresSpec)

/-- ITS FALSE NEIGHBOUR: 'it returns false'. Refute it at one input. -/
def arrayMeasuresWrong : ChangeSpec := { name := "arrayMeasures", fn := fun _ => fun
  | [d] => { results := [.lit (.bool false)], args := [d] }
  | _ => none }
def ArrayMeasuresWrongFalsely : Prop := arrayMeasuresRow.holds Tryd.pinned (OpenSpec.ofChange arrayMeasuresWrong)

/-- 'arraylanglaw03.ArrayEqual': WHATEVER THE INPUT: true; the input reads as it did. -/
def arrayEqualSpec : ChangeSpec := { name := "arrayEqual", fn := fun _ => fun
  | [d1, d2] => { results := [.lit (.bool true)], args := [d1, d2] }
  | _ => none }
def arrayEqualRow : OpenClaim := { program := "ytdobnkbmjkcpoaadoor", sum := "59447f22cf184e6a9effdf6191cc743d4fb883b8cb7bc0760246312293fb76f5", func := "arraylang/arraylanglaw03.ArrayEqual", spec := "arrayEqual", unfollowed := true, recurses := true, named := ["unicode/utf8.first", "unicode/utf8.acceptRanges"], loops := true, apart := false, laid := [("unicode/utf8.acceptRanges", laid_unicode_utf8_acceptRanges), ("unicode/utf8.first", laid_unicode_utf8_first)] }
def ArrayEqualSaid : Prop := arrayEqualRow.holds Tryd.pinned (OpenSpec.ofChange arrayEqualSpec)

/-- ITS FALSE NEIGHBOUR: 'it returns false'. Refute it at one input. -/
def arrayEqualWrong : ChangeSpec := { name := "arrayEqual", fn := fun _ => fun
  | [d1, d2] => { results := [.lit (.bool false)], args := [d1, d2] }
  | _ => none }
def ArrayEqualWrongFalsely : Prop := arrayEqualRow.holds Tryd.pinned (OpenSpec.ofChange arrayEqualWrong)

/-- 'arraylanglaw03.ArrayConstructors': WHATEVER THE INPUT: true; the input reads as it did. -/
def arrayConstructorsSpec : ChangeSpec := { name := "arrayConstructors", fn := fun _ => fun
  | [d1, d2, d3] => { results := [.lit (.bool true)], args := [d1, d2, d3] }
  | _ => none }
def arrayConstructorsRow : OpenClaim := { program := "ytdobnkbmjkcpoaadoor", sum := "59447f22cf184e6a9effdf6191cc743d4fb883b8cb7bc0760246312293fb76f5", func := "arraylang/arraylanglaw03.ArrayConstructors", spec := "arrayConstructors", unfollowed := true, recurses := true, named := ["unicode/utf8.first", "unicode/utf8.acceptRanges"], loops := true, apart := false, laid := [("unicode/utf8.acceptRanges", laid_unicode_utf8_acceptRanges), ("unicode/utf8.first", laid_unicode_utf8_first)] }
def ArrayConstructorsSaid : Prop := arrayConstructorsRow.holds Tryd.pinned (OpenSpec.ofChange arrayConstructorsSpec)

/-- ITS FALSE NEIGHBOUR: 'it returns false'. Refute it at one input. -/
def arrayConstructorsWrong : ChangeSpec := { name := "arrayConstructors", fn := fun _ => fun
  | [d1, d2, d3] => { results := [.lit (.bool false)], args := [d1, d2, d3] }
  | _ => none }
def ArrayConstructorsWrongFalsely : Prop := arrayConstructorsRow.holds Tryd.pinned (OpenSpec.ofChange arrayConstructorsWrong)

/-- 'arraylanglaw03.ArrayElements': WHATEVER THE INPUT: true; the input reads as it did. -/
def arrayElementsSpec : ChangeSpec := { name := "arrayElements", fn := fun _ => fun
  | [d1, d2] => { results := [.lit (.bool true)], args := [d1, d2] }
  | _ => none }
def arrayElementsRow : OpenClaim := { program := "ytdobnkbmjkcpoaadoor", sum := "59447f22cf184e6a9effdf6191cc743d4fb883b8cb7bc0760246312293fb76f5", func := "arraylang/arraylanglaw03.ArrayElements", spec := "arrayElements", unfollowed := true, recurses := true, named := ["unicode/utf8.first", "unicode/utf8.acceptRanges"], loops := true, apart := false, laid := [("unicode/utf8.acceptRanges", laid_unicode_utf8_acceptRanges), ("unicode/utf8.first", laid_unicode_utf8_first)] }
def ArrayElementsSaid : Prop := arrayElementsRow.holds Tryd.pinned (OpenSpec.ofChange arrayElementsSpec)

/-- ITS FALSE NEIGHBOUR: 'it returns false'. Refute it at one input. -/
def arrayElementsWrong : ChangeSpec := { name := "arrayElements", fn := fun _ => fun
  | [d1, d2] => { results := [.lit (.bool false)], args := [d1, d2] }
  | _ => none }
def ArrayElementsWrongFalsely : Prop := arrayElementsRow.holds Tryd.pinned (OpenSpec.ofChange arrayElementsWrong)

/-- 'arraylanglaw03.ArrayOf': WHATEVER THE INPUT: true; the input reads as it did. -/
def arrayOfSpec : ChangeSpec := { name := "arrayOf", fn := fun _ => fun
  | [d1, d2] => { results := [.lit (.bool true)], args := [d1, d2] }
  | _ => none }
def arrayOfRow : OpenClaim := { program := "ytdobnkbmjkcpoaadoor", sum := "59447f22cf184e6a9effdf6191cc743d4fb883b8cb7bc0760246312293fb76f5", func := "arraylang/arraylanglaw03.ArrayOf", spec := "arrayOf", unfollowed := true, recurses := true, named := ["unicode/utf8.first", "unicode/utf8.acceptRanges"], loops := true, apart := false, laid := [("unicode/utf8.acceptRanges", laid_unicode_utf8_acceptRanges), ("unicode/utf8.first", laid_unicode_utf8_first)] }
def ArrayOfSaid : Prop := arrayOfRow.holds Tryd.pinned (OpenSpec.ofChange arrayOfSpec)

/-- ITS FALSE NEIGHBOUR: 'it returns false'. Refute it at one input. -/
def arrayOfWrong : ChangeSpec := { name := "arrayOf", fn := fun _ => fun
  | [d1, d2] => { results := [.lit (.bool false)], args := [d1, d2] }
  | _ => none }
def ArrayOfWrongFalsely : Prop := arrayOfRow.holds Tryd.pinned (OpenSpec.ofChange arrayOfWrong)

/-- 'arraylanglaw03.ArrayRoundTrip': WHATEVER THE INPUT: true; the input reads as it did. -/
def arrayRoundTripSpec : ChangeSpec := { name := "arrayRoundTrip", fn := fun _ => fun
  | [d] => { results := [.lit (.bool true)], args := [d] }
  | _ => none }
def arrayRoundTripRow : OpenClaim := { program := "ytdobnkbmjkcpoaadoor", sum := "59447f22cf184e6a9effdf6191cc743d4fb883b8cb7bc0760246312293fb76f5", func := "arraylang/arraylanglaw03.ArrayRoundTrip", spec := "arrayRoundTrip", unfollowed := true, recurses := true, named := ["unicode/utf8.first", "unicode/utf8.acceptRanges"], loops := true, apart := false, laid := [("unicode/utf8.acceptRanges", laid_unicode_utf8_acceptRanges), ("unicode/utf8.first", laid_unicode_utf8_first)] }
def ArrayRoundTripSaid : Prop := arrayRoundTripRow.holds Tryd.pinned (OpenSpec.ofChange arrayRoundTripSpec)

/-- ITS FALSE NEIGHBOUR: 'it returns false'. Refute it at one input. -/
def arrayRoundTripWrong : ChangeSpec := { name := "arrayRoundTrip", fn := fun _ => fun
  | [d] => { results := [.lit (.bool false)], args := [d] }
  | _ => none }
def ArrayRoundTripWrongFalsely : Prop := arrayRoundTripRow.holds Tryd.pinned (OpenSpec.ofChange arrayRoundTripWrong)

/-- 'arraylanglaw03.ArrayLimits': WHATEVER THE INPUT: true; the input reads as it did. -/
def arrayLimitsSpec : ChangeSpec := { name := "arrayLimits", fn := fun _ => fun
  | [d] => { results := [.lit (.bool true)], args := [d] }
  | _ => none }
def arrayLimitsRow : OpenClaim := { program := "ytdobnkbmjkcpoaadoor", sum := "59447f22cf184e6a9effdf6191cc743d4fb883b8cb7bc0760246312293fb76f5", func := "arraylang/arraylanglaw03.ArrayLimits", spec := "arrayLimits", unfollowed := true, recurses := true, named := ["unicode/utf8.first", "unicode/utf8.acceptRanges"], apart := false, laid := [("unicode/utf8.acceptRanges", laid_unicode_utf8_acceptRanges), ("unicode/utf8.first", laid_unicode_utf8_first)] }
def ArrayLimitsSaid : Prop := arrayLimitsRow.holds Tryd.pinned (OpenSpec.ofChange arrayLimitsSpec)

/-- ITS FALSE NEIGHBOUR: 'it returns false'. Refute it at one input. -/
def arrayLimitsWrong : ChangeSpec := { name := "arrayLimits", fn := fun _ => fun
  | [d] => { results := [.lit (.bool false)], args := [d] }
  | _ => none }
def ArrayLimitsWrongFalsely : Prop := arrayLimitsRow.holds Tryd.pinned (OpenSpec.ofChange arrayLimitsWrong)

/- THE SECOND FORM. 'bulk': how many values and letters a reading holds, each counted each time it is reached (what is shared counts as often as it is met; a slice's spare places count too). A statement '..UptoSaid' is the law's where the arguments, and the package variables that the reading takes, are together of bulk at most 1048576: NARROWER than '..Said'. Prove '..Said' where nothing that the law and all that it calls make is longer than what came in: it says more and counts as full. Else prove '..UptoSaid'. A law counts once. -/
mutual
def uptoBulk {H : Type} : DataW H → Nat
  | .lit (.string bytes) => bytes.length + 1
  | .lit _ => 1
  | .nil => 1
  | .ptr d => uptoBulk d + 1
  | .slice elems spare => uptoBulkAll elems + uptoBulkAll spare + 1
  | .agg parts => uptoBulkAll parts + 1
  | .iface _ d => uptoBulk d + 1
  | .map entries => uptoBulkEntries entries + 1
  | .held _ => 1
def uptoBulkAll {H : Type} : List (DataW H) → Nat
  | [] => 0
  | d :: r => uptoBulk d + uptoBulkAll r
def uptoBulkEntries {H : Type} : List (Lit × DataW H) → Nat
  | [] => 0
  | x :: r => uptoBulkEntry x + uptoBulkEntries r
def uptoBulkEntry {H : Type} : Lit × DataW H → Nat
  | (.string bytes, d) => bytes.length + uptoBulk d + 1
  | (_, d) => uptoBulk d + 1
 end
def uptoSmall : (H : Type) → List (DataW H) → Bool := fun _ ds => decide (uptoBulkAll ds ≤ 1048576)
def OpenSpec.upto (s : _root_.Go.ChangeSpec) : _root_.Go.OpenSpec := { _root_.Go.OpenSpec.ofChange s with cond := some uptoSmall }

/-- 'arraylanglaw03.ArrayValid', WHERE WHAT IT READS IS OF BULK AT MOST 1048576: true; the input reads as it did. -/
def arrayValidUptoRow : OpenClaim := { program := "ytdobnkbmjkcpoaadoor", sum := "59447f22cf184e6a9effdf6191cc743d4fb883b8cb7bc0760246312293fb76f5", func := "arraylang/arraylanglaw03.ArrayValid", spec := "arrayValid", unfollowed := true, recurses := true, named := ["unicode/utf8.first", "unicode/utf8.acceptRanges"], loops := true, apart := false, laid := [("unicode/utf8.acceptRanges", laid_unicode_utf8_acceptRanges), ("unicode/utf8.first", laid_unicode_utf8_first)], narrowed := true }
def ArrayValidUptoSaid : Prop := arrayValidUptoRow.holds Tryd.pinned (OpenSpec.upto arrayValidSpec)

/-- 'arraylanglaw03.ArrayMeasures', WHERE WHAT IT READS IS OF BULK AT MOST 1048576: true; the input reads as it did. -/
def arrayMeasuresUptoRow : OpenClaim := { program := "ytdobnkbmjkcpoaadoor", sum := "59447f22cf184e6a9effdf6191cc743d4fb883b8cb7bc0760246312293fb76f5", func := "arraylang/arraylanglaw03.ArrayMeasures", spec := "arrayMeasures", unfollowed := true, recurses := true, named := ["unicode/utf8.first", "unicode/utf8.acceptRanges"], loops := true, apart := false, laid := [("unicode/utf8.acceptRanges", laid_unicode_utf8_acceptRanges), ("unicode/utf8.first", laid_unicode_utf8_first)], narrowed := true }
def ArrayMeasuresUptoSaid : Prop := arrayMeasuresUptoRow.holds Tryd.pinned (OpenSpec.upto arrayMeasuresSpec)

/-- 'arraylanglaw03.ArrayEqual', WHERE WHAT IT READS IS OF BULK AT MOST 1048576: true; the input reads as it did. -/
def arrayEqualUptoRow : OpenClaim := { program := "ytdobnkbmjkcpoaadoor", sum := "59447f22cf184e6a9effdf6191cc743d4fb883b8cb7bc0760246312293fb76f5", func := "arraylang/arraylanglaw03.ArrayEqual", spec := "arrayEqual", unfollowed := true, recurses := true, named := ["unicode/utf8.first", "unicode/utf8.acceptRanges"], loops := true, apart := false, laid := [("unicode/utf8.acceptRanges", laid_unicode_utf8_acceptRanges), ("unicode/utf8.first", laid_unicode_utf8_first)], narrowed := true }
def ArrayEqualUptoSaid : Prop := arrayEqualUptoRow.holds Tryd.pinned (OpenSpec.upto arrayEqualSpec)

/-- 'arraylanglaw03.ArrayConstructors', WHERE WHAT IT READS IS OF BULK AT MOST 1048576: true; the input reads as it did. -/
def arrayConstructorsUptoRow : OpenClaim := { program := "ytdobnkbmjkcpoaadoor", sum := "59447f22cf184e6a9effdf6191cc743d4fb883b8cb7bc0760246312293fb76f5", func := "arraylang/arraylanglaw03.ArrayConstructors", spec := "arrayConstructors", unfollowed := true, recurses := true, named := ["unicode/utf8.first", "unicode/utf8.acceptRanges"], loops := true, apart := false, laid := [("unicode/utf8.acceptRanges", laid_unicode_utf8_acceptRanges), ("unicode/utf8.first", laid_unicode_utf8_first)], narrowed := true }
def ArrayConstructorsUptoSaid : Prop := arrayConstructorsUptoRow.holds Tryd.pinned (OpenSpec.upto arrayConstructorsSpec)

/-- 'arraylanglaw03.ArrayElements', WHERE WHAT IT READS IS OF BULK AT MOST 1048576: true; the input reads as it did. -/
def arrayElementsUptoRow : OpenClaim := { program := "ytdobnkbmjkcpoaadoor", sum := "59447f22cf184e6a9effdf6191cc743d4fb883b8cb7bc0760246312293fb76f5", func := "arraylang/arraylanglaw03.ArrayElements", spec := "arrayElements", unfollowed := true, recurses := true, named := ["unicode/utf8.first", "unicode/utf8.acceptRanges"], loops := true, apart := false, laid := [("unicode/utf8.acceptRanges", laid_unicode_utf8_acceptRanges), ("unicode/utf8.first", laid_unicode_utf8_first)], narrowed := true }
def ArrayElementsUptoSaid : Prop := arrayElementsUptoRow.holds Tryd.pinned (OpenSpec.upto arrayElementsSpec)

/-- 'arraylanglaw03.ArrayOf', WHERE WHAT IT READS IS OF BULK AT MOST 1048576: true; the input reads as it did. -/
def arrayOfUptoRow : OpenClaim := { program := "ytdobnkbmjkcpoaadoor", sum := "59447f22cf184e6a9effdf6191cc743d4fb883b8cb7bc0760246312293fb76f5", func := "arraylang/arraylanglaw03.ArrayOf", spec := "arrayOf", unfollowed := true, recurses := true, named := ["unicode/utf8.first", "unicode/utf8.acceptRanges"], loops := true, apart := false, laid := [("unicode/utf8.acceptRanges", laid_unicode_utf8_acceptRanges), ("unicode/utf8.first", laid_unicode_utf8_first)], narrowed := true }
def ArrayOfUptoSaid : Prop := arrayOfUptoRow.holds Tryd.pinned (OpenSpec.upto arrayOfSpec)

/-- 'arraylanglaw03.ArrayRoundTrip', WHERE WHAT IT READS IS OF BULK AT MOST 1048576: true; the input reads as it did. -/
def arrayRoundTripUptoRow : OpenClaim := { program := "ytdobnkbmjkcpoaadoor", sum := "59447f22cf184e6a9effdf6191cc743d4fb883b8cb7bc0760246312293fb76f5", func := "arraylang/arraylanglaw03.ArrayRoundTrip", spec := "arrayRoundTrip", unfollowed := true, recurses := true, named := ["unicode/utf8.first", "unicode/utf8.acceptRanges"], loops := true, apart := false, laid := [("unicode/utf8.acceptRanges", laid_unicode_utf8_acceptRanges), ("unicode/utf8.first", laid_unicode_utf8_first)], narrowed := true }
def ArrayRoundTripUptoSaid : Prop := arrayRoundTripUptoRow.holds Tryd.pinned (OpenSpec.upto arrayRoundTripSpec)

/-- 'arraylanglaw03.ArrayLimits', WHERE WHAT IT READS IS OF BULK AT MOST 1048576: true; the input reads as it did. -/
def arrayLimitsUptoRow : OpenClaim := { program := "ytdobnkbmjkcpoaadoor", sum := "59447f22cf184e6a9effdf6191cc743d4fb883b8cb7bc0760246312293fb76f5", func := "arraylang/arraylanglaw03.ArrayLimits", spec := "arrayLimits", unfollowed := true, recurses := true, named := ["unicode/utf8.first", "unicode/utf8.acceptRanges"], apart := false, laid := [("unicode/utf8.acceptRanges", laid_unicode_utf8_acceptRanges), ("unicode/utf8.first", laid_unicode_utf8_first)], narrowed := true }
def ArrayLimitsUptoSaid : Prop := arrayLimitsUptoRow.holds Tryd.pinned (OpenSpec.upto arrayLimitsSpec)

end Rows
end Go.Proofs.YtdobnkbmjkcpoaaDoor
