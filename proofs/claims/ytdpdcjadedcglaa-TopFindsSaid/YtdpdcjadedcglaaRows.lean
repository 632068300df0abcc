/-
  NARROWER THAN 'FOR EVERY INPUT', by the rows' own cells (each row's printed sentence says how): TopCopies: loops · TopFinds: loops · TopCuts: loops.
  DERIVED. THE GIVEN ROWS OF THIS SEAT. 3 by the template 'for every input the law returns true; each argument reads behind the call as it read before'; 0 by the template 'total and deterministic' (their statements: YtdpdcjadedcglaaTotals.lean).
  GIVEN WITH THE SEED: the statements are not yours to turn. If you find one false, say at which input.
  Laid BY PROGRAM, IN A SANDBOX (cutbox-rows.mjs): the forced cells as the released guide's own fill.sh prints them over the translation 7d148cb9879e2bd3… (all of the seat's roots in one cut). By AI agents, Wed Nov 11 2026. No macro, syntax, notation, axiom, sorry.
-/
import Derived.Test.YtdpdcjadedcglaaChecked
import GoSem.Claim
import GoSem.ClaimJoined
import GoSem.ClaimMapViews
import Derived.JoinedTies
import Derived.KernelRfl
namespace Go.Proofs.Ytdpdcjadedcglaa
/- THE CELL 'sum', in the pinned program and in every row, IS THE sha256 OF THE DUMP (.gsa) THAT YtdpdcjadedcglaaProg.lean LOADS. Nothing in Lean hashes anything: it is a label: what it is worth is what the hold of that sum in a sandbox is worth. -/
noncomputable def Try.pinned : Pinned := { name := "ytdpdcjadedcglaa", sum := "7d148cb9879e2bd3d1fe68bd5514aec941544eba8a7098f94d21219b2dc49c8d", checked := Try.checked }
namespace Rows
def none {H : Type} : Left H := { results := [], args := [] }

/-- 'arraylangtop.TopCopies': WHATEVER THE INPUT: true; the input reads as it did. -/
def topCopiesSpec : ChangeSpec := { name := "topCopies", fn := fun _ => fun
  | [d1, d2] => { results := [.lit (.bool true)], args := [d1, d2] }
  | _ => none }
def topCopiesRow : OpenClaim := { program := "ytdpdcjadedcglaa", sum := "7d148cb9879e2bd3d1fe68bd5514aec941544eba8a7098f94d21219b2dc49c8d", func := "arraylang/arraylangtop.TopCopies", spec := "topCopies", unfollowed := true, recurses := true, loops := true, apart := false }
def TopCopiesSaid : Prop := topCopiesRow.holds Try.pinned (OpenSpec.ofChange topCopiesSpec)

/-- ITS FALSE NEIGHBOUR: 'it returns false'. Refute it at one input. -/
def topCopiesWrong : ChangeSpec := { name := "topCopies", fn := fun _ => fun
  | [d1, d2] => { results := [.lit (.bool false)], args := [d1, d2] }
  | _ => none }
def TopCopiesWrongFalsely : Prop := topCopiesRow.holds Try.pinned (OpenSpec.ofChange topCopiesWrong)

/-- 'arraylangtop.TopFinds': WHATEVER THE INPUT: true; the input reads as it did. -/
def topFindsSpec : ChangeSpec := { name := "topFinds", fn := fun _ => fun
  | [d] => { results := [.lit (.bool true)], args := [d] }
  | _ => none }
def topFindsRow : OpenClaim := { program := "ytdpdcjadedcglaa", sum := "7d148cb9879e2bd3d1fe68bd5514aec941544eba8a7098f94d21219b2dc49c8d", func := "arraylang/arraylangtop.TopFinds", spec := "topFinds", unfollowed := true, recurses := true, loops := true, apart := false }
def TopFindsSaid : Prop := topFindsRow.holds Try.pinned (OpenSpec.ofChange topFindsSpec)

/-- ITS FALSE NEIGHBOUR: 'it returns false'. Refute it at one input. -/
def topFindsWrong : ChangeSpec := { name := "topFinds", fn := fun _ => fun
  | [d] => { results := [.lit (.bool false)], args := [d] }
  | _ => none }
def TopFindsWrongFalsely : Prop := topFindsRow.holds Try.pinned (OpenSpec.ofChange topFindsWrong)

/-- 'arraylangtop.TopCuts': WHATEVER THE INPUT: true; the input reads as it did. -/
def topCutsSpec : ChangeSpec := { name := "topCuts", fn := fun _ => fun
  | [d1, d2] => { results := [.lit (.bool true)], args := [d1, d2] }
  | _ => none }
def topCutsRow : OpenClaim := { program := "ytdpdcjadedcglaa", sum := "7d148cb9879e2bd3d1fe68bd5514aec941544eba8a7098f94d21219b2dc49c8d", func := "arraylang/arraylangtop.TopCuts", spec := "topCuts", inPlace := ["slices.overlaps[int]"], unfollowed := true, recurses := true, loops := true, apart := false }
def TopCutsSaid : Prop := topCutsRow.holds Try.pinned (OpenSpec.ofChange topCutsSpec)

/-- ITS FALSE NEIGHBOUR: 'it returns false'. Refute it at one input. -/
def topCutsWrong : ChangeSpec := { name := "topCuts", fn := fun _ => fun
  | [d1, d2] => { results := [.lit (.bool false)], args := [d1, d2] }
  | _ => none }
def TopCutsWrongFalsely : Prop := topCutsRow.holds Try.pinned (OpenSpec.ofChange topCutsWrong)

/- THE SECOND FORM. 'bulk': how many values and letters a reading holds, each counted each time it is reached (what is shared counts as often as it is met; a slice's spare places count too). A statement '..UptoSaid' is the law's where the arguments, and the package variables that the reading takes, are together of bulk at most 1048576: NARROWER than '..Said'. Prove '..Said' where nothing that the law and all that it calls make is longer than what came in: it says more and counts as full. Else prove '..UptoSaid'. A law counts once. -/
mutual
def uptoBulk {H : Type} : DataW H → Nat
  | .lit (.string bytes) => bytes.length + 1
  | .lit _ => 1
  | .nil => 1
  | .ptr d => uptoBulk d + 1
  | .slice elems spare => uptoBulkAll elems + uptoBulkAll spare + 1
  | .agg parts => uptoBulkAll parts + 1
  | .iface _ d => uptoBulk d + 1
  | .map entries => uptoBulkEntries entries + 1
  | .held _ => 1
def uptoBulkAll {H : Type} : List (DataW H) → Nat
  | [] => 0
  | d :: r => uptoBulk d + uptoBulkAll r
def uptoBulkEntries {H : Type} : List (Lit × DataW H) → Nat
  | [] => 0
  | x :: r => uptoBulkEntry x + uptoBulkEntries r
def uptoBulkEntry {H : Type} : Lit × DataW H → Nat
  | (.string bytes, d) => bytes.length + uptoBulk d + 1
  | (_, d) => uptoBulk d + 1
 end
def uptoSmall : (H : Type) → List (DataW H) → Bool := fun _ ds => decide (uptoBulkAll ds ≤ 1048576)
def OpenSpec.upto (s : _root_.Go.ChangeSpec) : _root_.Go.OpenSpec := { _root_.Go.OpenSpec.ofChange s with cond := some uptoSmall }

/-- 'arraylangtop.TopCopies', WHERE WHAT IT READS IS OF BULK AT MOST 1048576: true; the input reads as it did. -/
def topCopiesUptoRow : OpenClaim := { program := "ytdpdcjadedcglaa", sum := "7d148cb9879e2bd3d1fe68bd5514aec941544eba8a7098f94d21219b2dc49c8d", func := "arraylang/arraylangtop.TopCopies", spec := "topCopies", unfollowed := true, recurses := true, loops := true, apart := false, narrowed := true }
def TopCopiesUptoSaid : Prop := topCopiesUptoRow.holds Try.pinned (OpenSpec.upto topCopiesSpec)

/-- 'arraylangtop.TopFinds', WHERE WHAT IT READS IS OF BULK AT MOST 1048576: true; the input reads as it did. -/
def topFindsUptoRow : OpenClaim := { program := "ytdpdcjadedcglaa", sum := "7d148cb9879e2bd3d1fe68bd5514aec941544eba8a7098f94d21219b2dc49c8d", func := "arraylang/arraylangtop.TopFinds", spec := "topFinds", unfollowed := true, recurses := true, loops := true, apart := false, narrowed := true }
def TopFindsUptoSaid : Prop := topFindsUptoRow.holds Try.pinned (OpenSpec.upto topFindsSpec)

/-- 'arraylangtop.TopCuts', WHERE WHAT IT READS IS OF BULK AT MOST 1048576: true; the input reads as it did. -/
def topCutsUptoRow : OpenClaim := { program := "ytdpdcjadedcglaa", sum := "7d148cb9879e2bd3d1fe68bd5514aec941544eba8a7098f94d21219b2dc49c8d", func := "arraylang/arraylangtop.TopCuts", spec := "topCuts", inPlace := ["slices.overlaps[int]"], unfollowed := true, recurses := true, loops := true, apart := false, narrowed := true }
def TopCutsUptoSaid : Prop := topCutsUptoRow.holds Try.pinned (OpenSpec.upto topCutsSpec)

end Rows
end Go.Proofs.Ytdpdcjadedcglaa
