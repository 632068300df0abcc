/-
  DERIVED. GIVEN WITH THE SEED: THE CARDS: each row of YtdobnkbmjkcpoaaDoorRows.lean that lists a variable, with what it lists TIED to the program's text (the seventh form; the later family's looks); each row that meets fmt, with fmt's text TOLD by the authors' own Lean function (tested against real Go, not proved from fmt's source: count such statements apart). THE CARD IS WHAT COUNTS. Prove the row's statement (the work); the ties are given (YtdobnkbmjkcpoaaDoorTie.lean); close each card by the builder's one call (the guide's Derived/Test/ToyasCard.lean, 'card_holds'). Laid BY PROGRAM, IN A SANDBOX (cutbox-door.mjs). By AI agents, Wed Nov 11 2026. No macro, syntax, notation, axiom, sorry.
-/
import Derived.Test.YtdobnkbmjkcpoaaDoorRows
import GoSem.ClaimSeven
namespace Go.Proofs.YtdobnkbmjkcpoaaDoor
namespace Rows

/-- THE TIED CARD OF 'arraylanglaw03.ArrayValid'. -/
def arrayValidCard : Claim7 := { stood := { row := arrayValidRow, standIns := [], harness := (true, "bda060c5a70a10237f8e982634e18fe1190d0ad65609351b47b17f8d663ff388"), looks := false }, kinds := [], alts := [], laidByText := true, laidKinds := [.data, .pinned], laidTests := true, laidLooks := .later }
def ArrayValidCardSaid : Prop := Claim7.holds Tryd.pinned (.plain (OpenSpec.ofChange arrayValidSpec)) arrayValidCard

/-- THE TIED CARD OF 'arraylanglaw03.ArrayMeasures'. -/
def arrayMeasuresCard : Claim7 := { stood := { row := arrayMeasuresRow, standIns := [], harness := (true, "bda060c5a70a10237f8e982634e18fe1190d0ad65609351b47b17f8d663ff388"), looks := false }, kinds := [], alts := [], laidByText := true, laidKinds := [.data, .pinned], laidTests := true, laidLooks := .later }
def ArrayMeasuresCardSaid : Prop := Claim7.holds Tryd.pinned (.plain (OpenSpec.ofChange arrayMeasuresSpec)) arrayMeasuresCard

/-- THE TIED CARD OF 'arraylanglaw03.ArrayEqual'. -/
def arrayEqualCard : Claim7 := { stood := { row := arrayEqualRow, standIns := [], harness := (true, "bda060c5a70a10237f8e982634e18fe1190d0ad65609351b47b17f8d663ff388"), looks := false }, kinds := [], alts := [], laidByText := true, laidKinds := [.data, .pinned], laidTests := true, laidLooks := .later }
def ArrayEqualCardSaid : Prop := Claim7.holds Tryd.pinned (.plain (OpenSpec.ofChange arrayEqualSpec)) arrayEqualCard

/-- THE TIED CARD OF 'arraylanglaw03.ArrayConstructors'. -/
def arrayConstructorsCard : Claim7 := { stood := { row := arrayConstructorsRow, standIns := [], harness := (true, "bda060c5a70a10237f8e982634e18fe1190d0ad65609351b47b17f8d663ff388"), looks := false }, kinds := [], alts := [], laidByText := true, laidKinds := [.data, .pinned], laidTests := true, laidLooks := .later }
def ArrayConstructorsCardSaid : Prop := Claim7.holds Tryd.pinned (.plain (OpenSpec.ofChange arrayConstructorsSpec)) arrayConstructorsCard

/-- THE TIED CARD OF 'arraylanglaw03.ArrayElements'. -/
def arrayElementsCard : Claim7 := { stood := { row := arrayElementsRow, standIns := [], harness := (true, "bda060c5a70a10237f8e982634e18fe1190d0ad65609351b47b17f8d663ff388"), looks := false }, kinds := [], alts := [], laidByText := true, laidKinds := [.data, .pinned], laidTests := true, laidLooks := .later }
def ArrayElementsCardSaid : Prop := Claim7.holds Tryd.pinned (.plain (OpenSpec.ofChange arrayElementsSpec)) arrayElementsCard

/-- THE TIED CARD OF 'arraylanglaw03.ArrayOf'. -/
def arrayOfCard : Claim7 := { stood := { row := arrayOfRow, standIns := [], harness := (true, "bda060c5a70a10237f8e982634e18fe1190d0ad65609351b47b17f8d663ff388"), looks := false }, kinds := [], alts := [], laidByText := true, laidKinds := [.data, .pinned], laidTests := true, laidLooks := .later }
def ArrayOfCardSaid : Prop := Claim7.holds Tryd.pinned (.plain (OpenSpec.ofChange arrayOfSpec)) arrayOfCard

/-- THE TIED CARD OF 'arraylanglaw03.ArrayRoundTrip'. -/
def arrayRoundTripCard : Claim7 := { stood := { row := arrayRoundTripRow, standIns := [], harness := (true, "bda060c5a70a10237f8e982634e18fe1190d0ad65609351b47b17f8d663ff388"), looks := false }, kinds := [], alts := [], laidByText := true, laidKinds := [.data, .pinned], laidTests := true, laidLooks := .later }
def ArrayRoundTripCardSaid : Prop := Claim7.holds Tryd.pinned (.plain (OpenSpec.ofChange arrayRoundTripSpec)) arrayRoundTripCard

/-- THE TIED CARD OF 'arraylanglaw03.ArrayLimits'. -/
def arrayLimitsCard : Claim7 := { stood := { row := arrayLimitsRow, standIns := [], harness := (true, "bda060c5a70a10237f8e982634e18fe1190d0ad65609351b47b17f8d663ff388"), looks := false }, kinds := [], alts := [], laidByText := true, laidKinds := [.data, .pinned], laidTests := true, laidLooks := .later }
def ArrayLimitsCardSaid : Prop := Claim7.holds Tryd.pinned (.plain (OpenSpec.ofChange arrayLimitsSpec)) arrayLimitsCard

/-- THE SECOND FORM's CARD OF 'arraylanglaw03.ArrayValid'. -/
def arrayValidUptoCard : Claim7 := { stood := { row := arrayValidUptoRow, standIns := [], harness := (true, "bda060c5a70a10237f8e982634e18fe1190d0ad65609351b47b17f8d663ff388"), looks := false }, kinds := [], alts := [], laidByText := true, laidKinds := [.data, .pinned], laidTests := true, laidLooks := .later }
def ArrayValidUptoCardSaid : Prop := Claim7.holds Tryd.pinned (.plain (OpenSpec.upto arrayValidSpec)) arrayValidUptoCard

/-- THE SECOND FORM's CARD OF 'arraylanglaw03.ArrayMeasures'. -/
def arrayMeasuresUptoCard : Claim7 := { stood := { row := arrayMeasuresUptoRow, standIns := [], harness := (true, "bda060c5a70a10237f8e982634e18fe1190d0ad65609351b47b17f8d663ff388"), looks := false }, kinds := [], alts := [], laidByText := true, laidKinds := [.data, .pinned], laidTests := true, laidLooks := .later }
def ArrayMeasuresUptoCardSaid : Prop := Claim7.holds Tryd.pinned (.plain (OpenSpec.upto arrayMeasuresSpec)) arrayMeasuresUptoCard

/-- THE SECOND FORM's CARD OF 'arraylanglaw03.ArrayEqual'. -/
def arrayEqualUptoCard : Claim7 := { stood := { row := arrayEqualUptoRow, standIns := [], harness := (true, "bda060c5a70a10237f8e982634e18fe1190d0ad65609351b47b17f8d663ff388"), looks := false }, kinds := [], alts := [], laidByText := true, laidKinds := [.data, .pinned], laidTests := true, laidLooks := .later }
def ArrayEqualUptoCardSaid : Prop := Claim7.holds Tryd.pinned (.plain (OpenSpec.upto arrayEqualSpec)) arrayEqualUptoCard

/-- THE SECOND FORM's CARD OF 'arraylanglaw03.ArrayConstructors'. -/
def arrayConstructorsUptoCard : Claim7 := { stood := { row := arrayConstructorsUptoRow, standIns := [], harness := (true, "bda060c5a70a10237f8e982634e18fe1190d0ad65609351b47b17f8d663ff388"), looks := false }, kinds := [], alts := [], laidByText := true, laidKinds := [.data, .pinned], laidTests := true, laidLooks := .later }
def ArrayConstructorsUptoCardSaid : Prop := Claim7.holds Tryd.pinned (.plain (OpenSpec.upto arrayConstructorsSpec)) arrayConstructorsUptoCard

/-- THE SECOND FORM's CARD OF 'arraylanglaw03.ArrayElements'. -/
def arrayElementsUptoCard : Claim7 := { stood := { row := arrayElementsUptoRow, standIns := [], harness := (true, "bda060c5a70a10237f8e982634e18fe1190d0ad65609351b47b17f8d663ff388"), looks := false }, kinds := [], alts := [], laidByText := true, laidKinds := [.data, .pinned], laidTests := true, laidLooks := .later }
def ArrayElementsUptoCardSaid : Prop := Claim7.holds Tryd.pinned (.plain (OpenSpec.upto arrayElementsSpec)) arrayElementsUptoCard

/-- THE SECOND FORM's CARD OF 'arraylanglaw03.ArrayOf'. -/
def arrayOfUptoCard : Claim7 := { stood := { row := arrayOfUptoRow, standIns := [], harness := (true, "bda060c5a70a10237f8e982634e18fe1190d0ad65609351b47b17f8d663ff388"), looks := false }, kinds := [], alts := [], laidByText := true, laidKinds := [.data, .pinned], laidTests := true, laidLooks := .later }
def ArrayOfUptoCardSaid : Prop := Claim7.holds Tryd.pinned (.plain (OpenSpec.upto arrayOfSpec)) arrayOfUptoCard

/-- THE SECOND FORM's CARD OF 'arraylanglaw03.ArrayRoundTrip'. -/
def arrayRoundTripUptoCard : Claim7 := { stood := { row := arrayRoundTripUptoRow, standIns := [], harness := (true, "bda060c5a70a10237f8e982634e18fe1190d0ad65609351b47b17f8d663ff388"), looks := false }, kinds := [], alts := [], laidByText := true, laidKinds := [.data, .pinned], laidTests := true, laidLooks := .later }
def ArrayRoundTripUptoCardSaid : Prop := Claim7.holds Tryd.pinned (.plain (OpenSpec.upto arrayRoundTripSpec)) arrayRoundTripUptoCard

/-- THE SECOND FORM's CARD OF 'arraylanglaw03.ArrayLimits'. -/
def arrayLimitsUptoCard : Claim7 := { stood := { row := arrayLimitsUptoRow, standIns := [], harness := (true, "bda060c5a70a10237f8e982634e18fe1190d0ad65609351b47b17f8d663ff388"), looks := false }, kinds := [], alts := [], laidByText := true, laidKinds := [.data, .pinned], laidTests := true, laidLooks := .later }
def ArrayLimitsUptoCardSaid : Prop := Claim7.holds Tryd.pinned (.plain (OpenSpec.upto arrayLimitsSpec)) arrayLimitsUptoCard
end Rows
end Go.Proofs.YtdobnkbmjkcpoaaDoor
