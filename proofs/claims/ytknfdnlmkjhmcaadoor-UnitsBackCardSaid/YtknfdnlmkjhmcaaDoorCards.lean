/-
  DERIVED. GIVEN WITH THE SEED: THE CARDS: each row of YtknfdnlmkjhmcaaDoorRows.lean that lists a variable, with what it lists TIED to the program's text (the seventh form; the later family's looks); each row that meets fmt, with fmt's text TOLD by the authors' own Lean function (tested against real Go, not proved from fmt's source: count such statements apart). THE CARD IS WHAT COUNTS. Prove the row's statement (the work); the ties are given (YtknfdnlmkjhmcaaDoorTie.lean); close each card by the builder's one call (the guide's Derived/Test/ToyasCard.lean, 'card_holds'). Laid BY PROGRAM, IN A SANDBOX (cutbox-door.mjs). By AI agents, Wed Nov 11 2026. No macro, syntax, notation, axiom, sorry.
-/
import Derived.Test.YtknfdnlmkjhmcaaDoorRows
import GoSem.ClaimSeven
namespace Go.Proofs.YtknfdnlmkjhmcaaDoor
namespace Rows

/-- THE TIED CARD OF 'sawmilllaw01.UnitsDivides'. -/
def unitsDividesCard : Claim7 := { stood := { row := unitsDividesRow, standIns := [], harness := (true, "2c2c4ce9951d22e0c4c365a75e866de6b7b05fae441913c30fa337879c309ecb"), looks := false }, kinds := [], alts := [], laidByText := true, laidKinds := [.data, .data, .data], laidTests := true, laidLooks := .later }
def UnitsDividesCardSaid : Prop := Claim7.holds Tryd.pinned (.plain (OpenSpec.ofChange unitsDividesSpec)) unitsDividesCard

/-- THE TIED CARD OF 'sawmilllaw01.UnitsScales'. -/
def unitsScalesCard : Claim7 := { stood := { row := unitsScalesRow, standIns := [], harness := (true, "2c2c4ce9951d22e0c4c365a75e866de6b7b05fae441913c30fa337879c309ecb"), looks := false }, kinds := [], alts := [], laidByText := true, laidKinds := [.data, .data, .data], laidTests := true, laidLooks := .later }
def UnitsScalesCardSaid : Prop := Claim7.holds Tryd.pinned (.plain (OpenSpec.ofChange unitsScalesSpec)) unitsScalesCard

/-- THE TIED CARD OF 'sawmilllaw01.UnitsMoves'. -/
def unitsMovesCard : Claim7 := { stood := { row := unitsMovesRow, standIns := [], harness := (true, "2c2c4ce9951d22e0c4c365a75e866de6b7b05fae441913c30fa337879c309ecb"), looks := false }, kinds := [], alts := [], laidByText := true, laidKinds := [.data, .data, .data], laidTests := true, laidLooks := .later }
def UnitsMovesCardSaid : Prop := Claim7.holds Tryd.pinned (.plain (OpenSpec.ofChange unitsMovesSpec)) unitsMovesCard

/-- THE TIED CARD OF 'sawmilllaw01.UnitsRoots'. -/
def unitsRootsCard : Claim7 := { stood := { row := unitsRootsRow, standIns := [], harness := (true, "2c2c4ce9951d22e0c4c365a75e866de6b7b05fae441913c30fa337879c309ecb"), looks := false }, kinds := [], alts := [], laidByText := true, laidKinds := [.data, .data, .data], laidTests := true, laidLooks := .later }
def UnitsRootsCardSaid : Prop := Claim7.holds Tryd.pinned (.plain (OpenSpec.ofChange unitsRootsSpec)) unitsRootsCard

/-- THE TIED CARD OF 'sawmilllaw01.UnitsTexts'. -/
def unitsTextsCard : Claim7 := { stood := { row := unitsTextsRow, standIns := [], harness := (true, "2c2c4ce9951d22e0c4c365a75e866de6b7b05fae441913c30fa337879c309ecb"), looks := false }, kinds := [], alts := [], laidByText := true, laidKinds := [.data, .data, .data], laidTests := true, laidLooks := .later }
def UnitsTextsCardSaid : Prop := Claim7.holds Tryd.pinned (.plain (OpenSpec.ofChange unitsTextsSpec)) unitsTextsCard

/-- THE TIED CARD OF 'sawmilllaw01.UnitsFloors'. -/
def unitsFloorsCard : Claim7 := { stood := { row := unitsFloorsRow, standIns := [], harness := (true, "2c2c4ce9951d22e0c4c365a75e866de6b7b05fae441913c30fa337879c309ecb"), looks := false }, kinds := [], alts := [], laidByText := true, laidKinds := [.data, .data, .data], laidTests := true, laidLooks := .later }
def UnitsFloorsCardSaid : Prop := Claim7.holds Tryd.pinned (.plain (OpenSpec.ofChange unitsFloorsSpec)) unitsFloorsCard

/-- THE TIED CARD OF 'sawmilllaw01.UnitsProducts'. -/
def unitsProductsCard : Claim7 := { stood := { row := unitsProductsRow, standIns := [], harness := (true, "2c2c4ce9951d22e0c4c365a75e866de6b7b05fae441913c30fa337879c309ecb"), looks := false }, kinds := [], alts := [], laidByText := true, laidKinds := [.data, .data, .data], laidTests := true, laidLooks := .later }
def UnitsProductsCardSaid : Prop := Claim7.holds Tryd.pinned (.plain (OpenSpec.ofChange unitsProductsSpec)) unitsProductsCard

/-- THE TIED CARD OF 'sawmilllaw01.UnitsSteps'. -/
def unitsStepsCard : Claim7 := { stood := { row := unitsStepsRow, standIns := [], harness := (true, "2c2c4ce9951d22e0c4c365a75e866de6b7b05fae441913c30fa337879c309ecb"), looks := false }, kinds := [], alts := [], laidByText := true, laidKinds := [.data, .data, .data], laidTests := true, laidLooks := .later }
def UnitsStepsCardSaid : Prop := Claim7.holds Tryd.pinned (.plain (OpenSpec.ofChange unitsStepsSpec)) unitsStepsCard

/-- THE TIED CARD OF 'sawmilllaw01.UnitsBack'. -/
def unitsBackCard : Claim7 := { stood := { row := unitsBackRow, standIns := [], harness := (true, "2c2c4ce9951d22e0c4c365a75e866de6b7b05fae441913c30fa337879c309ecb"), looks := false }, kinds := [], alts := [], laidByText := true, laidKinds := [.data, .data, .data], laidTests := true, laidLooks := .later }
def UnitsBackCardSaid : Prop := Claim7.holds Tryd.pinned (.plain (OpenSpec.ofChange unitsBackSpec)) unitsBackCard

/-- THE SECOND FORM's CARD OF 'sawmilllaw01.UnitsDivides'. -/
def unitsDividesUptoCard : Claim7 := { stood := { row := unitsDividesUptoRow, standIns := [], harness := (true, "2c2c4ce9951d22e0c4c365a75e866de6b7b05fae441913c30fa337879c309ecb"), looks := false }, kinds := [], alts := [], laidByText := true, laidKinds := [.data, .data, .data], laidTests := true, laidLooks := .later }
def UnitsDividesUptoCardSaid : Prop := Claim7.holds Tryd.pinned (.plain (OpenSpec.upto unitsDividesSpec)) unitsDividesUptoCard

/-- THE SECOND FORM's CARD OF 'sawmilllaw01.UnitsScales'. -/
def unitsScalesUptoCard : Claim7 := { stood := { row := unitsScalesUptoRow, standIns := [], harness := (true, "2c2c4ce9951d22e0c4c365a75e866de6b7b05fae441913c30fa337879c309ecb"), looks := false }, kinds := [], alts := [], laidByText := true, laidKinds := [.data, .data, .data], laidTests := true, laidLooks := .later }
def UnitsScalesUptoCardSaid : Prop := Claim7.holds Tryd.pinned (.plain (OpenSpec.upto unitsScalesSpec)) unitsScalesUptoCard

/-- THE SECOND FORM's CARD OF 'sawmilllaw01.UnitsMoves'. -/
def unitsMovesUptoCard : Claim7 := { stood := { row := unitsMovesUptoRow, standIns := [], harness := (true, "2c2c4ce9951d22e0c4c365a75e866de6b7b05fae441913c30fa337879c309ecb"), looks := false }, kinds := [], alts := [], laidByText := true, laidKinds := [.data, .data, .data], laidTests := true, laidLooks := .later }
def UnitsMovesUptoCardSaid : Prop := Claim7.holds Tryd.pinned (.plain (OpenSpec.upto unitsMovesSpec)) unitsMovesUptoCard

/-- THE SECOND FORM's CARD OF 'sawmilllaw01.UnitsRoots'. -/
def unitsRootsUptoCard : Claim7 := { stood := { row := unitsRootsUptoRow, standIns := [], harness := (true, "2c2c4ce9951d22e0c4c365a75e866de6b7b05fae441913c30fa337879c309ecb"), looks := false }, kinds := [], alts := [], laidByText := true, laidKinds := [.data, .data, .data], laidTests := true, laidLooks := .later }
def UnitsRootsUptoCardSaid : Prop := Claim7.holds Tryd.pinned (.plain (OpenSpec.upto unitsRootsSpec)) unitsRootsUptoCard

/-- THE SECOND FORM's CARD OF 'sawmilllaw01.UnitsTexts'. -/
def unitsTextsUptoCard : Claim7 := { stood := { row := unitsTextsUptoRow, standIns := [], harness := (true, "2c2c4ce9951d22e0c4c365a75e866de6b7b05fae441913c30fa337879c309ecb"), looks := false }, kinds := [], alts := [], laidByText := true, laidKinds := [.data, .data, .data], laidTests := true, laidLooks := .later }
def UnitsTextsUptoCardSaid : Prop := Claim7.holds Tryd.pinned (.plain (OpenSpec.upto unitsTextsSpec)) unitsTextsUptoCard

/-- THE SECOND FORM's CARD OF 'sawmilllaw01.UnitsFloors'. -/
def unitsFloorsUptoCard : Claim7 := { stood := { row := unitsFloorsUptoRow, standIns := [], harness := (true, "2c2c4ce9951d22e0c4c365a75e866de6b7b05fae441913c30fa337879c309ecb"), looks := false }, kinds := [], alts := [], laidByText := true, laidKinds := [.data, .data, .data], laidTests := true, laidLooks := .later }
def UnitsFloorsUptoCardSaid : Prop := Claim7.holds Tryd.pinned (.plain (OpenSpec.upto unitsFloorsSpec)) unitsFloorsUptoCard

/-- THE SECOND FORM's CARD OF 'sawmilllaw01.UnitsProducts'. -/
def unitsProductsUptoCard : Claim7 := { stood := { row := unitsProductsUptoRow, standIns := [], harness := (true, "2c2c4ce9951d22e0c4c365a75e866de6b7b05fae441913c30fa337879c309ecb"), looks := false }, kinds := [], alts := [], laidByText := true, laidKinds := [.data, .data, .data], laidTests := true, laidLooks := .later }
def UnitsProductsUptoCardSaid : Prop := Claim7.holds Tryd.pinned (.plain (OpenSpec.upto unitsProductsSpec)) unitsProductsUptoCard

/-- THE SECOND FORM's CARD OF 'sawmilllaw01.UnitsSteps'. -/
def unitsStepsUptoCard : Claim7 := { stood := { row := unitsStepsUptoRow, standIns := [], harness := (true, "2c2c4ce9951d22e0c4c365a75e866de6b7b05fae441913c30fa337879c309ecb"), looks := false }, kinds := [], alts := [], laidByText := true, laidKinds := [.data, .data, .data], laidTests := true, laidLooks := .later }
def UnitsStepsUptoCardSaid : Prop := Claim7.holds Tryd.pinned (.plain (OpenSpec.upto unitsStepsSpec)) unitsStepsUptoCard

/-- THE SECOND FORM's CARD OF 'sawmilllaw01.UnitsBack'. -/
def unitsBackUptoCard : Claim7 := { stood := { row := unitsBackUptoRow, standIns := [], harness := (true, "2c2c4ce9951d22e0c4c365a75e866de6b7b05fae441913c30fa337879c309ecb"), looks := false }, kinds := [], alts := [], laidByText := true, laidKinds := [.data, .data, .data], laidTests := true, laidLooks := .later }
def UnitsBackUptoCardSaid : Prop := Claim7.holds Tryd.pinned (.plain (OpenSpec.upto unitsBackSpec)) unitsBackUptoCard
end Rows
end Go.Proofs.YtknfdnlmkjhmcaaDoor
