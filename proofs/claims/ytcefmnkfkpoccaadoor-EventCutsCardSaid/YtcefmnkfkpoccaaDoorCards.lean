/-
  DERIVED. GIVEN WITH THE SEED: THE CARDS: each row of YtcefmnkfkpoccaaDoorRows.lean that lists a variable, with what it lists TIED to the program's text (the seventh form; the later family's looks); each row that meets fmt, with fmt's text TOLD by the authors' own Lean function (tested against real Go, not proved from fmt's source: count such statements apart). THE CARD IS WHAT COUNTS. Prove the row's statement (the work); the ties are given (YtcefmnkfkpoccaaDoorTie.lean); close each card by the builder's one call (the guide's Derived/Test/ToyasCard.lean, 'card_holds'). Laid BY PROGRAM, IN A SANDBOX (cutbox-door.mjs). By AI agents, Wed Nov 11 2026. No macro, syntax, notation, axiom, sorry.
-/
import Derived.Test.YtcefmnkfkpoccaaDoorRows
import GoSem.ClaimSeven
namespace Go.Proofs.YtcefmnkfkpoccaaDoor
namespace Rows

/-- THE TIED CARD OF 'sawmilllaw58.EventChecks'. -/
def eventChecksCard : Claim7 := { stood := { row := eventChecksRow, standIns := [], harness := (true, "7ac4ed873983c5a261b66eb0556ef0360ea53dbd8f12bbc4525fa2f23d29f944"), looks := false }, kinds := [], alts := [], laidByText := true, laidKinds := [.data, .data, .data], laidTests := true, laidLooks := .later }
def EventChecksCardSaid : Prop := Claim7.holds Tryd.pinned (.plain (OpenSpec.ofChange eventChecksSpec)) eventChecksCard

/-- THE TIED CARD OF 'sawmilllaw58.EventEncodes'. -/
def eventEncodesCard : Claim7 := { stood := { row := eventEncodesRow, standIns := [], harness := (true, "7ac4ed873983c5a261b66eb0556ef0360ea53dbd8f12bbc4525fa2f23d29f944"), looks := false }, kinds := [], alts := [], laidByText := true, laidKinds := [.data, .data, .data], laidTests := true, laidLooks := .later }
def EventEncodesCardSaid : Prop := Claim7.holds Tryd.pinned (.plain (OpenSpec.ofChange eventEncodesSpec)) eventEncodesCard

/-- THE TIED CARD OF 'sawmilllaw58.EventDecodes'. -/
def eventDecodesCard : Claim7 := { stood := { row := eventDecodesRow, standIns := [], harness := (true, "7ac4ed873983c5a261b66eb0556ef0360ea53dbd8f12bbc4525fa2f23d29f944"), looks := false }, kinds := [], alts := [], laidByText := true, laidKinds := [.data, .data, .data], laidTests := true, laidLooks := .later }
def EventDecodesCardSaid : Prop := Claim7.holds Tryd.pinned (.plain (OpenSpec.ofChange eventDecodesSpec)) eventDecodesCard

/-- THE TIED CARD OF 'sawmilllaw58.EventLines'. -/
def eventLinesCard : Claim7 := { stood := { row := eventLinesRow, standIns := [], harness := (true, "7ac4ed873983c5a261b66eb0556ef0360ea53dbd8f12bbc4525fa2f23d29f944"), looks := false }, kinds := [], alts := [], laidByText := true, laidKinds := [.data, .data, .data], laidTests := true, laidLooks := .later }
def EventLinesCardSaid : Prop := Claim7.holds Tryd.pinned (.plain (OpenSpec.ofChange eventLinesSpec)) eventLinesCard

/-- THE TIED CARD OF 'sawmilllaw58.EventApart'. -/
def eventApartCard : Claim7 := { stood := { row := eventApartRow, standIns := [], harness := (true, "7ac4ed873983c5a261b66eb0556ef0360ea53dbd8f12bbc4525fa2f23d29f944"), looks := false }, kinds := [], alts := [], laidByText := true, laidKinds := [.data, .data, .data], laidTests := true, laidLooks := .later }
def EventApartCardSaid : Prop := Claim7.holds Tryd.pinned (.plain (OpenSpec.ofChange eventApartSpec)) eventApartCard

/-- THE TIED CARD OF 'sawmilllaw58.EventCuts'. -/
def eventCutsCard : Claim7 := { stood := { row := eventCutsRow, standIns := [], harness := (true, "7ac4ed873983c5a261b66eb0556ef0360ea53dbd8f12bbc4525fa2f23d29f944"), looks := false }, kinds := [], alts := [], laidByText := true, laidKinds := [.data, .data, .data], laidTests := true, laidLooks := .later }
def EventCutsCardSaid : Prop := Claim7.holds Tryd.pinned (.plain (OpenSpec.ofChange eventCutsSpec)) eventCutsCard

/-- THE SECOND FORM's CARD OF 'sawmilllaw58.EventChecks'. -/
def eventChecksUptoCard : Claim7 := { stood := { row := eventChecksUptoRow, standIns := [], harness := (true, "7ac4ed873983c5a261b66eb0556ef0360ea53dbd8f12bbc4525fa2f23d29f944"), looks := false }, kinds := [], alts := [], laidByText := true, laidKinds := [.data, .data, .data], laidTests := true, laidLooks := .later }
def EventChecksUptoCardSaid : Prop := Claim7.holds Tryd.pinned (.plain (OpenSpec.upto eventChecksSpec)) eventChecksUptoCard

/-- THE SECOND FORM's CARD OF 'sawmilllaw58.EventEncodes'. -/
def eventEncodesUptoCard : Claim7 := { stood := { row := eventEncodesUptoRow, standIns := [], harness := (true, "7ac4ed873983c5a261b66eb0556ef0360ea53dbd8f12bbc4525fa2f23d29f944"), looks := false }, kinds := [], alts := [], laidByText := true, laidKinds := [.data, .data, .data], laidTests := true, laidLooks := .later }
def EventEncodesUptoCardSaid : Prop := Claim7.holds Tryd.pinned (.plain (OpenSpec.upto eventEncodesSpec)) eventEncodesUptoCard

/-- THE SECOND FORM's CARD OF 'sawmilllaw58.EventDecodes'. -/
def eventDecodesUptoCard : Claim7 := { stood := { row := eventDecodesUptoRow, standIns := [], harness := (true, "7ac4ed873983c5a261b66eb0556ef0360ea53dbd8f12bbc4525fa2f23d29f944"), looks := false }, kinds := [], alts := [], laidByText := true, laidKinds := [.data, .data, .data], laidTests := true, laidLooks := .later }
def EventDecodesUptoCardSaid : Prop := Claim7.holds Tryd.pinned (.plain (OpenSpec.upto eventDecodesSpec)) eventDecodesUptoCard

/-- THE SECOND FORM's CARD OF 'sawmilllaw58.EventLines'. -/
def eventLinesUptoCard : Claim7 := { stood := { row := eventLinesUptoRow, standIns := [], harness := (true, "7ac4ed873983c5a261b66eb0556ef0360ea53dbd8f12bbc4525fa2f23d29f944"), looks := false }, kinds := [], alts := [], laidByText := true, laidKinds := [.data, .data, .data], laidTests := true, laidLooks := .later }
def EventLinesUptoCardSaid : Prop := Claim7.holds Tryd.pinned (.plain (OpenSpec.upto eventLinesSpec)) eventLinesUptoCard

/-- THE SECOND FORM's CARD OF 'sawmilllaw58.EventApart'. -/
def eventApartUptoCard : Claim7 := { stood := { row := eventApartUptoRow, standIns := [], harness := (true, "7ac4ed873983c5a261b66eb0556ef0360ea53dbd8f12bbc4525fa2f23d29f944"), looks := false }, kinds := [], alts := [], laidByText := true, laidKinds := [.data, .data, .data], laidTests := true, laidLooks := .later }
def EventApartUptoCardSaid : Prop := Claim7.holds Tryd.pinned (.plain (OpenSpec.upto eventApartSpec)) eventApartUptoCard

/-- THE SECOND FORM's CARD OF 'sawmilllaw58.EventCuts'. -/
def eventCutsUptoCard : Claim7 := { stood := { row := eventCutsUptoRow, standIns := [], harness := (true, "7ac4ed873983c5a261b66eb0556ef0360ea53dbd8f12bbc4525fa2f23d29f944"), looks := false }, kinds := [], alts := [], laidByText := true, laidKinds := [.data, .data, .data], laidTests := true, laidLooks := .later }
def EventCutsUptoCardSaid : Prop := Claim7.holds Tryd.pinned (.plain (OpenSpec.upto eventCutsSpec)) eventCutsUptoCard
end Rows
end Go.Proofs.YtcefmnkfkpoccaaDoor
