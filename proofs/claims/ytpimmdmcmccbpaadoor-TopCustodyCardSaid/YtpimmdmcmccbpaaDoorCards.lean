/-
  DERIVED. GIVEN WITH THE SEED: THE CARDS: each row of YtpimmdmcmccbpaaDoorRows.lean that lists a variable, with what it lists TIED to the program's text (the seventh form; the later family's looks); each row that meets fmt, with fmt's text TOLD by the authors' own Lean function (tested against real Go, not proved from fmt's source: count such statements apart). THE CARD IS WHAT COUNTS. Prove the row's statement (the work); the ties are given (YtpimmdmcmccbpaaDoorTie.lean); close each card by the builder's one call (the guide's Derived/Test/ToyasCard.lean, 'card_holds'). Laid BY PROGRAM, IN A SANDBOX (cutbox-door.mjs). By AI agents, Wed Nov 11 2026. No macro, syntax, notation, axiom, sorry.
-/
import Derived.Test.YtpimmdmcmccbpaaDoorRows
import GoSem.ClaimSeven
namespace Go.Proofs.YtpimmdmcmccbpaaDoor
namespace Rows

/-- THE TIED CARD OF 'sawmilltop.TopTamper'. -/
def topTamperCard : Claim7 := { stood := { row := topTamperRow, standIns := [], harness := (true, "7567710c863336c35bfaad6b7c6640baec142f5c723c88713faf2f4f597bd6f4"), looks := false }, kinds := [], alts := [], laidByText := true, laidKinds := [.data, .data, .data], laidTests := true, laidLooks := .later }
def TopTamperCardSaid : Prop := Claim7.holds Tryd.pinned (.plain (OpenSpec.ofChange topTamperSpec)) topTamperCard

/-- THE TIED CARD OF 'sawmilltop.TopCustody'. -/
def topCustodyCard : Claim7 := { stood := { row := topCustodyRow, standIns := [], harness := (true, "7567710c863336c35bfaad6b7c6640baec142f5c723c88713faf2f4f597bd6f4"), looks := false }, kinds := [], alts := [], laidByText := true, laidKinds := [.data, .data, .data], laidTests := true, laidLooks := .later }
def TopCustodyCardSaid : Prop := Claim7.holds Tryd.pinned (.plain (OpenSpec.ofChange topCustodySpec)) topCustodyCard

/-- THE TIED CARD OF 'sawmilllaw54.CustodyAdds'. -/
def custodyAddsCard : Claim7 := { stood := { row := custodyAddsRow, standIns := [], harness := (true, "7567710c863336c35bfaad6b7c6640baec142f5c723c88713faf2f4f597bd6f4"), looks := false }, kinds := [], alts := [], laidByText := true, laidKinds := [.data, .data, .data], laidTests := true, laidLooks := .later }
def CustodyAddsCardSaid : Prop := Claim7.holds Tryd.pinned (.plain (OpenSpec.ofChange custodyAddsSpec)) custodyAddsCard

/-- THE TIED CARD OF 'sawmilllaw54.CustodyVerifies'. -/
def custodyVerifiesCard : Claim7 := { stood := { row := custodyVerifiesRow, standIns := [], harness := (true, "7567710c863336c35bfaad6b7c6640baec142f5c723c88713faf2f4f597bd6f4"), looks := false }, kinds := [], alts := [], laidByText := true, laidKinds := [.data, .data, .data], laidTests := true, laidLooks := .later }
def CustodyVerifiesCardSaid : Prop := Claim7.holds Tryd.pinned (.plain (OpenSpec.ofChange custodyVerifiesSpec)) custodyVerifiesCard

/-- THE TIED CARD OF 'sawmilllaw54.CustodySound'. -/
def custodySoundCard : Claim7 := { stood := { row := custodySoundRow, standIns := [], harness := (true, "7567710c863336c35bfaad6b7c6640baec142f5c723c88713faf2f4f597bd6f4"), looks := false }, kinds := [], alts := [], laidByText := true, laidKinds := [.data, .data, .data], laidTests := true, laidLooks := .later }
def CustodySoundCardSaid : Prop := Claim7.holds Tryd.pinned (.plain (OpenSpec.ofChange custodySoundSpec)) custodySoundCard

/-- THE TIED CARD OF 'sawmilllaw54.CustodyDetects'. -/
def custodyDetectsCard : Claim7 := { stood := { row := custodyDetectsRow, standIns := [], harness := (true, "7567710c863336c35bfaad6b7c6640baec142f5c723c88713faf2f4f597bd6f4"), looks := false }, kinds := [], alts := [], laidByText := true, laidKinds := [.data, .data, .data], laidTests := true, laidLooks := .later }
def CustodyDetectsCardSaid : Prop := Claim7.holds Tryd.pinned (.plain (OpenSpec.ofChange custodyDetectsSpec)) custodyDetectsCard

/-- THE TIED CARD OF 'sawmilllaw54.CustodyErrors'. -/
def custodyErrorsCard : Claim7 := { stood := { row := custodyErrorsRow, standIns := [], harness := (true, "7567710c863336c35bfaad6b7c6640baec142f5c723c88713faf2f4f597bd6f4"), looks := false }, kinds := [], alts := [], laidByText := true, laidKinds := [.data, .data, .data], laidTests := true, laidLooks := .later }
def CustodyErrorsCardSaid : Prop := Claim7.holds Tryd.pinned (.plain (OpenSpec.ofChange custodyErrorsSpec)) custodyErrorsCard

/-- THE TIED CARD OF 'sawmilllaw54.CustodyTraces'. -/
def custodyTracesCard : Claim7 := { stood := { row := custodyTracesRow, standIns := [], harness := (true, "7567710c863336c35bfaad6b7c6640baec142f5c723c88713faf2f4f597bd6f4"), looks := false }, kinds := [], alts := [], laidByText := true, laidKinds := [.data, .data, .data], laidTests := true, laidLooks := .later }
def CustodyTracesCardSaid : Prop := Claim7.holds Tryd.pinned (.plain (OpenSpec.ofChange custodyTracesSpec)) custodyTracesCard

/-- THE TIED CARD OF 'sawmilllaw54.CustodyNil'. -/
def custodyNilCard : Claim7 := { stood := { row := custodyNilRow, standIns := [], harness := (true, "7567710c863336c35bfaad6b7c6640baec142f5c723c88713faf2f4f597bd6f4"), looks := false }, kinds := [], alts := [], laidByText := true, laidKinds := [.data, .data, .data], laidTests := true, laidLooks := .later }
def CustodyNilCardSaid : Prop := Claim7.holds Tryd.pinned (.plain (OpenSpec.ofChange custodyNilSpec)) custodyNilCard

/-- THE TIED CARD OF 'sawmilllaw54.CustodyPermit'. -/
def custodyPermitCard : Claim7 := { stood := { row := custodyPermitRow, standIns := [], harness := (true, "7567710c863336c35bfaad6b7c6640baec142f5c723c88713faf2f4f597bd6f4"), looks := false }, kinds := [], alts := [], laidByText := true, laidKinds := [.data, .data, .data], laidTests := true, laidLooks := .later }
def CustodyPermitCardSaid : Prop := Claim7.holds Tryd.pinned (.plain (OpenSpec.ofChange custodyPermitSpec)) custodyPermitCard

/-- THE SECOND FORM's CARD OF 'sawmilltop.TopTamper'. -/
def topTamperUptoCard : Claim7 := { stood := { row := topTamperUptoRow, standIns := [], harness := (true, "7567710c863336c35bfaad6b7c6640baec142f5c723c88713faf2f4f597bd6f4"), looks := false }, kinds := [], alts := [], laidByText := true, laidKinds := [.data, .data, .data], laidTests := true, laidLooks := .later }
def TopTamperUptoCardSaid : Prop := Claim7.holds Tryd.pinned (.plain (OpenSpec.upto topTamperSpec)) topTamperUptoCard

/-- THE SECOND FORM's CARD OF 'sawmilltop.TopCustody'. -/
def topCustodyUptoCard : Claim7 := { stood := { row := topCustodyUptoRow, standIns := [], harness := (true, "7567710c863336c35bfaad6b7c6640baec142f5c723c88713faf2f4f597bd6f4"), looks := false }, kinds := [], alts := [], laidByText := true, laidKinds := [.data, .data, .data], laidTests := true, laidLooks := .later }
def TopCustodyUptoCardSaid : Prop := Claim7.holds Tryd.pinned (.plain (OpenSpec.upto topCustodySpec)) topCustodyUptoCard

/-- THE SECOND FORM's CARD OF 'sawmilllaw54.CustodyAdds'. -/
def custodyAddsUptoCard : Claim7 := { stood := { row := custodyAddsUptoRow, standIns := [], harness := (true, "7567710c863336c35bfaad6b7c6640baec142f5c723c88713faf2f4f597bd6f4"), looks := false }, kinds := [], alts := [], laidByText := true, laidKinds := [.data, .data, .data], laidTests := true, laidLooks := .later }
def CustodyAddsUptoCardSaid : Prop := Claim7.holds Tryd.pinned (.plain (OpenSpec.upto custodyAddsSpec)) custodyAddsUptoCard

/-- THE SECOND FORM's CARD OF 'sawmilllaw54.CustodyVerifies'. -/
def custodyVerifiesUptoCard : Claim7 := { stood := { row := custodyVerifiesUptoRow, standIns := [], harness := (true, "7567710c863336c35bfaad6b7c6640baec142f5c723c88713faf2f4f597bd6f4"), looks := false }, kinds := [], alts := [], laidByText := true, laidKinds := [.data, .data, .data], laidTests := true, laidLooks := .later }
def CustodyVerifiesUptoCardSaid : Prop := Claim7.holds Tryd.pinned (.plain (OpenSpec.upto custodyVerifiesSpec)) custodyVerifiesUptoCard

/-- THE SECOND FORM's CARD OF 'sawmilllaw54.CustodySound'. -/
def custodySoundUptoCard : Claim7 := { stood := { row := custodySoundUptoRow, standIns := [], harness := (true, "7567710c863336c35bfaad6b7c6640baec142f5c723c88713faf2f4f597bd6f4"), looks := false }, kinds := [], alts := [], laidByText := true, laidKinds := [.data, .data, .data], laidTests := true, laidLooks := .later }
def CustodySoundUptoCardSaid : Prop := Claim7.holds Tryd.pinned (.plain (OpenSpec.upto custodySoundSpec)) custodySoundUptoCard

/-- THE SECOND FORM's CARD OF 'sawmilllaw54.CustodyDetects'. -/
def custodyDetectsUptoCard : Claim7 := { stood := { row := custodyDetectsUptoRow, standIns := [], harness := (true, "7567710c863336c35bfaad6b7c6640baec142f5c723c88713faf2f4f597bd6f4"), looks := false }, kinds := [], alts := [], laidByText := true, laidKinds := [.data, .data, .data], laidTests := true, laidLooks := .later }
def CustodyDetectsUptoCardSaid : Prop := Claim7.holds Tryd.pinned (.plain (OpenSpec.upto custodyDetectsSpec)) custodyDetectsUptoCard

/-- THE SECOND FORM's CARD OF 'sawmilllaw54.CustodyErrors'. -/
def custodyErrorsUptoCard : Claim7 := { stood := { row := custodyErrorsUptoRow, standIns := [], harness := (true, "7567710c863336c35bfaad6b7c6640baec142f5c723c88713faf2f4f597bd6f4"), looks := false }, kinds := [], alts := [], laidByText := true, laidKinds := [.data, .data, .data], laidTests := true, laidLooks := .later }
def CustodyErrorsUptoCardSaid : Prop := Claim7.holds Tryd.pinned (.plain (OpenSpec.upto custodyErrorsSpec)) custodyErrorsUptoCard

/-- THE SECOND FORM's CARD OF 'sawmilllaw54.CustodyTraces'. -/
def custodyTracesUptoCard : Claim7 := { stood := { row := custodyTracesUptoRow, standIns := [], harness := (true, "7567710c863336c35bfaad6b7c6640baec142f5c723c88713faf2f4f597bd6f4"), looks := false }, kinds := [], alts := [], laidByText := true, laidKinds := [.data, .data, .data], laidTests := true, laidLooks := .later }
def CustodyTracesUptoCardSaid : Prop := Claim7.holds Tryd.pinned (.plain (OpenSpec.upto custodyTracesSpec)) custodyTracesUptoCard

/-- THE SECOND FORM's CARD OF 'sawmilllaw54.CustodyNil'. -/
def custodyNilUptoCard : Claim7 := { stood := { row := custodyNilUptoRow, standIns := [], harness := (true, "7567710c863336c35bfaad6b7c6640baec142f5c723c88713faf2f4f597bd6f4"), looks := false }, kinds := [], alts := [], laidByText := true, laidKinds := [.data, .data, .data], laidTests := true, laidLooks := .later }
def CustodyNilUptoCardSaid : Prop := Claim7.holds Tryd.pinned (.plain (OpenSpec.upto custodyNilSpec)) custodyNilUptoCard

/-- THE SECOND FORM's CARD OF 'sawmilllaw54.CustodyPermit'. -/
def custodyPermitUptoCard : Claim7 := { stood := { row := custodyPermitUptoRow, standIns := [], harness := (true, "7567710c863336c35bfaad6b7c6640baec142f5c723c88713faf2f4f597bd6f4"), looks := false }, kinds := [], alts := [], laidByText := true, laidKinds := [.data, .data, .data], laidTests := true, laidLooks := .later }
def CustodyPermitUptoCardSaid : Prop := Claim7.holds Tryd.pinned (.plain (OpenSpec.upto custodyPermitSpec)) custodyPermitUptoCard
end Rows
end Go.Proofs.YtpimmdmcmccbpaaDoor
