/-
  DERIVED. GIVEN WITH THE SEED: THE CARDS: each row of YtlhjneeccjkaoaaDoorRows.lean that lists a variable, with what it lists TIED to the program's text (the seventh form; the later family's looks); each row that meets fmt, with fmt's text TOLD by the authors' own Lean function (tested against real Go, not proved from fmt's source: count such statements apart). THE CARD IS WHAT COUNTS. Prove the row's statement (the work); the ties are given (YtlhjneeccjkaoaaDoorTie.lean); close each card by the builder's one call (the guide's Derived/Test/ToyasCard.lean, 'card_holds'). Laid BY PROGRAM, IN A SANDBOX (cutbox-door.mjs). By AI agents, Wed Nov 11 2026. No macro, syntax, notation, axiom, sorry.
-/
import Derived.Test.YtlhjneeccjkaoaaDoorRows
import GoSem.ClaimSeven
namespace Go.Proofs.YtlhjneeccjkaoaaDoor
namespace Rows

/-- THE TIED CARD OF 'sawmilllaw02.IdentNames'. -/
def identNamesCard : Claim7 := { stood := { row := identNamesRow, standIns := [], harness := (true, "7fb7316089bdfc28ddd2ef799d1038dc25a69a1f444a49f31b1f4187c76d9b63"), looks := false }, kinds := [], alts := [], laidByText := true, laidKinds := [.data, .data, .data], laidTests := true, laidLooks := .later }
def IdentNamesCardSaid : Prop := Claim7.holds Tryd.pinned (.plain (OpenSpec.ofChange identNamesSpec)) identNamesCard

/-- THE TIED CARD OF 'sawmilllaw02.IdentLetters'. -/
def identLettersCard : Claim7 := { stood := { row := identLettersRow, standIns := [], harness := (true, "7fb7316089bdfc28ddd2ef799d1038dc25a69a1f444a49f31b1f4187c76d9b63"), looks := false }, kinds := [], alts := [], laidByText := true, laidKinds := [.data, .data, .data], laidTests := true, laidLooks := .later }
def IdentLettersCardSaid : Prop := Claim7.holds Tryd.pinned (.plain (OpenSpec.ofChange identLettersSpec)) identLettersCard

/-- THE TIED CARD OF 'sawmilllaw02.IdentCodes'. -/
def identCodesCard : Claim7 := { stood := { row := identCodesRow, standIns := [], harness := (true, "7fb7316089bdfc28ddd2ef799d1038dc25a69a1f444a49f31b1f4187c76d9b63"), looks := false }, kinds := [], alts := [], laidByText := true, laidKinds := [.data, .data, .data], laidTests := true, laidLooks := .later }
def IdentCodesCardSaid : Prop := Claim7.holds Tryd.pinned (.plain (OpenSpec.ofChange identCodesSpec)) identCodesCard

/-- THE TIED CARD OF 'sawmilllaw02.IdentSplits'. -/
def identSplitsCard : Claim7 := { stood := { row := identSplitsRow, standIns := [], harness := (true, "7fb7316089bdfc28ddd2ef799d1038dc25a69a1f444a49f31b1f4187c76d9b63"), looks := false }, kinds := [], alts := [], laidByText := true, laidKinds := [.data, .data, .data], laidTests := true, laidLooks := .later }
def IdentSplitsCardSaid : Prop := Claim7.holds Tryd.pinned (.plain (OpenSpec.ofChange identSplitsSpec)) identSplitsCard

/-- THE TIED CARD OF 'sawmilllaw02.IdentNexts'. -/
def identNextsCard : Claim7 := { stood := { row := identNextsRow, standIns := [], harness := (true, "7fb7316089bdfc28ddd2ef799d1038dc25a69a1f444a49f31b1f4187c76d9b63"), looks := false }, kinds := [], alts := [], laidByText := true, laidKinds := [.data, .data, .data], laidTests := true, laidLooks := .later }
def IdentNextsCardSaid : Prop := Claim7.holds Tryd.pinned (.plain (OpenSpec.ofChange identNextsSpec)) identNextsCard

/-- THE TIED CARD OF 'sawmilllaw02.IdentBack'. -/
def identBackCard : Claim7 := { stood := { row := identBackRow, standIns := [], harness := (true, "7fb7316089bdfc28ddd2ef799d1038dc25a69a1f444a49f31b1f4187c76d9b63"), looks := false }, kinds := [], alts := [], laidByText := true, laidKinds := [.data, .data, .data], laidTests := true, laidLooks := .later }
def IdentBackCardSaid : Prop := Claim7.holds Tryd.pinned (.plain (OpenSpec.ofChange identBackSpec)) identBackCard

/-- THE TIED CARD OF 'sawmilllaw02.IdentDetects'. -/
def identDetectsCard : Claim7 := { stood := { row := identDetectsRow, standIns := [], harness := (true, "7fb7316089bdfc28ddd2ef799d1038dc25a69a1f444a49f31b1f4187c76d9b63"), looks := false }, kinds := [], alts := [], laidByText := true, laidKinds := [.data, .data, .data], laidTests := true, laidLooks := .later }
def IdentDetectsCardSaid : Prop := Claim7.holds Tryd.pinned (.plain (OpenSpec.ofChange identDetectsSpec)) identDetectsCard

/-- THE TIED CARD OF 'sawmilllaw02.IdentOrder'. -/
def identOrderCard : Claim7 := { stood := { row := identOrderRow, standIns := [], harness := (true, "7fb7316089bdfc28ddd2ef799d1038dc25a69a1f444a49f31b1f4187c76d9b63"), looks := false }, kinds := [], alts := [], laidByText := true, laidKinds := [.data, .data, .data], laidTests := true, laidLooks := .later }
def IdentOrderCardSaid : Prop := Claim7.holds Tryd.pinned (.plain (OpenSpec.ofChange identOrderSpec)) identOrderCard

/-- THE SECOND FORM's CARD OF 'sawmilllaw02.IdentNames'. -/
def identNamesUptoCard : Claim7 := { stood := { row := identNamesUptoRow, standIns := [], harness := (true, "7fb7316089bdfc28ddd2ef799d1038dc25a69a1f444a49f31b1f4187c76d9b63"), looks := false }, kinds := [], alts := [], laidByText := true, laidKinds := [.data, .data, .data], laidTests := true, laidLooks := .later }
def IdentNamesUptoCardSaid : Prop := Claim7.holds Tryd.pinned (.plain (OpenSpec.upto identNamesSpec)) identNamesUptoCard

/-- THE SECOND FORM's CARD OF 'sawmilllaw02.IdentLetters'. -/
def identLettersUptoCard : Claim7 := { stood := { row := identLettersUptoRow, standIns := [], harness := (true, "7fb7316089bdfc28ddd2ef799d1038dc25a69a1f444a49f31b1f4187c76d9b63"), looks := false }, kinds := [], alts := [], laidByText := true, laidKinds := [.data, .data, .data], laidTests := true, laidLooks := .later }
def IdentLettersUptoCardSaid : Prop := Claim7.holds Tryd.pinned (.plain (OpenSpec.upto identLettersSpec)) identLettersUptoCard

/-- THE SECOND FORM's CARD OF 'sawmilllaw02.IdentCodes'. -/
def identCodesUptoCard : Claim7 := { stood := { row := identCodesUptoRow, standIns := [], harness := (true, "7fb7316089bdfc28ddd2ef799d1038dc25a69a1f444a49f31b1f4187c76d9b63"), looks := false }, kinds := [], alts := [], laidByText := true, laidKinds := [.data, .data, .data], laidTests := true, laidLooks := .later }
def IdentCodesUptoCardSaid : Prop := Claim7.holds Tryd.pinned (.plain (OpenSpec.upto identCodesSpec)) identCodesUptoCard

/-- THE SECOND FORM's CARD OF 'sawmilllaw02.IdentSplits'. -/
def identSplitsUptoCard : Claim7 := { stood := { row := identSplitsUptoRow, standIns := [], harness := (true, "7fb7316089bdfc28ddd2ef799d1038dc25a69a1f444a49f31b1f4187c76d9b63"), looks := false }, kinds := [], alts := [], laidByText := true, laidKinds := [.data, .data, .data], laidTests := true, laidLooks := .later }
def IdentSplitsUptoCardSaid : Prop := Claim7.holds Tryd.pinned (.plain (OpenSpec.upto identSplitsSpec)) identSplitsUptoCard

/-- THE SECOND FORM's CARD OF 'sawmilllaw02.IdentNexts'. -/
def identNextsUptoCard : Claim7 := { stood := { row := identNextsUptoRow, standIns := [], harness := (true, "7fb7316089bdfc28ddd2ef799d1038dc25a69a1f444a49f31b1f4187c76d9b63"), looks := false }, kinds := [], alts := [], laidByText := true, laidKinds := [.data, .data, .data], laidTests := true, laidLooks := .later }
def IdentNextsUptoCardSaid : Prop := Claim7.holds Tryd.pinned (.plain (OpenSpec.upto identNextsSpec)) identNextsUptoCard

/-- THE SECOND FORM's CARD OF 'sawmilllaw02.IdentBack'. -/
def identBackUptoCard : Claim7 := { stood := { row := identBackUptoRow, standIns := [], harness := (true, "7fb7316089bdfc28ddd2ef799d1038dc25a69a1f444a49f31b1f4187c76d9b63"), looks := false }, kinds := [], alts := [], laidByText := true, laidKinds := [.data, .data, .data], laidTests := true, laidLooks := .later }
def IdentBackUptoCardSaid : Prop := Claim7.holds Tryd.pinned (.plain (OpenSpec.upto identBackSpec)) identBackUptoCard

/-- THE SECOND FORM's CARD OF 'sawmilllaw02.IdentDetects'. -/
def identDetectsUptoCard : Claim7 := { stood := { row := identDetectsUptoRow, standIns := [], harness := (true, "7fb7316089bdfc28ddd2ef799d1038dc25a69a1f444a49f31b1f4187c76d9b63"), looks := false }, kinds := [], alts := [], laidByText := true, laidKinds := [.data, .data, .data], laidTests := true, laidLooks := .later }
def IdentDetectsUptoCardSaid : Prop := Claim7.holds Tryd.pinned (.plain (OpenSpec.upto identDetectsSpec)) identDetectsUptoCard

/-- THE SECOND FORM's CARD OF 'sawmilllaw02.IdentOrder'. -/
def identOrderUptoCard : Claim7 := { stood := { row := identOrderUptoRow, standIns := [], harness := (true, "7fb7316089bdfc28ddd2ef799d1038dc25a69a1f444a49f31b1f4187c76d9b63"), looks := false }, kinds := [], alts := [], laidByText := true, laidKinds := [.data, .data, .data], laidTests := true, laidLooks := .later }
def IdentOrderUptoCardSaid : Prop := Claim7.holds Tryd.pinned (.plain (OpenSpec.upto identOrderSpec)) identOrderUptoCard
end Rows
end Go.Proofs.YtlhjneeccjkaoaaDoor
