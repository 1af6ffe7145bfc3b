/-
  DERIVED. GIVEN WITH THE SEED: THE CARDS: each row of YtpbmmoneeoijaaaGreatDoorRows.lean that lists a variable, with what it lists TIED to the program's text (the seventh form; the later family's looks); each row that meets fmt, with fmt's text TOLD by the authors' own Lean function (tested against real Go, not proved from fmt's source: count such statements apart). THE CARD IS WHAT COUNTS. Prove the row's statement (the work); the ties are given (YtpbmmoneeoijaaaGreatDoorTie.lean); close each card by the builder's one call (the guide's Derived/Test/ToyasCard.lean, 'card_holds'). Laid BY PROGRAM, IN A SANDBOX (cutbox-door.mjs). By AI agents, Wed Nov 11 2026. No macro, syntax, notation, axiom, sorry.
-/
import Derived.Test.YtpbmmoneeoijaaaGreatDoorRows
import GoSem.ClaimSeven
namespace Go.Proofs.YtpbmmoneeoijaaaGreatDoor
namespace Rows

/-- THE TIED CARD OF 'remontoirtop.WholeUpdate'. -/
def wholeUpdateCard : Claim7 := { stood := { row := wholeUpdateRow, standIns := [], harness := (true, "f397a386fbf72124166e8012605fc4fca7cb2e9e0a464bf10a14f85c017616d2"), looks := false }, kinds := [], alts := [], laidByText := true, laidKinds := [.data], laidTests := true, laidLooks := .later }
def WholeUpdateCardSaid : Prop := Claim7.holds Tryz.pinned (.plain (OpenSpec.ofChange wholeUpdateSpec)) wholeUpdateCard

/-- THE TIED CARD OF 'remontoirtop.WholeMessages'. -/
def wholeMessagesCard : Claim7 := { stood := { row := wholeMessagesRow, standIns := [], harness := (true, "f397a386fbf72124166e8012605fc4fca7cb2e9e0a464bf10a14f85c017616d2"), looks := false }, kinds := [], alts := [], laidByText := true, laidKinds := [.data], laidTests := true, laidLooks := .later }
def WholeMessagesCardSaid : Prop := Claim7.holds Tryz.pinned (.plain (OpenSpec.ofChange wholeMessagesSpec)) wholeMessagesCard

/-- THE TIED CARD OF 'remontoirtop.WholeForms'. -/
def wholeFormsCard : Claim7 := { stood := { row := wholeFormsRow, standIns := [], harness := (true, "f397a386fbf72124166e8012605fc4fca7cb2e9e0a464bf10a14f85c017616d2"), looks := false }, kinds := [], alts := [], laidByText := true, laidKinds := [.data], laidTests := true, laidLooks := .later }
def WholeFormsCardSaid : Prop := Claim7.holds Tryz.pinned (.plain (OpenSpec.ofChange wholeFormsSpec)) wholeFormsCard

/-- THE SECOND FORM's CARD OF 'remontoirtop.WholeUpdate'. -/
def wholeUpdateUptoCard : Claim7 := { stood := { row := wholeUpdateUptoRow, standIns := [], harness := (true, "f397a386fbf72124166e8012605fc4fca7cb2e9e0a464bf10a14f85c017616d2"), looks := false }, kinds := [], alts := [], laidByText := true, laidKinds := [.data], laidTests := true, laidLooks := .later }
def WholeUpdateUptoCardSaid : Prop := Claim7.holds Tryz.pinned (.plain (OpenSpec.upto wholeUpdateSpec)) wholeUpdateUptoCard

/-- THE SECOND FORM's CARD OF 'remontoirtop.WholeMessages'. -/
def wholeMessagesUptoCard : Claim7 := { stood := { row := wholeMessagesUptoRow, standIns := [], harness := (true, "f397a386fbf72124166e8012605fc4fca7cb2e9e0a464bf10a14f85c017616d2"), looks := false }, kinds := [], alts := [], laidByText := true, laidKinds := [.data], laidTests := true, laidLooks := .later }
def WholeMessagesUptoCardSaid : Prop := Claim7.holds Tryz.pinned (.plain (OpenSpec.upto wholeMessagesSpec)) wholeMessagesUptoCard

/-- THE SECOND FORM's CARD OF 'remontoirtop.WholeForms'. -/
def wholeFormsUptoCard : Claim7 := { stood := { row := wholeFormsUptoRow, standIns := [], harness := (true, "f397a386fbf72124166e8012605fc4fca7cb2e9e0a464bf10a14f85c017616d2"), looks := false }, kinds := [], alts := [], laidByText := true, laidKinds := [.data], laidTests := true, laidLooks := .later }
def WholeFormsUptoCardSaid : Prop := Claim7.holds Tryz.pinned (.plain (OpenSpec.upto wholeFormsSpec)) wholeFormsUptoCard
end Rows
end Go.Proofs.YtpbmmoneeoijaaaGreatDoor
