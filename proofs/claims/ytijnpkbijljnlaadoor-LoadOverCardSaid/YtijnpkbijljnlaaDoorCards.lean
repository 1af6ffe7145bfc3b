/-
  DERIVED. GIVEN WITH THE SEED: THE CARDS: each row of YtijnpkbijljnlaaDoorRows.lean that lists a variable, with what it lists TIED to the program's text (the seventh form; the later family's looks); each row that meets fmt, with fmt's text TOLD by the authors' own Lean function (tested against real Go, not proved from fmt's source: count such statements apart). THE CARD IS WHAT COUNTS. Prove the row's statement (the work); the ties are given (YtijnpkbijljnlaaDoorTie.lean); close each card by the builder's one call (the guide's Derived/Test/ToyasCard.lean, 'card_holds'). Laid BY PROGRAM, IN A SANDBOX (cutbox-door.mjs). By AI agents, Wed Nov 11 2026. No macro, syntax, notation, axiom, sorry.
-/
import Derived.Test.YtijnpkbijljnlaaDoorRows
import GoSem.ClaimSeven
namespace Go.Proofs.YtijnpkbijljnlaaDoor
namespace Rows

/-- THE TIED CARD OF 'remontoirlaw16.DemandTerms'. -/
def demandTermsCard : Claim7 := { stood := { row := demandTermsRow, standIns := [], harness := (true, "d1ab8e8d5fd7b1e6e2e4a0a4078eecb789b9993c97c18a3e029ffba3a5f20210"), looks := false }, kinds := [], alts := [], laidByText := true, laidKinds := [.data], laidTests := true, laidLooks := .later }
def DemandTermsCardSaid : Prop := Claim7.holds Tryd.pinned (.plain (OpenSpec.ofChange demandTermsSpec)) demandTermsCard

/-- THE TIED CARD OF 'remontoirlaw37.LoadRounds'. -/
def loadRoundsCard : Claim7 := { stood := { row := loadRoundsRow, standIns := [], harness := (true, "d1ab8e8d5fd7b1e6e2e4a0a4078eecb789b9993c97c18a3e029ffba3a5f20210"), looks := false }, kinds := [], alts := [], laidByText := true, laidKinds := [.data], laidTests := true, laidLooks := .later }
def LoadRoundsCardSaid : Prop := Claim7.holds Tryd.pinned (.plain (OpenSpec.ofChange loadRoundsSpec)) loadRoundsCard

/-- THE TIED CARD OF 'remontoirlaw37.LoadExact'. -/
def loadExactCard : Claim7 := { stood := { row := loadExactRow, standIns := [], harness := (true, "d1ab8e8d5fd7b1e6e2e4a0a4078eecb789b9993c97c18a3e029ffba3a5f20210"), looks := false }, kinds := [], alts := [], laidByText := true, laidKinds := [.data], laidTests := true, laidLooks := .later }
def LoadExactCardSaid : Prop := Claim7.holds Tryd.pinned (.plain (OpenSpec.ofChange loadExactSpec)) loadExactCard

/-- THE TIED CARD OF 'remontoirlaw37.LoadOver'. -/
def loadOverCard : Claim7 := { stood := { row := loadOverRow, standIns := [], harness := (true, "d1ab8e8d5fd7b1e6e2e4a0a4078eecb789b9993c97c18a3e029ffba3a5f20210"), looks := false }, kinds := [], alts := [], laidByText := true, laidKinds := [.data], laidTests := true, laidLooks := .later }
def LoadOverCardSaid : Prop := Claim7.holds Tryd.pinned (.plain (OpenSpec.ofChange loadOverSpec)) loadOverCard

/-- THE TIED CARD OF 'remontoirlaw37.LoadLess'. -/
def loadLessCard : Claim7 := { stood := { row := loadLessRow, standIns := [], harness := (true, "d1ab8e8d5fd7b1e6e2e4a0a4078eecb789b9993c97c18a3e029ffba3a5f20210"), looks := false }, kinds := [], alts := [], laidByText := true, laidKinds := [.data], laidTests := true, laidLooks := .later }
def LoadLessCardSaid : Prop := Claim7.holds Tryd.pinned (.plain (OpenSpec.ofChange loadLessSpec)) loadLessCard

/-- THE SECOND FORM's CARD OF 'remontoirlaw16.DemandTerms'. -/
def demandTermsUptoCard : Claim7 := { stood := { row := demandTermsUptoRow, standIns := [], harness := (true, "d1ab8e8d5fd7b1e6e2e4a0a4078eecb789b9993c97c18a3e029ffba3a5f20210"), looks := false }, kinds := [], alts := [], laidByText := true, laidKinds := [.data], laidTests := true, laidLooks := .later }
def DemandTermsUptoCardSaid : Prop := Claim7.holds Tryd.pinned (.plain (OpenSpec.upto demandTermsSpec)) demandTermsUptoCard

/-- THE SECOND FORM's CARD OF 'remontoirlaw37.LoadRounds'. -/
def loadRoundsUptoCard : Claim7 := { stood := { row := loadRoundsUptoRow, standIns := [], harness := (true, "d1ab8e8d5fd7b1e6e2e4a0a4078eecb789b9993c97c18a3e029ffba3a5f20210"), looks := false }, kinds := [], alts := [], laidByText := true, laidKinds := [.data], laidTests := true, laidLooks := .later }
def LoadRoundsUptoCardSaid : Prop := Claim7.holds Tryd.pinned (.plain (OpenSpec.upto loadRoundsSpec)) loadRoundsUptoCard

/-- THE SECOND FORM's CARD OF 'remontoirlaw37.LoadExact'. -/
def loadExactUptoCard : Claim7 := { stood := { row := loadExactUptoRow, standIns := [], harness := (true, "d1ab8e8d5fd7b1e6e2e4a0a4078eecb789b9993c97c18a3e029ffba3a5f20210"), looks := false }, kinds := [], alts := [], laidByText := true, laidKinds := [.data], laidTests := true, laidLooks := .later }
def LoadExactUptoCardSaid : Prop := Claim7.holds Tryd.pinned (.plain (OpenSpec.upto loadExactSpec)) loadExactUptoCard

/-- THE SECOND FORM's CARD OF 'remontoirlaw37.LoadOver'. -/
def loadOverUptoCard : Claim7 := { stood := { row := loadOverUptoRow, standIns := [], harness := (true, "d1ab8e8d5fd7b1e6e2e4a0a4078eecb789b9993c97c18a3e029ffba3a5f20210"), looks := false }, kinds := [], alts := [], laidByText := true, laidKinds := [.data], laidTests := true, laidLooks := .later }
def LoadOverUptoCardSaid : Prop := Claim7.holds Tryd.pinned (.plain (OpenSpec.upto loadOverSpec)) loadOverUptoCard

/-- THE SECOND FORM's CARD OF 'remontoirlaw37.LoadLess'. -/
def loadLessUptoCard : Claim7 := { stood := { row := loadLessUptoRow, standIns := [], harness := (true, "d1ab8e8d5fd7b1e6e2e4a0a4078eecb789b9993c97c18a3e029ffba3a5f20210"), looks := false }, kinds := [], alts := [], laidByText := true, laidKinds := [.data], laidTests := true, laidLooks := .later }
def LoadLessUptoCardSaid : Prop := Claim7.holds Tryd.pinned (.plain (OpenSpec.upto loadLessSpec)) loadLessUptoCard
end Rows
end Go.Proofs.YtijnpkbijljnlaaDoor
