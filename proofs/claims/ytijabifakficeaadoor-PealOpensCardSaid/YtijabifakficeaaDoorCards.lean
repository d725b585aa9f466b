/-
  DERIVED. GIVEN WITH THE SEED: THE CARDS: each row of YtijabifakficeaaDoorRows.lean that lists a variable, with what it lists TIED to the program's text (the seventh form; the later family's looks); each row that meets fmt, with fmt's text TOLD by the authors' own Lean function (tested against real Go, not proved from fmt's source: count such statements apart). THE CARD IS WHAT COUNTS. Prove the row's statement (the work); the ties are given (YtijabifakficeaaDoorTie.lean); close each card by the builder's one call (the guide's Derived/Test/ToyasCard.lean, 'card_holds'). Laid BY PROGRAM, IN A SANDBOX (cutbox-door.mjs). By AI agents, Wed Nov 11 2026. No macro, syntax, notation, axiom, sorry.
-/
import Derived.Test.YtijabifakficeaaDoorRows
import GoSem.ClaimSeven
namespace Go.Proofs.YtijabifakficeaaDoor
namespace Rows

/-- THE TIED CARD OF 'bellpulllaw10.PealKept'. -/
def pealKeptCard : Claim7 := { stood := { row := pealKeptRow, standIns := [], harness := (true, "60a8f8a2957720587194d8b2c55a0b1901e8939b86dcff766a7fcde7584844aa"), looks := true }, kinds := [], alts := [], laidByText := true, laidKinds := [.sentinel], laidTests := true, laidLooks := .later }
def PealKeptCardSaid : Prop := Claim7.holds Tryd.pinned (.plain (OpenSpec.ofChange pealKeptSpec)) pealKeptCard

/-- THE TIED CARD OF 'bellpulllaw10.PealOpens'. -/
def pealOpensCard : Claim7 := { stood := { row := pealOpensRow, standIns := [], harness := (true, "60a8f8a2957720587194d8b2c55a0b1901e8939b86dcff766a7fcde7584844aa"), looks := true }, kinds := [], alts := [], laidByText := true, laidKinds := [.sentinel], laidTests := true, laidLooks := .later }
def PealOpensCardSaid : Prop := Claim7.holds Tryd.pinned (.plain (OpenSpec.ofChange pealOpensSpec)) pealOpensCard

/-- THE TIED CARD OF 'bellpulllaw10.PealDisks'. -/
def pealDisksCard : Claim7 := { stood := { row := pealDisksRow, standIns := [], harness := (true, "60a8f8a2957720587194d8b2c55a0b1901e8939b86dcff766a7fcde7584844aa"), looks := true }, kinds := [], alts := [], laidByText := true, laidKinds := [.sentinel], laidTests := true, laidLooks := .later }
def PealDisksCardSaid : Prop := Claim7.holds Tryd.pinned (.plain (OpenSpec.ofChange pealDisksSpec)) pealDisksCard

/-- THE TIED CARD OF 'bellpulllaw10.PealSynced'. -/
def pealSyncedCard : Claim7 := { stood := { row := pealSyncedRow, standIns := [], harness := (true, "60a8f8a2957720587194d8b2c55a0b1901e8939b86dcff766a7fcde7584844aa"), looks := true }, kinds := [], alts := [], laidByText := true, laidKinds := [.sentinel], laidTests := true, laidLooks := .later }
def PealSyncedCardSaid : Prop := Claim7.holds Tryd.pinned (.plain (OpenSpec.ofChange pealSyncedSpec)) pealSyncedCard

/-- THE TIED CARD OF 'bellpulllaw10.PealRefused'. -/
def pealRefusedCard : Claim7 := { stood := { row := pealRefusedRow, standIns := [], harness := (true, "60a8f8a2957720587194d8b2c55a0b1901e8939b86dcff766a7fcde7584844aa"), looks := true }, kinds := [], alts := [], laidByText := true, laidKinds := [.sentinel], laidTests := true, laidLooks := .later }
def PealRefusedCardSaid : Prop := Claim7.holds Tryd.pinned (.plain (OpenSpec.ofChange pealRefusedSpec)) pealRefusedCard

/-- THE TIED CARD OF 'bellpulllaw10.PealForever'. -/
def pealForeverCard : Claim7 := { stood := { row := pealForeverRow, standIns := [], harness := (true, "60a8f8a2957720587194d8b2c55a0b1901e8939b86dcff766a7fcde7584844aa"), looks := true }, kinds := [], alts := [], laidByText := true, laidKinds := [.sentinel], laidTests := true, laidLooks := .later }
def PealForeverCardSaid : Prop := Claim7.holds Tryd.pinned (.plain (OpenSpec.ofChange pealForeverSpec)) pealForeverCard

/-- THE TIED CARD OF 'bellpulllaw10.PealCloned'. -/
def pealClonedCard : Claim7 := { stood := { row := pealClonedRow, standIns := [], harness := (true, "60a8f8a2957720587194d8b2c55a0b1901e8939b86dcff766a7fcde7584844aa"), looks := true }, kinds := [], alts := [], laidByText := true, laidKinds := [.sentinel], laidTests := true, laidLooks := .later }
def PealClonedCardSaid : Prop := Claim7.holds Tryd.pinned (.plain (OpenSpec.ofChange pealClonedSpec)) pealClonedCard

/-- THE TIED CARD OF 'bellpulllaw10.PealNobody'. -/
def pealNobodyCard : Claim7 := { stood := { row := pealNobodyRow, standIns := [], harness := (true, "60a8f8a2957720587194d8b2c55a0b1901e8939b86dcff766a7fcde7584844aa"), looks := true }, kinds := [], alts := [], laidByText := true, laidKinds := [.sentinel], laidTests := true, laidLooks := .later }
def PealNobodyCardSaid : Prop := Claim7.holds Tryd.pinned (.plain (OpenSpec.ofChange pealNobodySpec)) pealNobodyCard

/-- THE SECOND FORM's CARD OF 'bellpulllaw10.PealKept'. -/
def pealKeptUptoCard : Claim7 := { stood := { row := pealKeptUptoRow, standIns := [], harness := (true, "60a8f8a2957720587194d8b2c55a0b1901e8939b86dcff766a7fcde7584844aa"), looks := true }, kinds := [], alts := [], laidByText := true, laidKinds := [.sentinel], laidTests := true, laidLooks := .later }
def PealKeptUptoCardSaid : Prop := Claim7.holds Tryd.pinned (.plain (OpenSpec.upto pealKeptSpec)) pealKeptUptoCard

/-- THE SECOND FORM's CARD OF 'bellpulllaw10.PealOpens'. -/
def pealOpensUptoCard : Claim7 := { stood := { row := pealOpensUptoRow, standIns := [], harness := (true, "60a8f8a2957720587194d8b2c55a0b1901e8939b86dcff766a7fcde7584844aa"), looks := true }, kinds := [], alts := [], laidByText := true, laidKinds := [.sentinel], laidTests := true, laidLooks := .later }
def PealOpensUptoCardSaid : Prop := Claim7.holds Tryd.pinned (.plain (OpenSpec.upto pealOpensSpec)) pealOpensUptoCard

/-- THE SECOND FORM's CARD OF 'bellpulllaw10.PealDisks'. -/
def pealDisksUptoCard : Claim7 := { stood := { row := pealDisksUptoRow, standIns := [], harness := (true, "60a8f8a2957720587194d8b2c55a0b1901e8939b86dcff766a7fcde7584844aa"), looks := true }, kinds := [], alts := [], laidByText := true, laidKinds := [.sentinel], laidTests := true, laidLooks := .later }
def PealDisksUptoCardSaid : Prop := Claim7.holds Tryd.pinned (.plain (OpenSpec.upto pealDisksSpec)) pealDisksUptoCard

/-- THE SECOND FORM's CARD OF 'bellpulllaw10.PealSynced'. -/
def pealSyncedUptoCard : Claim7 := { stood := { row := pealSyncedUptoRow, standIns := [], harness := (true, "60a8f8a2957720587194d8b2c55a0b1901e8939b86dcff766a7fcde7584844aa"), looks := true }, kinds := [], alts := [], laidByText := true, laidKinds := [.sentinel], laidTests := true, laidLooks := .later }
def PealSyncedUptoCardSaid : Prop := Claim7.holds Tryd.pinned (.plain (OpenSpec.upto pealSyncedSpec)) pealSyncedUptoCard

/-- THE SECOND FORM's CARD OF 'bellpulllaw10.PealRefused'. -/
def pealRefusedUptoCard : Claim7 := { stood := { row := pealRefusedUptoRow, standIns := [], harness := (true, "60a8f8a2957720587194d8b2c55a0b1901e8939b86dcff766a7fcde7584844aa"), looks := true }, kinds := [], alts := [], laidByText := true, laidKinds := [.sentinel], laidTests := true, laidLooks := .later }
def PealRefusedUptoCardSaid : Prop := Claim7.holds Tryd.pinned (.plain (OpenSpec.upto pealRefusedSpec)) pealRefusedUptoCard

/-- THE SECOND FORM's CARD OF 'bellpulllaw10.PealForever'. -/
def pealForeverUptoCard : Claim7 := { stood := { row := pealForeverUptoRow, standIns := [], harness := (true, "60a8f8a2957720587194d8b2c55a0b1901e8939b86dcff766a7fcde7584844aa"), looks := true }, kinds := [], alts := [], laidByText := true, laidKinds := [.sentinel], laidTests := true, laidLooks := .later }
def PealForeverUptoCardSaid : Prop := Claim7.holds Tryd.pinned (.plain (OpenSpec.upto pealForeverSpec)) pealForeverUptoCard

/-- THE SECOND FORM's CARD OF 'bellpulllaw10.PealCloned'. -/
def pealClonedUptoCard : Claim7 := { stood := { row := pealClonedUptoRow, standIns := [], harness := (true, "60a8f8a2957720587194d8b2c55a0b1901e8939b86dcff766a7fcde7584844aa"), looks := true }, kinds := [], alts := [], laidByText := true, laidKinds := [.sentinel], laidTests := true, laidLooks := .later }
def PealClonedUptoCardSaid : Prop := Claim7.holds Tryd.pinned (.plain (OpenSpec.upto pealClonedSpec)) pealClonedUptoCard

/-- THE SECOND FORM's CARD OF 'bellpulllaw10.PealNobody'. -/
def pealNobodyUptoCard : Claim7 := { stood := { row := pealNobodyUptoRow, standIns := [], harness := (true, "60a8f8a2957720587194d8b2c55a0b1901e8939b86dcff766a7fcde7584844aa"), looks := true }, kinds := [], alts := [], laidByText := true, laidKinds := [.sentinel], laidTests := true, laidLooks := .later }
def PealNobodyUptoCardSaid : Prop := Claim7.holds Tryd.pinned (.plain (OpenSpec.upto pealNobodySpec)) pealNobodyUptoCard
end Rows
end Go.Proofs.YtijabifakficeaaDoor
