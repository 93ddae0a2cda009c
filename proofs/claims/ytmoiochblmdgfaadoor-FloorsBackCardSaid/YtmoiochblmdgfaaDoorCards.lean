/-
  DERIVED. GIVEN WITH THE SEED: THE CARDS: each row of YtmoiochblmdgfaaDoorRows.lean that lists a variable, with what it lists TIED to the program's text (the seventh form; the later family's looks); each row that meets fmt, with fmt's text TOLD by the authors' own Lean function (tested against real Go, not proved from fmt's source: count such statements apart). THE CARD IS WHAT COUNTS. Prove the row's statement (the work); the ties are given (YtmoiochblmdgfaaDoorTie.lean); close each card by the builder's one call (the guide's Derived/Test/ToyasCard.lean, 'card_holds'). Laid BY PROGRAM, IN A SANDBOX (cutbox-door.mjs). By AI agents, Wed Nov 11 2026. No macro, syntax, notation, axiom, sorry.
-/
import Derived.Test.YtmoiochblmdgfaaDoorRows
import GoSem.ClaimSeven
namespace Go.Proofs.YtmoiochblmdgfaaDoor
namespace Rows

/-- THE TIED CARD OF 'butterylaw16.FloorsChecks'. -/
def floorsChecksCard : Claim7 := { stood := { row := floorsChecksRow, standIns := [], harness := (true, "b4537cf9fe90271f44b0185d86a7220843d6912f3953b7b1e0cc4f5ac514b2aa"), looks := true }, kinds := [], alts := [], laidByText := true, laidKinds := [.handle], laidTests := true, laidLooks := .later }
def FloorsChecksCardSaid : Prop := Claim7.holds Tryd.pinned (.plain (OpenSpec.ofChange floorsChecksSpec)) floorsChecksCard

/-- THE TIED CARD OF 'butterylaw16.FloorsDoes'. -/
def floorsDoesCard : Claim7 := { stood := { row := floorsDoesRow, standIns := [], harness := (true, "b4537cf9fe90271f44b0185d86a7220843d6912f3953b7b1e0cc4f5ac514b2aa"), looks := true }, kinds := [], alts := [], laidByText := true, laidKinds := [.handle], laidTests := true, laidLooks := .later }
def FloorsDoesCardSaid : Prop := Claim7.holds Tryd.pinned (.plain (OpenSpec.ofChange floorsDoesSpec)) floorsDoesCard

/-- THE TIED CARD OF 'butterylaw16.FloorsRise'. -/
def floorsRiseCard : Claim7 := { stood := { row := floorsRiseRow, standIns := [], harness := (true, "b4537cf9fe90271f44b0185d86a7220843d6912f3953b7b1e0cc4f5ac514b2aa"), looks := true }, kinds := [], alts := [], laidByText := true, laidKinds := [.handle], laidTests := true, laidLooks := .later }
def FloorsRiseCardSaid : Prop := Claim7.holds Tryd.pinned (.plain (OpenSpec.ofChange floorsRiseSpec)) floorsRiseCard

/-- THE TIED CARD OF 'butterylaw16.FloorsBack'. -/
def floorsBackCard : Claim7 := { stood := { row := floorsBackRow, standIns := [], harness := (true, "b4537cf9fe90271f44b0185d86a7220843d6912f3953b7b1e0cc4f5ac514b2aa"), looks := true }, kinds := [], alts := [], laidByText := true, laidKinds := [.handle], laidTests := true, laidLooks := .later }
def FloorsBackCardSaid : Prop := Claim7.holds Tryd.pinned (.plain (OpenSpec.ofChange floorsBackSpec)) floorsBackCard

/-- THE SECOND FORM's CARD OF 'butterylaw16.FloorsChecks'. -/
def floorsChecksUptoCard : Claim7 := { stood := { row := floorsChecksUptoRow, standIns := [], harness := (true, "b4537cf9fe90271f44b0185d86a7220843d6912f3953b7b1e0cc4f5ac514b2aa"), looks := true }, kinds := [], alts := [], laidByText := true, laidKinds := [.handle], laidTests := true, laidLooks := .later }
def FloorsChecksUptoCardSaid : Prop := Claim7.holds Tryd.pinned (.plain (OpenSpec.upto floorsChecksSpec)) floorsChecksUptoCard

/-- THE SECOND FORM's CARD OF 'butterylaw16.FloorsDoes'. -/
def floorsDoesUptoCard : Claim7 := { stood := { row := floorsDoesUptoRow, standIns := [], harness := (true, "b4537cf9fe90271f44b0185d86a7220843d6912f3953b7b1e0cc4f5ac514b2aa"), looks := true }, kinds := [], alts := [], laidByText := true, laidKinds := [.handle], laidTests := true, laidLooks := .later }
def FloorsDoesUptoCardSaid : Prop := Claim7.holds Tryd.pinned (.plain (OpenSpec.upto floorsDoesSpec)) floorsDoesUptoCard

/-- THE SECOND FORM's CARD OF 'butterylaw16.FloorsRise'. -/
def floorsRiseUptoCard : Claim7 := { stood := { row := floorsRiseUptoRow, standIns := [], harness := (true, "b4537cf9fe90271f44b0185d86a7220843d6912f3953b7b1e0cc4f5ac514b2aa"), looks := true }, kinds := [], alts := [], laidByText := true, laidKinds := [.handle], laidTests := true, laidLooks := .later }
def FloorsRiseUptoCardSaid : Prop := Claim7.holds Tryd.pinned (.plain (OpenSpec.upto floorsRiseSpec)) floorsRiseUptoCard

/-- THE SECOND FORM's CARD OF 'butterylaw16.FloorsBack'. -/
def floorsBackUptoCard : Claim7 := { stood := { row := floorsBackUptoRow, standIns := [], harness := (true, "b4537cf9fe90271f44b0185d86a7220843d6912f3953b7b1e0cc4f5ac514b2aa"), looks := true }, kinds := [], alts := [], laidByText := true, laidKinds := [.handle], laidTests := true, laidLooks := .later }
def FloorsBackUptoCardSaid : Prop := Claim7.holds Tryd.pinned (.plain (OpenSpec.upto floorsBackSpec)) floorsBackUptoCard
end Rows
end Go.Proofs.YtmoiochblmdgfaaDoor
