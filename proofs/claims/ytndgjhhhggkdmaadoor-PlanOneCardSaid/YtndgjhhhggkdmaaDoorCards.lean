/-
  DERIVED. GIVEN WITH THE SEED: THE CARDS: each row of YtndgjhhhggkdmaaDoorRows.lean that lists a variable, with what it lists TIED to the program's text (the seventh form; the later family's looks); each row that meets fmt, with fmt's text TOLD by the authors' own Lean function (tested against real Go, not proved from fmt's source: count such statements apart). THE CARD IS WHAT COUNTS. Prove the row's statement (the work); the ties are given (YtndgjhhhggkdmaaDoorTie.lean); close each card by the builder's one call (the guide's Derived/Test/ToyasCard.lean, 'card_holds'). Laid BY PROGRAM, IN A SANDBOX (cutbox-door.mjs). By AI agents, Wed Nov 11 2026. No macro, syntax, notation, axiom, sorry.
-/
import Derived.Test.YtndgjhhhggkdmaaDoorRows
import GoSem.ClaimSeven
namespace Go.Proofs.YtndgjhhhggkdmaaDoor
namespace Rows

/-- THE TIED CARD OF 'butterylaw34.PlanDoes'. -/
def planDoesCard : Claim7 := { stood := { row := planDoesRow, standIns := [], harness := (true, "7d02ded1dc215a2fa9d37f9e573eed67a11d017e88f77e28355a03a34ffc7eb1"), looks := true }, kinds := [], alts := [], laidByText := true, laidKinds := [.handle], laidTests := true, laidLooks := .later }
def PlanDoesCardSaid : Prop := Claim7.holds Tryd.pinned (.plain (OpenSpec.ofChange planDoesSpec)) planDoesCard

/-- THE TIED CARD OF 'butterylaw34.PlanBest'. -/
def planBestCard : Claim7 := { stood := { row := planBestRow, standIns := [], harness := (true, "7d02ded1dc215a2fa9d37f9e573eed67a11d017e88f77e28355a03a34ffc7eb1"), looks := true }, kinds := [], alts := [], laidByText := true, laidKinds := [.handle], laidTests := true, laidLooks := .later }
def PlanBestCardSaid : Prop := Claim7.holds Tryd.pinned (.plain (OpenSpec.ofChange planBestSpec)) planBestCard

/-- THE TIED CARD OF 'butterylaw34.PlanOne'. -/
def planOneCard : Claim7 := { stood := { row := planOneRow, standIns := [], harness := (true, "7d02ded1dc215a2fa9d37f9e573eed67a11d017e88f77e28355a03a34ffc7eb1"), looks := true }, kinds := [], alts := [], laidByText := true, laidKinds := [.handle], laidTests := true, laidLooks := .later }
def PlanOneCardSaid : Prop := Claim7.holds Tryd.pinned (.plain (OpenSpec.ofChange planOneSpec)) planOneCard

/-- THE SECOND FORM's CARD OF 'butterylaw34.PlanDoes'. -/
def planDoesUptoCard : Claim7 := { stood := { row := planDoesUptoRow, standIns := [], harness := (true, "7d02ded1dc215a2fa9d37f9e573eed67a11d017e88f77e28355a03a34ffc7eb1"), looks := true }, kinds := [], alts := [], laidByText := true, laidKinds := [.handle], laidTests := true, laidLooks := .later }
def PlanDoesUptoCardSaid : Prop := Claim7.holds Tryd.pinned (.plain (OpenSpec.upto planDoesSpec)) planDoesUptoCard

/-- THE SECOND FORM's CARD OF 'butterylaw34.PlanBest'. -/
def planBestUptoCard : Claim7 := { stood := { row := planBestUptoRow, standIns := [], harness := (true, "7d02ded1dc215a2fa9d37f9e573eed67a11d017e88f77e28355a03a34ffc7eb1"), looks := true }, kinds := [], alts := [], laidByText := true, laidKinds := [.handle], laidTests := true, laidLooks := .later }
def PlanBestUptoCardSaid : Prop := Claim7.holds Tryd.pinned (.plain (OpenSpec.upto planBestSpec)) planBestUptoCard

/-- THE SECOND FORM's CARD OF 'butterylaw34.PlanOne'. -/
def planOneUptoCard : Claim7 := { stood := { row := planOneUptoRow, standIns := [], harness := (true, "7d02ded1dc215a2fa9d37f9e573eed67a11d017e88f77e28355a03a34ffc7eb1"), looks := true }, kinds := [], alts := [], laidByText := true, laidKinds := [.handle], laidTests := true, laidLooks := .later }
def PlanOneUptoCardSaid : Prop := Claim7.holds Tryd.pinned (.plain (OpenSpec.upto planOneSpec)) planOneUptoCard
end Rows
end Go.Proofs.YtndgjhhhggkdmaaDoor
