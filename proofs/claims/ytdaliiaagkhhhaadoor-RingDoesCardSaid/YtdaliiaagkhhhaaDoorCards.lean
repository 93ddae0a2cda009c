/-
  DERIVED. GIVEN WITH THE SEED: THE CARDS: each row of YtdaliiaagkhhhaaDoorRows.lean that lists a variable, with what it lists TIED to the program's text (the seventh form; the later family's looks); each row that meets fmt, with fmt's text TOLD by the authors' own Lean function (tested against real Go, not proved from fmt's source: count such statements apart). THE CARD IS WHAT COUNTS. Prove the row's statement (the work); the ties are given (YtdaliiaagkhhhaaDoorTie.lean); close each card by the builder's one call (the guide's Derived/Test/ToyasCard.lean, 'card_holds'). Laid BY PROGRAM, IN A SANDBOX (cutbox-door.mjs). By AI agents, Wed Nov 11 2026. No macro, syntax, notation, axiom, sorry.
-/
import Derived.Test.YtdaliiaagkhhhaaDoorRows
import GoSem.ClaimSeven
namespace Go.Proofs.YtdaliiaagkhhhaaDoor
namespace Rows

/-- THE TIED CARD OF 'butterylaw22.RingDoes'. -/
def ringDoesCard : Claim7 := { stood := { row := ringDoesRow, standIns := [], harness := (true, "2b6e8250845fc9940cc246a1d4c973e25e110e91ca57fbf908d1ec50aebeab38"), looks := true }, kinds := [], alts := [], laidByText := true, laidKinds := [.handle], laidTests := true, laidLooks := .later }
def RingDoesCardSaid : Prop := Claim7.holds Tryd.pinned (.plain (OpenSpec.ofChange ringDoesSpec)) ringDoesCard

/-- THE TIED CARD OF 'butterylaw22.RingMoves'. -/
def ringMovesCard : Claim7 := { stood := { row := ringMovesRow, standIns := [], harness := (true, "2b6e8250845fc9940cc246a1d4c973e25e110e91ca57fbf908d1ec50aebeab38"), looks := true }, kinds := [], alts := [], laidByText := true, laidKinds := [.handle], laidTests := true, laidLooks := .later }
def RingMovesCardSaid : Prop := Claim7.holds Tryd.pinned (.plain (OpenSpec.ofChange ringMovesSpec)) ringMovesCard

/-- THE TIED CARD OF 'butterylaw22.RingOwners'. -/
def ringOwnersCard : Claim7 := { stood := { row := ringOwnersRow, standIns := [], harness := (true, "2b6e8250845fc9940cc246a1d4c973e25e110e91ca57fbf908d1ec50aebeab38"), looks := true }, kinds := [], alts := [], laidByText := true, laidKinds := [.handle], laidTests := true, laidLooks := .later }
def RingOwnersCardSaid : Prop := Claim7.holds Tryd.pinned (.plain (OpenSpec.ofChange ringOwnersSpec)) ringOwnersCard

/-- THE SECOND FORM's CARD OF 'butterylaw22.RingDoes'. -/
def ringDoesUptoCard : Claim7 := { stood := { row := ringDoesUptoRow, standIns := [], harness := (true, "2b6e8250845fc9940cc246a1d4c973e25e110e91ca57fbf908d1ec50aebeab38"), looks := true }, kinds := [], alts := [], laidByText := true, laidKinds := [.handle], laidTests := true, laidLooks := .later }
def RingDoesUptoCardSaid : Prop := Claim7.holds Tryd.pinned (.plain (OpenSpec.upto ringDoesSpec)) ringDoesUptoCard

/-- THE SECOND FORM's CARD OF 'butterylaw22.RingMoves'. -/
def ringMovesUptoCard : Claim7 := { stood := { row := ringMovesUptoRow, standIns := [], harness := (true, "2b6e8250845fc9940cc246a1d4c973e25e110e91ca57fbf908d1ec50aebeab38"), looks := true }, kinds := [], alts := [], laidByText := true, laidKinds := [.handle], laidTests := true, laidLooks := .later }
def RingMovesUptoCardSaid : Prop := Claim7.holds Tryd.pinned (.plain (OpenSpec.upto ringMovesSpec)) ringMovesUptoCard

/-- THE SECOND FORM's CARD OF 'butterylaw22.RingOwners'. -/
def ringOwnersUptoCard : Claim7 := { stood := { row := ringOwnersUptoRow, standIns := [], harness := (true, "2b6e8250845fc9940cc246a1d4c973e25e110e91ca57fbf908d1ec50aebeab38"), looks := true }, kinds := [], alts := [], laidByText := true, laidKinds := [.handle], laidTests := true, laidLooks := .later }
def RingOwnersUptoCardSaid : Prop := Claim7.holds Tryd.pinned (.plain (OpenSpec.upto ringOwnersSpec)) ringOwnersUptoCard
end Rows
end Go.Proofs.YtdaliiaagkhhhaaDoor
