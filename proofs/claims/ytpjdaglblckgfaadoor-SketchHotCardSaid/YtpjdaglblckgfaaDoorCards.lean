/-
  DERIVED. GIVEN WITH THE SEED: THE CARDS: each row of YtpjdaglblckgfaaDoorRows.lean that lists a variable, with what it lists TIED to the program's text (the seventh form; the later family's looks); each row that meets fmt, with fmt's text TOLD by the authors' own Lean function (tested against real Go, not proved from fmt's source: count such statements apart). THE CARD IS WHAT COUNTS. Prove the row's statement (the work); the ties are given (YtpjdaglblckgfaaDoorTie.lean); close each card by the builder's one call (the guide's Derived/Test/ToyasCard.lean, 'card_holds'). Laid BY PROGRAM, IN A SANDBOX (cutbox-door.mjs). By AI agents, Wed Nov 11 2026. No macro, syntax, notation, axiom, sorry.
-/
import Derived.Test.YtpjdaglblckgfaaDoorRows
import GoSem.ClaimSeven
namespace Go.Proofs.YtpjdaglblckgfaaDoor
namespace Rows

/-- THE TIED CARD OF 'butterylaw37.SketchLeast'. -/
def sketchLeastCard : Claim7 := { stood := { row := sketchLeastRow, standIns := [], harness := (true, "a45318ddd6450635b05be79d6e63504e7f16b3e02b395f29bd84cfc1c02a083a"), looks := true }, kinds := [], alts := [], laidByText := true, laidKinds := [.handle], laidTests := true, laidLooks := .later }
def SketchLeastCardSaid : Prop := Claim7.holds Tryd.pinned (.plain (OpenSpec.ofChange sketchLeastSpec)) sketchLeastCard

/-- THE TIED CARD OF 'butterylaw37.SketchAges'. -/
def sketchAgesCard : Claim7 := { stood := { row := sketchAgesRow, standIns := [], harness := (true, "a45318ddd6450635b05be79d6e63504e7f16b3e02b395f29bd84cfc1c02a083a"), looks := true }, kinds := [], alts := [], laidByText := true, laidKinds := [.handle], laidTests := true, laidLooks := .later }
def SketchAgesCardSaid : Prop := Claim7.holds Tryd.pinned (.plain (OpenSpec.ofChange sketchAgesSpec)) sketchAgesCard

/-- THE TIED CARD OF 'butterylaw37.SketchMore'. -/
def sketchMoreCard : Claim7 := { stood := { row := sketchMoreRow, standIns := [], harness := (true, "a45318ddd6450635b05be79d6e63504e7f16b3e02b395f29bd84cfc1c02a083a"), looks := true }, kinds := [], alts := [], laidByText := true, laidKinds := [.handle], laidTests := true, laidLooks := .later }
def SketchMoreCardSaid : Prop := Claim7.holds Tryd.pinned (.plain (OpenSpec.ofChange sketchMoreSpec)) sketchMoreCard

/-- THE TIED CARD OF 'butterylaw37.SketchDoes'. -/
def sketchDoesCard : Claim7 := { stood := { row := sketchDoesRow, standIns := [], harness := (true, "a45318ddd6450635b05be79d6e63504e7f16b3e02b395f29bd84cfc1c02a083a"), looks := true }, kinds := [], alts := [], laidByText := true, laidKinds := [.handle], laidTests := true, laidLooks := .later }
def SketchDoesCardSaid : Prop := Claim7.holds Tryd.pinned (.plain (OpenSpec.ofChange sketchDoesSpec)) sketchDoesCard

/-- THE TIED CARD OF 'butterylaw37.SketchJoins'. -/
def sketchJoinsCard : Claim7 := { stood := { row := sketchJoinsRow, standIns := [], harness := (true, "a45318ddd6450635b05be79d6e63504e7f16b3e02b395f29bd84cfc1c02a083a"), looks := true }, kinds := [], alts := [], laidByText := true, laidKinds := [.handle], laidTests := true, laidLooks := .later }
def SketchJoinsCardSaid : Prop := Claim7.holds Tryd.pinned (.plain (OpenSpec.ofChange sketchJoinsSpec)) sketchJoinsCard

/-- THE TIED CARD OF 'butterylaw37.SketchHot'. -/
def sketchHotCard : Claim7 := { stood := { row := sketchHotRow, standIns := [], harness := (true, "a45318ddd6450635b05be79d6e63504e7f16b3e02b395f29bd84cfc1c02a083a"), looks := true }, kinds := [], alts := [], laidByText := true, laidKinds := [.handle], laidTests := true, laidLooks := .later }
def SketchHotCardSaid : Prop := Claim7.holds Tryd.pinned (.plain (OpenSpec.ofChange sketchHotSpec)) sketchHotCard

/-- THE SECOND FORM's CARD OF 'butterylaw37.SketchLeast'. -/
def sketchLeastUptoCard : Claim7 := { stood := { row := sketchLeastUptoRow, standIns := [], harness := (true, "a45318ddd6450635b05be79d6e63504e7f16b3e02b395f29bd84cfc1c02a083a"), looks := true }, kinds := [], alts := [], laidByText := true, laidKinds := [.handle], laidTests := true, laidLooks := .later }
def SketchLeastUptoCardSaid : Prop := Claim7.holds Tryd.pinned (.plain (OpenSpec.upto sketchLeastSpec)) sketchLeastUptoCard

/-- THE SECOND FORM's CARD OF 'butterylaw37.SketchAges'. -/
def sketchAgesUptoCard : Claim7 := { stood := { row := sketchAgesUptoRow, standIns := [], harness := (true, "a45318ddd6450635b05be79d6e63504e7f16b3e02b395f29bd84cfc1c02a083a"), looks := true }, kinds := [], alts := [], laidByText := true, laidKinds := [.handle], laidTests := true, laidLooks := .later }
def SketchAgesUptoCardSaid : Prop := Claim7.holds Tryd.pinned (.plain (OpenSpec.upto sketchAgesSpec)) sketchAgesUptoCard

/-- THE SECOND FORM's CARD OF 'butterylaw37.SketchMore'. -/
def sketchMoreUptoCard : Claim7 := { stood := { row := sketchMoreUptoRow, standIns := [], harness := (true, "a45318ddd6450635b05be79d6e63504e7f16b3e02b395f29bd84cfc1c02a083a"), looks := true }, kinds := [], alts := [], laidByText := true, laidKinds := [.handle], laidTests := true, laidLooks := .later }
def SketchMoreUptoCardSaid : Prop := Claim7.holds Tryd.pinned (.plain (OpenSpec.upto sketchMoreSpec)) sketchMoreUptoCard

/-- THE SECOND FORM's CARD OF 'butterylaw37.SketchDoes'. -/
def sketchDoesUptoCard : Claim7 := { stood := { row := sketchDoesUptoRow, standIns := [], harness := (true, "a45318ddd6450635b05be79d6e63504e7f16b3e02b395f29bd84cfc1c02a083a"), looks := true }, kinds := [], alts := [], laidByText := true, laidKinds := [.handle], laidTests := true, laidLooks := .later }
def SketchDoesUptoCardSaid : Prop := Claim7.holds Tryd.pinned (.plain (OpenSpec.upto sketchDoesSpec)) sketchDoesUptoCard

/-- THE SECOND FORM's CARD OF 'butterylaw37.SketchJoins'. -/
def sketchJoinsUptoCard : Claim7 := { stood := { row := sketchJoinsUptoRow, standIns := [], harness := (true, "a45318ddd6450635b05be79d6e63504e7f16b3e02b395f29bd84cfc1c02a083a"), looks := true }, kinds := [], alts := [], laidByText := true, laidKinds := [.handle], laidTests := true, laidLooks := .later }
def SketchJoinsUptoCardSaid : Prop := Claim7.holds Tryd.pinned (.plain (OpenSpec.upto sketchJoinsSpec)) sketchJoinsUptoCard

/-- THE SECOND FORM's CARD OF 'butterylaw37.SketchHot'. -/
def sketchHotUptoCard : Claim7 := { stood := { row := sketchHotUptoRow, standIns := [], harness := (true, "a45318ddd6450635b05be79d6e63504e7f16b3e02b395f29bd84cfc1c02a083a"), looks := true }, kinds := [], alts := [], laidByText := true, laidKinds := [.handle], laidTests := true, laidLooks := .later }
def SketchHotUptoCardSaid : Prop := Claim7.holds Tryd.pinned (.plain (OpenSpec.upto sketchHotSpec)) sketchHotUptoCard
end Rows
end Go.Proofs.YtpjdaglblckgfaaDoor
