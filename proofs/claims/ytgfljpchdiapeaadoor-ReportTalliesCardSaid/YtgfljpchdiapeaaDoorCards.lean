/-
  DERIVED. GIVEN WITH THE SEED: THE CARDS: each row of YtgfljpchdiapeaaDoorRows.lean that lists a variable, with what it lists TIED to the program's text (the seventh form; the later family's looks); each row that meets fmt, with fmt's text TOLD by the authors' own Lean function (tested against real Go, not proved from fmt's source: count such statements apart). THE CARD IS WHAT COUNTS. Prove the row's statement (the work); the ties are given (YtgfljpchdiapeaaDoorTie.lean); close each card by the builder's one call (the guide's Derived/Test/ToyasCard.lean, 'card_holds'). Laid BY PROGRAM, IN A SANDBOX (cutbox-door.mjs). By AI agents, Wed Nov 11 2026. No macro, syntax, notation, axiom, sorry.
-/
import Derived.Test.YtgfljpchdiapeaaDoorRows
import GoSem.ClaimSeven
namespace Go.Proofs.YtgfljpchdiapeaaDoor
namespace Rows

/-- THE TIED CARD OF 'butterylaw32.ReportWrites'. -/
def reportWritesCard : Claim7 := { stood := { row := reportWritesRow, standIns := [], harness := (true, "5191c8d1ccd30b4aea4829df10f5baa7ca86ad04db687156aeafe6d7f566fcb6"), looks := true }, kinds := [], alts := [], laidByText := true, laidKinds := [.data, .handle, .pinned], laidTests := true, laidLooks := .later }
def ReportWritesCardSaid : Prop := Claim7.holds Tryd.pinned (.plain (OpenSpec.ofChange reportWritesSpec)) reportWritesCard

/-- THE TIED CARD OF 'butterylaw32.ReportReads'. -/
def reportReadsCard : Claim7 := { stood := { row := reportReadsRow, standIns := [], harness := (true, "5191c8d1ccd30b4aea4829df10f5baa7ca86ad04db687156aeafe6d7f566fcb6"), looks := true }, kinds := [], alts := [], laidByText := true, laidKinds := [.data, .handle, .pinned], laidTests := true, laidLooks := .later }
def ReportReadsCardSaid : Prop := Claim7.holds Tryd.pinned (.plain (OpenSpec.ofChange reportReadsSpec)) reportReadsCard

/-- THE TIED CARD OF 'butterylaw32.ReportBack'. -/
def reportBackCard : Claim7 := { stood := { row := reportBackRow, standIns := [], harness := (true, "5191c8d1ccd30b4aea4829df10f5baa7ca86ad04db687156aeafe6d7f566fcb6"), looks := true }, kinds := [], alts := [], laidByText := true, laidKinds := [.data, .handle, .pinned], laidTests := true, laidLooks := .later }
def ReportBackCardSaid : Prop := Claim7.holds Tryd.pinned (.plain (OpenSpec.ofChange reportBackSpec)) reportBackCard

/-- THE TIED CARD OF 'butterylaw32.ReportTallies'. -/
def reportTalliesCard : Claim7 := { stood := { row := reportTalliesRow, standIns := [], harness := (true, "5191c8d1ccd30b4aea4829df10f5baa7ca86ad04db687156aeafe6d7f566fcb6"), looks := true }, kinds := [], alts := [], laidByText := true, laidKinds := [.data, .handle, .pinned], laidTests := true, laidLooks := .later }
def ReportTalliesCardSaid : Prop := Claim7.holds Tryd.pinned (.plain (OpenSpec.ofChange reportTalliesSpec)) reportTalliesCard

/-- THE SECOND FORM's CARD OF 'butterylaw32.ReportWrites'. -/
def reportWritesUptoCard : Claim7 := { stood := { row := reportWritesUptoRow, standIns := [], harness := (true, "5191c8d1ccd30b4aea4829df10f5baa7ca86ad04db687156aeafe6d7f566fcb6"), looks := true }, kinds := [], alts := [], laidByText := true, laidKinds := [.data, .handle, .pinned], laidTests := true, laidLooks := .later }
def ReportWritesUptoCardSaid : Prop := Claim7.holds Tryd.pinned (.plain (OpenSpec.upto reportWritesSpec)) reportWritesUptoCard

/-- THE SECOND FORM's CARD OF 'butterylaw32.ReportReads'. -/
def reportReadsUptoCard : Claim7 := { stood := { row := reportReadsUptoRow, standIns := [], harness := (true, "5191c8d1ccd30b4aea4829df10f5baa7ca86ad04db687156aeafe6d7f566fcb6"), looks := true }, kinds := [], alts := [], laidByText := true, laidKinds := [.data, .handle, .pinned], laidTests := true, laidLooks := .later }
def ReportReadsUptoCardSaid : Prop := Claim7.holds Tryd.pinned (.plain (OpenSpec.upto reportReadsSpec)) reportReadsUptoCard

/-- THE SECOND FORM's CARD OF 'butterylaw32.ReportBack'. -/
def reportBackUptoCard : Claim7 := { stood := { row := reportBackUptoRow, standIns := [], harness := (true, "5191c8d1ccd30b4aea4829df10f5baa7ca86ad04db687156aeafe6d7f566fcb6"), looks := true }, kinds := [], alts := [], laidByText := true, laidKinds := [.data, .handle, .pinned], laidTests := true, laidLooks := .later }
def ReportBackUptoCardSaid : Prop := Claim7.holds Tryd.pinned (.plain (OpenSpec.upto reportBackSpec)) reportBackUptoCard

/-- THE SECOND FORM's CARD OF 'butterylaw32.ReportTallies'. -/
def reportTalliesUptoCard : Claim7 := { stood := { row := reportTalliesUptoRow, standIns := [], harness := (true, "5191c8d1ccd30b4aea4829df10f5baa7ca86ad04db687156aeafe6d7f566fcb6"), looks := true }, kinds := [], alts := [], laidByText := true, laidKinds := [.data, .handle, .pinned], laidTests := true, laidLooks := .later }
def ReportTalliesUptoCardSaid : Prop := Claim7.holds Tryd.pinned (.plain (OpenSpec.upto reportTalliesSpec)) reportTalliesUptoCard
end Rows
end Go.Proofs.YtgfljpchdiapeaaDoor
