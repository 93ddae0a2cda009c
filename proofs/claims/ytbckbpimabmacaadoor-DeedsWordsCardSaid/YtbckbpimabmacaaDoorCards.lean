/-
  DERIVED. GIVEN WITH THE SEED: THE CARDS: each row of YtbckbpimabmacaaDoorRows.lean that lists a variable, with what it lists TIED to the program's text (the seventh form; the later family's looks); each row that meets fmt, with fmt's text TOLD by the authors' own Lean function (tested against real Go, not proved from fmt's source: count such statements apart). THE CARD IS WHAT COUNTS. Prove the row's statement (the work); the ties are given (YtbckbpimabmacaaDoorTie.lean); close each card by the builder's one call (the guide's Derived/Test/ToyasCard.lean, 'card_holds'). Laid BY PROGRAM, IN A SANDBOX (cutbox-door.mjs). By AI agents, Wed Nov 11 2026. No macro, syntax, notation, axiom, sorry.
-/
import Derived.Test.YtbckbpimabmacaaDoorRows
import GoSem.ClaimSeven
namespace Go.Proofs.YtbckbpimabmacaaDoor
namespace Rows

/-- THE TIED CARD OF 'butterylaw29.DeedsWords'. -/
def deedsWordsCard : Claim7 := { stood := { row := deedsWordsRow, standIns := [], harness := (true, "77d01931400d7d997e40d6da6d15d347fff4c4c6109eb7d15054727c469dd7ce"), looks := true }, kinds := [], alts := [], laidByText := true, laidKinds := [.data, .handle, .pinned], laidTests := true, laidLooks := .later }
def DeedsWordsCardSaid : Prop := Claim7.holds Tryd.pinned (.plain (OpenSpec.ofChange deedsWordsSpec)) deedsWordsCard

/-- THE TIED CARD OF 'butterylaw29.DeedsReads'. -/
def deedsReadsCard : Claim7 := { stood := { row := deedsReadsRow, standIns := [], harness := (true, "77d01931400d7d997e40d6da6d15d347fff4c4c6109eb7d15054727c469dd7ce"), looks := true }, kinds := [], alts := [], laidByText := true, laidKinds := [.data, .handle, .pinned], laidTests := true, laidLooks := .later }
def DeedsReadsCardSaid : Prop := Claim7.holds Tryd.pinned (.plain (OpenSpec.ofChange deedsReadsSpec)) deedsReadsCard

/-- THE TIED CARD OF 'butterylaw29.DeedsParts'. -/
def deedsPartsCard : Claim7 := { stood := { row := deedsPartsRow, standIns := [], harness := (true, "77d01931400d7d997e40d6da6d15d347fff4c4c6109eb7d15054727c469dd7ce"), looks := true }, kinds := [], alts := [], laidByText := true, laidKinds := [.data, .handle, .pinned], laidTests := true, laidLooks := .later }
def DeedsPartsCardSaid : Prop := Claim7.holds Tryd.pinned (.plain (OpenSpec.ofChange deedsPartsSpec)) deedsPartsCard

/-- THE TIED CARD OF 'butterylaw29.DeedsBack'. -/
def deedsBackCard : Claim7 := { stood := { row := deedsBackRow, standIns := [], harness := (true, "77d01931400d7d997e40d6da6d15d347fff4c4c6109eb7d15054727c469dd7ce"), looks := true }, kinds := [], alts := [], laidByText := true, laidKinds := [.data, .handle, .pinned], laidTests := true, laidLooks := .later }
def DeedsBackCardSaid : Prop := Claim7.holds Tryd.pinned (.plain (OpenSpec.ofChange deedsBackSpec)) deedsBackCard

/-- THE SECOND FORM's CARD OF 'butterylaw29.DeedsWords'. -/
def deedsWordsUptoCard : Claim7 := { stood := { row := deedsWordsUptoRow, standIns := [], harness := (true, "77d01931400d7d997e40d6da6d15d347fff4c4c6109eb7d15054727c469dd7ce"), looks := true }, kinds := [], alts := [], laidByText := true, laidKinds := [.data, .handle, .pinned], laidTests := true, laidLooks := .later }
def DeedsWordsUptoCardSaid : Prop := Claim7.holds Tryd.pinned (.plain (OpenSpec.upto deedsWordsSpec)) deedsWordsUptoCard

/-- THE SECOND FORM's CARD OF 'butterylaw29.DeedsReads'. -/
def deedsReadsUptoCard : Claim7 := { stood := { row := deedsReadsUptoRow, standIns := [], harness := (true, "77d01931400d7d997e40d6da6d15d347fff4c4c6109eb7d15054727c469dd7ce"), looks := true }, kinds := [], alts := [], laidByText := true, laidKinds := [.data, .handle, .pinned], laidTests := true, laidLooks := .later }
def DeedsReadsUptoCardSaid : Prop := Claim7.holds Tryd.pinned (.plain (OpenSpec.upto deedsReadsSpec)) deedsReadsUptoCard

/-- THE SECOND FORM's CARD OF 'butterylaw29.DeedsParts'. -/
def deedsPartsUptoCard : Claim7 := { stood := { row := deedsPartsUptoRow, standIns := [], harness := (true, "77d01931400d7d997e40d6da6d15d347fff4c4c6109eb7d15054727c469dd7ce"), looks := true }, kinds := [], alts := [], laidByText := true, laidKinds := [.data, .handle, .pinned], laidTests := true, laidLooks := .later }
def DeedsPartsUptoCardSaid : Prop := Claim7.holds Tryd.pinned (.plain (OpenSpec.upto deedsPartsSpec)) deedsPartsUptoCard

/-- THE SECOND FORM's CARD OF 'butterylaw29.DeedsBack'. -/
def deedsBackUptoCard : Claim7 := { stood := { row := deedsBackUptoRow, standIns := [], harness := (true, "77d01931400d7d997e40d6da6d15d347fff4c4c6109eb7d15054727c469dd7ce"), looks := true }, kinds := [], alts := [], laidByText := true, laidKinds := [.data, .handle, .pinned], laidTests := true, laidLooks := .later }
def DeedsBackUptoCardSaid : Prop := Claim7.holds Tryd.pinned (.plain (OpenSpec.upto deedsBackSpec)) deedsBackUptoCard
end Rows
end Go.Proofs.YtbckbpimabmacaaDoor
