/-
  NARROWER THAN 'FOR EVERY INPUT', by the rows' own cells (each row's printed sentence says how): FloorsChecks: laid · FloorsDoes: laid · FloorsRise: laid · FloorsBack: laid.
  DERIVED. THE GIVEN ROWS OF THIS SEAT. 4 by the template 'for every input the law returns true; each argument reads behind the call as it read before'; 0 by the template 'total and deterministic' (their statements: YtmoiochblmdgfaaDoorTotals.lean).
  GIVEN WITH THE SEED: the statements are not yours to turn. If you find one false, say at which input.
  Laid BY PROGRAM, IN A SANDBOX (cutbox-rows.mjs): the forced cells as the released guide's own fill.sh prints them over the translation 7af818639052989f… (all of the seat's roots in one cut). By AI agents, Wed Nov 11 2026. No macro, syntax, notation, axiom, sorry.
-/
import Derived.Test.YtmoiochblmdgfaaDoorChecked
import GoSem.Claim
import GoSem.ClaimJoined
import GoSem.ClaimMapViews
import Derived.JoinedTies
import Derived.KernelRfl
namespace Go.Proofs.YtmoiochblmdgfaaDoor
/- THE CELL 'sum', in the pinned program and in every row, IS THE sha256 OF THE DUMP (.gsa) THAT YtmoiochblmdgfaaDoorProg.lean LOADS. Nothing in Lean hashes anything: it is a label: what it is worth is what the hold of that sum in a sandbox is worth. -/
noncomputable def Tryd.pinned : Pinned := { name := "ytmoiochblmdgfaadoor", sum := "7af818639052989f2be95950d38c3279536f8e5e1670637400c76f81075c5540", checked := Tryd.checked }
namespace Rows
def none {H : Type} : Left H := { results := [], args := [] }

/- WHAT THE LISTED PACKAGE-LEVEL VARIABLES READ AS WHEN THE CALL BEGINS. Each datum BY PROGRAM (the guide's laid-datum.mjs) off the statement by which the dump's own 'gosem.cut.vars' lays the variable. In a bare row this is a premise. The card (YtmoiochblmdgfaaDoorCards.lean) ties it to the program's text. -/
def laid_errors_errorType {H : Type} : DataW H := .iface "internal/reflectlite.rtype" (.agg [.ptr (.lit (.string [101, 114, 114, 111, 114]))])

/-- 'butterylaw16.FloorsChecks': WHATEVER THE INPUT: true; the input reads as it did. -/
def floorsChecksSpec : ChangeSpec := { name := "floorsChecks", fn := fun _ => fun
  | [d1, d2, d3, d4] => { results := [.lit (.bool true)], args := [d1, d2, d3, d4] }
  | _ => none }
def floorsChecksRow : OpenClaim := { program := "ytmoiochblmdgfaadoor", sum := "7af818639052989f2be95950d38c3279536f8e5e1670637400c76f81075c5540", func := "buttery/butterylaw16.FloorsChecks", spec := "floorsChecks", inPlace := ["slices.overlaps[buttery/api.Floor]", "internal/reflectlite.ValueOf", "(internal/reflectlite.Value).Type", "(internal/reflectlite.Value).IsNil", "internal/reflectlite.TypeOf", "(internal/reflectlite.Value).Elem", "(internal/reflectlite.Value).Set"], unfollowed := true, recurses := true, named := ["errors.errorType"], apart := false, laid := [("errors.errorType", laid_errors_errorType)] }
def FloorsChecksSaid : Prop := floorsChecksRow.holds Tryd.pinned (OpenSpec.ofChange floorsChecksSpec)

/-- ITS FALSE NEIGHBOUR: 'it returns false'. Refute it at one input. -/
def floorsChecksWrong : ChangeSpec := { name := "floorsChecks", fn := fun _ => fun
  | [d1, d2, d3, d4] => { results := [.lit (.bool false)], args := [d1, d2, d3, d4] }
  | _ => none }
def FloorsChecksWrongFalsely : Prop := floorsChecksRow.holds Tryd.pinned (OpenSpec.ofChange floorsChecksWrong)

/-- 'butterylaw16.FloorsDoes': WHATEVER THE INPUT: true; the input reads as it did. -/
def floorsDoesSpec : ChangeSpec := { name := "floorsDoes", fn := fun _ => fun
  | [d1, d2, d3, d4] => { results := [.lit (.bool true)], args := [d1, d2, d3, d4] }
  | _ => none }
def floorsDoesRow : OpenClaim := { program := "ytmoiochblmdgfaadoor", sum := "7af818639052989f2be95950d38c3279536f8e5e1670637400c76f81075c5540", func := "buttery/butterylaw16.FloorsDoes", spec := "floorsDoes", inPlace := ["slices.overlaps[buttery/api.Floor]", "internal/reflectlite.ValueOf", "(internal/reflectlite.Value).Type", "(internal/reflectlite.Value).IsNil", "internal/reflectlite.TypeOf", "(internal/reflectlite.Value).Elem", "(internal/reflectlite.Value).Set"], unfollowed := true, recurses := true, named := ["errors.errorType"], apart := false, laid := [("errors.errorType", laid_errors_errorType)] }
def FloorsDoesSaid : Prop := floorsDoesRow.holds Tryd.pinned (OpenSpec.ofChange floorsDoesSpec)

/-- ITS FALSE NEIGHBOUR: 'it returns false'. Refute it at one input. -/
def floorsDoesWrong : ChangeSpec := { name := "floorsDoes", fn := fun _ => fun
  | [d1, d2, d3, d4] => { results := [.lit (.bool false)], args := [d1, d2, d3, d4] }
  | _ => none }
def FloorsDoesWrongFalsely : Prop := floorsDoesRow.holds Tryd.pinned (OpenSpec.ofChange floorsDoesWrong)

/-- 'butterylaw16.FloorsRise': WHATEVER THE INPUT: true; the input reads as it did. -/
def floorsRiseSpec : ChangeSpec := { name := "floorsRise", fn := fun _ => fun
  | [d1, d2, d3, d4] => { results := [.lit (.bool true)], args := [d1, d2, d3, d4] }
  | _ => none }
def floorsRiseRow : OpenClaim := { program := "ytmoiochblmdgfaadoor", sum := "7af818639052989f2be95950d38c3279536f8e5e1670637400c76f81075c5540", func := "buttery/butterylaw16.FloorsRise", spec := "floorsRise", inPlace := ["slices.overlaps[buttery/api.Floor]", "internal/reflectlite.ValueOf", "(internal/reflectlite.Value).Type", "(internal/reflectlite.Value).IsNil", "internal/reflectlite.TypeOf", "(internal/reflectlite.Value).Elem", "(internal/reflectlite.Value).Set"], unfollowed := true, recurses := true, named := ["errors.errorType"], apart := false, laid := [("errors.errorType", laid_errors_errorType)] }
def FloorsRiseSaid : Prop := floorsRiseRow.holds Tryd.pinned (OpenSpec.ofChange floorsRiseSpec)

/-- ITS FALSE NEIGHBOUR: 'it returns false'. Refute it at one input. -/
def floorsRiseWrong : ChangeSpec := { name := "floorsRise", fn := fun _ => fun
  | [d1, d2, d3, d4] => { results := [.lit (.bool false)], args := [d1, d2, d3, d4] }
  | _ => none }
def FloorsRiseWrongFalsely : Prop := floorsRiseRow.holds Tryd.pinned (OpenSpec.ofChange floorsRiseWrong)

/-- 'butterylaw16.FloorsBack': WHATEVER THE INPUT: true; the input reads as it did. -/
def floorsBackSpec : ChangeSpec := { name := "floorsBack", fn := fun _ => fun
  | [d1, d2] => { results := [.lit (.bool true)], args := [d1, d2] }
  | _ => none }
def floorsBackRow : OpenClaim := { program := "ytmoiochblmdgfaadoor", sum := "7af818639052989f2be95950d38c3279536f8e5e1670637400c76f81075c5540", func := "buttery/butterylaw16.FloorsBack", spec := "floorsBack", inPlace := ["slices.overlaps[buttery/api.Floor]", "internal/reflectlite.ValueOf", "(internal/reflectlite.Value).Type", "(internal/reflectlite.Value).IsNil", "internal/reflectlite.TypeOf", "(internal/reflectlite.Value).Elem", "(internal/reflectlite.Value).Set"], unfollowed := true, recurses := true, named := ["errors.errorType"], apart := false, laid := [("errors.errorType", laid_errors_errorType)] }
def FloorsBackSaid : Prop := floorsBackRow.holds Tryd.pinned (OpenSpec.ofChange floorsBackSpec)

/-- ITS FALSE NEIGHBOUR: 'it returns false'. Refute it at one input. -/
def floorsBackWrong : ChangeSpec := { name := "floorsBack", fn := fun _ => fun
  | [d1, d2] => { results := [.lit (.bool false)], args := [d1, d2] }
  | _ => none }
def FloorsBackWrongFalsely : Prop := floorsBackRow.holds Tryd.pinned (OpenSpec.ofChange floorsBackWrong)

/- THE SECOND FORM. 'bulk': how many values and letters a reading holds, each counted each time it is reached (what is shared counts as often as it is met; a slice's spare places count too). A statement '..UptoSaid' is the law's where the arguments, and the package variables that the reading takes, are together of bulk at most 1048576: NARROWER than '..Said'. Prove '..Said' where nothing that the law and all that it calls make is longer than what came in: it says more and counts as full. Else prove '..UptoSaid'. A law counts once. -/
mutual
def uptoBulk {H : Type} : DataW H → Nat
  | .lit (.string bytes) => bytes.length + 1
  | .lit _ => 1
  | .nil => 1
  | .ptr d => uptoBulk d + 1
  | .slice elems spare => uptoBulkAll elems + uptoBulkAll spare + 1
  | .agg parts => uptoBulkAll parts + 1
  | .iface _ d => uptoBulk d + 1
  | .map entries => uptoBulkEntries entries + 1
  | .held _ => 1
def uptoBulkAll {H : Type} : List (DataW H) → Nat
  | [] => 0
  | d :: r => uptoBulk d + uptoBulkAll r
def uptoBulkEntries {H : Type} : List (Lit × DataW H) → Nat
  | [] => 0
  | x :: r => uptoBulkEntry x + uptoBulkEntries r
def uptoBulkEntry {H : Type} : Lit × DataW H → Nat
  | (.string bytes, d) => bytes.length + uptoBulk d + 1
  | (_, d) => uptoBulk d + 1
 end
def uptoSmall : (H : Type) → List (DataW H) → Bool := fun _ ds => decide (uptoBulkAll ds ≤ 1048576)
def OpenSpec.upto (s : _root_.Go.ChangeSpec) : _root_.Go.OpenSpec := { _root_.Go.OpenSpec.ofChange s with cond := some uptoSmall }

/-- 'butterylaw16.FloorsChecks', WHERE WHAT IT READS IS OF BULK AT MOST 1048576: true; the input reads as it did. -/
def floorsChecksUptoRow : OpenClaim := { program := "ytmoiochblmdgfaadoor", sum := "7af818639052989f2be95950d38c3279536f8e5e1670637400c76f81075c5540", func := "buttery/butterylaw16.FloorsChecks", spec := "floorsChecks", inPlace := ["slices.overlaps[buttery/api.Floor]", "internal/reflectlite.ValueOf", "(internal/reflectlite.Value).Type", "(internal/reflectlite.Value).IsNil", "internal/reflectlite.TypeOf", "(internal/reflectlite.Value).Elem", "(internal/reflectlite.Value).Set"], unfollowed := true, recurses := true, named := ["errors.errorType"], apart := false, laid := [("errors.errorType", laid_errors_errorType)], narrowed := true }
def FloorsChecksUptoSaid : Prop := floorsChecksUptoRow.holds Tryd.pinned (OpenSpec.upto floorsChecksSpec)

/-- 'butterylaw16.FloorsDoes', WHERE WHAT IT READS IS OF BULK AT MOST 1048576: true; the input reads as it did. -/
def floorsDoesUptoRow : OpenClaim := { program := "ytmoiochblmdgfaadoor", sum := "7af818639052989f2be95950d38c3279536f8e5e1670637400c76f81075c5540", func := "buttery/butterylaw16.FloorsDoes", spec := "floorsDoes", inPlace := ["slices.overlaps[buttery/api.Floor]", "internal/reflectlite.ValueOf", "(internal/reflectlite.Value).Type", "(internal/reflectlite.Value).IsNil", "internal/reflectlite.TypeOf", "(internal/reflectlite.Value).Elem", "(internal/reflectlite.Value).Set"], unfollowed := true, recurses := true, named := ["errors.errorType"], apart := false, laid := [("errors.errorType", laid_errors_errorType)], narrowed := true }
def FloorsDoesUptoSaid : Prop := floorsDoesUptoRow.holds Tryd.pinned (OpenSpec.upto floorsDoesSpec)

/-- 'butterylaw16.FloorsRise', WHERE WHAT IT READS IS OF BULK AT MOST 1048576: true; the input reads as it did. -/
def floorsRiseUptoRow : OpenClaim := { program := "ytmoiochblmdgfaadoor", sum := "7af818639052989f2be95950d38c3279536f8e5e1670637400c76f81075c5540", func := "buttery/butterylaw16.FloorsRise", spec := "floorsRise", inPlace := ["slices.overlaps[buttery/api.Floor]", "internal/reflectlite.ValueOf", "(internal/reflectlite.Value).Type", "(internal/reflectlite.Value).IsNil", "internal/reflectlite.TypeOf", "(internal/reflectlite.Value).Elem", "(internal/reflectlite.Value).Set"], unfollowed := true, recurses := true, named := ["errors.errorType"], apart := false, laid := [("errors.errorType", laid_errors_errorType)], narrowed := true }
def FloorsRiseUptoSaid : Prop := floorsRiseUptoRow.holds Tryd.pinned (OpenSpec.upto floorsRiseSpec)

/-- 'butterylaw16.FloorsBack', WHERE WHAT IT READS IS OF BULK AT MOST 1048576: true; the input reads as it did. -/
def floorsBackUptoRow : OpenClaim := { program := "ytmoiochblmdgfaadoor", sum := "7af818639052989f2be95950d38c3279536f8e5e1670637400c76f81075c5540", func := "buttery/butterylaw16.FloorsBack", spec := "floorsBack", inPlace := ["slices.overlaps[buttery/api.Floor]", "internal/reflectlite.ValueOf", "(internal/reflectlite.Value).Type", "(internal/reflectlite.Value).IsNil", "internal/reflectlite.TypeOf", "(internal/reflectlite.Value).Elem", "(internal/reflectlite.Value).Set"], unfollowed := true, recurses := true, named := ["errors.errorType"], apart := false, laid := [("errors.errorType", laid_errors_errorType)], narrowed := true }
def FloorsBackUptoSaid : Prop := floorsBackUptoRow.holds Tryd.pinned (OpenSpec.upto floorsBackSpec)

end Rows
end Go.Proofs.YtmoiochblmdgfaaDoor
