/-
  NARROWER THAN 'FOR EVERY INPUT', by the rows' own cells (each row's printed sentence says how): SketchLeast: laid · SketchAges: laid · SketchMore: laid · SketchDoes: laid · SketchJoins: laid · SketchHot: laid.
  DERIVED. THE GIVEN ROWS OF THIS SEAT. 6 by the template 'for every input the law returns true; each argument reads behind the call as it read before'; 0 by the template 'total and deterministic' (their statements: YtpjdaglblckgfaaDoorTotals.lean).
  GIVEN WITH THE SEED: the statements are not yours to turn. If you find one false, say at which input.
  Laid BY PROGRAM, IN A SANDBOX (cutbox-rows.mjs): the forced cells as the released guide's own fill.sh prints them over the translation b33383850302690f… (all of the seat's roots in one cut). By AI agents, Wed Nov 11 2026. No macro, syntax, notation, axiom, sorry.
-/
import Derived.Test.YtpjdaglblckgfaaDoorChecked
import GoSem.Claim
import GoSem.ClaimJoined
import GoSem.ClaimMapViews
import Derived.JoinedTies
import Derived.KernelRfl
namespace Go.Proofs.YtpjdaglblckgfaaDoor
/- THE CELL 'sum', in the pinned program and in every row, IS THE sha256 OF THE DUMP (.gsa) THAT YtpjdaglblckgfaaDoorProg.lean LOADS. Nothing in Lean hashes anything: it is a label: what it is worth is what the hold of that sum in a sandbox is worth. -/
noncomputable def Tryd.pinned : Pinned := { name := "ytpjdaglblckgfaadoor", sum := "b33383850302690f468571e68856ac3f69b322e22d114f6c4f062c06dc336c3a", checked := Tryd.checked }
namespace Rows
def none {H : Type} : Left H := { results := [], args := [] }

/- WHAT THE LISTED PACKAGE-LEVEL VARIABLES READ AS WHEN THE CALL BEGINS. Each datum BY PROGRAM (the guide's laid-datum.mjs) off the statement by which the dump's own 'gosem.cut.vars' lays the variable. In a bare row this is a premise. The card (YtpjdaglblckgfaaDoorCards.lean) ties it to the program's text. -/
def laid_errors_errorType {H : Type} : DataW H := .iface "internal/reflectlite.rtype" (.agg [.ptr (.lit (.string [101, 114, 114, 111, 114]))])

/-- 'butterylaw37.SketchLeast': WHATEVER THE INPUT: true; the input reads as it did. -/
def sketchLeastSpec : ChangeSpec := { name := "sketchLeast", fn := fun _ => fun
  | [d1, d2, d3] => { results := [.lit (.bool true)], args := [d1, d2, d3] }
  | _ => none }
def sketchLeastRow : OpenClaim := { program := "ytpjdaglblckgfaadoor", sum := "b33383850302690f468571e68856ac3f69b322e22d114f6c4f062c06dc336c3a", func := "buttery/butterylaw37.SketchLeast", spec := "sketchLeast", inPlace := ["internal/reflectlite.ValueOf", "(internal/reflectlite.Value).Type", "(internal/reflectlite.Value).IsNil", "internal/reflectlite.TypeOf", "(internal/reflectlite.Value).Elem", "(internal/reflectlite.Value).Set"], unfollowed := true, recurses := true, named := ["errors.errorType"], apart := false, laid := [("errors.errorType", laid_errors_errorType)] }
def SketchLeastSaid : Prop := sketchLeastRow.holds Tryd.pinned (OpenSpec.ofChange sketchLeastSpec)

/-- ITS FALSE NEIGHBOUR: 'it returns false'. Refute it at one input. -/
def sketchLeastWrong : ChangeSpec := { name := "sketchLeast", fn := fun _ => fun
  | [d1, d2, d3] => { results := [.lit (.bool false)], args := [d1, d2, d3] }
  | _ => none }
def SketchLeastWrongFalsely : Prop := sketchLeastRow.holds Tryd.pinned (OpenSpec.ofChange sketchLeastWrong)

/-- 'butterylaw37.SketchAges': WHATEVER THE INPUT: true; the input reads as it did. -/
def sketchAgesSpec : ChangeSpec := { name := "sketchAges", fn := fun _ => fun
  | [d1, d2, d3] => { results := [.lit (.bool true)], args := [d1, d2, d3] }
  | _ => none }
def sketchAgesRow : OpenClaim := { program := "ytpjdaglblckgfaadoor", sum := "b33383850302690f468571e68856ac3f69b322e22d114f6c4f062c06dc336c3a", func := "buttery/butterylaw37.SketchAges", spec := "sketchAges", inPlace := ["internal/reflectlite.ValueOf", "(internal/reflectlite.Value).Type", "(internal/reflectlite.Value).IsNil", "internal/reflectlite.TypeOf", "(internal/reflectlite.Value).Elem", "(internal/reflectlite.Value).Set"], unfollowed := true, recurses := true, named := ["errors.errorType"], apart := false, laid := [("errors.errorType", laid_errors_errorType)] }
def SketchAgesSaid : Prop := sketchAgesRow.holds Tryd.pinned (OpenSpec.ofChange sketchAgesSpec)

/-- ITS FALSE NEIGHBOUR: 'it returns false'. Refute it at one input. -/
def sketchAgesWrong : ChangeSpec := { name := "sketchAges", fn := fun _ => fun
  | [d1, d2, d3] => { results := [.lit (.bool false)], args := [d1, d2, d3] }
  | _ => none }
def SketchAgesWrongFalsely : Prop := sketchAgesRow.holds Tryd.pinned (OpenSpec.ofChange sketchAgesWrong)

/-- 'butterylaw37.SketchMore': WHATEVER THE INPUT: true; the input reads as it did. -/
def sketchMoreSpec : ChangeSpec := { name := "sketchMore", fn := fun _ => fun
  | [d1, d2, d3, d4] => { results := [.lit (.bool true)], args := [d1, d2, d3, d4] }
  | _ => none }
def sketchMoreRow : OpenClaim := { program := "ytpjdaglblckgfaadoor", sum := "b33383850302690f468571e68856ac3f69b322e22d114f6c4f062c06dc336c3a", func := "buttery/butterylaw37.SketchMore", spec := "sketchMore", inPlace := ["internal/reflectlite.ValueOf", "(internal/reflectlite.Value).Type", "(internal/reflectlite.Value).IsNil", "internal/reflectlite.TypeOf", "(internal/reflectlite.Value).Elem", "(internal/reflectlite.Value).Set"], unfollowed := true, recurses := true, named := ["errors.errorType"], apart := false, laid := [("errors.errorType", laid_errors_errorType)] }
def SketchMoreSaid : Prop := sketchMoreRow.holds Tryd.pinned (OpenSpec.ofChange sketchMoreSpec)

/-- ITS FALSE NEIGHBOUR: 'it returns false'. Refute it at one input. -/
def sketchMoreWrong : ChangeSpec := { name := "sketchMore", fn := fun _ => fun
  | [d1, d2, d3, d4] => { results := [.lit (.bool false)], args := [d1, d2, d3, d4] }
  | _ => none }
def SketchMoreWrongFalsely : Prop := sketchMoreRow.holds Tryd.pinned (OpenSpec.ofChange sketchMoreWrong)

/-- 'butterylaw37.SketchDoes': WHATEVER THE INPUT: true; the input reads as it did. -/
def sketchDoesSpec : ChangeSpec := { name := "sketchDoes", fn := fun _ => fun
  | [d1, d2, d3, d4, d5] => { results := [.lit (.bool true)], args := [d1, d2, d3, d4, d5] }
  | _ => none }
def sketchDoesRow : OpenClaim := { program := "ytpjdaglblckgfaadoor", sum := "b33383850302690f468571e68856ac3f69b322e22d114f6c4f062c06dc336c3a", func := "buttery/butterylaw37.SketchDoes", spec := "sketchDoes", inPlace := ["internal/reflectlite.ValueOf", "(internal/reflectlite.Value).Type", "(internal/reflectlite.Value).IsNil", "internal/reflectlite.TypeOf", "(internal/reflectlite.Value).Elem", "(internal/reflectlite.Value).Set"], unfollowed := true, recurses := true, named := ["errors.errorType"], apart := false, laid := [("errors.errorType", laid_errors_errorType)] }
def SketchDoesSaid : Prop := sketchDoesRow.holds Tryd.pinned (OpenSpec.ofChange sketchDoesSpec)

/-- ITS FALSE NEIGHBOUR: 'it returns false'. Refute it at one input. -/
def sketchDoesWrong : ChangeSpec := { name := "sketchDoes", fn := fun _ => fun
  | [d1, d2, d3, d4, d5] => { results := [.lit (.bool false)], args := [d1, d2, d3, d4, d5] }
  | _ => none }
def SketchDoesWrongFalsely : Prop := sketchDoesRow.holds Tryd.pinned (OpenSpec.ofChange sketchDoesWrong)

/-- 'butterylaw37.SketchJoins': WHATEVER THE INPUT: true; the input reads as it did. -/
def sketchJoinsSpec : ChangeSpec := { name := "sketchJoins", fn := fun _ => fun
  | [d1, d2, d3, d4, d5] => { results := [.lit (.bool true)], args := [d1, d2, d3, d4, d5] }
  | _ => none }
def sketchJoinsRow : OpenClaim := { program := "ytpjdaglblckgfaadoor", sum := "b33383850302690f468571e68856ac3f69b322e22d114f6c4f062c06dc336c3a", func := "buttery/butterylaw37.SketchJoins", spec := "sketchJoins", inPlace := ["internal/reflectlite.ValueOf", "(internal/reflectlite.Value).Type", "(internal/reflectlite.Value).IsNil", "internal/reflectlite.TypeOf", "(internal/reflectlite.Value).Elem", "(internal/reflectlite.Value).Set"], unfollowed := true, recurses := true, named := ["errors.errorType"], apart := false, laid := [("errors.errorType", laid_errors_errorType)] }
def SketchJoinsSaid : Prop := sketchJoinsRow.holds Tryd.pinned (OpenSpec.ofChange sketchJoinsSpec)

/-- ITS FALSE NEIGHBOUR: 'it returns false'. Refute it at one input. -/
def sketchJoinsWrong : ChangeSpec := { name := "sketchJoins", fn := fun _ => fun
  | [d1, d2, d3, d4, d5] => { results := [.lit (.bool false)], args := [d1, d2, d3, d4, d5] }
  | _ => none }
def SketchJoinsWrongFalsely : Prop := sketchJoinsRow.holds Tryd.pinned (OpenSpec.ofChange sketchJoinsWrong)

/-- 'butterylaw37.SketchHot': WHATEVER THE INPUT: true; the input reads as it did. -/
def sketchHotSpec : ChangeSpec := { name := "sketchHot", fn := fun _ => fun
  | [d1, d2, d3, d4] => { results := [.lit (.bool true)], args := [d1, d2, d3, d4] }
  | _ => none }
def sketchHotRow : OpenClaim := { program := "ytpjdaglblckgfaadoor", sum := "b33383850302690f468571e68856ac3f69b322e22d114f6c4f062c06dc336c3a", func := "buttery/butterylaw37.SketchHot", spec := "sketchHot", inPlace := ["internal/reflectlite.ValueOf", "(internal/reflectlite.Value).Type", "(internal/reflectlite.Value).IsNil", "internal/reflectlite.TypeOf", "(internal/reflectlite.Value).Elem", "(internal/reflectlite.Value).Set", "slices.overlaps[string]"], unfollowed := true, recurses := true, named := ["errors.errorType"], apart := false, laid := [("errors.errorType", laid_errors_errorType)] }
def SketchHotSaid : Prop := sketchHotRow.holds Tryd.pinned (OpenSpec.ofChange sketchHotSpec)

/-- ITS FALSE NEIGHBOUR: 'it returns false'. Refute it at one input. -/
def sketchHotWrong : ChangeSpec := { name := "sketchHot", fn := fun _ => fun
  | [d1, d2, d3, d4] => { results := [.lit (.bool false)], args := [d1, d2, d3, d4] }
  | _ => none }
def SketchHotWrongFalsely : Prop := sketchHotRow.holds Tryd.pinned (OpenSpec.ofChange sketchHotWrong)

/- THE SECOND FORM. 'bulk': how many values and letters a reading holds, each counted each time it is reached (what is shared counts as often as it is met; a slice's spare places count too). A statement '..UptoSaid' is the law's where the arguments, and the package variables that the reading takes, are together of bulk at most 1048576: NARROWER than '..Said'. Prove '..Said' where nothing that the law and all that it calls make is longer than what came in: it says more and counts as full. Else prove '..UptoSaid'. A law counts once. -/
mutual
def uptoBulk {H : Type} : DataW H → Nat
  | .lit (.string bytes) => bytes.length + 1
  | .lit _ => 1
  | .nil => 1
  | .ptr d => uptoBulk d + 1
  | .slice elems spare => uptoBulkAll elems + uptoBulkAll spare + 1
  | .agg parts => uptoBulkAll parts + 1
  | .iface _ d => uptoBulk d + 1
  | .map entries => uptoBulkEntries entries + 1
  | .held _ => 1
def uptoBulkAll {H : Type} : List (DataW H) → Nat
  | [] => 0
  | d :: r => uptoBulk d + uptoBulkAll r
def uptoBulkEntries {H : Type} : List (Lit × DataW H) → Nat
  | [] => 0
  | x :: r => uptoBulkEntry x + uptoBulkEntries r
def uptoBulkEntry {H : Type} : Lit × DataW H → Nat
  | (.string bytes, d) => bytes.length + uptoBulk d + 1
  | (_, d) => uptoBulk d + 1
 end
def uptoSmall : (H : Type) → List (DataW H) → Bool := fun _ ds => decide (uptoBulkAll ds ≤ 1048576)
def OpenSpec.upto (s : _root_.Go.ChangeSpec) : _root_.Go.OpenSpec := { _root_.Go.OpenSpec.ofChange s with cond := some uptoSmall }

/-- 'butterylaw37.SketchLeast', WHERE WHAT IT READS IS OF BULK AT MOST 1048576: true; the input reads as it did. -/
def sketchLeastUptoRow : OpenClaim := { program := "ytpjdaglblckgfaadoor", sum := "b33383850302690f468571e68856ac3f69b322e22d114f6c4f062c06dc336c3a", func := "buttery/butterylaw37.SketchLeast", spec := "sketchLeast", inPlace := ["internal/reflectlite.ValueOf", "(internal/reflectlite.Value).Type", "(internal/reflectlite.Value).IsNil", "internal/reflectlite.TypeOf", "(internal/reflectlite.Value).Elem", "(internal/reflectlite.Value).Set"], unfollowed := true, recurses := true, named := ["errors.errorType"], apart := false, laid := [("errors.errorType", laid_errors_errorType)], narrowed := true }
def SketchLeastUptoSaid : Prop := sketchLeastUptoRow.holds Tryd.pinned (OpenSpec.upto sketchLeastSpec)

/-- 'butterylaw37.SketchAges', WHERE WHAT IT READS IS OF BULK AT MOST 1048576: true; the input reads as it did. -/
def sketchAgesUptoRow : OpenClaim := { program := "ytpjdaglblckgfaadoor", sum := "b33383850302690f468571e68856ac3f69b322e22d114f6c4f062c06dc336c3a", func := "buttery/butterylaw37.SketchAges", spec := "sketchAges", inPlace := ["internal/reflectlite.ValueOf", "(internal/reflectlite.Value).Type", "(internal/reflectlite.Value).IsNil", "internal/reflectlite.TypeOf", "(internal/reflectlite.Value).Elem", "(internal/reflectlite.Value).Set"], unfollowed := true, recurses := true, named := ["errors.errorType"], apart := false, laid := [("errors.errorType", laid_errors_errorType)], narrowed := true }
def SketchAgesUptoSaid : Prop := sketchAgesUptoRow.holds Tryd.pinned (OpenSpec.upto sketchAgesSpec)

/-- 'butterylaw37.SketchMore', WHERE WHAT IT READS IS OF BULK AT MOST 1048576: true; the input reads as it did. -/
def sketchMoreUptoRow : OpenClaim := { program := "ytpjdaglblckgfaadoor", sum := "b33383850302690f468571e68856ac3f69b322e22d114f6c4f062c06dc336c3a", func := "buttery/butterylaw37.SketchMore", spec := "sketchMore", inPlace := ["internal/reflectlite.ValueOf", "(internal/reflectlite.Value).Type", "(internal/reflectlite.Value).IsNil", "internal/reflectlite.TypeOf", "(internal/reflectlite.Value).Elem", "(internal/reflectlite.Value).Set"], unfollowed := true, recurses := true, named := ["errors.errorType"], apart := false, laid := [("errors.errorType", laid_errors_errorType)], narrowed := true }
def SketchMoreUptoSaid : Prop := sketchMoreUptoRow.holds Tryd.pinned (OpenSpec.upto sketchMoreSpec)

/-- 'butterylaw37.SketchDoes', WHERE WHAT IT READS IS OF BULK AT MOST 1048576: true; the input reads as it did. -/
def sketchDoesUptoRow : OpenClaim := { program := "ytpjdaglblckgfaadoor", sum := "b33383850302690f468571e68856ac3f69b322e22d114f6c4f062c06dc336c3a", func := "buttery/butterylaw37.SketchDoes", spec := "sketchDoes", inPlace := ["internal/reflectlite.ValueOf", "(internal/reflectlite.Value).Type", "(internal/reflectlite.Value).IsNil", "internal/reflectlite.TypeOf", "(internal/reflectlite.Value).Elem", "(internal/reflectlite.Value).Set"], unfollowed := true, recurses := true, named := ["errors.errorType"], apart := false, laid := [("errors.errorType", laid_errors_errorType)], narrowed := true }
def SketchDoesUptoSaid : Prop := sketchDoesUptoRow.holds Tryd.pinned (OpenSpec.upto sketchDoesSpec)

/-- 'butterylaw37.SketchJoins', WHERE WHAT IT READS IS OF BULK AT MOST 1048576: true; the input reads as it did. -/
def sketchJoinsUptoRow : OpenClaim := { program := "ytpjdaglblckgfaadoor", sum := "b33383850302690f468571e68856ac3f69b322e22d114f6c4f062c06dc336c3a", func := "buttery/butterylaw37.SketchJoins", spec := "sketchJoins", inPlace := ["internal/reflectlite.ValueOf", "(internal/reflectlite.Value).Type", "(internal/reflectlite.Value).IsNil", "internal/reflectlite.TypeOf", "(internal/reflectlite.Value).Elem", "(internal/reflectlite.Value).Set"], unfollowed := true, recurses := true, named := ["errors.errorType"], apart := false, laid := [("errors.errorType", laid_errors_errorType)], narrowed := true }
def SketchJoinsUptoSaid : Prop := sketchJoinsUptoRow.holds Tryd.pinned (OpenSpec.upto sketchJoinsSpec)

/-- 'butterylaw37.SketchHot', WHERE WHAT IT READS IS OF BULK AT MOST 1048576: true; the input reads as it did. -/
def sketchHotUptoRow : OpenClaim := { program := "ytpjdaglblckgfaadoor", sum := "b33383850302690f468571e68856ac3f69b322e22d114f6c4f062c06dc336c3a", func := "buttery/butterylaw37.SketchHot", spec := "sketchHot", inPlace := ["internal/reflectlite.ValueOf", "(internal/reflectlite.Value).Type", "(internal/reflectlite.Value).IsNil", "internal/reflectlite.TypeOf", "(internal/reflectlite.Value).Elem", "(internal/reflectlite.Value).Set", "slices.overlaps[string]"], unfollowed := true, recurses := true, named := ["errors.errorType"], apart := false, laid := [("errors.errorType", laid_errors_errorType)], narrowed := true }
def SketchHotUptoSaid : Prop := sketchHotUptoRow.holds Tryd.pinned (OpenSpec.upto sketchHotSpec)

end Rows
end Go.Proofs.YtpjdaglblckgfaaDoor
