/- What the list of a row gives: the one variable's cell; a world for the witness, with two more tables laid. After the guide's ToyasProofs and the library's laidMet_laidAll. -/
import Derived.Test.YtgfljpchdiapeaaDoorCards
import Derived.Test.YtgfljpchdiapeaaDoorGB
import Derived.WalkKit
import Derived.ProofKit
import Derived.OpenShut
import Derived.Deep.DeepHandedRow
import Derived.Lib.LaidTab
import Derived.Lay
import Derived.LaidLaws
import Derived.LaidHandle
import Derived.Stop.Joined
import Derived.SevenTiedAt
import Derived.RowKitTokens
import Derived.Shelf.Vars
namespace Go.Proofs.YtgfljpchdiapeaaDoor
open Go.ChangeShapes Go.WideShapes Go.RowKit
theorem own : ownKnob Tryd.prog.godebug = none := by kernel_rfl
theorem laidOut : laidOutB Tryd.prog = true := by kernel_rfl
theorem hd_et : Tryd.prog.globalNamed "errors.errorType" = some 0 := by kernel_rfl
theorem hd_rt : (Tryd.prog.cutTypes.find? (·.1 == "internal/reflectlite.rtype")).map (·.2) = some 126 := by kernel_rfl
theorem hd_oneRow : ((List.range 182).filter fun t => Tryd.prog.rowNamed t [101, 114, 114, 111, 114]) = [34] := by kernel_rfl
theorem hd_size : Tryd.prog.types.size = 182 := by kernel_rfl
def theGreat : List (String × DataW Unit) := [("unicode/utf8.acceptRanges", Rows.laid_unicode_utf8_acceptRanges), ("unicode/utf8.first", Rows.laid_unicode_utf8_first)]
def theLaid : List (String × DataW Unit) := [("unicode/utf8.acceptRanges", Rows.laid_unicode_utf8_acceptRanges), ("errors.errorType", Rows.laid_errors_errorType), ("unicode/utf8.first", Rows.laid_unicode_utf8_first)]
theorem laid_rest : (theLaid.filter fun x => x.2.handleName?.isNone) = theGreat := by kernel_rfl
theorem laid_hand : (theLaid.filter fun x => x.2.handleName?.isSome) = [("errors.errorType", Rows.laid_errors_errorType)] := by kernel_rfl
theorem handle_of_laid {W : World} (h : laidMetH Tryd.prog theLaid W) : HG W := by
  have h' : handlesMet Tryd.prog [("errors.errorType", Rows.laid_errors_errorType)] W := by
    unfold laidMetH at h
    rw [laid_hand] at h
    exact h.2
  obtain ⟨name, u, ty, e1, e2, e3, e4, e5⟩ := h' _ (List.mem_singleton.2 rfl)
  have en : name = [101, 114, 114, 111, 114] := (Option.some.inj e1).symm
  subst en
  obtain rfl := Option.some.inj (hd_rt.symm.trans e2)
  have hm : ty ∈ (List.range 182).filter fun t => Tryd.prog.rowNamed t [101, 114, 114, 111, 114] := List.mem_filter.2 ⟨List.mem_range.2 (by rw [← hd_size]; exact e3), e4⟩
  rw [hd_oneRow] at hm
  obtain rfl := List.mem_singleton.1 hm
  have hh : typeHandle Tryd.prog 34 = .pointer (some ⟨4, 34, none⟩) := by kernel_rfl
  rw [hh] at e5
  have h6 := World.var?_cell hd_et e5 0
  simp at h6
  exact h6
theorem mx_of_shaped {W : World} (h : W.ShapedOpen Tryd.prog) : MX W :=
  cell_of_shapedOpen_int (t := 3) (zero := #[.int .i64 0]) h (of_decide_eq_true (by kernel_rfl)) (by kernel_rfl) rfl (by kernel_rfl) (by kernel_rfl) Tryd.underlying3
theorem bsV_all (x : ByteArray) : ∃ l : Bs, x = bsV l := ⟨x.data.toList, by cases x; simp [bsV]⟩
noncomputable def baseWorld (os : Os) : World :=
  let w0 := World.holding Tryd.prog os ⟨#[], #[], []⟩
  { w0 with heap := w0.heap.modify 0 fun
      | .cells _ t frozen => .cells #[.iface 126 (.agg #[.pointer (some ⟨4, 34, none⟩)])] t frozen
      | o => o }
noncomputable def laidWorld (os : Os) : World := (baseWorld os).layVars Tryd.prog theGreat
theorem laid_fits (os : Os) : (baseWorld os).layFits Tryd.prog theGreat [] = true := by kernel_rfl
theorem laid_ifs (os : Os) : (baseWorld os).layIfaces Tryd.prog theGreat (laidWorld os) = true := by kernel_rfl
theorem laid_tables (os : Os) (args : Array Value) : laidMet Tryd.prog theGreat ((laidWorld os).forCall (fun _ _ => 0) ⟨#[], args, []⟩).memory := by
  have e1 : (theGreat.filter fun x => (theGreat.map (·.1)).contains x.1) = theGreat := List.filter_eq_self.2 fun x hx => List.contains_iff_mem.2 (List.mem_map.2 ⟨x, hx, rfl⟩)
  have e2 : (theGreat.filter fun x => !(theGreat.map (·.1)).contains x.1) = [] := List.filter_eq_nil_iff.2 fun x hx => by rw [List.contains_iff_mem.2 (List.mem_map.2 ⟨x, hx, rfl⟩)]; simp
  have h : laidMet Tryd.prog theGreat (laidWorld os) := laidMet_layVars (w0 := baseWorld os) (theGreat.map (·.1)) [] (by rw [e1]; rfl) (by rw [e1]; exact laid_fits os) (by rw [e1]; exact laid_ifs os) (by rw [e2]; exact LaidIn.none)
  exact h.of_heap (by simp [World.memory, World.forCall, Input.heap])
end Go.Proofs.YtgfljpchdiapeaaDoor
