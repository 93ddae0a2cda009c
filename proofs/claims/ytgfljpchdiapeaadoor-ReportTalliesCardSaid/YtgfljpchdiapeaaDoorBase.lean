/- Small words that all texts of this seat use: slices that are read, slices that were made. -/
import Derived.Test.YtgfljpchdiapeaaDoorWWords
import Derived.Test.YtgfljpchdiapeaaDoorChg
import Derived.Lib.Hide
namespace Go.Proofs.YtgfljpchdiapeaaDoor
set_option linter.unusedVariables false
open Go.RowKit Go.Proofs.YtgfljpchdiapeaaDoorW.PrintWords

/-- Elements, by a name that simp leaves alone. -/
def sget (xs : List ByteArray) (k : Nat) : ByteArray := xs.getD k ByteArray.empty
def iget (xs : List Int) (k : Nat) : Int := xs.getD k 0
theorem sget_eq {xs : List ByteArray} {k : Nat} (h : k < xs.length) : sget xs k = xs[k] := by simp [sget, h]
theorem iget_eq {xs : List Int} {k : Nat} (h : k < xs.length) : iget xs k = xs[k] := by simp [iget, h]
theorem take_s {xs : List ByteArray} {k : Nat} (h : k < xs.length) : xs.take (k + 1) = xs.take k ++ [sget xs k] := by rw [List.take_succ_eq_append_getElem h, sget_eq h]
theorem take_i {xs : List Int} {k : Nat} (h : k < xs.length) : xs.take (k + 1) = xs.take k ++ [iget xs k] := by rw [List.take_succ_eq_append_getElem h, iget_eq h]
theorem at_str {w : World} {A : Option Addr} {n : Nat} {xs : List ByteArray} (h : Kd.string.C w A n xs) {k : Nat} (hk : k < n) : ∃ ad, A = some ad ∧ w.cell? (ad.add k) = some (.string (sget xs k)) := by
  obtain ⟨ad, e, hc⟩ := Kd.at_string h (k : Int) (by omega) (by omega)
  exact ⟨ad, e, by simpa [rdOf, sget] using hc⟩
theorem at_num {ik : IntKind} {w : World} {A : Option Addr} {n : Nat} {xs : List Int} (h : (Kd.int ik).C w A n xs) {k : Nat} (hk : k < n) : ∃ ad, A = some ad ∧ w.cell? (ad.add k) = some (.int ik (iget xs k)) := by
  obtain ⟨ad, e, hc⟩ := Kd.at_int h (k : Int) (by omega) (by omega)
  exact ⟨ad, e, by simpa [rd, iget] using hc⟩
theorem ret_bool {a b : Bool} (h : a = b) : Ending.returned (.bool a) = .returned (.bool b) := by rw [h]
theorem C_len {α : Type} {d : Kd α} {w : World} {A : Option Addr} {n : Nat} {xs : List α} (h : d.C w A n xs) : xs.length = n := h.1
theorem info_int : (Tryd.prog.info? 3).map (fun i => (i.zero, i.size, i.bytes)) = some (some (.int .i64 0), 1, 8) := by kernel_rfl
theorem info_str : (Tryd.prog.info? 9).map (fun i => (i.zero, i.size, i.bytes)) = some (some (.string ⟨#[]⟩), 1, 16) := by kernel_rfl
end Go.Proofs.YtgfljpchdiapeaaDoor
