/- Two rows of numbers compared (the document's Ints). -/
import Derived.Test.YtbckbpimabmacaaDoorPRall
import Derived.Test.YtbckbpimabmacaaDoorBase
namespace Go.Proofs.YtbckbpimabmacaaDoor
set_option linter.unusedVariables false
open Go.RowKit Go.Proofs.YtbckbpimabmacaaDoorW.PrintWords

theorem ints_f (l m : List Int) (hlm : l.length = m.length) (hl : l.length < 9223372036854775807) : ∀ (n k i : Nat), i + n = l.length → n < k → PR.butteryref02_Ints.l0 k l m i = some (decide (l.drop i = m.drop i))
  | 0, k + 1, i, h1, h2 => by
    rw [PR.butteryref02_Ints.l0, if_neg (by omega), List.drop_of_length_le (by omega), List.drop_of_length_le (by omega)]
    simp
  | n + 1, k + 1, i, h1, h2 => by
    have hi : i < l.length := by omega
    have hi2 : i < m.length := by omega
    have hr : rd l (i : Int) = l[i] := by simp [rd, hi]
    have hr2 : rd m (i : Int) = m[i] := by simp [rd, hi2]
    have hw : wrap64 ((i : Int) + 1) = ((i + 1 : Nat) : Int) := by unfold wrap64; omega
    rw [PR.butteryref02_Ints.l0, if_pos (by omega), if_pos (by omega), if_pos (by omega), hr, hr2, hw, List.drop_eq_getElem_cons hi, List.drop_eq_getElem_cons hi2]
    by_cases he : l[i] = m[i]
    · rw [if_pos he, ints_f l m hlm hl n k (i + 1) (by omega) (by omega)]
      exact congrArg some (decide_eq_decide.2 ⟨fun e => by rw [e, he], fun e => (List.cons.inj e).2⟩)
    · rw [if_neg he]
      exact congrArg some (decide_eq_false (fun e => he (List.cons.inj e).1)).symm
theorem ints_any (A B : Option Addr) (c d : Nat) (l m : List Int) (w : World) (hC : (Kd.int .i64).C w A l.length l) (hc : l.length ≤ c) (hD : (Kd.int .i64).C w B m.length m) (hd : m.length ≤ d) (hl : l.length < 1000000) :
    Calls Tryd.prog 33 #[.slice A l.length c, .slice B m.length d] w fun e w' => e = .returned (.bool (decide (l = m))) ∧ ∃ n, w' = w.drewN n := by
  refine (PR.butteryref02_Ints.calls (l.length + 2) A c l B d m (decide (l = m)) w hC hc hD hd ?_).mono fun e w' ⟨he, hdr⟩ => ⟨he, hdr.out⟩
  unfold PR.butteryref02_Ints.f
  by_cases hlm : l.length = m.length
  · rw [if_pos (by omega)]
    have := ints_f l m hlm (by omega) l.length (l.length + 2) 0 (by omega) (by omega)
    simpa using this
  · rw [if_neg (by omega)]
    have : ¬ l = m := fun e => hlm (by rw [e])
    simp [this]
end Go.Proofs.YtbckbpimabmacaaDoor
