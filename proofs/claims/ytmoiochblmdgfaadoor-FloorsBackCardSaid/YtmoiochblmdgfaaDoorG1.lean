/- Floors: lists of floors, and what the document's functions come to on them. Floors: what the printed functions Same, Of, Lift, Release come to. Results that lie in a cell; a struct of two fields written whole. Floors: contracts of the printed functions; Clone, Copy. Floors: find, Of, Dead. -/
import Derived.Test.YtmoiochblmdgfaaDoorPRall
import Derived.Test.YtmoiochblmdgfaaDoorBase
import Derived.StillTailTactics
import Derived.WalkSpells
import Derived.Lib.SliceRun
import Derived.Deep.RegionHeld3
import Derived.Deep.DrawnRows
import Derived.Shelf.Abstract
namespace Go.Proofs.YtmoiochblmdgfaaDoor
set_option linter.unusedVariables false
open Go.RowKit Go.Proofs.YtmoiochblmdgfaaDoorW.PrintWords

abbrev Fl : Type := PR.S43
abbrev kF : Kd Fl := PR.k43
theorem Fl.ext {x y : Fl} (h0 : x.f0 = y.f0) (h1 : x.f1 = y.f1) : x = y := by
  cases x; cases y
  dsimp only at h0 h1
  rw [h0, h1]
instance decFl : DecidableEq Fl := fun x y => decidable_of_iff (x.f0 = y.f0 ∧ x.f1 = y.f1) ⟨fun h => Fl.ext h.1 h.2, fun h => by rw [h]; exact ⟨rfl, rfl⟩⟩
def fget (L : List Fl) (k : Nat) : Fl := L.getD k ⟨0, 0⟩
theorem fget_eq {L : List Fl} {k : Nat} (h : k < L.length) : fget L k = L[k] := by simp [fget, h]
theorem rdF {L : List Fl} {i : Nat} (h : i < L.length) : PR.rd_T43 L (i : Int) = L[i] := by simp [PR.rd_T43, h]
theorem wrap_up (i : Nat) (h : i < 9000000000000000000) : wrap64 ((i : Int) + 1) = ((i + 1 : Nat) : Int) := by unfold wrap64; omega
theorem wrap_dn (i : Nat) (h : i < 9000000000000000000) : wrap64 (((i + 1 : Nat) : Int) - 1) = (i : Int) := by unfold wrap64; omega

def prevBad : Option Int → Fl → Bool
  | some p, x => decide (x.f0 ≤ p)
  | none, _ => false
/-- What is wrong with a row of floors, from one on: the code. -/
def chkG (low : Int) : Option Int → List Fl → Int
  | _, [] => 0
  | pv, x :: r => if prevBad pv x = true then 1 else if x.f1 ≤ low ∨ 1099511627776 < x.f1 then 2 else chkG low (some x.f0) r
def chk (low : Int) (L : List Fl) : Int := if low < 0 ∨ 1099511627776 < low then 2 else if 12 < L.length then 17 else chkG low none L
def pvOf (L : List Fl) : Nat → Option Int
  | 0 => none
  | i + 1 => some (fget L i).f0

theorem check_l (low : Int) (L : List Fl) (hL : L.length < 1000) : ∀ (n k i : Nat), i + n = L.length → 2 * n < k → PR.butteryref16_Check.l0 k i low L = some (chkG low (pvOf L i) (L.drop i))
  | 0, k + 1, i, h1, h2 => by
    rw [PR.butteryref16_Check.l0, if_neg (by omega), List.drop_of_length_le (by omega)]
    rfl
  | n + 1, k + 2, i, h1, h2 => by
    have hi : i < L.length := by omega
    have ih := check_l low L hL n k (i + 1) (by omega) (by omega)
    have hj : ∀ c : Bool, c = prevBad (pvOf L i) L[i] → PR.butteryref16_Check.j2 (k + 1) i c low L = some (chkG low (pvOf L i) (L[i] :: L.drop (i + 1))) := fun c hc => by
      rw [PR.butteryref16_Check.j2, chkG, ← hc]
      by_cases h3 : c = true
      · rw [if_pos h3, if_pos h3]
      · rw [if_neg h3, if_neg h3, if_pos (by omega), if_pos (by omega), rdF hi]
        by_cases h4 : L[i].f1 ≤ low
        · rw [if_pos h4, if_pos (.inl h4)]
        · rw [if_neg h4]
          by_cases h5 : L[i].f1 > 1099511627776
          · rw [if_pos h5, if_pos (.inr h5)]
          · rw [if_neg h5, if_neg (show ¬ (L[i].f1 ≤ low ∨ 1099511627776 < L[i].f1) from fun h => h.elim h4 h5), wrap_up i (by omega), ih]
            show some (chkG low (some (fget L i).f0) _) = _
            rw [fget_eq hi]
    rw [PR.butteryref16_Check.l0, if_pos (by omega), List.drop_eq_getElem_cons hi]
    rcases i with _ | i
    · rw [if_neg (by decide)]
      exact hj false rfl
    · have hi' : i < L.length := by omega
      rw [if_pos (by omega), if_pos (by omega), wrap_dn i (by omega), if_pos (by omega), if_pos (by omega), rdF hi, rdF hi']
      refine hj _ ?_
      show _ = decide (L[i + 1].f0 ≤ (fget L i).f0)
      rw [fget_eq hi']
theorem refCheck_f (low : Int) (L : List Fl) (hL : L.length < 1000) : PR.butteryref16_Check.f (2 * L.length + 5) low L = some (chk low L) := by
  have hl : ¬ 12 < L.length → PR.butteryref16_Check.l0 (2 * L.length + 4) 0 low L = some (chkG low none L) := fun _ => by
    have := check_l low L hL L.length (2 * L.length + 4) 0 (by omega) (by omega)
    rw [List.drop_zero] at this
    exact this
  unfold PR.butteryref16_Check.f chk
  by_cases h1 : low < 0
  · rw [if_pos h1, if_pos (.inl h1), PR.butteryref16_Check.j0, if_pos rfl]
  · rw [if_neg h1, PR.butteryref16_Check.j0]
    by_cases h2 : low > 1099511627776
    · rw [if_pos (by simpa using h2), if_pos (.inr h2)]
    · rw [if_neg (by simpa using h2), if_neg (show ¬ (low < 0 ∨ 1099511627776 < low) from fun h => h.elim h1 h2)]
      by_cases h3 : 12 < L.length
      · rw [if_pos (show (L.length : Int) > 12 by omega), if_pos h3]
      · rw [if_neg (show ¬ (L.length : Int) > 12 by omega), if_neg h3]
        exact hl h3

/-- What is wrong first: its kind, and where. -/
def lookG (low : Int) : Nat → Option Int → List Fl → Int × Int
  | _, _, [] => (0, 0)
  | i, pv, x :: r => if prevBad pv x = true then (3, i) else if x.f1 ≤ low ∨ 1099511627776 < x.f1 then (4, i) else lookG low (i + 1) (some x.f0) r
def look (low : Int) (L : List Fl) : Int × Int := if low < 0 ∨ 1099511627776 < low then (1, low) else if 12 < L.length then (2, L.length) else lookG low 0 none L
def whatCode (n : Int) : Int := if n = 1 then 2 else if n = 2 then 17 else if n = 3 then 1 else if n = 4 then 2 else 0
theorem lookG_chk (low : Int) : ∀ (L : List Fl) i pv, whatCode (lookG low i pv L).1 = chkG low pv L ∧ (0 ≤ (lookG low i pv L).1 ∧ (lookG low i pv L).1 ≤ 4)
  | [], i, pv => ⟨rfl, by simp [lookG]⟩
  | x :: r, i, pv => by
    rw [lookG, chkG]
    by_cases h1 : prevBad pv x = true
    · rw [if_pos h1, if_pos h1]
      exact ⟨rfl, by dsimp only; omega⟩
    · rw [if_neg h1, if_neg h1]
      by_cases h2 : x.f1 ≤ low ∨ 1099511627776 < x.f1
      · rw [if_pos h2, if_pos h2]
        exact ⟨rfl, by dsimp only; omega⟩
      · rw [if_neg h2, if_neg h2]
        exact lookG_chk low r (i + 1) (some x.f0)
theorem look_chk (low : Int) (L : List Fl) : whatCode (look low L).1 = chk low L ∧ (0 ≤ (look low L).1 ∧ (look low L).1 ≤ 4) := by
  unfold look chk
  by_cases h1 : low < 0 ∨ 1099511627776 < low
  · rw [if_pos h1, if_pos h1]
    exact ⟨rfl, by dsimp only; omega⟩
  · rw [if_neg h1, if_neg h1]
    by_cases h2 : 12 < L.length
    · rw [if_pos h2, if_pos h2]
      exact ⟨rfl, by dsimp only; omega⟩
    · rw [if_neg h2, if_neg h2]
      exact lookG_chk low L 0 none
theorem look_l (low : Int) (L : List Fl) (hL : L.length < 1000) : ∀ (n k i : Nat), i + n = L.length → 2 * n < k → PR.floors_look.l0 k L L.length i low L = some (lookG low i (pvOf L i) (L.drop i))
  | 0, k + 1, i, h1, h2 => by
    rw [PR.floors_look.l0, if_neg (by omega), List.drop_of_length_le (by omega)]
    rfl
  | n + 1, k + 2, i, h1, h2 => by
    have hi : i < L.length := by omega
    have ih := look_l low L hL n k (i + 1) (by omega) (by omega)
    have hj : ∀ c : Bool, c = prevBad (pvOf L i) L[i] → PR.floors_look.j2 (k + 1) i L L.length i c low L L[i].f0 L[i].f1 = some (lookG low i (pvOf L i) (L[i] :: L.drop (i + 1))) := fun c hc => by
      rw [PR.floors_look.j2, lookG, ← hc]
      by_cases h3 : c = true
      · rw [if_pos h3, if_pos h3]
      · rw [if_neg h3, if_neg h3]
        by_cases h4 : L[i].f1 ≤ low
        · rw [if_pos h4, if_pos (.inl h4)]
        · rw [if_neg h4]
          by_cases h5 : L[i].f1 > 1099511627776
          · rw [if_pos h5, if_pos (.inr h5)]
          · rw [if_neg h5, if_neg (show ¬ (L[i].f1 ≤ low ∨ 1099511627776 < L[i].f1) from fun h => h.elim h4 h5), wrap_up i (by omega), ih]
            show some (lookG low (i + 1) (some (fget L i).f0) _) = _
            rw [fget_eq hi]
    rw [PR.floors_look.l0, if_pos (by omega), if_pos (by omega), if_pos (by omega), List.drop_eq_getElem_cons hi]
    rcases i with _ | i
    · rw [if_neg (by decide), rdF hi]
      exact hj false rfl
    · have hi' : i < L.length := by omega
      rw [if_pos (by omega), wrap_dn i (by omega), if_pos (by omega), if_pos (by omega), rdF hi, rdF hi']
      refine hj _ ?_
      show _ = decide (L[i + 1].f0 ≤ (fget L i).f0)
      rw [fget_eq hi']
theorem look_f (low : Int) (L : List Fl) (hL : L.length < 1000) : PR.floors_look.f (2 * L.length + 5) low L = some (look low L) := by
  have hl : PR.floors_look.l0 (2 * L.length + 4) L L.length 0 low L = some (lookG low 0 none L) := by
    have := look_l low L hL L.length (2 * L.length + 4) 0 (by omega) (by omega)
    rw [List.drop_zero] at this
    exact this
  unfold PR.floors_look.f look
  by_cases h1 : low < 0
  · rw [if_pos h1, if_pos (.inl h1), PR.floors_look.j0, if_pos rfl]
  · rw [if_neg h1, PR.floors_look.j0]
    by_cases h2 : low > 1099511627776
    · rw [if_pos (by simpa using h2), if_pos (.inr h2)]
    · rw [if_neg (by simpa using h2), if_neg (show ¬ (low < 0 ∨ 1099511627776 < low) from fun h => h.elim h1 h2)]
      by_cases h3 : 12 < L.length
      · rw [if_pos (show (L.length : Int) > 12 by omega), if_pos h3]
      · rw [if_neg (show ¬ (L.length : Int) > 12 by omega), if_neg h3]
        exact hl
end Go.Proofs.YtmoiochblmdgfaaDoor
namespace Go.Proofs.YtmoiochblmdgfaaDoor
set_option linter.unusedVariables false
open Go.RowKit Go.Proofs.YtmoiochblmdgfaaDoorW.PrintWords

theorem fl_ne (x y : Fl) : ((!(x.f0 == y.f0) || (!(x.f1 == y.f1))) = true) ↔ ¬ x = y := by
  constructor
  · intro h e
    rw [e] at h
    simp at h
  · intro h
    by_cases h0 : x.f0 = y.f0
    · by_cases h1 : x.f1 = y.f1
      · exact absurd (Fl.ext h0 h1) h
      · simp [h1]
    · simp [h0]
theorem eqFl_l (L M : List Fl) (hlm : L.length = M.length) (hL : L.length < 1000) : ∀ (n k i : Nat), i + n = L.length → n < k → PR.api_Floor.l0 k L M L.length i = some (decide (L.drop i = M.drop i))
  | 0, k + 1, i, h1, h2 => by
    rw [PR.api_Floor.l0, if_neg (by omega), List.drop_of_length_le (by omega), List.drop_of_length_le (by omega)]
    simp
  | n + 1, k + 1, i, h1, h2 => by
    have hi : i < L.length := by omega
    have hi2 : i < M.length := by omega
    rw [PR.api_Floor.l0, if_pos (by omega), if_pos (by omega), if_pos (by omega), if_pos (by omega), rdF hi, rdF hi2, wrap_up i (by omega), List.drop_eq_getElem_cons hi, List.drop_eq_getElem_cons hi2]
    by_cases he : L[i] = M[i]
    · rw [if_neg (fun h => (fl_ne _ _).1 h he), eqFl_l L M hlm hL n k (i + 1) (by omega) (by omega)]
      exact congrArg some (decide_eq_decide.2 ⟨fun e => by rw [e, he], fun e => (List.cons.inj e).2⟩)
    · rw [if_pos ((fl_ne _ _).2 he)]
      exact congrArg some (decide_eq_false (fun e => he (List.cons.inj e).1)).symm
theorem same_f (a b : Int) (L M : List Fl) (hL : L.length < 1000) : PR.floors_Same.f (L.length + 2) a L b M = some (decide (a = b ∧ L = M)) := by
  unfold PR.floors_Same.f PR.api_Floor.f
  by_cases hab : a = b
  · rw [if_pos hab]
    by_cases hlm : L.length = M.length
    · rw [if_pos (by omega)]
      have := eqFl_l L M hlm hL L.length (L.length + 2) 0 (by omega) (by omega)
      rw [show ((0 : Nat) : Int) = 0 from rfl] at this
      rw [this]
      simp [hab]
    · rw [if_neg (by omega)]
      have : ¬ (a = b ∧ L = M) := fun e => hlm (by rw [e.2])
      simp [this]
  · rw [if_neg hab]
    simp [hab]
theorem refSame_l (a b : Int) (L M : List Fl) (hlm : L.length = M.length) (hL : L.length < 1000) : ∀ (n k i : Nat), i + n = L.length → n < k → PR.butteryref16_Same.l0 k i a L b M = some (decide (L.drop i = M.drop i))
  | 0, k + 1, i, h1, h2 => by
    rw [PR.butteryref16_Same.l0, if_neg (by omega), List.drop_of_length_le (by omega), List.drop_of_length_le (by omega)]
    simp
  | n + 1, k + 1, i, h1, h2 => by
    have hi : i < L.length := by omega
    have hi2 : i < M.length := by omega
    rw [PR.butteryref16_Same.l0, if_pos (by omega), if_pos (by omega), if_pos (by omega), rdF hi, rdF hi2, wrap_up i (by omega), List.drop_eq_getElem_cons hi, List.drop_eq_getElem_cons hi2]
    by_cases he : L[i] = M[i]
    · rw [if_neg (fun h => (fl_ne _ _).1 h he), refSame_l a b L M hlm hL n k (i + 1) (by omega) (by omega)]
      exact congrArg some (decide_eq_decide.2 ⟨fun e => by rw [e, he], fun e => (List.cons.inj e).2⟩)
    · rw [if_pos ((fl_ne _ _).2 he)]
      exact congrArg some (decide_eq_false (fun e => he (List.cons.inj e).1)).symm
theorem refSame_f (a b : Int) (L M : List Fl) (hL : L.length < 1000) : PR.butteryref16_Same.f (L.length + 3) a L b M = some (decide (a = b ∧ L = M)) := by
  unfold PR.butteryref16_Same.f
  by_cases hab : a = b
  · rw [if_pos hab, PR.butteryref16_Same.j0]
    by_cases hlm : L.length = M.length
    · rw [if_neg (by simp; omega)]
      have := refSame_l a b L M hlm hL L.length (L.length + 2) 0 (by omega) (by omega)
      rw [show ((0 : Nat) : Int) = 0 from rfl] at this
      rw [this]
      simp [hab]
    · rw [if_pos (by simp; omega)]
      have : ¬ (a = b ∧ L = M) := fun e => hlm (by rw [e.2])
      simp [this]
  · rw [if_neg hab, PR.butteryref16_Same.j0, if_pos rfl]
    simp [hab]

/-- As of when things of a hash must be. -/
def fOf (low : Int) : List Fl → Int → Int
  | [], _ => low
  | x :: r, h => if x.f0 = h then x.f1 else fOf low r h
theorem refOf_l (low h : Int) (L : List Fl) (hL : L.length < 1000) : ∀ (n k i : Nat), i + n = L.length → n < k → PR.butteryref16_Of.l0 k h i low L = some (fOf low (L.drop i) h)
  | 0, k + 1, i, h1, h2 => by
    rw [PR.butteryref16_Of.l0, if_neg (by omega), List.drop_of_length_le (by omega)]
    rfl
  | n + 1, k + 1, i, h1, h2 => by
    have hi : i < L.length := by omega
    rw [PR.butteryref16_Of.l0, if_pos (by omega), if_pos (by omega), rdF hi, wrap_up i (by omega), List.drop_eq_getElem_cons hi, fOf]
    by_cases he : L[i].f0 = h
    · rw [if_pos he, if_pos he]
    · rw [if_neg he, if_neg he, refOf_l low h L hL n k (i + 1) (by omega) (by omega)]
theorem refOf_f (low h : Int) (L : List Fl) (hL : L.length < 1000) : PR.butteryref16_Of.f (L.length + 2) low L h = some (fOf low L h) := by
  have := refOf_l low h L hL L.length (L.length + 2) 0 (by omega) (by omega)
  rw [List.drop_zero] at this
  exact this

def liftL (low : Int) (L : List Fl) : List Fl := L.filter fun x => decide (low < x.f1)
theorem liftL_cons (low : Int) (x : Fl) (r : List Fl) : liftL low (x :: r) = if low < x.f1 then x :: liftL low r else liftL low r := by
  unfold liftL
  rw [List.filter_cons]
  by_cases h : low < x.f1 <;> simp [h]
theorem lift_l (low : Int) (L : List Fl) (hL : L.length < 1000) : ∀ (n k i : Nat) (acc : List Fl), i + n = L.length → n < k → acc.length ≤ i → PR.floors_Lift.l0 k L L.length i low acc = some (low, acc ++ liftL low (L.drop i))
  | 0, k + 1, i, acc, h1, h2, h3 => by
    rw [PR.floors_Lift.l0, if_neg (by omega), List.drop_of_length_le (by omega)]
    simp [liftL]
  | n + 1, k + 1, i, acc, h1, h2, h3 => by
    have hi : i < L.length := by omega
    rw [PR.floors_Lift.l0, if_pos (by omega), if_pos (by omega), if_pos (by omega), rdF hi, wrap_up i (by omega), List.drop_eq_getElem_cons hi, liftL_cons]
    by_cases he : low < L[i].f1
    · rw [if_pos (show L[i].f1 > low from he), if_pos (by omega), if_pos he, lift_l low L hL n k (i + 1) _ (by omega) (by omega) (by simp; omega)]
      simp
    · rw [if_neg (show ¬ L[i].f1 > low from he), if_neg he, lift_l low L hL n k (i + 1) _ (by omega) (by omega) (by omega)]
def upP (low n : Int) : Int := max low (min n 1099511627776)
theorem lift_f (low n : Int) (L : List Fl) (hL : L.length < 1000) : PR.floors_Lift.f (L.length + 2) low L n = some (upP low n, liftL (upP low n) L) := by
  have he : mx low (mn n 1099511627776) = upP low n := by unfold mx mn upP; omega
  unfold PR.floors_Lift.f
  rw [he]
  have := lift_l (upP low n) L hL L.length (L.length + 2) 0 [] (by omega) (by omega) (Nat.zero_le _)
  rw [List.drop_zero, List.nil_append] at this
  exact this
theorem refLift_l (low low0 : Int) (L : List Fl) (hL : L.length < 1000) : ∀ (n k i : Nat) (acc : List Fl), i + n = L.length → n < k → acc.length ≤ i → PR.butteryref16_Lift.l0 k i low0 L low acc = some (low, acc ++ liftL low (L.drop i))
  | 0, k + 1, i, acc, h1, h2, h3 => by
    rw [PR.butteryref16_Lift.l0, if_neg (by omega), List.drop_of_length_le (by omega)]
    simp [liftL]
  | n + 1, k + 1, i, acc, h1, h2, h3 => by
    have hi : i < L.length := by omega
    rw [PR.butteryref16_Lift.l0, if_pos (by omega), if_pos (by omega), rdF hi, wrap_up i (by omega), List.drop_eq_getElem_cons hi, liftL_cons]
    by_cases he : low < L[i].f1
    · rw [if_pos (show L[i].f1 > low from he), if_pos (by omega), if_pos he, refLift_l low low0 L hL n k (i + 1) _ (by omega) (by omega) (by simp; omega)]
      simp
    · rw [if_neg (show ¬ L[i].f1 > low from he), if_neg he, refLift_l low low0 L hL n k (i + 1) _ (by omega) (by omega) (by omega)]
theorem refLift_f (low n : Int) (L : List Fl) (hL : L.length < 1000) (hlow : low ≤ 1099511627776) : PR.butteryref16_Lift.f (L.length + 4) low L n = some (upP low n, liftL (upP low n) L) := by
  have h1 := refLift_l (upP low n) low L hL L.length (L.length + 2) 0 [] (by omega) (by omega) (Nat.zero_le _)
  rw [List.drop_zero, List.nil_append] at h1
  unfold PR.butteryref16_Lift.f
  by_cases h2 : n > low
  · rw [if_pos h2, PR.butteryref16_Lift.j0]
    by_cases h3 : n > 1099511627776
    · rw [if_pos h3, PR.butteryref16_Lift.j1, ← h1, show upP low n = 1099511627776 by unfold upP; omega]
      rfl
    · rw [if_neg h3, PR.butteryref16_Lift.j1, ← h1, show upP low n = n by unfold upP; omega]
      rfl
  · rw [if_neg h2, PR.butteryref16_Lift.j0, if_neg (by omega), PR.butteryref16_Lift.j1, ← h1, show upP low n = low by unfold upP; omega]
    rfl
def relL (L : List Fl) (h : Int) : List Fl := L.filter fun x => decide (x.f0 ≠ h)
theorem relL_cons (x : Fl) (r : List Fl) (h : Int) : relL (x :: r) h = if x.f0 = h then relL r h else x :: relL r h := by
  unfold relL
  rw [List.filter_cons]
  by_cases e : x.f0 = h <;> simp [e]
theorem refRel_l (low h : Int) (L : List Fl) (hL : L.length < 1000) : ∀ (n k i : Nat) (acc : List Fl), i + n = L.length → n < k → acc.length ≤ i → PR.butteryref16_Release.l0 k h i low L low acc = some (low, acc ++ relL (L.drop i) h)
  | 0, k + 1, i, acc, h1, h2, h3 => by
    rw [PR.butteryref16_Release.l0, if_neg (by omega), List.drop_of_length_le (by omega)]
    simp [relL]
  | n + 1, k + 1, i, acc, h1, h2, h3 => by
    have hi : i < L.length := by omega
    rw [PR.butteryref16_Release.l0, if_pos (by omega), if_pos (by omega), rdF hi, wrap_up i (by omega), List.drop_eq_getElem_cons hi, relL_cons]
    by_cases he : L[i].f0 = h
    · rw [if_pos he, if_pos he, refRel_l low h L hL n k (i + 1) _ (by omega) (by omega) (by omega)]
    · rw [if_neg he, if_neg he, if_pos (by omega), refRel_l low h L hL n k (i + 1) _ (by omega) (by omega) (by simp; omega)]
      simp
theorem refRel_f (low h : Int) (L : List Fl) (hL : L.length < 1000) : PR.butteryref16_Release.f (L.length + 2) low L h = some (low, relL L h) := by
  have := refRel_l low h L hL L.length (L.length + 2) 0 [] (by omega) (by omega) (Nat.zero_le _)
  rw [List.drop_zero, List.nil_append] at this
  exact this
end Go.Proofs.YtmoiochblmdgfaaDoor
namespace Go.Proofs.YtmoiochblmdgfaaDoor
set_option linter.unusedVariables false
open Go.RowKit Go.Proofs.YtmoiochblmdgfaaDoorW.PrintWords

theorem results_c {P : Program} {fn : Func} {p : Tmp} {ty : TypeId} (h : fn.results = #[.cell p ty]) (tmps : Array Value) (w : World) (g : Nat) (t : TypeId) (cs : Array Value) (fr : Nat × Nat) (d : TypeDesc)
    (hp : tmps.getD p undef = .pointer (some ⟨g, 0, none⟩)) (hg : w.heap[g]? = some (.cells cs t fr))
    (hu : P.underlying ty = some d) (hd : (match d with | .struct _ | .array _ _ => true | _ => false) = true) (hi : (P.info? ty).map (·.size) = some cs.size) :
    (results fn tmps).run P w = .ok (.agg cs) w := by
  have hp' : tmps[p]?.getD undef = .pointer (some ⟨g, 0, none⟩) := by simpa using hp
  simp [results, h, hp', asAddr, run_loadVar_row w g t ty cs fr d hg hu hd hi]
theorem results_ct {P : Program} {fn : Func} {p q : Tmp} {ty : TypeId} (h : fn.results = #[.cell p ty, .tmp q]) (tmps : Array Value) (w : World) (g : Nat) (t : TypeId) (cs : Array Value) (fr : Nat × Nat) (d : TypeDesc)
    (hp : tmps.getD p undef = .pointer (some ⟨g, 0, none⟩)) (hg : w.heap[g]? = some (.cells cs t fr))
    (hu : P.underlying ty = some d) (hd : (match d with | .struct _ | .array _ _ => true | _ => false) = true) (hi : (P.info? ty).map (·.size) = some cs.size) :
    (results fn tmps).run P w = .ok (.tuple #[.agg cs, tmps.getD q undef]) w := by
  have hp' : tmps[p]?.getD undef = .pointer (some ⟨g, 0, none⟩) := by simpa using hp
  simp [results, h, hp', asAddr, run_loadVar_row w g t ty cs fr d hg hu hd hi]
theorem set2 {w : World} {b : Nat} {t : TypeId} {y0 y1 : Value} (h : w.heap[b]? = some (.cells #[y0, y1] t (0, 0))) (x0 x1 : Value) :
    ((w.setCell ⟨b, 0, none⟩ x0).setCell ⟨b, 1, none⟩ x1).heap[b]? = some (.cells #[x0, x1] t (0, 0)) ∧
    ∀ k, k ≠ b → ((w.setCell ⟨b, 0, none⟩ x0).setCell ⟨b, 1, none⟩ x1).heap[k]? = w.heap[k]? := by
  have h0 := blk_set h 0 x0
  have h1 := blk_set h0 1 x1
  refine ⟨by simpa using h1, fun k hk => ?_⟩
  rw [Below.heap_setCell _ _ _ _ hk, Below.heap_setCell _ _ _ _ hk]
end Go.Proofs.YtmoiochblmdgfaaDoor
namespace Go.Proofs.YtmoiochblmdgfaaDoor
set_option linter.unusedVariables false
open Go.RowKit Go.Proofs.YtmoiochblmdgfaaDoorW.PrintWords
attribute [local go_sem ↓] Go.wp_at_zero Go.wp_at_succ

theorem bel_alloc (w : World) (o : Obj) : Below w.heap.size w (w.alloc o) := (Below.refl _ _).alloc (Nat.le_refl _) _
theorem info_fl : (Tryd.prog.info? 43).map (fun i => (i.zero, i.size, i.bytes)) = some (some (.agg #[.int .u64 0, .int .i64 0]), 2, 16) := PR.info43
theorem R_emptyF (W : World) (base : Nat) (hb : base ≤ W.heap.size) : kF.R 43 (W.alloc (.cells #[] 43)) base (fun _ => True) (.slice (some ⟨W.heap.size, 0, none⟩) 0 0) [] :=
  ⟨fun _ _ => trivial, [], ⟨rfl, .inr ⟨W.heap.size, 0, #[], rfl, hb, heap_alloc_new _ _, Nat.le_refl _, Nat.zero_le _, rfl, rfl⟩⟩, Reps.none _ _⟩

section
variable (low : Int) (A : Option Addr) (c : Nat) (L : List Fl) (w : World) (hC : kF.C w A L.length L) (hc : L.length ≤ c) (hL : L.length < 1000)
include hC hc hL
theorem refCheck_any : Calls Tryd.prog 8 #[.agg #[.int .i64 low, .slice A L.length c]] w fun e w' => e = .returned (.int .i64 (chk low L)) ∧ Below w.heap.size w w' :=
  PR.butteryref16_Check.calls _ low A c L _ w hC hc (refCheck_f low L hL)
theorem look_any : Calls Tryd.prog 33 #[.agg #[.int .i64 low, .slice A L.length c]] w fun e w' => e = .returned (.tuple #[.int .i64 (look low L).1, .int .i64 (look low L).2]) ∧ Below w.heap.size w w' :=
  PR.floors_look.calls _ low A c L _ _ w hC hc (look_f low L hL)
theorem refOf_any (h : Int) : Calls Tryd.prog 15 #[.agg #[.int .i64 low, .slice A L.length c], .int .u64 h] w fun e w' => e = .returned (.int .i64 (fOf low L h)) ∧ Below w.heap.size w w' :=
  PR.butteryref16_Of.calls _ low A c L h _ w hC hc (refOf_f low h L hL)
theorem lift_any (n : Int) : Calls Tryd.prog 18 #[.agg #[.int .i64 low, .slice A L.length c], .int .i64 n] w fun e w' => ∃ v, e = .returned (.agg #[.int .i64 (upP low n), v]) ∧ kF.R 43 w' w.heap.size (fun _ => True) v (liftL (upP low n) L) ∧ Below w.heap.size w w' :=
  PR.floors_Lift.calls _ low A c L n _ _ w hC hc (lift_f low n L hL)
theorem refLift_any (n : Int) (hlow : low ≤ 1099511627776) : Calls Tryd.prog 21 #[.agg #[.int .i64 low, .slice A L.length c], .int .i64 n] w fun e w' => ∃ v, e = .returned (.agg #[.int .i64 (upP low n), v]) ∧ kF.R 43 w' w.heap.size (fun _ => True) v (liftL (upP low n) L) ∧ Below w.heap.size w w' :=
  PR.butteryref16_Lift.calls _ low A c L n _ _ w hC hc (refLift_f low n L hL hlow)
theorem refRel_any (h : Int) : Calls Tryd.prog 22 #[.agg #[.int .i64 low, .slice A L.length c], .int .u64 h] w fun e w' => ∃ v, e = .returned (.agg #[.int .i64 low, v]) ∧ kF.R 43 w' w.heap.size (fun _ => True) v (relL L h) ∧ Below w.heap.size w w' :=
  PR.butteryref16_Release.calls _ low A c L h _ _ w hC hc (refRel_f low h L hL)
theorem same_any (b : Int) (B : Option Addr) (d : Nat) (M : List Fl) (hD : kF.C w B M.length M) (hd : M.length ≤ d) : Calls Tryd.prog 11 #[.agg #[.int .i64 low, .slice A L.length c], .agg #[.int .i64 b, .slice B M.length d]] w fun e w' => e = .returned (.bool (decide (low = b ∧ L = M))) ∧ Below w.heap.size w w' :=
  PR.floors_Same.calls _ low A c L b B d M _ w hC hc hD hd (same_f low b L M hL)
theorem refSame_any (b : Int) (B : Option Addr) (d : Nat) (M : List Fl) (hD : kF.C w B M.length M) (hd : M.length ≤ d) : Calls Tryd.prog 12 #[.agg #[.int .i64 low, .slice A L.length c], .agg #[.int .i64 b, .slice B M.length d]] w fun e w' => e = .returned (.bool (decide (low = b ∧ L = M))) ∧ Below w.heap.size w w' :=
  PR.butteryref16_Same.calls _ low A c L b B d M _ w hC hc hD hd (refSame_f low b L M hL)
end

set_option maxHeartbeats 1000000 in
theorem Clone_any (A : Option Addr) (c : Nat) (L : List Fl) (w : World) (hC : kF.C w A L.length L) (hL : L.length < 1000) :
    Calls Tryd.prog 36 #[.slice A L.length c] w fun e w' => ∃ v, e = .returned v ∧ kF.R 43 w' w.heap.size (fun _ => True) v L ∧ Below w.heap.size w w' := by
  have HC := Lib.hid hC
  clear hC
  have q22 : ∀ (w : World) (a : Option Addr) (n c n' c' : Nat), (binOp .eql 22 (.slice a n c) (.slice none n' c')).run Tryd.prog w = .ok (.bool a.isNone) w := fun w a n c n' c' => Lib.run_eql_slice_nil w _ _ a n c n' c' Tryd.underlying22
  cases A with
  | none =>
    have h0 : L = [] := by
      rcases Nat.eq_zero_or_pos L.length with h | h
      · exact List.length_eq_zero_iff.1 h
      · obtain ⟨ad, e, _⟩ := HC.out.2.2 h
        cases e
    subst h0
    go_enter Tryd.func36, Tryd.ntmps36
    go_wp2
    go_ret
    exact ⟨_, rfl, Kd.R_nil _ _ _ _ _, Below.refl _ _⟩
  | some ad =>
    go_enter Tryd.func36, Tryd.ntmps36
    go_wp2_with (at_builtin; refine Kd.R_append_rows kF (Rr := kF.K w) (w0 := w) w.heap.size rfl (.tmp 5) (.tmp 6) 22 43 (.agg #[.int .u64 0, .int .i64 0]) 16 rfl Tryd.underlying22 info_fl rfl (by decide) (by decide) _ [] L (some ad) L.length c (fun _ => True) (fun _ => False) rfl rfl (R_emptyF w _ (Nat.le_refl _)) (Kd.C_below HC.out (bel_alloc _ _)) (fun x cs h => by rw [PR.k43_open h]; exact PR.k43_mkM _ _ _ x) (fun _ hk => hk.elim) (fun _ _ => trivial) (bel_alloc _ _) (by simp) (by simp; omega) ?_; intro v5 w5 ho5 hb5 hg5 hat5; rw [List.nil_append] at ho5; have HO5 := Lib.hid ho5; have HB5 := Lib.hid hb5; clear ho5 hb5 hg5 hat5)
    go_ret
    exact ⟨v5, rfl, HO5.out, HB5.out⟩

/-- Floors that a call made. -/
def FlPost (w : World) (low : Int) (L : List Fl) (e : Ending) (w' : World) : Prop := ∃ A n c, e = .returned (.agg #[.int .i64 low, .slice A n c]) ∧ n = L.length ∧ kF.R 43 w' w.heap.size (fun _ => True) (.slice A n c) L ∧ Below w.heap.size w w'
theorem FlPost.reads {w : World} {low : Int} {L : List Fl} {e : Ending} {w' : World} (h : FlPost w low L e w') : ∃ A c, e = .returned (.agg #[.int .i64 low, .slice A L.length c]) ∧ L.length ≤ c ∧ kF.C w' A L.length L ∧ kF.R 43 w' w.heap.size (fun _ => True) (.slice A L.length c) L ∧ Below w.heap.size w w' := by
  obtain ⟨A, n, c, he, rfl, hR, hb⟩ := h
  obtain ⟨A', c', hv, hc, hC⟩ := Kd.R_reads hR
  injection hv with e1 e2 e3
  subst e1
  subst e3
  exact ⟨A, c, he, hc, hC, hR, hb⟩
theorem R_put2 {w : World} {b base : Nat} {ok : Nat → Prop} {v y0 y1 : Value} {L : List Fl} (h : kF.R 43 w base ok v L) (hb : w.heap[b]? = some (.cells #[y0, y1] 24 (0, 0))) (x0 x1 : Value) :
    kF.R 43 ((w.setCell ⟨b, 0, none⟩ x0).setCell ⟨b, 1, none⟩ x1) base ok v L :=
  Kd.R_set (Kd.R_set h hb (by decide) 0 x0) (blk_set hb 0 x0) (by decide) 1 x1
set_option maxHeartbeats 1000000 in
set_option maxRecDepth 100000 in
theorem Copy_any (low : Int) (A : Option Addr) (c : Nat) (L : List Fl) (w : World) (hC : kF.C w A L.length L) (hL : L.length < 1000) :
    Calls Tryd.prog 13 #[.agg #[.int .i64 low, .slice A L.length c]] w (FlPost w low L) := by
  have HC := Lib.hid hC
  clear hC
  go_enter Tryd.func13, Tryd.ntmps13
  go_wp2_with fail
  have hbox : ((w.alloc (.cells #[.int .i64 low, .slice A L.length c] 24)).alloc (.cells #[.int .i64 0, .slice none 0 0] 24)).heap[w.heap.size]? = some (.cells #[.int .i64 low, .slice A L.length c] 24 (0, 0)) := (Below.heap_alloc _ _ _ (by simp)).trans (heap_alloc_new _ _)
  have hzer : ((w.alloc (.cells #[.int .i64 low, .slice A L.length c] 24)).alloc (.cells #[.int .i64 0, .slice none 0 0] 24)).heap[w.heap.size + 1]? = some (.cells #[.int .i64 0, .slice none 0 0] 24 (0, 0)) := by
    have := heap_alloc_new (w.alloc (.cells #[.int .i64 low, .slice A L.length c] 24)) (.cells #[.int .i64 0, .slice none 0 0] 24)
    simpa using this
  have hbel : Below w.heap.size w ((w.alloc (.cells #[.int .i64 low, .slice A L.length c] 24)).alloc (.cells #[.int .i64 0, .slice none 0 0] 24)) := ((Below.refl _ _).alloc (Nat.le_refl _) _).alloc (by simp) _
  have hsz : w.heap.size + 2 = ((w.alloc (.cells #[.int .i64 low, .slice A L.length c] 24)).alloc (.cells #[.int .i64 0, .slice none 0 0] 24)).heap.size := by simp
  have HBOX := Lib.hid hbox
  have HZER := Lib.hid hzer
  have HBEL := Lib.hid hbel
  have HSZ := Lib.hid hsz
  clear hbox hzer hbel hsz
  generalize (w.alloc (.cells #[.int .i64 low, .slice A L.length c] 24)).alloc (.cells #[.int .i64 0, .slice none 0 0] 24) = w2 at *
  have HX := Lib.hid (show ∀ W, Below (w.heap.size + 1) w2 W → W.cell? ⟨w.heap.size, 0, none⟩ = some (.int .i64 low) ∧ W.cell? ⟨w.heap.size, 1, none⟩ = some (.slice A L.length c) from fun W hW => by
    have h2 := (hW.block w.heap.size (by omega)).trans HBOX.out
    exact ⟨cell_of_row W _ 0 _ _ (0, 0) h2, cell_of_row W _ 1 _ _ (0, 0) h2⟩)
  have HZ := Lib.hid (show ∀ W, Below w2.heap.size w2 W → W.heap[w.heap.size + 1]? = some (.cells #[.int .i64 0, .slice none 0 0] 24 (0, 0)) from fun W hW => (hW.block _ (by have := HSZ.out; omega)).trans HZER.out)
  have b0 := Lib.hid (show Below w2.heap.size w2 w2.drew from Drawn0.below ⟨1, rfl⟩)
  have c0 := Lib.hid (b0.out.mono (show w.heap.size + 1 ≤ w2.heap.size by have := HSZ.out; omega))
  go_region_held3 (fun w' => w'.cell? ⟨w.heap.size, 0, none⟩ = some (.int .i64 low) ∧ w'.cell? ⟨w.heap.size, 1, none⟩ = some (.slice A L.length c))
    (first | exact HX.out _ c0.out | exact HX.out _ c5.out | exact HX.out _ d5.out)
    ((go_at_call 36; ((with_reducible refine (Clone_any A c L _ (Kd.C_below HC.out (HBEL.out.trans (b0.out.mono HBEL.out.size))) hL).mono ?_)); rintro e w5 ⟨v5, rfl, hr, hb⟩; obtain ⟨A5, k5, rfl, hc5, hC5⟩ := Kd.R_reads hr; have R5 := Lib.hid hr; have b5 := Lib.hid (show Below w2.heap.size w2 w5 from b0.out.trans hb); have c5 := Lib.hid (b5.out.mono (show w.heap.size + 1 ≤ w2.heap.size by have := HSZ.out; omega)); have d5 := Lib.hid ((c5.out.setCell (p := ⟨w.heap.size + 1, 0, none⟩) (Nat.le_refl _) (.int .i64 low)).setCell (p := ⟨w.heap.size + 1, 1, none⟩) (Nat.le_refl _) (.slice A5 L.length k5)); have Z5 := Lib.hid (HZ.out _ b5.out); have z0 : w5.cell? ⟨w.heap.size + 1, 0, none⟩ = some (.int .i64 0) := cell_of_row w5 _ 0 _ _ (0, 0) Z5.out; have z1 : w5.cell? ⟨w.heap.size + 1, 1, none⟩ = some (.slice none 0 0) := cell_of_row w5 _ 1 _ _ (0, 0) Z5.out; have f0 : w5.frozen? ⟨w.heap.size + 1, 0, none⟩ = false := (by simp [World.frozen?, Z5.out]); have f1 : w5.frozen? ⟨w.heap.size + 1, 1, none⟩ = false := (by simp [World.frozen?, Z5.out]); clear hr hb hc5 hC5))
  all_goals
    go_wp2_with fail
    obtain ⟨q1, q2⟩ := set2 Z5.out (.int .i64 low) (.slice A5 L.length k5)
    refine bodyPost_ret (results_c rfl _ _ (w.heap.size + 1) 24 #[.int .i64 low, .slice A5 L.length k5] (0, 0) _ rfl q1 Tryd.underlying24 rfl (by kernel_rfl)) rfl ?_
    exact ⟨A5, _, k5, rfl, rfl, Kd.R_lower (R_put2 R5.out Z5.out _ _) (by show w.heap.size ≤ w2.heap.size; have := HSZ.out; omega), HBEL.out.trans (d5.out.mono (by omega))⟩
end Go.Proofs.YtmoiochblmdgfaaDoor
namespace Go.Proofs.YtmoiochblmdgfaaDoor
set_option linter.unusedVariables false
open Go.RowKit Go.Shelf Go.Proofs.YtmoiochblmdgfaaDoorW.PrintWords
attribute [local go_sem ↓] Go.wp_at_zero Go.wp_at_succ

/-- Rising hashes, each once. -/
def Ris (L : List Fl) : Prop := L.Pairwise (fun x y => x.f0 < y.f0)
/-- How many floors are of lower hashes. -/
def lbF (L : List Fl) (h : Int) : Nat := (L.takeWhile fun x => decide (x.f0 < h)).length
theorem lbF_le (L : List Fl) (h : Int) : lbF L h ≤ L.length := (List.takeWhile_prefix _).length_le
theorem lbF_cons (x : Fl) (r : List Fl) (h : Int) : lbF (x :: r) h = if x.f0 < h then lbF r h + 1 else 0 := by
  unfold lbF
  rw [List.takeWhile_cons]
  by_cases e : x.f0 < h <;> simp [e]
theorem fget_cons (x : Fl) (r : List Fl) (j : Nat) : fget (x :: r) (j + 1) = fget r j := by simp [fget]
theorem lbF_lo (h : Int) : ∀ (L : List Fl) j, j < lbF L h → (fget L j).f0 < h
  | [], j, hj => by simp [lbF] at hj
  | x :: r, j, hj => by
    rw [lbF_cons] at hj
    by_cases e : x.f0 < h
    · rw [if_pos e] at hj
      rcases j with _ | j
      · simpa [fget] using e
      · rw [fget_cons]
        exact lbF_lo h r j (by omega)
    · rw [if_neg e] at hj
      omega
theorem lbF_hi (h : Int) : ∀ (L : List Fl) (hR : Ris L) j, lbF L h ≤ j → j < L.length → ¬ (fget L j).f0 < h
  | [], _, j, _, hl => by simp at hl
  | x :: r, hR, j, hj, hl => by
    obtain ⟨h1, h2⟩ := List.pairwise_cons.1 hR
    rw [lbF_cons] at hj
    by_cases e : x.f0 < h
    · rw [if_pos e] at hj
      rcases j with _ | j
      · omega
      · rw [fget_cons]
        exact lbF_hi h r h2 j (by omega) (by simpa using hl)
    · rcases j with _ | j
      · simpa [fget] using e
      · rw [fget_cons]
        have hl' : j < r.length := by simpa using hl
        have := h1 (fget r j) (by rw [fget_eq hl']; exact List.getElem_mem hl')
        omega
/-- Is there one of that hash? -/
def hasF (L : List Fl) (h : Int) : Bool := decide (lbF L h < L.length ∧ (fget L (lbF L h)).f0 = h)
theorem fOf_has (low h : Int) : ∀ (L : List Fl) (hR : Ris L), fOf low L h = if hasF L h = true then (fget L (lbF L h)).f1 else low
  | [], _ => by simp [fOf, hasF]
  | x :: r, hR => by
    obtain ⟨h1, h2⟩ := List.pairwise_cons.1 hR
    rw [fOf]
    by_cases e : x.f0 = h
    · have hl : lbF (x :: r) h = 0 := by rw [lbF_cons, if_neg (by omega)]
      have hh : hasF (x :: r) h = true := by unfold hasF; rw [hl]; simp [fget, e]
      rw [if_pos e, if_pos hh, hl]
      rfl
    · rw [if_neg e, fOf_has low h r h2]
      by_cases e2 : x.f0 < h
      · have hl : lbF (x :: r) h = lbF r h + 1 := by rw [lbF_cons, if_pos e2]
        have hh : hasF (x :: r) h = hasF r h := by unfold hasF; rw [hl, fget_cons]; simp
        rw [hh, hl, fget_cons]
      · have hl : lbF (x :: r) h = 0 := by rw [lbF_cons, if_neg e2]
        have hh : hasF (x :: r) h = false := by unfold hasF; rw [hl]; simp [fget, e]
        have hr : hasF r h = false := by
          unfold hasF
          refine decide_eq_false fun ⟨h3, h4⟩ => ?_
          have := h1 (fget r (lbF r h)) (by rw [fget_eq h3]; exact List.getElem_mem h3)
          omega
        rw [hh, hr]
        simp

theorem ret_i {k : IntKind} {a b : Int} (h : a = b) : Ending.returned (.int k a) = .returned (.int k b) := by rw [h]
def cmpI (a b : Int) : Int := if a < b then -1 else if b < a then 1 else 0
theorem cmp_any (x0 x1 h : Int) (w : World) :
    Calls Tryd.prog 56 #[.agg #[.int .u64 x0, .int .i64 x1], .int .u64 h] w fun e w' => e = .returned (.int .i64 (cmpI x0 h)) ∧ Below w.heap.size w w' := by
  have H := Lib.hid (show cmpI x0 h = if x0 < h then -1 else if h < x0 then 1 else 0 from rfl)
  by_cases h1 : x0 < h
  · have H1 := Lib.hid (show cmpI x0 h = -1 by rw [H.out, if_pos h1])
    go_enter Tryd.func56, Tryd.ntmps56
    go_wp2
    go_ret
    exact ⟨ret_i H1.out.symm, bel_alloc _ _⟩
  · by_cases h2 : h < x0
    · have H1 := Lib.hid (show cmpI x0 h = 1 by rw [H.out, if_neg h1, if_pos h2])
      go_enter Tryd.func56, Tryd.ntmps56
      go_wp2
      go_ret
      exact ⟨ret_i H1.out.symm, bel_alloc _ _⟩
    · have H1 := Lib.hid (show cmpI x0 h = 0 by rw [H.out, if_neg h1, if_neg h2])
      go_enter Tryd.func56, Tryd.ntmps56
      go_wp2
      go_ret
      exact ⟨ret_i H1.out.symm, bel_alloc _ _⟩
theorem at_fl {w : World} {A : Option Addr} {n : Nat} {L : List Fl} (h : kF.C w A n L) {k : Nat} (hk : k < n) : ∃ ad, A = some ad ∧ w.cell? (ad.add (k * 2)) = some (.int .u64 (fget L k).f0) ∧ w.cell? ⟨(ad.add (k * 2)).block, (ad.add (k * 2)).off + 1, none⟩ = some (.int .i64 (fget L k).f1) := by
  obtain ⟨ad, e, h0, h1⟩ := PR.at_T43 h (k : Int) (by omega) (by omega)
  exact ⟨ad, e, h0, h1⟩

set_option maxHeartbeats 2000000 in
set_option maxRecDepth 100000 in
theorem Bin_any (A : Option Addr) (c : Nat) (L : List Fl) (h : Int) (w : World) (hC : kF.C w A L.length L) (hL : L.length < 1000) (hR : Ris L) :
    Calls Tryd.prog 55 #[.slice A L.length c, .int .u64 h, .func (.func 56) #[] #[]] w fun e w' => e = .returned (.tuple #[.int .i64 (lbF L h), .bool (hasF L h)]) ∧ Below w.heap.size w w' := by
  have HC := Lib.hid hC
  have HLO := Lib.hid (lbF_lo h L)
  have HHI := Lib.hid (lbF_hi h L hR)
  have hll := lbF_le L h
  have hhas : hasF L h = decide (lbF L h < L.length ∧ (fget L (lbF L h)).f0 = h) := rfl
  have HHAS := Lib.hid hhas
  clear hC hR hhas
  generalize lbF L h = p at *
  generalize hasF L h = hb at *
  have eg : ∀ args w, (callFunc 56 args).run Tryd.prog w = .ok (.enter 56 args) w := enters_of Tryd.func56 (by kernel_rfl) rfl
  go_enter Tryd.func55, Tryd.ntmps55
  go_wp2_with fail
  go_loopw [9, 10] (fun i j wr => ∃ a b : Nat, a ≤ p ∧ p ≤ b ∧ b ≤ L.length ∧ i = .int .i64 a ∧ j = .int .i64 b ∧ Hid (Below w.heap.size w wr)) (fun i j _ => (intOf j).toNat - (intOf i).toNat)
  case atStart => exact ⟨0, L.length, Nat.zero_le _, hll, Nat.le_refl _, rfl, rfl, Below.refl _ _⟩
  case round =>
    obtain ⟨a, b, ha, hb', hbl, rfl, rfl, HD⟩ := hrel
    by_cases hlt : a < b
    · obtain ⟨m, hm⟩ : ∃ m : Nat, ((a : Int) + (b : Int)) / 2 = (m : Int) := ⟨(a + b) / 2, by omega⟩
      have hma : a ≤ m := by omega
      have hmb : m < b := by omega
      have hml : m < L.length := by omega
      have hCr : kF.C wr A L.length L := Kd.C_below HC.out HD.out
      obtain ⟨ad, hA, c0, c1⟩ := at_fl hCr hml
      subst hA
      have hlo := HLO.out m
      have hhi := HHI.out m
      have hcall := cmp_any (fget L m).f0 (fget L m).f1 h wr
      by_cases hx : (fget L m).f0 < h
      · have hmp : m < p := by
          rcases Nat.lt_or_ge m p with h3 | h3
          · exact h3
          · exfalso
            have := hhi h3 hml
            omega
        rw [cmpI, if_pos hx] at hcall
        have HCALL := Lib.hid hcall
        clear hlo hhi hcall hx
        go_wp2_with (go_at_fn 56; refine HCALL.out.mono ?_; rintro e w' ⟨rfl, hb1⟩; have HB := Lib.hid hb1; clear hb1)
        go_roundw
        case rel => exact ⟨m + 1, b, by omega, hb', hbl, by go_num, rfl, HD.out.trans (HB.out.mono HD.out.size)⟩
        case measure => simp [intOf]; omega
      · have hmp : p ≤ m := by
          rcases Nat.lt_or_ge m p with h3 | h3
          · exact absurd (hlo h3) hx
          · exact h3
        have hcc : ∃ z : Int, cmpI (fget L m).f0 h = z ∧ 0 ≤ z := by
          rw [cmpI, if_neg hx]
          by_cases h4 : h < (fget L m).f0
          · exact ⟨1, by rw [if_pos h4], by decide⟩
          · exact ⟨0, by rw [if_neg h4], by decide⟩
        obtain ⟨z, hz, hz0⟩ := hcc
        rw [hz] at hcall
        have HCALL := Lib.hid hcall
        clear hlo hhi hcall hx hz
        go_wp2_with (go_at_fn 56; refine HCALL.out.mono ?_; rintro e w' ⟨rfl, hb1⟩; have HB := Lib.hid hb1; clear hb1)
        go_roundw
        case rel => exact ⟨a, m, ha, hmp, by omega, rfl, rfl, HD.out.trans (HB.out.mono HD.out.size)⟩
        case measure => simp [intOf]; omega
    · obtain rfl : a = p := by omega
      by_cases hpl : a < L.length
      · have hCr : kF.C wr A L.length L := Kd.C_below HC.out HD.out
        obtain ⟨ad, hA, c0, c1⟩ := at_fl hCr hpl
        subst hA
        have hcall := cmp_any (fget L a).f0 (fget L a).f1 h wr
        have hge := HHI.out a (Nat.le_refl _) hpl
        by_cases hx : (fget L a).f0 = h
        · rw [cmpI, if_neg (by omega), if_neg (by omega)] at hcall
          have HCALL := Lib.hid hcall
          have HX := Lib.hid (show hb = true by rw [HHAS.out]; exact decide_eq_true ⟨hpl, hx⟩)
          clear hcall hge hx
          go_wp2_with (go_at_fn 56; refine HCALL.out.mono ?_; rintro e w' ⟨rfl, hb1⟩; have HB := Lib.hid hb1; clear hb1)
          go_ret2
          exact ⟨by rw [HX.out]; rfl, HD.out.trans (HB.out.mono HD.out.size)⟩
        · rw [cmpI, if_neg (by omega), if_pos (by omega)] at hcall
          have HCALL := Lib.hid hcall
          have HX := Lib.hid (show hb = false by rw [HHAS.out]; exact decide_eq_false (fun e => hx e.2))
          clear hcall hge hx
          go_wp2_with (go_at_fn 56; refine HCALL.out.mono ?_; rintro e w' ⟨rfl, hb1⟩; have HB := Lib.hid hb1; clear hb1)
          go_ret2
          exact ⟨by rw [HX.out]; rfl, HD.out.trans (HB.out.mono HD.out.size)⟩
      · have HX := Lib.hid (show hb = false by rw [HHAS.out]; exact decide_eq_false (fun e => hpl e.1))
        go_wp2_with fail
        go_ret2
        exact ⟨by rw [HX.out]; rfl, HD.out⟩
end Go.Proofs.YtmoiochblmdgfaaDoor
