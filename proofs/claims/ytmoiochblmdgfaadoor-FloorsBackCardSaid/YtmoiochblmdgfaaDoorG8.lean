/- Floors: numbers, words and floors as bytes, and read again. Floors: what the printed functions that put numbers, words and floors come to. The document's reader: fail, Number, Eight. The document's reader: Eight. The document's From. The law FloorsBack, at every input. -/
import Derived.Test.YtmoiochblmdgfaaDoorG6
namespace Go.Proofs.YtmoiochblmdgfaaDoor
set_option linter.unusedVariables false
set_option linter.unusedSimpArgs false
open Go.RowKit Go.Proofs.YtmoiochblmdgfaaDoorW.PrintWords

def numH : Nat → Int → List Int
  | 0, _ => []
  | f + 1, m => if 0 < m then numH f (m / 128) ++ [m % 128 + 128] else []
/-- A number's bytes. -/
def numB (n : Int) : List Int := numH 9 (n / 128) ++ [n % 128]
def hiD (n : Int) : Nat → List Int
  | 0 => []
  | j + 1 => (n / 128 ^ (j + 1) % 128 + 128) :: hiD n j
theorem hiD_succ (n : Int) : ∀ j, hiD n (j + 1) = hiD (n / 128) j ++ [n / 128 % 128 + 128]
  | 0 => by simp [hiD]
  | j + 1 => by
    rw [hiD, hiD_succ n j, hiD]
    have e : n / 128 ^ (j + 1 + 1) = n / 128 / 128 ^ (j + 1) := by
      rw [Int.ediv_ediv_of_nonneg (by decide), Int.pow_succ, Int.mul_comm]
    rw [e]
    rfl
theorem pow128 (j : Nat) : (0 : Int) < 128 ^ j := Int.pow_pos (by decide)
theorem numH_hi : ∀ (f j : Nat) (n : Int), 0 ≤ n → j ≤ f → n / 128 ^ j < 128 → (j = 0 ∨ 128 ≤ n / 128 ^ (j - 1)) → numH f (n / 128) = hiD n j
  | 0, j, n, h0, h1, _, _ => by
    obtain rfl : j = 0 := by omega
    rfl
  | f + 1, 0, n, h0, h1, h2, _ => by
    rw [Int.pow_zero, Int.ediv_one] at h2
    rw [numH, if_neg (by omega)]
    rfl
  | f + 1, j + 1, n, h0, h1, h2, h3 => by
    have h4 : 128 ≤ n / 128 ^ j := by
      rcases h3 with h3 | h3
      · cases h3
      · exact h3
    have hp := pow128 j
    have h5 : 128 ≤ n := by
      have h6 : n / 128 ^ j ≤ n := Int.ediv_le_self _ h0
      omega
    have e : ∀ i, n / 128 ^ (i + 1) = n / 128 / 128 ^ i := fun i => by rw [Int.ediv_ediv_of_nonneg (by decide), Int.pow_succ, Int.mul_comm]
    rw [numH, if_pos (by omega), hiD_succ, numH_hi f j (n / 128) (by omega) (by omega) (by rw [← e]; exact h2) ?_]
    rcases j with _ | j
    · exact .inl rfl
    · refine .inr ?_
      rw [show j + 1 - 1 = j from rfl, ← e]
      exact h4
theorem numG_H (most at0 : Int) : ∀ (f : Nat) (m : Int), 0 ≤ m → m < 128 ^ f → m ≤ most → ∀ t, numG most at0 (numH f m ++ t) at0 0 = numG most at0 t (at0 + (numH f m).length) m
  | 0, m, h0, h1, _, t => by
    rw [Int.pow_zero] at h1
    obtain rfl : m = 0 := by omega
    simp [numH]
  | f + 1, m, h0, h1, h2, t => by
    rw [numH]
    by_cases h : 0 < m
    · rw [if_pos h, List.append_assoc, numG_H most at0 f (m / 128) (by omega) (by rw [Int.pow_succ] at h1; omega) (by omega), List.singleton_append, numG, if_neg (by omega), if_neg (by omega), if_pos (by omega)]
      congr 1
      · rw [List.length_append, List.length_singleton]
        omega
      · omega
    · obtain rfl : m = 0 := by omega
      simp
theorem numB_len (n : Int) : (numB n).length = (numH 9 (n / 128)).length + 1 := by simp [numB]
theorem numG_B {most n : Int} (at0 : Int) (t : List Int) (h0 : 0 ≤ n) (h1 : n ≤ most) (h2 : most ≤ 1099511627776) : numG most at0 (numB n ++ t) at0 0 = (n, at0 + (numB n).length, 0) := by
  have hp : n / 128 < 128 ^ 9 := by
    have : (128 : Int) ^ 9 = 9223372036854775808 := by decide
    omega
  rw [numB, List.append_assoc, numG_H most at0 9 (n / 128) (by omega) hp (by omega), List.singleton_append, numG, if_neg (by omega), if_neg (by omega), if_neg (by omega), if_neg (by omega)]
  rw [List.length_append, List.length_singleton]
  have e1 : n / 128 * 128 + n % 128 = n := by omega
  have e2 : at0 + ((numH 9 (n / 128)).length : Int) + 1 = at0 + (((numH 9 (n / 128)).length + 1 : Nat) : Int) := by omega
  rw [e1, e2]
theorem numH_oct : ∀ (f : Nat) (m : Int), Oct (numH f m)
  | 0, _ => by intro c hc; cases hc
  | f + 1, m => by
    rw [numH]
    split
    · intro c hc
      rcases List.mem_append.1 hc with h | h
      · exact numH_oct f _ c h
      · rw [List.mem_singleton.1 h]
        omega
    · intro c hc
      cases hc
theorem numB_oct (n : Int) : Oct (numB n) := by
  intro c hc
  rcases List.mem_append.1 hc with h | h
  · exact numH_oct _ _ c h
  · rw [List.mem_singleton.1 h]
    omega
theorem numH_len : ∀ (f : Nat) (m : Int), (numH f m).length ≤ f
  | 0, _ => Nat.le_refl _
  | f + 1, m => by
    rw [numH]
    split
    · have := numH_len f (m / 128)
      simp
      exact this
    · simp
/-- Eight bytes of a number. -/
def wordB (n : Int) : List Int := [n / 72057594037927936 % 256, n / 281474976710656 % 256, n / 1099511627776 % 256, n / 4294967296 % 256, n / 16777216 % 256, n / 65536 % 256, n / 256 % 256, n % 256]
theorem wordV_B {n : Int} (h0 : 0 ≤ n) (h1 : n < 18446744073709551616) : wordV 0 (wordB n) = n := by
  unfold wordV wordB
  simp only [List.foldl]
  omega
theorem wordB_oct (n : Int) : Oct (wordB n) := by
  intro c hc
  simp only [wordB, List.mem_cons, List.not_mem_nil, or_false] at hc
  rcases hc with h | h | h | h | h | h | h | h <;> omega
/-- Floors' bytes. -/
def putL8 (L : List Fl) : List Int := L.flatMap fun x => wordB x.f0 ++ numB x.f1
def putF (low : Int) (L : List Fl) : List Int := numB low ++ (numB L.length ++ putL8 L)
theorem numR_at {most n : Int} {bs t : List Int} {i : Nat} (h0 : 0 ≤ n) (h1 : n ≤ most) (h2 : most ≤ 1099511627776) (hd : bs.drop i = numB n ++ t) :
    numR most bs i 0 = (n, ((i + (numB n).length : Nat) : Int), 0) ∧ bs.drop (i + (numB n).length) = t := by
  constructor
  · unfold numR
    rw [if_pos rfl, Int.toNat_natCast, hd, numG_B i t h0 h1 h2]
    simp
  · rw [← List.drop_drop, hd]
    simp
theorem wordR_at {n : Int} {bs t : List Int} {i : Nat} (h0 : 0 ≤ n) (h1 : n < 18446744073709551616) (hd : bs.drop i = wordB n ++ t) :
    wordR bs i 0 = (n, ((i + 8 : Nat) : Int), 0) ∧ bs.drop (i + 8) = t := by
  have hl : bs.length - i = 8 + t.length := by
    have := congrArg List.length hd
    rw [List.length_drop, List.length_append] at this
    exact this
  constructor
  · unfold wordR
    rw [if_pos rfl, if_neg (by omega), Int.toNat_natCast, hd]
    have e : (wordB n ++ t).take 8 = wordB n := by
      rw [List.take_append]
      simp [wordB]
    rw [e, wordV_B h0 h1]
    rfl
  · rw [← List.drop_drop, hd]
    simp [wordB]
theorem fromL_at {bs rest : List Int} : ∀ (L acc : List Fl) (i : Nat), (∀ x ∈ L, 0 ≤ x.f0 ∧ x.f0 < 18446744073709551616 ∧ 0 ≤ x.f1 ∧ x.f1 ≤ 1099511627776) → bs.drop i = putL8 L ++ rest →
    fromL bs L.length i 0 acc = (acc ++ L, ((i + (putL8 L).length : Nat) : Int), 0)
  | [], acc, i, _, _ => by simp [fromL, putL8]
  | x :: r, acc, i, hL, hd => by
    obtain ⟨h1, h2, h3, h4⟩ := hL x List.mem_cons_self
    have hp : putL8 (x :: r) = wordB x.f0 ++ (numB x.f1 ++ putL8 r) := by simp [putL8]
    rw [hp, List.append_assoc, List.append_assoc] at hd
    obtain ⟨e1, e2⟩ := wordR_at h1 h2 hd
    obtain ⟨e3, e4⟩ := numR_at h3 h4 (Int.le_refl _) e2
    rw [List.length_cons, fromL, e1]
    dsimp only
    rw [e3]
    dsimp only
    rw [fromL_at r (acc ++ [(⟨x.f0, x.f1⟩ : Fl)]) _ (fun y hy => hL y (List.mem_cons_of_mem _ hy)) e4, hp]
    have e5 : i + 8 + (numB x.f1).length + (putL8 r).length = i + (wordB x.f0 ++ (numB x.f1 ++ putL8 r)).length := by
      rw [List.length_append, List.length_append, show (wordB x.f0).length = 8 from rfl]
      omega
    rw [e5, List.append_assoc]
    rfl
theorem numB_le (n : Int) : (numB n).length ≤ 10 := by
  have := numH_len 9 (n / 128)
  rw [numB_len]
  omega
theorem numH_small : ∀ (f j : Nat) (m : Int), 0 ≤ m → m < 128 ^ j → (numH f m).length ≤ j
  | 0, j, m, _, _ => Nat.zero_le _
  | f + 1, 0, m, h0, h1 => by
    rw [Int.pow_zero] at h1
    rw [numH, if_neg (by omega)]
    exact Nat.le_refl _
  | f + 1, j + 1, m, h0, h1 => by
    rw [numH]
    split
    · rw [Int.pow_succ] at h1
      have := numH_small f j (m / 128) (by omega) (by omega)
      simp
      exact this
    · simp
theorem numB_six {n : Int} (h0 : 0 ≤ n) (h1 : n ≤ 1099511627776) : (numB n).length ≤ 6 := by
  have := numH_small 9 5 (n / 128) (by omega) (by have : (128 : Int) ^ 5 = 34359738368 := by decide
                                                  omega)
  rw [numB_len]
  omega
theorem numB_one {n : Int} (h0 : 0 ≤ n) (h1 : n < 128) : (numB n).length = 1 := by
  have := numH_small 9 0 (n / 128) (by omega) (by rw [Int.pow_zero]; omega)
  rw [numB_len]
  omega

theorem fromA_put {low : Int} {L : List Fl} (rest : List Int) (hk : OKF low L) (hw : ∀ x ∈ L, 0 ≤ x.f0 ∧ x.f0 < 18446744073709551616) : fromA (putF low L ++ rest) 0 0 = (low, L, ((putF low L).length : Int), 0) := by
  obtain ⟨h1, h2, h3⟩ := hk
  have hd : (putF low L ++ rest).drop 0 = numB low ++ (numB L.length ++ (putL8 L ++ rest)) := by simp [putF]
  obtain ⟨e1, e2⟩ := numR_at h1.1 h1.2.1 (Int.le_refl _) hd
  obtain ⟨e3, e4⟩ := numR_at (n := (L.length : Int)) (most := 12) (by omega) (by omega) (by decide) e2
  have e5 := fromL_at L [] _ (fun x hx => ⟨(hw x hx).1, (hw x hx).2, by have := h1.2.2 x hx; have := h1.1; omega, (h1.2.2 x hx).2⟩) e4
  unfold fromA
  rw [show ((0 : Nat) : Int) = 0 from rfl] at e1
  rw [e1]
  dsimp only
  rw [e3]
  dsimp only
  rw [Int.toNat_natCast, e5]
  have e6 : 0 + (numB low).length + (numB (L.length : Int)).length + (putL8 L).length = (putF low L).length := by simp [putF]; omega
  rw [e6]
  rfl
theorem from_put {low : Int} {L : List Fl} (rest : List Int) (hk : OKF low L) (hw : ∀ x ∈ L, 0 ≤ x.f0 ∧ x.f0 < 18446744073709551616) :
    fromF (putF low L ++ rest) 0 0 = (low, L) ∧ fromC (putF low L ++ rest) 0 0 = 0 ∧ (fromA (putF low L ++ rest) 0 0).2.2.1 = ((putF low L).length : Int) := by
  have h := fromA_put rest hk hw
  have h2 : fromC (putF low L ++ rest) 0 0 = 0 := by
    unfold fromC
    rw [h]
    exact hk.chk
  refine ⟨?_, h2, by rw [h]⟩
  unfold fromF
  rw [h2, h]
  rfl
theorem putL8_oct (L : List Fl) : Oct (putL8 L) := by
  intro c hc
  obtain ⟨x, _, hx⟩ := List.mem_flatMap.1 hc
  rcases List.mem_append.1 hx with h | h
  · exact wordB_oct _ c h
  · exact numB_oct _ c h
theorem putF_oct (low : Int) (L : List Fl) : Oct (putF low L) := by
  intro c hc
  rcases List.mem_append.1 hc with h | h
  · exact numB_oct _ c h
  · rcases List.mem_append.1 h with h | h
    · exact numB_oct _ c h
    · exact putL8_oct _ c h
theorem putL8_len : ∀ (L : List Fl), (∀ x ∈ L, 0 ≤ x.f1 ∧ x.f1 ≤ 1099511627776) → (putL8 L).length ≤ 14 * L.length
  | [], _ => Nat.le_refl _
  | x :: r, h => by
    have h1 := putL8_len r (fun y hy => h y (List.mem_cons_of_mem _ hy))
    have h2 := h x List.mem_cons_self
    have h3 := numB_six h2.1 h2.2
    have hp : putL8 (x :: r) = wordB x.f0 ++ (numB x.f1 ++ putL8 r) := by simp [putL8]
    rw [hp, List.length_append, List.length_append, show (wordB x.f0).length = 8 from rfl, List.length_cons]
    omega
theorem putF_len {low : Int} {L : List Fl} (hk : OKF low L) : (putF low L).length ≤ 200 := by
  obtain ⟨h1, h2, h3⟩ := hk
  have i1 := numB_six h1.1 h1.2.1
  have i2 := numB_one (n := (L.length : Int)) (by omega) (by omega)
  have i3 := putL8_len L (fun x hx => by have := h1.2.2 x hx; have := h1.1; omega)
  rw [putF, List.length_append, List.length_append]
  omega
end Go.Proofs.YtmoiochblmdgfaaDoor
namespace Go.Proofs.YtmoiochblmdgfaaDoor
set_option linter.unusedVariables false
set_option linter.unusedSimpArgs false
open Go.RowKit Go.Proofs.YtmoiochblmdgfaaDoorW.PrintWords

theorem tdm {m : Int} (h : 0 ≤ m) : Int.tmod m 128 = m % 128 ∧ Int.tdiv m 128 = m / 128 := ⟨Int.tmod_eq_emod_of_nonneg h, Int.tdiv_eq_ediv_of_nonneg h⟩
theorem num_l0 : ∀ (f k : Nat) (acc : List Int) (m : Int), 0 ≤ m → m < 128 ^ f → m ≤ 1099511627776 → f < k → acc.length + f < 1000000 → PR.butteryref02_num.l0 k acc m = some (numH f m ++ acc)
  | 0, k + 1, acc, m, h0, h1, _, _, _ => by
    rw [Int.pow_zero] at h1
    rw [PR.butteryref02_num.l0, if_neg (by omega)]
    rfl
  | f + 1, k + 1, acc, m, h0, h1, h2, h3, h4 => by
    rw [PR.butteryref02_num.l0, numH]
    by_cases h : 0 < m
    · obtain ⟨e1, e2⟩ := tdm h0
      rw [Int.pow_succ] at h1
      have hd : wrap64 (m % 128 + 128) % 256 = m % 128 + 128 := by rw [wrap64_id (by omega) (by omega)]; omega
      rw [if_pos h, if_pos h, Option.bind_some, e1, e2, hd, wrap64_id (n := m / 128) (by omega) (by omega), if_pos (by simp; omega)]
      rw [num_l0 f k _ (m / 128) (by omega) (by omega) (by omega) (by omega) (by simp; omega)]
      simp
    · rw [if_neg h, if_neg h]
      rfl
theorem p9 : (128 : Int) ^ 9 = 9223372036854775808 := by decide
theorem num_f1 (k : Nat) (n : Int) (h0 : 0 ≤ n) (h1 : n ≤ 1099511627776) (hk : 9 < k) : PR.butteryref02_num.f k n = some (numB n) := by
  obtain ⟨e1, e2⟩ := tdm h0
  unfold PR.butteryref02_num.f
  rw [e1, e2, wrap64_id (n := n / 128) (by omega) (by omega), num_l0 9 k _ (n / 128) (by omega) (by rw [p9]; omega) (by omega) hk (by simp), show n % 128 % 256 = n % 128 by omega]
  rfl
def Nums (l : List Int) : Prop := ∀ n ∈ l, 0 ≤ n ∧ n ≤ 1099511627776
theorem flatB_len : ∀ (l : List Int), (l.flatMap numB).length ≤ 10 * l.length
  | [] => Nat.le_refl _
  | x :: r => by
    have := flatB_len r
    have := numB_le x
    rw [List.flatMap_cons, List.length_append, List.length_cons]
    omega
theorem refPut_l (l : List Int) (hl : Nums l) (hll : l.length < 1000) : ∀ (m k i : Nat) (acc : List Int), i + m = l.length → m + 12 < k → acc.length + 10 * m < 1000000 → PR.butteryref02_Put.l0 k l acc i = some (acc ++ (l.drop i).flatMap numB)
  | 0, k + 1, i, acc, h1, h2, h3 => by
    rw [PR.butteryref02_Put.l0, if_neg (by omega), List.drop_of_length_le (by omega)]
    simp
  | m + 1, k + 1, i, acc, h1, h2, h3 => by
    have hi : i < l.length := by omega
    have hr : rd l (i : Int) = l[i] := by simp [rd, hi]
    obtain ⟨h4, h5⟩ := hl _ (List.getElem_mem hi)
    have h6 := numB_le l[i]
    rw [PR.butteryref02_Put.l0, if_pos (by omega), if_pos (by omega), hr, num_f1 k _ h4 h5 (by omega), Option.bind_some, if_pos (by omega), wrap_up i (by omega), refPut_l l hl hll m k (i + 1) _ (by omega) (by omega) (by rw [List.length_append]; omega), List.drop_eq_getElem_cons hi, List.flatMap_cons, List.append_assoc]
theorem refPut_f (k : Nat) (b l : List Int) (hl : Nums l) (hll : l.length < 1000) (hb : b.length < 900000) (hk : l.length + 12 < k) : PR.butteryref02_Put.f k b l = some (b ++ l.flatMap numB) := by
  unfold PR.butteryref02_Put.f
  rw [if_pos (by simp; omega)]
  have := refPut_l l hl hll l.length k 0 ([] ++ b) (by omega) hk (by simp; omega)
  rw [List.drop_zero] at this
  rw [show ((0 : Nat) : Int) = 0 from rfl] at this
  rw [this]
  rfl

theorem hi_of : ∀ (f : Nat) (n : Int), 0 ≤ n → n < 128 ^ (f + 1) → ∃ j, j ≤ f ∧ n / 128 ^ j < 128 ∧ ∀ i, i < j → 128 ≤ n / 128 ^ i
  | 0, n, h0, h1 => ⟨0, Nat.le_refl _, by rw [Int.pow_zero, Int.ediv_one]; simpa using h1, fun i hi => by omega⟩
  | f + 1, n, h0, h1 => by
    by_cases h : n < 128
    · exact ⟨0, Nat.zero_le _, by rw [Int.pow_zero, Int.ediv_one]; exact h, fun i hi => by omega⟩
    · rw [Int.pow_succ] at h1
      obtain ⟨j, h2, h3, h4⟩ := hi_of f (n / 128) (by omega) (by omega)
      have e : ∀ i, n / 128 ^ (i + 1) = n / 128 / 128 ^ i := fun i => by rw [Int.ediv_ediv_of_nonneg (by decide), Int.pow_succ, Int.mul_comm]
      refine ⟨j + 1, by omega, by rw [e]; exact h3, fun i hi => ?_⟩
      rcases i with _ | i
      · rw [Int.pow_zero, Int.ediv_one]
        omega
      · rw [e]
        exact h4 i (by omega)
theorem shr7 (n : Int) (j : Nat) (hj : j ≤ 9) : shr .i64 n (wrap64 (7 * (j : Int))) = n / 128 ^ j := by
  rw [wrap64_id (by omega) (by omega)]
  unfold shr
  have e : min (7 * (j : Int)).toNat IntKind.i64.bits = 7 * j := by
    show min (7 * (j : Int)).toNat 64 = 7 * j
    omega
  rw [e, Int.pow_mul]
  rfl
theorem put_l1 (b : List Int) (n : Int) (l : List Int) (len at_ : Int) (j : Nat) (hj : j ≤ 9) (h1 : n / 128 ^ j < 128) (h2 : ∀ i, i < j → 128 ≤ n / 128 ^ i) : ∀ (d k i : Nat), i + d = j → PR.octets_Put.l1 (k + d + 1) b n i l len at_ = PR.octets_Put.l2 k b n j l len at_
  | 0, k, i, h => by
    obtain rfl : i = j := by omega
    rw [PR.octets_Put.l1, if_pos (by rw [wrap64_id (by omega) (by omega)]; omega), shr7 n i hj, if_neg (by omega)]
  | d + 1, k, i, h => by
    have h3 := h2 i (by omega)
    rw [PR.octets_Put.l1, if_pos (by rw [wrap64_id (by omega) (by omega)]; omega), shr7 n i (by omega), if_pos (by omega), wrap_up i (by omega)]
    exact put_l1 b n l len at_ j hj h1 h2 d k (i + 1) (by omega)
theorem or128 {x : Int} (h0 : 0 ≤ x) : Go.bits .or .u8 (x % 256) 128 = x % 128 + 128 := by
  have h1 : x % 256 < 256 := by omega
  have h2 : 0 ≤ x % 256 := by omega
  generalize hy : x % 256 = y at *
  have h3 : x % 128 = y % 128 := by omega
  rw [h3]
  clear hy h3 h0
  obtain ⟨m, rfl⟩ := Int.eq_ofNat_of_zero_le h2
  have hm : m < 256 := by omega
  revert hm
  clear h1 h2
  revert m
  decide +kernel
theorem and127b {x : Int} (h0 : 0 ≤ x) : Go.bits .and .u8 (x % 256) 127 = x % 128 := by
  rw [u8_and127 (by omega) (by omega)]
  omega
theorem put_l2 (n : Int) (h0 : 0 ≤ n) (l : List Int) (len : Int) (at_ : Nat) (ha : at_ < 100000) : ∀ (j k : Nat) (b : List Int), j ≤ 9 → b.length + j < 1000000 → PR.octets_Put.l2 (k + j + 1) b n j l len at_ = PR.octets_Put.l0 k (b ++ (hiD n j ++ [n % 128])) l len ((at_ + 1 : Nat) : Int)
  | 0, k, b, hj, hb => by
    rw [PR.octets_Put.l2, if_neg (by omega), if_pos (by omega), and127b h0, wrap_up at_ (by omega)]
    rfl
  | j + 1, k, b, hj, hb => by
    have hs := shr7 n (j + 1) hj
    have hq : 0 ≤ n / 128 ^ (j + 1) := Int.ediv_nonneg h0 (Int.le_of_lt (pow128 _))
    rw [PR.octets_Put.l2, if_pos (by omega), if_pos (by rw [wrap64_id (by omega) (by omega)]; omega), if_pos (by omega), hs, or128 hq, wrap_dn j (by omega)]
    rw [show k + (j + 1) = k + j + 1 from by omega, put_l2 n h0 l len at_ ha j k _ (by omega) (by rw [List.length_append, List.length_singleton]; omega), hiD]
    simp
theorem put_l0 (l : List Int) (hl : Nums l) (hll : l.length < 1000) : ∀ (m k i : Nat) (acc : List Int), i + m = l.length → 25 * m < k → acc.length + 10 * m < 1000000 → PR.octets_Put.l0 k acc l l.length i = some (acc ++ (l.drop i).flatMap numB)
  | 0, k + 1, i, acc, h1, h2, h3 => by
    rw [PR.octets_Put.l0, if_neg (by omega), List.drop_of_length_le (by omega)]
    simp
  | m + 1, k + 1, i, acc, h1, h2, h3 => by
    have hi : i < l.length := by omega
    have hr : rd l (i : Int) = l[i] := by simp [rd, hi]
    obtain ⟨h4, h5⟩ := hl _ (List.getElem_mem hi)
    obtain ⟨j, j1, j2, j3⟩ := hi_of 9 l[i] h4 (by have : (128 : Int) ^ (9 + 1) = 1180591620717411303424 := by decide
                                                  omega)
    have hB : numB l[i] = hiD l[i] j ++ [l[i] % 128] := by
      rw [numB, numH_hi 9 j l[i] h4 j1 j2 (by
        rcases j with _ | j
        · exact .inl rfl
        · exact .inr (j3 j (by omega)))]
    have h6 := numB_le l[i]
    obtain ⟨k1, rfl⟩ : ∃ k1, k = k1 + j + 1 + j + 1 := ⟨k - (j + 1 + j + 1), by omega⟩
    rw [PR.octets_Put.l0, if_pos (by omega), if_pos (by omega), if_pos (by omega), hr]
    have e1 := put_l1 acc l[i] l l.length i j j1 j2 j3 j (k1 + j + 1) 0 (by omega)
    rw [show ((0 : Nat) : Int) = 0 from rfl] at e1
    rw [e1, put_l2 l[i] h4 l l.length i (by omega) j k1 acc j1 (by omega), ← hB, put_l0 l hl hll m k1 (i + 1) _ (by omega) (by omega) (by rw [List.length_append]; omega), List.drop_eq_getElem_cons hi, List.flatMap_cons, List.append_assoc]
theorem put_f (k : Nat) (b l : List Int) (hl : Nums l) (hll : l.length < 1000) (hb : b.length < 900000) (hk : 25 * l.length < k) : PR.octets_Put.f k b l = some (b ++ l.flatMap numB) := by
  unfold PR.octets_Put.f
  rw [Option.bind_some, if_pos (by simp; omega)]
  have := put_l0 l hl hll l.length k 0 ([] ++ b) (by omega) hk (by simp; omega)
  rw [List.drop_zero, show ((0 : Nat) : Int) = 0 from rfl] at this
  rw [this]
  rfl

theorem word_f (k : Nat) (b : List Int) (n : Int) (hb : b.length < 900000) (hk : 9 < k) : PR.octets_Word.f k b n = some (b ++ wordB n) := by
  obtain ⟨k, rfl⟩ : ∃ q, k = q + 9 := ⟨k - 9, by omega⟩
  have hs : ∀ s : Nat, s ≤ 64 → shr .u64 n (s : Int) = n / 2 ^ s := fun s hs => by
    unfold shr
    have e : min (s : Int).toNat IntKind.u64.bits = s := by
      show min (s : Int).toNat 64 = s
      omega
    rw [e]
  have s7 := hs 56 (by decide)
  have s6 := hs 48 (by decide)
  have s5 := hs 40 (by decide)
  have s4 := hs 32 (by decide)
  have s3 := hs 24 (by decide)
  have s2 := hs 16 (by decide)
  have s1 := hs 8 (by decide)
  have s0 := hs 0 (by decide)
  unfold PR.octets_Word.f
  rw [Option.bind_some, if_pos (by simp; omega)]
  have hw : ∀ x y : Int, x - 8 = y → -100 ≤ x → x ≤ 100 → wrap64 (x - 8) = y := fun x y h h1 h2 => by rw [wrap64_id (by omega) (by omega)]; exact h
  rw [PR.octets_Word.l0, if_pos (by decide), if_pos (by decide), if_pos (by simp; omega), hw 56 48 rfl (by decide) (by decide),
    PR.octets_Word.l0, if_pos (by decide), if_pos (by decide), if_pos (by simp; omega), hw 48 40 rfl (by decide) (by decide),
    PR.octets_Word.l0, if_pos (by decide), if_pos (by decide), if_pos (by simp; omega), hw 40 32 rfl (by decide) (by decide),
    PR.octets_Word.l0, if_pos (by decide), if_pos (by decide), if_pos (by simp; omega), hw 32 24 rfl (by decide) (by decide),
    PR.octets_Word.l0, if_pos (by decide), if_pos (by decide), if_pos (by simp; omega), hw 24 16 rfl (by decide) (by decide),
    PR.octets_Word.l0, if_pos (by decide), if_pos (by decide), if_pos (by simp; omega), hw 16 8 rfl (by decide) (by decide),
    PR.octets_Word.l0, if_pos (by decide), if_pos (by decide), if_pos (by simp; omega), hw 8 0 rfl (by decide) (by decide),
    PR.octets_Word.l0, if_pos (by decide), if_pos (by decide), if_pos (by simp; omega), hw 0 (-8) rfl (by decide) (by decide),
    PR.octets_Word.l0, if_neg (by decide)]
  have t7 : shr .u64 n 56 = n / 72057594037927936 := s7
  have t6 : shr .u64 n 48 = n / 281474976710656 := s6
  have t5 : shr .u64 n 40 = n / 1099511627776 := s5
  have t4 : shr .u64 n 32 = n / 4294967296 := s4
  have t3 : shr .u64 n 24 = n / 16777216 := s3
  have t2 : shr .u64 n 16 = n / 65536 := s2
  have t1 : shr .u64 n 8 = n / 256 := s1
  have t0 : shr .u64 n 0 = n / 1 := s0
  rw [t7, t6, t5, t4, t3, t2, t1, t0, Int.ediv_one]
  simp [wordB]
theorem refWord_f (k : Nat) (b : List Int) (n : Int) (h0 : 0 ≤ n) (h1 : n < 18446744073709551616) (hb : b.length < 900000) (hk : 9 < k) : PR.butteryref02_Word.f k b n = some (b ++ wordB n) := by
  obtain ⟨k, rfl⟩ : ∃ q, k = q + 9 := ⟨k - 9, by omega⟩
  have hd : ∀ y : Int, 0 < y → (Int.tmod (IntKind.u64.wrap (Int.tdiv n y)) 256) % 256 = n / y % 256 := fun y hy => by
    have h2 : 0 ≤ n / y := Int.ediv_nonneg h0 (Int.le_of_lt hy)
    have h3 : n / y ≤ n := Int.ediv_le_self _ h0
    rw [Int.tdiv_eq_ediv_of_nonneg h0, wraps_u64 (n / y) h2 (by omega), Int.tmod_eq_emod_of_nonneg h2]
    omega
  have hy : ∀ y z : Int, 0 ≤ y → y / 256 = z → y ≤ 72057594037927936 → IntKind.u64.wrap (Int.tdiv y 256) = z := fun y z h2 h3 h4 => by
    rw [Int.tdiv_eq_ediv_of_nonneg h2, h3, wraps_u64 z (by omega) (by omega)]
  have hi : ∀ x y : Int, x + 1 = y → 0 ≤ x → x < 100 → wrap64 (x + 1) = y := fun x y h2 h3 h4 => by rw [wrap64_id (by omega) (by omega)]; exact h2
  unfold PR.butteryref02_Word.f
  rw [if_pos (by simp; omega)]
  rw [PR.butteryref02_Word.l0, if_pos (by decide), if_neg (by decide), if_pos (by simp; omega), hd 72057594037927936 (by decide), hy 72057594037927936 281474976710656 (by decide) (by decide) (by decide), hi 0 1 (by decide) (by decide) (by decide),
    PR.butteryref02_Word.l0, if_pos (by decide), if_neg (by decide), if_pos (by simp; omega), hd 281474976710656 (by decide), hy 281474976710656 1099511627776 (by decide) (by decide) (by decide), hi 1 2 (by decide) (by decide) (by decide),
    PR.butteryref02_Word.l0, if_pos (by decide), if_neg (by decide), if_pos (by simp; omega), hd 1099511627776 (by decide), hy 1099511627776 4294967296 (by decide) (by decide) (by decide), hi 2 3 (by decide) (by decide) (by decide),
    PR.butteryref02_Word.l0, if_pos (by decide), if_neg (by decide), if_pos (by simp; omega), hd 4294967296 (by decide), hy 4294967296 16777216 (by decide) (by decide) (by decide), hi 3 4 (by decide) (by decide) (by decide),
    PR.butteryref02_Word.l0, if_pos (by decide), if_neg (by decide), if_pos (by simp; omega), hd 16777216 (by decide), hy 16777216 65536 (by decide) (by decide) (by decide), hi 4 5 (by decide) (by decide) (by decide),
    PR.butteryref02_Word.l0, if_pos (by decide), if_neg (by decide), if_pos (by simp; omega), hd 65536 (by decide), hy 65536 256 (by decide) (by decide) (by decide), hi 5 6 (by decide) (by decide) (by decide),
    PR.butteryref02_Word.l0, if_pos (by decide), if_neg (by decide), if_pos (by simp; omega), hd 256 (by decide), hy 256 1 (by decide) (by decide) (by decide), hi 6 7 (by decide) (by decide) (by decide),
    PR.butteryref02_Word.l0, if_pos (by decide), if_neg (by decide), if_pos (by simp; omega), hd 1 (by decide), hy 1 0 (by decide) (by decide) (by decide), hi 7 8 (by decide) (by decide) (by decide),
    PR.butteryref02_Word.l0, if_neg (by decide), Int.ediv_one]
  simp [wordB]

theorem nums1 {n : Int} (h0 : 0 ≤ n) (h1 : n ≤ 1099511627776) : Nums [n] := fun x hx => by rw [List.mem_singleton.1 hx]; omega
def FlN (L : List Fl) : Prop := ∀ x ∈ L, 0 ≤ x.f0 ∧ x.f0 < 18446744073709551616 ∧ 0 ≤ x.f1 ∧ x.f1 ≤ 1099511627776
theorem putL8_cons (x : Fl) (r : List Fl) : putL8 (x :: r) = wordB x.f0 ++ (numB x.f1 ++ putL8 r) := by simp [putL8]
theorem flPut_l (L : List Fl) (hL : FlN L) (hl : L.length < 1000) : ∀ (m k i : Nat) (acc : List Int), i + m = L.length → m + 40 < k → acc.length + 20 * m < 800000 → PR.floors_Put.l0 k acc L L.length i = some (acc ++ putL8 (L.drop i))
  | 0, k + 1, i, acc, h1, h2, h3 => by
    rw [PR.floors_Put.l0, if_neg (by omega), List.drop_of_length_le (by omega)]
    simp [putL8]
  | m + 1, k + 1, i, acc, h1, h2, h3 => by
    have hi : i < L.length := by omega
    obtain ⟨g0, g1, g2, g3⟩ := hL _ (List.getElem_mem hi)
    have h6 := numB_le L[i].f1
    have hwl : (wordB L[i].f0).length = 8 := rfl
    rw [PR.floors_Put.l0, if_pos (by omega), if_pos (by omega), if_pos (by omega), rdF hi, word_f k acc _ (by omega) (by omega), Option.bind_some, put_f k _ _ (nums1 g2 g3) (by simp) (by rw [List.length_append]; omega) (by simp; omega), Option.bind_some, wrap_up i (by omega),
      flPut_l L hL hl m k (i + 1) _ (by omega) (by omega) (by simp only [List.length_append, List.flatMap_cons, List.flatMap_nil, List.append_nil]; omega), List.drop_eq_getElem_cons hi, putL8_cons]
    simp
theorem flPut_f (low : Int) (L : List Fl) (hL : FlN L) (hl : L.length < 1000) (h0 : 0 ≤ low) (h1 : low ≤ 1099511627776) : PR.floors_Put.f (L.length + 100) [] low L = some (putF low L) := by
  have hn : Nums [low, (L.length : Int)] := fun x hx => by
    rcases List.mem_cons.1 hx with rfl | hx
    · omega
    · rw [List.mem_singleton.1 hx]
      omega
  unfold PR.floors_Put.f
  rw [put_f _ [] _ hn (by simp) (by simp) (by simp only [List.length_cons, List.length_nil]; omega), Option.bind_some]
  have h2 := flatB_len [low, (L.length : Int)]
  have := flPut_l L hL hl L.length (L.length + 100) 0 ([] ++ [low, (L.length : Int)].flatMap numB) (by omega) (by omega) (by simp only [List.length_append, List.length_nil] at h2 ⊢; simp only [List.length_cons, List.length_nil] at h2; omega)
  rw [List.drop_zero, show ((0 : Nat) : Int) = 0 from rfl] at this
  rw [this]
  simp [putF]
theorem refFlPut_l (low : Int) (L : List Fl) (hL : FlN L) (hl : L.length < 1000) : ∀ (m k i : Nat) (acc : List Int), i + m = L.length → m + 40 < k → acc.length + 20 * m < 800000 → PR.butteryref16_Put.l0 k acc i low L = some (acc ++ putL8 (L.drop i))
  | 0, k + 1, i, acc, h1, h2, h3 => by
    rw [PR.butteryref16_Put.l0, if_neg (by omega), List.drop_of_length_le (by omega)]
    simp [putL8]
  | m + 1, k + 1, i, acc, h1, h2, h3 => by
    have hi : i < L.length := by omega
    obtain ⟨g0, g1, g2, g3⟩ := hL _ (List.getElem_mem hi)
    have h6 := numB_le L[i].f1
    have hwl : (wordB L[i].f0).length = 8 := rfl
    rw [PR.butteryref16_Put.l0, if_pos (by omega), if_pos (by omega), rdF hi, refWord_f k acc _ g0 g1 (by omega) (by omega), Option.bind_some, refPut_f k _ _ (nums1 g2 g3) (by simp) (by rw [List.length_append]; omega) (by simp; omega), Option.bind_some, wrap_up i (by omega),
      refFlPut_l low L hL hl m k (i + 1) _ (by omega) (by omega) (by simp only [List.length_append, List.flatMap_cons, List.flatMap_nil, List.append_nil]; omega), List.drop_eq_getElem_cons hi, putL8_cons]
    simp
theorem refFlPut_f (low : Int) (L : List Fl) (hL : FlN L) (hl : L.length < 1000) (h0 : 0 ≤ low) (h1 : low ≤ 1099511627776) : PR.butteryref16_Put.f (L.length + 100) [] low L = some (putF low L) := by
  have hn : Nums [low, (L.length : Int)] := fun x hx => by
    rcases List.mem_cons.1 hx with rfl | hx
    · omega
    · rw [List.mem_singleton.1 hx]
      omega
  unfold PR.butteryref16_Put.f
  rw [refPut_f _ [] _ hn (by simp) (by simp) (by simp only [List.length_cons, List.length_nil]; omega), Option.bind_some]
  have h2 := flatB_len [low, (L.length : Int)]
  have := refFlPut_l low L hL hl L.length (L.length + 100) 0 ([] ++ [low, (L.length : Int)].flatMap numB) (by omega) (by omega) (by simp only [List.length_append, List.length_nil] at h2 ⊢; simp only [List.length_cons, List.length_nil] at h2; omega)
  rw [List.drop_zero, show ((0 : Nat) : Int) = 0 from rfl] at this
  rw [this]
  simp [putF]
theorem same8_l (L M : List Int) (hlm : L.length = M.length) (hL : L.length < 1000000) : ∀ (n k i : Nat), i + n = L.length → n < k → PR.butteryref02_Same.l0 k L M i = some (decide (L.drop i = M.drop i))
  | 0, k + 1, i, h1, h2 => by
    rw [PR.butteryref02_Same.l0, if_neg (by omega), List.drop_of_length_le (by omega), List.drop_of_length_le (by omega)]
    simp
  | n + 1, k + 1, i, h1, h2 => by
    have hi : i < L.length := by omega
    have hi2 : i < M.length := by omega
    have r1 : rd L (i : Int) = L[i] := by simp [rd, hi]
    have r2 : rd M (i : Int) = M[i] := by simp [rd, hi2]
    rw [PR.butteryref02_Same.l0, if_pos (by omega), if_pos (by omega), if_pos (by omega), r1, r2, wrap_up i (by omega), List.drop_eq_getElem_cons hi, List.drop_eq_getElem_cons hi2]
    by_cases he : L[i] = M[i]
    · rw [if_pos he, same8_l L M hlm hL n k (i + 1) (by omega) (by omega)]
      exact congrArg some (decide_eq_decide.2 ⟨fun e => by rw [e, he], fun e => (List.cons.inj e).2⟩)
    · rw [if_neg he]
      exact congrArg some (decide_eq_false (fun e => he (List.cons.inj e).1)).symm
theorem same8_f (L M : List Int) (hL : L.length < 1000000) : PR.butteryref02_Same.f (L.length + 2) L M = some (decide (L = M)) := by
  unfold PR.butteryref02_Same.f
  by_cases hlm : L.length = M.length
  · rw [if_pos (by omega)]
    have := same8_l L M hlm hL L.length (L.length + 2) 0 (by omega) (by omega)
    rw [List.drop_zero, List.drop_zero, show ((0 : Nat) : Int) = 0 from rfl] at this
    exact this
  · rw [if_neg (by omega), decide_eq_false (fun e => hlm (by rw [e]))]
end Go.Proofs.YtmoiochblmdgfaaDoor
namespace Go.Proofs.YtmoiochblmdgfaaDoor
set_option linter.unusedVariables false
set_option linter.unusedSimpArgs false
open Go.RowKit Go.Proofs.YtmoiochblmdgfaaDoorW.PrintWords
attribute [local go_sem ↓] Go.wp_at_zero Go.wp_at_succ

/-- The document's reader as a value. -/
abbrev rv (A : Option Addr) (n c : Nat) (at_ code : Int) : Value := .agg #[.slice A n c, .int .i64 at_, .int .i64 code]
theorem a3_mid (w : World) (a c : Obj) (cs : Array Value) (t : TypeId) : (((w.alloc a).alloc (.cells cs t)).alloc c).heap[w.heap.size + 1]? = some (.cells cs t (0, 0)) := by
  have h := heap_alloc_new (w.alloc a) (.cells cs t)
  rw [show (w.alloc a).heap.size = w.heap.size + 1 by simp] at h
  exact (Below.heap_alloc _ _ _ (by simp)).trans h
theorem a2_last (w : World) (a : Obj) (cs : Array Value) (t : TypeId) : ((w.alloc a).alloc (.cells cs t)).heap[w.heap.size + 1]? = some (.cells cs t (0, 0)) := by
  have h := heap_alloc_new (w.alloc a) (.cells cs t)
  rw [show (w.alloc a).heap.size = w.heap.size + 1 by simp] at h
  exact h
theorem bel_a2 (w : World) (a b : Obj) : Below w.heap.size w ((w.alloc a).alloc b) := (bel_alloc w a).trans ((bel_alloc _ _).mono (bel_alloc w a).size)
theorem bel_a3 (w : World) (a b c : Obj) : Below w.heap.size w (((w.alloc a).alloc b).alloc c) := (bel_a2 w a b).trans ((bel_alloc _ _).mono (bel_a2 w a b).size)
theorem set3 {w : World} {b : Nat} {t : TypeId} {y0 y1 y2 : Value} (h : w.heap[b]? = some (.cells #[y0, y1, y2] t (0, 0))) (x0 x1 x2 : Value) :
    (((w.setCell ⟨b, 0, none⟩ x0).setCell ⟨b, 1, none⟩ x1).setCell ⟨b, 2, none⟩ x2).heap[b]? = some (.cells #[x0, x1, x2] t (0, 0)) := by
  have h2 := blk_set (blk_set (blk_set h 0 x0) 1 x1) 2 x2
  simpa using h2
theorem refFail_any (A : Option Addr) (n c : Nat) (at_ code x : Int) (w : World) :
    Calls Tryd.prog 59 #[rv A n c at_ code, .int .i64 x] w fun e w' => e = .returned (rv A n c at_ (if code = 0 then x else code)) ∧ Below w.heap.size w w' := by
  by_cases h : code = 0
  · rw [if_pos h]
    have hb : (code == 0) = true := by simpa using h
    clear h
    go_enter Tryd.func59, Tryd.ntmps59
    go_wp2_with fail
    refine bodyPost_ret (results_c rfl _ _ (w.heap.size + 1) 50 _ (0, 0) _ rfl (a3_mid _ _ _ _ _) Tryd.underlying50 rfl (by kernel_rfl)) rfl ?_
    exact ⟨rfl, bel_a3 _ _ _ _⟩
  · rw [if_neg h]
    have hb : (code == 0) = false := by simpa using h
    clear h
    go_enter Tryd.func59, Tryd.ntmps59
    go_wp2_with fail
    refine bodyPost_ret (results_c rfl _ _ (w.heap.size + 1) 50 _ (0, 0) _ rfl (a3_mid _ _ _ _ _) Tryd.underlying50 rfl (by kernel_rfl)) rfl ?_
    exact ⟨rfl, bel_a3 _ _ _ _⟩
theorem refFail0 (A : Option Addr) (n c : Nat) (at_ x : Int) (w : World) :
    Calls Tryd.prog 59 #[rv A n c at_ 0, .int .i64 x] w fun e w' => e = .returned (rv A n c at_ x) ∧ Below w.heap.size w w' := by
  have h := refFail_any A n c at_ 0 x w
  rw [if_pos rfl] at h
  exact h

set_option maxHeartbeats 4000000 in
set_option maxRecDepth 100000 in
theorem refNum_any (A : Option Addr) (c : Nat) (bs : List Int) (at0 code most : Int) (w : World) (hC : kO.C w A bs.length bs) (hb : Oct bs) (hl : bs.length < 1000000) (ha0 : 0 ≤ at0) (ha1 : at0 ≤ bs.length) (hm0 : 0 ≤ most) (hm1 : most ≤ 1099511627776) :
    Calls Tryd.prog 45 #[rv A bs.length c at0 code, .int .i64 most] w fun e w' => e = .returned (.tuple #[rv A bs.length c (numR most bs at0 code).2.1 (numR most bs at0 code).2.2, .int .i64 (numR most bs at0 code).1]) ∧ Below w.heap.size w w' := by
  have HC := Lib.hid hC
  have HOC := Lib.hid hb
  obtain ⟨rs, hrs⟩ : ∃ rs, rs = numR most bs at0 code := ⟨_, rfl⟩
  have HRS := Lib.hid (show rs = if code = 0 then numG most at0 (bs.drop at0.toNat) at0 0 else (0, at0, code) from hrs)
  rw [← hrs]
  clear hC hb hrs
  obtain ⟨i0, rfl⟩ := Int.eq_ofNat_of_zero_le ha0
  by_cases hcd : code = 0
  · have hcb : (code != 0) = false := by simpa using hcd
    have HR0 := Lib.hid (show rs = numG most i0 (bs.drop i0) i0 0 by rw [HRS.out, if_pos hcd]; rfl)
    subst hcd
    clear HRS hcb
    go_enter Tryd.func45, Tryd.ntmps45
    go_wp2_with fail
    have hk1 : ((w.alloc (.cells #[.slice A bs.length c, .int .i64 i0, .int .i64 0] 50)).alloc (.cells #[.slice none 0 0, .int .i64 0, .int .i64 0] 50)).heap[w.heap.size]? = some (.cells #[.slice A bs.length c, .int .i64 i0, .int .i64 0] 50 (0, 0)) :=
      (Below.heap_alloc _ _ _ (by simp)).trans (heap_alloc_new _ _)
    have HK2 := Lib.hid (a2_last w (.cells #[.slice A bs.length c, .int .i64 i0, .int .i64 0] 50) #[.slice none 0 0, .int .i64 0, .int .i64 0] 50)
    have HBW := Lib.hid (bel_a2 w (.cells #[.slice A bs.length c, .int .i64 i0, .int .i64 0] 50) (.cells #[.slice none 0 0, .int .i64 0, .int .i64 0] 50))
    have HSZ := Lib.hid (show w.heap.size + 2 = ((w.alloc (.cells #[.slice A bs.length c, .int .i64 i0, .int .i64 0] 50)).alloc (.cells #[.slice none 0 0, .int .i64 0, .int .i64 0] 50)).heap.size by simp)
    have HK1 := Lib.hid hk1
    clear hk1
    generalize (w.alloc (.cells #[.slice A bs.length c, .int .i64 i0, .int .i64 0] 50)).alloc (.cells #[.slice none 0 0, .int .i64 0, .int .i64 0] 50) = wb at *
    have hlt : w.heap.size + 1 < wb.heap.size := by have := HSZ.out; omega
    have hlt0 : w.heap.size < wb.heap.size := by omega
    have r0 := cell_of_row wb _ 0 _ _ (0, 0) HK1.out
    have r1 := cell_of_row wb _ 1 _ _ (0, 0) HK1.out
    have r2 := cell_of_row wb _ 2 _ _ (0, 0) HK1.out
    have q0 := cell_of_row wb _ 0 _ _ (0, 0) HK2.out
    have q1 := cell_of_row wb _ 1 _ _ (0, 0) HK2.out
    have q2 := cell_of_row wb _ 2 _ _ (0, 0) HK2.out
    have f0 : wb.frozen? ⟨w.heap.size + 1, 0, none⟩ = false := by simp [World.frozen?, HK2.out]
    have f1 : wb.frozen? ⟨w.heap.size + 1, 1, none⟩ = false := by simp [World.frozen?, HK2.out]
    have f2 : wb.frozen? ⟨w.heap.size + 1, 2, none⟩ = false := by simp [World.frozen?, HK2.out]
    have HFL := Lib.hid (fun x => refFail0 A bs.length c i0 x wb)
    have HEND := Lib.hid (show ∀ W (a b d : Value), Below wb.heap.size wb W → (((W.setCell ⟨w.heap.size + 1, 0, none⟩ a).setCell ⟨w.heap.size + 1, 1, none⟩ b).setCell ⟨w.heap.size + 1, 2, none⟩ d).heap[w.heap.size + 1]? = some (.cells #[a, b, d] 50 (0, 0)) ∧ Below w.heap.size w (((W.setCell ⟨w.heap.size + 1, 0, none⟩ a).setCell ⟨w.heap.size + 1, 1, none⟩ b).setCell ⟨w.heap.size + 1, 2, none⟩ d) from fun W a b d hW =>
      ⟨set3 ((hW.block _ hlt).trans HK2.out) a b d, ((((HBW.out.trans (hW.mono HBW.out.size)).setCell (p := ⟨w.heap.size + 1, 0, none⟩) (Nat.le_succ _) a).setCell (p := ⟨w.heap.size + 1, 1, none⟩) (Nat.le_succ _) b).setCell (p := ⟨w.heap.size + 1, 2, none⟩) (Nat.le_succ _) d)⟩)
    have HEN2 := Lib.hid (show ∀ (a b d : Value) (o : Obj), ((((wb.setCell ⟨w.heap.size + 1, 0, none⟩ a).setCell ⟨w.heap.size + 1, 1, none⟩ b).setCell ⟨w.heap.size + 1, 2, none⟩ d).alloc o).heap[w.heap.size + 1]? = some (.cells #[a, b, d] 50 (0, 0)) ∧ Below w.heap.size w ((((wb.setCell ⟨w.heap.size + 1, 0, none⟩ a).setCell ⟨w.heap.size + 1, 1, none⟩ b).setCell ⟨w.heap.size + 1, 2, none⟩ d).alloc o) from fun a b d o => by
      obtain ⟨h1, h2⟩ := HEND.out wb a b d (Below.refl _ _)
      exact ⟨(Below.heap_alloc _ _ _ (Array.getElem?_eq_some_iff.1 h1).1).trans h1, h2.trans ((bel_alloc _ o).mono h2.size)⟩)
    have HBC := Lib.hid (show ∀ W, Below wb.heap.size wb W → W.cell? ⟨w.heap.size + 1, 0, none⟩ = some (.slice none 0 0) ∧ W.cell? ⟨w.heap.size + 1, 1, none⟩ = some (.int .i64 0) ∧ W.cell? ⟨w.heap.size + 1, 2, none⟩ = some (.int .i64 0) ∧ W.frozen? ⟨w.heap.size + 1, 0, none⟩ = false ∧ W.frozen? ⟨w.heap.size + 1, 1, none⟩ = false ∧ W.frozen? ⟨w.heap.size + 1, 2, none⟩ = false from fun W hW => by
      have e := (hW.block _ hlt).trans HK2.out
      exact ⟨cell_of_row W _ 0 _ _ (0, 0) e, cell_of_row W _ 1 _ _ (0, 0) e, cell_of_row W _ 2 _ _ (0, 0) e, by simp [World.frozen?, e], by simp [World.frozen?, e], by simp [World.frozen?, e]⟩)
    go_loop [6, 7] (fun nv iv => ∃ (n : Int) (i : Nat), nv = .int .i64 n ∧ iv = .int .i64 i ∧ i0 ≤ i ∧ i ≤ bs.length ∧ 0 ≤ n ∧ n ≤ 281474976710656 ∧ (i = i0 → n = 0) ∧ Hid (rs = numG most i0 (bs.drop i) i n)) (fun _ iv => bs.length - (intOf iv).toNat)
    case atStart => exact ⟨0, i0, rfl, rfl, Nat.le_refl _, by omega, by omega, by omega, fun _ => rfl, HR0.out⟩
    case round =>
      obtain ⟨n, i, rfl, rfl, h1, h2, h3, h4, h5, HR⟩ := hrel
      by_cases hlti : i < bs.length
      · have hr0 : rd bs (i : Int) = bs[i] := by simp [rd, hlti]
        have hdr : bs.drop i = bs[i] :: bs.drop (i + 1) := List.drop_eq_getElem_cons hlti
        have hr2 := HR.out
        rw [hdr, numG] at hr2
        obtain ⟨ad, hA, d0⟩ := at_oct (Kd.C_below HC.out HBW.out) hlti
        subst hA
        rw [hr0] at d0
        obtain ⟨hc0, hc1⟩ := HOC.out _ (List.getElem_mem hlti)
        have HR2 := Lib.hid hr2
        clear hr2 hdr hr0
        generalize bs[i] = ch at *
        have i1 : (0 : Int) ≤ (i : Int) := by omega
        have i2 : (i : Int) < (bs.length : Int) := by omega
        by_cases hA : ch = 128 ∧ i = i0
        · have HX := Lib.hid (show rs = (0, (i0 : Int), 5) by rw [HR2.out, if_pos ⟨hA.1, h5 hA.2, by rw [hA.2]⟩])
          have k1 : (ch == 128) = true := by simpa using hA.1
          have k2 : ((i : Int) == (i0 : Int)) = true := by have := hA.2; simp; omega
          clear hA HR2 HR
          go_wp2_with fail
          refine (HFL.out 5).mono ?_
          rintro e w2 ⟨rfl, hb2⟩
          obtain ⟨t0, t1, t2, t3, t4, t5⟩ := HBC.out _ hb2
          have HB2 := Lib.hid hb2
          clear hb2
          go_wp2_with fail
          refine bodyPost_ret (results_ct rfl _ _ (w.heap.size + 1) 50 _ (0, 0) _ rfl (HEND.out w2 _ _ _ HB2.out).1 Tryd.underlying50 rfl (by kernel_rfl)) rfl ?_
          rw [HX.out]
          exact ⟨rfl, (HEND.out w2 _ _ _ HB2.out).2⟩
        · have hr3 : rs = (if most / 128 < n then (0, (i0 : Int), 2) else if 128 ≤ ch then numG most i0 (bs.drop (i + 1)) (i + 1) (n * 128 + (ch - 128)) else if most < n * 128 + ch then (0, (i0 : Int), 2) else (n * 128 + ch, (i : Int) + 1, 0)) := by
            rw [HR2.out, if_neg (fun e => hA ⟨e.1, by omega⟩)]
          have hk : (ch == 128) = false ∨ ((ch == 128) = true ∧ ((i : Int) == (i0 : Int)) = false) := by
            by_cases h6 : ch = 128
            · refine .inr ⟨by simpa using h6, ?_⟩
              have : ¬ i = i0 := fun e => hA ⟨h6, e⟩
              simp
              omega
            · exact .inl (by simpa using h6)
          have HR3 := Lib.hid hr3
          have hmod : ch % 128 = if 128 ≤ ch then ch - 128 else ch := by split <;> omega
          have HMOD := Lib.hid hmod
          clear hr3 hA HR2 HR hmod
          rcases hk with k1 | ⟨k1, k2⟩
          all_goals
            by_cases hrg : most / 128 < n
            · have HX := Lib.hid (show rs = (0, (i0 : Int), 2) by rw [HR3.out, if_pos hrg])
              go_wp2_with fail
              refine (HFL.out 2).mono ?_
              rintro e w2 ⟨rfl, hb2⟩
              obtain ⟨t0, t1, t2, t3, t4, t5⟩ := HBC.out _ hb2
              have HB2 := Lib.hid hb2
              clear hb2
              go_wp2_with fail
              refine bodyPost_ret (results_ct rfl _ _ (w.heap.size + 1) 50 _ (0, 0) _ rfl (HEND.out w2 _ _ _ HB2.out).1 Tryd.underlying50 rfl (by kernel_rfl)) rfl ?_
              rw [HX.out]
              exact ⟨rfl, (HEND.out w2 _ _ _ HB2.out).2⟩
            · by_cases hge8 : 128 ≤ ch
              · have HX := Lib.hid (show rs = numG most i0 (bs.drop (i + 1)) (i + 1) (n * 128 + (ch - 128)) by rw [HR3.out, if_neg hrg, if_pos hge8])
                have HM := Lib.hid (show ch % 128 = ch - 128 by omega)
                go_wp2_with fail
                rw [HM.out]
                go_round
                case rel => exact ⟨n * 128 + (ch - 128), i + 1, rfl, by go_num, by omega, by omega, by omega, by omega, fun e => by omega, HX.out⟩
                case measure => simp [intOf]; omega
              · have HM := Lib.hid (show ch % 128 = ch by omega)
                by_cases hm : most < n * 128 + ch
                · have HX := Lib.hid (show rs = (0, (i0 : Int), 2) by rw [HR3.out, if_neg hrg, if_neg hge8, if_pos hm])
                  have hmm : most < n * 128 + ch % 128 := by omega
                  go_wp2_with fail
                  refine (HFL.out 2).mono ?_
                  rintro e w2 ⟨rfl, hb2⟩
                  obtain ⟨t0, t1, t2, t3, t4, t5⟩ := HBC.out _ hb2
                  have HB2 := Lib.hid hb2
                  clear hb2
                  go_wp2_with fail
                  refine bodyPost_ret (results_ct rfl _ _ (w.heap.size + 1) 50 _ (0, 0) _ rfl (HEND.out w2 _ _ _ HB2.out).1 Tryd.underlying50 rfl (by kernel_rfl)) rfl ?_
                  rw [HX.out]
                  exact ⟨rfl, (HEND.out w2 _ _ _ HB2.out).2⟩
                · have HX := Lib.hid (show rs = (n * 128 + ch, (i : Int) + 1, 0) by rw [HR3.out, if_neg hrg, if_neg hge8, if_neg hm])
                  have hmm : ¬ most < n * 128 + ch % 128 := by omega
                  have HNN := Lib.hid (show n * 128 + ch % 128 = n * 128 + ch by omega)
                  go_wp2_with fail
                  refine bodyPost_ret (results_ct rfl _ _ (w.heap.size + 1) 50 _ (0, 0) _ rfl (HEN2.out _ _ _ _).1 Tryd.underlying50 rfl (by kernel_rfl)) rfl ?_
                  rw [HX.out]
                  refine ⟨?_, (HEN2.out _ _ _ _).2⟩
                  show Ending.returned (.tuple #[_, .int .i64 (n * 128 + ch % 128)]) = _
                  rw [HNN.out]
      · have hiL : i = bs.length := by omega
        have HE := Lib.hid (show rs = (0, (i0 : Int), 6) by rw [HR.out, hiL, List.drop_length]; rfl)
        have i3 : ¬ (i : Int) < (bs.length : Int) := by omega
        clear hiL
        go_wp2_with fail
        refine (HFL.out 6).mono ?_
        rintro e w2 ⟨rfl, hb2⟩
        obtain ⟨t0, t1, t2, t3, t4, t5⟩ := HBC.out _ hb2
        have HB2 := Lib.hid hb2
        clear hb2
        go_wp2_with fail
        refine bodyPost_ret (results_ct rfl _ _ (w.heap.size + 1) 50 _ (0, 0) _ rfl (HEND.out w2 _ _ _ HB2.out).1 Tryd.underlying50 rfl (by kernel_rfl)) rfl ?_
        rw [HE.out]
        exact ⟨rfl, (HEND.out w2 _ _ _ HB2.out).2⟩
  · have hcb : (code != 0) = true := by simpa using hcd
    have HX := Lib.hid (show rs = (0, (i0 : Int), code) by rw [HRS.out, if_neg hcd])
    clear hcd HRS
    go_enter Tryd.func45, Tryd.ntmps45
    go_wp2_with fail
    refine bodyPost_ret (results_ct rfl _ _ (w.heap.size + 1) 50 _ (0, 0) _ rfl (a2_last _ _ _ _) Tryd.underlying50 rfl (by kernel_rfl)) rfl ?_
    rw [HX.out]
    exact ⟨rfl, bel_a2 _ _ _⟩
end Go.Proofs.YtmoiochblmdgfaaDoor
namespace Go.Proofs.YtmoiochblmdgfaaDoor
set_option linter.unusedVariables false
set_option linter.unusedSimpArgs false
open Go.RowKit Go.Proofs.YtmoiochblmdgfaaDoorW.PrintWords
attribute [local go_sem ↓] Go.wp_at_zero Go.wp_at_succ

set_option maxHeartbeats 4000000 in
set_option maxRecDepth 100000 in
theorem refEight_any (A : Option Addr) (c : Nat) (bs : List Int) (at0 code : Int) (w : World) (hC : kO.C w A bs.length bs) (hb : Oct bs) (hl : bs.length < 1000000) (ha0 : 0 ≤ at0) (ha1 : at0 ≤ bs.length) :
    Calls Tryd.prog 46 #[rv A bs.length c at0 code] w fun e w' => e = .returned (.tuple #[rv A bs.length c (wordR bs at0 code).2.1 (wordR bs at0 code).2.2, .int .u64 (wordR bs at0 code).1]) ∧ Below w.heap.size w w' := by
  have HC := Lib.hid hC
  have HOC := Lib.hid hb
  obtain ⟨rs, hrs⟩ : ∃ rs, rs = wordR bs at0 code := ⟨_, rfl⟩
  have HW := Lib.hid (show rs = if code = 0 then (if (bs.length : Int) - at0 < 8 then (0, at0, 6) else (wordV 0 ((bs.drop at0.toNat).take 8), at0 + 8, 0)) else (0, at0, code) from hrs)
  rw [← hrs]
  clear hC hb hrs
  obtain ⟨i, rfl⟩ := Int.eq_ofNat_of_zero_le ha0
  by_cases hcd : code = 0
  · subst hcd
    by_cases h8 : (bs.length : Int) - (i : Int) < 8
    · have HX := Lib.hid (show rs = (0, (i : Int), 6) by rw [HW.out, if_pos rfl, if_pos h8])
      have HFL := Lib.hid (fun W => refFail0 A bs.length c i 6 W)
      clear HW
      go_enter Tryd.func46, Tryd.ntmps46
      go_wp2_with fail
      have HK2 := Lib.hid (a2_last w (.cells #[.slice A bs.length c, .int .i64 i, .int .i64 0] 50) #[.slice none 0 0, .int .i64 0, .int .i64 0] 50)
      have HBW := Lib.hid (bel_a2 w (.cells #[.slice A bs.length c, .int .i64 i, .int .i64 0] 50) (.cells #[.slice none 0 0, .int .i64 0, .int .i64 0] 50))
      generalize (w.alloc (.cells #[.slice A bs.length c, .int .i64 i, .int .i64 0] 50)).alloc (.cells #[.slice none 0 0, .int .i64 0, .int .i64 0] 50) = wb at *
      refine (HFL.out wb).mono ?_
      rintro e w2 ⟨rfl, hb2⟩
      have E2 := Lib.hid ((hb2.block _ (Array.getElem?_eq_some_iff.1 HK2.out).1).trans HK2.out)
      have HB2 := Lib.hid (HBW.out.trans (hb2.mono HBW.out.size))
      have t0 := cell_of_row w2 _ 0 _ _ (0, 0) E2.out
      have t1 := cell_of_row w2 _ 1 _ _ (0, 0) E2.out
      have t2 := cell_of_row w2 _ 2 _ _ (0, 0) E2.out
      have t3 : w2.frozen? ⟨w.heap.size + 1, 0, none⟩ = false := by simp [World.frozen?, E2.out]
      have t4 : w2.frozen? ⟨w.heap.size + 1, 1, none⟩ = false := by simp [World.frozen?, E2.out]
      have t5 : w2.frozen? ⟨w.heap.size + 1, 2, none⟩ = false := by simp [World.frozen?, E2.out]
      clear hb2
      go_wp2_with fail
      refine bodyPost_ret (results_ct rfl _ _ (w.heap.size + 1) 50 _ (0, 0) _ rfl (set3 E2.out _ _ _) Tryd.underlying50 rfl (by kernel_rfl)) rfl ?_
      rw [HX.out]
      exact ⟨rfl, ((HB2.out.setCell (p := ⟨w.heap.size + 1, 0, none⟩) (Nat.le_succ _) _).setCell (p := ⟨w.heap.size + 1, 1, none⟩) (Nat.le_succ _) _).setCell (p := ⟨w.heap.size + 1, 2, none⟩) (Nat.le_succ _) _⟩
    · have HX := Lib.hid (show rs = (wordV 0 ((bs.drop i).take 8), (i : Int) + 8, 0) by rw [HW.out, if_pos rfl, if_neg h8]; rfl)
      have hi8 : i + 8 ≤ bs.length := by omega
      have b1 : (0 : Int) ≤ (i : Int) := by omega
      have b2 : (i : Int) + 8 ≤ (bs.length : Int) := by omega
      obtain ⟨ad, hA, _⟩ := at_oct HC.out (show i < bs.length by omega)
      subst hA
      have hdl : (bs.drop i).length = bs.length - i := List.length_drop
      have hod : Oct (bs.drop i) := fun c hc => HOC.out c (List.mem_of_mem_drop hc)
      have HOD := Lib.hid hod
      have HRDI := Lib.hid (show ∀ k, k < 8 → (bs.drop i).take (k + 1) = (bs.drop i).take k ++ [rd bs ((i + k : Nat) : Int)] ∧ 0 ≤ rd bs ((i + k : Nat) : Int) ∧ rd bs ((i + k : Nat) : Int) < 256 from fun k hk => by
        have h1 : k < (bs.drop i).length := by omega
        have h2 : (bs.drop i)[k] = rd bs ((i + k : Nat) : Int) := by
          rw [List.getElem_drop]
          show _ = bs.getD ((i + k : Nat) : Int).toNat 0
          rw [Int.toNat_natCast, List.getD_eq_getElem?_getD, List.getElem?_eq_getElem (show i + k < bs.length by omega)]
          rfl
        refine ⟨by rw [List.take_succ_eq_append_getElem h1, h2], ?_⟩
        rw [← h2]
        exact hod _ (List.getElem_mem h1))
      clear hod HW hdl
      go_enter Tryd.func46, Tryd.ntmps46
      go_wp2_with fail
      have HK1 := Lib.hid (show ((w.alloc (.cells #[.slice (some ad) bs.length c, .int .i64 i, .int .i64 0] 50)).alloc (.cells #[.slice none 0 0, .int .i64 0, .int .i64 0] 50)).heap[w.heap.size]? = some (.cells #[.slice (some ad) bs.length c, .int .i64 i, .int .i64 0] 50 (0, 0)) from
        (Below.heap_alloc _ _ _ (by simp)).trans (heap_alloc_new _ _))
      have HK2 := Lib.hid (a2_last w (.cells #[.slice (some ad) bs.length c, .int .i64 i, .int .i64 0] 50) #[.slice none 0 0, .int .i64 0, .int .i64 0] 50)
      have HBW := Lib.hid (bel_a2 w (.cells #[.slice (some ad) bs.length c, .int .i64 i, .int .i64 0] 50) (.cells #[.slice none 0 0, .int .i64 0, .int .i64 0] 50))
      have hlt : w.heap.size + 1 < ((w.alloc (.cells #[.slice (some ad) bs.length c, .int .i64 i, .int .i64 0] 50)).alloc (.cells #[.slice none 0 0, .int .i64 0, .int .i64 0] 50)).heap.size := by simp
      have HLT := Lib.hid hlt
      clear hlt
      generalize (w.alloc (.cells #[.slice (some ad) bs.length c, .int .i64 i, .int .i64 0] 50)).alloc (.cells #[.slice none 0 0, .int .i64 0, .int .i64 0] 50) = wb at *
      have hlt : w.heap.size + 1 < wb.heap.size := HLT.out
      have hlt0 : w.heap.size < wb.heap.size := by omega
      have r0 := cell_of_row wb _ 0 _ _ (0, 0) HK1.out
      have r1 := cell_of_row wb _ 1 _ _ (0, 0) HK1.out
      have r2 := cell_of_row wb _ 2 _ _ (0, 0) HK1.out
      have q0 := cell_of_row wb _ 0 _ _ (0, 0) HK2.out
      have q1 := cell_of_row wb _ 1 _ _ (0, 0) HK2.out
      have q2 := cell_of_row wb _ 2 _ _ (0, 0) HK2.out
      have f0 : wb.frozen? ⟨w.heap.size + 1, 0, none⟩ = false := by simp [World.frozen?, HK2.out]
      have f1 : wb.frozen? ⟨w.heap.size + 1, 1, none⟩ = false := by simp [World.frozen?, HK2.out]
      have f2 : wb.frozen? ⟨w.heap.size + 1, 2, none⟩ = false := by simp [World.frozen?, HK2.out]
      have HCELL := Lib.hid (show ∀ k, k < 8 → wb.cell? (ad.add (i + k)) = some (.int .u8 (rd bs ((i + k : Nat) : Int))) from fun k hk => by
        obtain ⟨ad', hA, d0⟩ := at_oct (Kd.C_below HC.out HBW.out) (show i + k < bs.length by omega)
        injection hA with hA
        subst hA
        exact d0)
      generalize hds : bs.drop i = ds at *
      go_loop [4, 5] (fun n k => ∃ j : Nat, j ≤ 8 ∧ n = .int .u64 (wordV 0 (ds.take j)) ∧ k = .int .i64 j) (fun _ k => 8 - (intOf k).toNat)
      case atStart => exact ⟨0, by omega, rfl, rfl⟩
      case round =>
        obtain ⟨j, hj, rfl, rfl⟩ := hrel
        by_cases hltj : j < 8
        · have d0 := HCELL.out j hltj
          obtain ⟨e1, e2, e3⟩ := HRDI.out j hltj
          have hbd := wordV_bd (ds.take j) (fun c hc => HOD.out c (List.mem_of_mem_take hc))
          have hlen : (ds.take j).length ≤ 7 := by rw [List.length_take]; omega
          have hpw : (256 : Int) ^ (ds.take j).length ≤ 72057594037927936 := pw7 _ hlen
          have hE1 := Lib.hid e1
          generalize rd bs ((i + j : Nat) : Int) = ch at *
          generalize ds.take j = dj at *
          have hv0 := hbd.1
          have hv1 : wordV 0 dj < 72057594037927936 := by have := hbd.2; omega
          have HWS := Lib.hid (wordV_snoc 0 dj ch)
          have hwu : IntKind.u64.wrap (wordV 0 dj * 256) = wordV 0 dj * 256 := wraps_u64 _ (by omega) (by omega)
          have hwc : IntKind.u64.wrap ch = ch := wraps_u64 _ e2 (by omega)
          have hws : IntKind.u64.wrap (wordV 0 dj * 256 + ch) = wordV 0 dj * 256 + ch := wraps_u64 _ (by omega) (by omega)
          have i1 : (0 : Int) ≤ (i : Int) + (j : Int) := by omega
          have i2 : (i : Int) + (j : Int) < (bs.length : Int) := by omega
          have i3 : ((i : Int) + (j : Int)).toNat = i + j := by omega
          have i4 : (j : Int) < 8 := by omega
          clear hbd hpw e1 hlen
          generalize wordV 0 dj = v at *
          go_wp2_with fail
          go_round
          case rel => exact ⟨j + 1, by omega, by rw [hE1.out, HWS.out], by go_num⟩
          case measure => simp [intOf]; omega
        · obtain rfl : j = 8 := by omega
          go_wp2_with fail
          have h1 := set3 HK2.out (.slice (some ad) bs.length c) (.int .i64 ((i : Int) + 8)) (.int .i64 0)
          refine bodyPost_ret (results_ct rfl _ _ (w.heap.size + 1) 50 _ (0, 0) _ rfl ((Below.heap_alloc _ _ _ (Array.getElem?_eq_some_iff.1 h1).1).trans h1) Tryd.underlying50 rfl (by kernel_rfl)) rfl ?_
          rw [HX.out]
          have h2 := ((HBW.out.setCell (p := ⟨w.heap.size + 1, 0, none⟩) (Nat.le_succ _) (.slice (some ad) bs.length c)).setCell (p := ⟨w.heap.size + 1, 1, none⟩) (Nat.le_succ _) (.int .i64 ((i : Int) + 8))).setCell (p := ⟨w.heap.size + 1, 2, none⟩) (Nat.le_succ _) (.int .i64 0)
          exact ⟨rfl, h2.trans ((bel_alloc _ _).mono h2.size)⟩
  · have hcb : (code != 0) = true := by simpa using hcd
    have HX := Lib.hid (show rs = (0, (i : Int), code) by rw [HW.out, if_neg hcd])
    clear hcd HW
    go_enter Tryd.func46, Tryd.ntmps46
    go_wp2_with fail
    refine bodyPost_ret (results_ct rfl _ _ (w.heap.size + 1) 50 _ (0, 0) _ rfl (a2_last _ _ _ _) Tryd.underlying50 rfl (by kernel_rfl)) rfl ?_
    rw [HX.out]
    exact ⟨rfl, bel_a2 _ _ _⟩
end Go.Proofs.YtmoiochblmdgfaaDoor
namespace Go.Proofs.YtmoiochblmdgfaaDoor
set_option linter.unusedVariables false
set_option linter.unusedSimpArgs false
open Go.RowKit Go.Proofs.YtmoiochblmdgfaaDoorW.PrintWords
attribute [local go_sem ↓] Go.wp_at_zero Go.wp_at_succ

def RFPost (w : World) (A : Option Addr) (c : Nat) (bs : List Int) (low : Int) (L : List Fl) (at_ code : Int) (e : Ending) (w' : World) : Prop :=
  ∃ A' c', e = .returned (.tuple #[rv A bs.length c at_ code, .agg #[.int .i64 low, .slice A' L.length c']]) ∧ L.length ≤ c' ∧ kF.C w' A' L.length L ∧ Below w.heap.size w w'

/-- What From has in its cells while it reads. -/
structure RS (w W : World) (β q6 q8 : Nat) (A : Option Addr) (c : Nat) (bs : List Int) (low at_ cd : Int) (v : Value) (acc : List Fl) : Prop where
  z2 : W.heap[w.heap.size + 1]? = some (.cells #[.slice none 0 0, .int .i64 0, .int .i64 0] 50 (0, 0))
  z3 : W.heap[w.heap.size + 2]? = some (.cells #[.int .i64 0, .slice none 0 0] 24 (0, 0))
  b : W.heap[q6]? = some (.cells #[.slice A bs.length c, .int .i64 at_, .int .i64 cd] 50 (0, 0))
  f : W.heap[q8]? = some (.cells #[.int .i64 low, v] 24 (0, 0))
  r : kF.R 43 W β (fun _ => True) v acc
  bel : Below w.heap.size w W
  siz : β ≤ W.heap.size
  i6 : w.heap.size + 2 < q6
  i8 : q6 < q8
  iβ : q8 < β
theorem RS.later {w W W' : World} {β q6 q8 : Nat} {A : Option Addr} {c : Nat} {bs : List Int} {low at_ cd : Int} {v : Value} {acc : List Fl} (h : RS w W β q6 q8 A c bs low at_ cd v acc) (hb : Below W.heap.size W W') : RS w W' β q6 q8 A c bs low at_ cd v acc :=
  ⟨(hb.block _ (Array.getElem?_eq_some_iff.1 h.z2).1).trans h.z2, (hb.block _ (Array.getElem?_eq_some_iff.1 h.z3).1).trans h.z3, (hb.block _ (Array.getElem?_eq_some_iff.1 h.b).1).trans h.b, (hb.block _ (Array.getElem?_eq_some_iff.1 h.f).1).trans h.f, Kd.R_below h.r hb, h.bel.trans (hb.mono h.bel.size), Nat.le_trans h.siz hb.size, h.i6, h.i8, h.iβ⟩
theorem RS.setb {w W : World} {β q6 q8 : Nat} {A : Option Addr} {c : Nat} {bs : List Int} {low at_ cd : Int} {v : Value} {acc : List Fl} (h : RS w W β q6 q8 A c bs low at_ cd v acc) (at' cd' : Int) :
    RS w (((W.setCell ⟨q6, 0, none⟩ (.slice A bs.length c)).setCell ⟨q6, 1, none⟩ (.int .i64 at')).setCell ⟨q6, 2, none⟩ (.int .i64 cd')) β q6 q8 A c bs low at' cd' v acc := by
  obtain ⟨z2, z3, hb, hf, hr, hbel, hs, i6, i8, iβ⟩ := h
  have e : ∀ k, k ≠ q6 → (((W.setCell ⟨q6, 0, none⟩ (.slice A bs.length c)).setCell ⟨q6, 1, none⟩ (.int .i64 at')).setCell ⟨q6, 2, none⟩ (.int .i64 cd')).heap[k]? = W.heap[k]? := fun k hk => by
    rw [Below.heap_setCell _ _ _ _ hk, Below.heap_setCell _ _ _ _ hk, Below.heap_setCell _ _ _ _ hk]
  have h1 := blk_set hb 0 (.slice A bs.length c)
  have h2 := blk_set h1 1 (.int .i64 at')
  refine ⟨(e _ (by omega)).trans z2, (e _ (by omega)).trans z3, set3 hb _ _ _, (e _ (by omega)).trans hf, Kd.R_set (Kd.R_set (Kd.R_set hr hb (by decide) 0 _) h1 (by decide) 1 _) h2 (by decide) 2 _, ((hbel.setCell (p := ⟨q6, 0, none⟩) (by show w.heap.size ≤ q6; omega) _).setCell (p := ⟨q6, 1, none⟩) (by show w.heap.size ≤ q6; omega) _).setCell (p := ⟨q6, 2, none⟩) (by show w.heap.size ≤ q6; omega) _, by simpa [World.setCell] using hs, i6, i8, iβ⟩
theorem RS.setc {w W : World} {β q6 q8 : Nat} {A : Option Addr} {c : Nat} {bs : List Int} {low at_ cd : Int} {v : Value} {acc : List Fl} (h : RS w W β q6 q8 A c bs low at_ cd v acc) (cd' : Int) :
    RS w (W.setCell ⟨q6, 2, none⟩ (.int .i64 cd')) β q6 q8 A c bs low at_ cd' v acc := by
  obtain ⟨z2, z3, hb, hf, hr, hbel, hs, i6, i8, iβ⟩ := h
  have e : ∀ k, k ≠ q6 → (W.setCell ⟨q6, 2, none⟩ (.int .i64 cd')).heap[k]? = W.heap[k]? := fun k hk => Below.heap_setCell _ _ _ _ hk
  have h1 := blk_set hb 2 (.int .i64 cd')
  refine ⟨(e _ (by omega)).trans z2, (e _ (by omega)).trans z3, by simpa using h1, (e _ (by omega)).trans hf, Kd.R_set hr hb (by decide) 2 _, hbel.setCell (p := ⟨q6, 2, none⟩) (by show w.heap.size ≤ q6; omega) _, by simpa [World.setCell] using hs, i6, i8, iβ⟩
theorem RS.push {w W w1 : World} {β q6 q8 : Nat} {A : Option Addr} {c : Nat} {bs : List Int} {low at_ cd : Int} {v v1 : Value} {acc : List Fl} {y : Fl} (h : RS w W β q6 q8 A c bs low at_ cd v acc)
    (h1 : kF.R 43 w1 β (fun _ => True) v1 (acc ++ [y])) (hg : W.grownBy w1 v.ownBlock) :
    w1.heap[q8]? = some (.cells #[.int .i64 low, v] 24 (0, 0)) ∧ RS w (w1.setCell ⟨q8, 1, none⟩ v1) β q6 q8 A c bs low at_ cd v1 (acc ++ [y]) := by
  obtain ⟨z2, z3, hb, hf, hr, hbel, hs, i6, i8, iβ⟩ := h
  have hbase := R_base hr
  have e : ∀ k, k < β → w1.heap[k]? = W.heap[k]? := fun k hk => hg.block k (by omega) (fun e => by have := hbase _ e.symm; omega)
  have e2 : ∀ k, k < β → k ≠ q8 → (w1.setCell ⟨q8, 1, none⟩ v1).heap[k]? = W.heap[k]? := fun k hk hn => (Below.heap_setCell w1 ⟨q8, 1, none⟩ v1 k hn).trans (e k hk)
  have h10 := (e q8 iβ).trans hf
  have hb2 : Below w.heap.size W w1 := ⟨hg.os, hg.tape, hg.output, hg.size, fun k hk => e k (by omega)⟩
  exact ⟨h10, (e2 _ (by omega) (by omega)).trans z2, (e2 _ (by omega) (by omega)).trans z3, (e2 _ (by omega) (by omega)).trans hb, set_b h10 v1, Kd.R_set h1 h10 (by decide) 1 _, (hbel.trans hb2).setCell (p := ⟨q8, 1, none⟩) (by show w.heap.size ≤ q8; omega) v1, Nat.le_trans hs (by have := hg.size; simpa [World.setCell] using this), i6, i8, iβ⟩
theorem RS.facts {w W : World} {β q6 q8 : Nat} {A : Option Addr} {c : Nat} {bs : List Int} {low at_ cd : Int} {v : Value} {acc : List Fl} (h : RS w W β q6 q8 A c bs low at_ cd v acc) :
    W.cell? ⟨q6, 0, none⟩ = some (.slice A bs.length c) ∧ W.cell? ⟨q6, 1, none⟩ = some (.int .i64 at_) ∧ W.cell? ⟨q6, 2, none⟩ = some (.int .i64 cd) ∧ W.cell? ⟨q8, 0, none⟩ = some (.int .i64 low) ∧ W.cell? ⟨q8, 1, none⟩ = some v ∧
      W.frozen? ⟨q6, 0, none⟩ = false ∧ W.frozen? ⟨q6, 1, none⟩ = false ∧ W.frozen? ⟨q6, 2, none⟩ = false ∧ W.frozen? ⟨q8, 1, none⟩ = false ∧ q6 < W.heap.size ∧ q8 < W.heap.size :=
  ⟨cell_of_row W _ 0 _ _ (0, 0) h.b, cell_of_row W _ 1 _ _ (0, 0) h.b, cell_of_row W _ 2 _ _ (0, 0) h.b, cell_of_row W _ 0 _ _ (0, 0) h.f, cell_of_row W _ 1 _ _ (0, 0) h.f, by simp [World.frozen?, h.b], by simp [World.frozen?, h.b], by simp [World.frozen?, h.b], by simp [World.frozen?, h.f], (Array.getElem?_eq_some_iff.1 h.b).1, (Array.getElem?_eq_some_iff.1 h.f).1⟩

theorem RS.zf {w W : World} {β q6 q8 : Nat} {A : Option Addr} {c : Nat} {bs : List Int} {low at_ cd : Int} {v : Value} {acc : List Fl} (h : RS w W β q6 q8 A c bs low at_ cd v acc) :
    W.cell? ⟨w.heap.size + 1, 0, none⟩ = some (.slice none 0 0) ∧ W.cell? ⟨w.heap.size + 1, 1, none⟩ = some (.int .i64 0) ∧ W.cell? ⟨w.heap.size + 1, 2, none⟩ = some (.int .i64 0) ∧ W.cell? ⟨w.heap.size + 1 + 1, 0, none⟩ = some (.int .i64 0) ∧ W.cell? ⟨w.heap.size + 1 + 1, 1, none⟩ = some (.slice none 0 0) ∧
      W.frozen? ⟨w.heap.size + 1, 0, none⟩ = false ∧ W.frozen? ⟨w.heap.size + 1, 1, none⟩ = false ∧ W.frozen? ⟨w.heap.size + 1, 2, none⟩ = false ∧ W.frozen? ⟨w.heap.size + 1 + 1, 0, none⟩ = false ∧ W.frozen? ⟨w.heap.size + 1 + 1, 1, none⟩ = false := by
  have z3 : W.heap[w.heap.size + 1 + 1]? = _ := h.z3
  exact ⟨cell_of_row W _ 0 _ _ (0, 0) h.z2, cell_of_row W _ 1 _ _ (0, 0) h.z2, cell_of_row W _ 2 _ _ (0, 0) h.z2, cell_of_row W _ 0 _ _ (0, 0) z3, cell_of_row W _ 1 _ _ (0, 0) z3, by simp [World.frozen?, h.z2], by simp [World.frozen?, h.z2], by simp [World.frozen?, h.z2], by simp [World.frozen?, z3], by simp [World.frozen?, z3]⟩
theorem results_cc {P : Program} {fn : Func} {p q : Tmp} {ty tz : TypeId} (h : fn.results = #[.cell p ty, .cell q tz]) (tmps : Array Value) (w : World) (g k : Nat) (t u : TypeId) (cs ds : Array Value) (d e : TypeDesc)
    (hp : tmps.getD p undef = .pointer (some ⟨g, 0, none⟩)) (hg : w.heap[g]? = some (.cells cs t (0, 0)))
    (hu : P.underlying ty = some d) (hd : (match d with | .struct _ | .array _ _ => true | _ => false) = true) (hi : (P.info? ty).map (·.size) = some cs.size)
    (hq : tmps.getD q undef = .pointer (some ⟨k, 0, none⟩)) (hk : w.heap[k]? = some (.cells ds u (0, 0)))
    (hv : P.underlying tz = some e) (he : (match e with | .struct _ | .array _ _ => true | _ => false) = true) (hj : (P.info? tz).map (·.size) = some ds.size) :
    (results fn tmps).run P w = .ok (.tuple #[.agg cs, .agg ds]) w := by
  have hp' : tmps[p]?.getD undef = .pointer (some ⟨g, 0, none⟩) := by simpa using hp
  have hq' : tmps[q]?.getD undef = .pointer (some ⟨k, 0, none⟩) := by simpa using hq
  simp [results, h, hp', hq', asAddr, run_loadVar_row w g t ty cs (0, 0) d hg hu hd hi, run_loadVar_row w k u tz ds (0, 0) e hk hv he hj]
/-- The two results, written. -/
theorem RS.fin {w W : World} {β q6 q8 : Nat} {A : Option Addr} {c : Nat} {bs : List Int} {low at_ cd : Int} {v : Value} {acc : List Fl} (h : RS w W β q6 q8 A c bs low at_ cd v acc) (a b d x y : Value) :
    (((((W.setCell ⟨w.heap.size + 1, 0, none⟩ a).setCell ⟨w.heap.size + 1, 1, none⟩ b).setCell ⟨w.heap.size + 1, 2, none⟩ d).setCell ⟨w.heap.size + 1 + 1, 0, none⟩ x).setCell ⟨w.heap.size + 1 + 1, 1, none⟩ y).heap[w.heap.size + 1]? = some (.cells #[a, b, d] 50 (0, 0)) ∧
    (((((W.setCell ⟨w.heap.size + 1, 0, none⟩ a).setCell ⟨w.heap.size + 1, 1, none⟩ b).setCell ⟨w.heap.size + 1, 2, none⟩ d).setCell ⟨w.heap.size + 1 + 1, 0, none⟩ x).setCell ⟨w.heap.size + 1 + 1, 1, none⟩ y).heap[w.heap.size + 1 + 1]? = some (.cells #[x, y] 24 (0, 0)) ∧
    Below w.heap.size w (((((W.setCell ⟨w.heap.size + 1, 0, none⟩ a).setCell ⟨w.heap.size + 1, 1, none⟩ b).setCell ⟨w.heap.size + 1, 2, none⟩ d).setCell ⟨w.heap.size + 1 + 1, 0, none⟩ x).setCell ⟨w.heap.size + 1 + 1, 1, none⟩ y) ∧
    kF.R 43 (((((W.setCell ⟨w.heap.size + 1, 0, none⟩ a).setCell ⟨w.heap.size + 1, 1, none⟩ b).setCell ⟨w.heap.size + 1, 2, none⟩ d).setCell ⟨w.heap.size + 1 + 1, 0, none⟩ x).setCell ⟨w.heap.size + 1 + 1, 1, none⟩ y) β (fun _ => True) v acc := by
  obtain ⟨z2, z3, hb, hf, hr, hbel, hs, i6, i8, iβ⟩ := h
  have z3' : W.heap[w.heap.size + 1 + 1]? = _ := z3
  have h1 := blk_set z2 0 a
  have h2 := blk_set h1 1 b
  have e3 := set3 z2 a b d
  have k3 : (((W.setCell ⟨w.heap.size + 1, 0, none⟩ a).setCell ⟨w.heap.size + 1, 1, none⟩ b).setCell ⟨w.heap.size + 1, 2, none⟩ d).heap[w.heap.size + 1 + 1]? = some (.cells #[.int .i64 0, .slice none 0 0] 24 (0, 0)) := by
    rw [Below.heap_setCell _ _ _ _ (by show w.heap.size + 1 + 1 ≠ w.heap.size + 1; omega), Below.heap_setCell _ _ _ _ (by show w.heap.size + 1 + 1 ≠ w.heap.size + 1; omega), Below.heap_setCell _ _ _ _ (by show w.heap.size + 1 + 1 ≠ w.heap.size + 1; omega)]
    exact z3'
  obtain ⟨m1, m2⟩ := set2 k3 x y
  refine ⟨(m2 _ (by omega)).trans e3, m1, ?_, ?_⟩
  · have b3 := ((hbel.setCell (p := ⟨w.heap.size + 1, 0, none⟩) (Nat.le_succ _) a).setCell (p := ⟨w.heap.size + 1, 1, none⟩) (Nat.le_succ _) b).setCell (p := ⟨w.heap.size + 1, 2, none⟩) (Nat.le_succ _) d
    exact (b3.setCell (p := ⟨w.heap.size + 1 + 1, 0, none⟩) (by show w.heap.size ≤ w.heap.size + 1 + 1; omega) x).setCell (p := ⟨w.heap.size + 1 + 1, 1, none⟩) (by show w.heap.size ≤ w.heap.size + 1 + 1; omega) y
  · exact R_put2 (Kd.R_set (Kd.R_set (Kd.R_set hr z2 (by decide) 0 a) h1 (by decide) 1 b) h2 (by decide) 2 d) k3 x y

set_option maxHeartbeats 8000000 in
set_option maxRecDepth 100000 in
theorem refFrom_any (A : Option Addr) (c : Nat) (bs : List Int) (at0 code : Int) (w : World) (hC : kO.C w A bs.length bs) (hb : Oct bs) (hl : bs.length < 1000000) (ha0 : 0 ≤ at0) (ha1 : at0 ≤ bs.length) :
    Calls Tryd.prog 25 #[rv A bs.length c at0 code] w (RFPost w A c bs (fromF bs at0 code).1 (fromF bs at0 code).2 (fromA bs at0 code).2.2.1 (fromC bs at0 code)) := by
  have HNUM := Lib.hid (fun W (hW : Below w.heap.size w W) (at_ cd : Int) (h0 : 0 ≤ at_) (h1 : at_ ≤ bs.length) most (hm0 : 0 ≤ most) (hm1 : most ≤ 1099511627776) => refNum_any A c bs at_ cd most W (Kd.C_below hC hW) hb hl h0 h1 hm0 hm1)
  have HWRD := Lib.hid (fun W (hW : Below w.heap.size w W) (at_ cd : Int) (h0 : 0 ≤ at_) (h1 : at_ ≤ bs.length) => refEight_any A c bs at_ cd W (Kd.C_below hC hW) hb hl h0 h1)
  have HFA := Lib.hid (show fromA bs at0 code = ((numR 1099511627776 bs at0 code).1, (fromL bs (numR 12 bs (numR 1099511627776 bs at0 code).2.1 (numR 1099511627776 bs at0 code).2.2).1.toNat (numR 12 bs (numR 1099511627776 bs at0 code).2.1 (numR 1099511627776 bs at0 code).2.2).2.1 (numR 12 bs (numR 1099511627776 bs at0 code).2.1 (numR 1099511627776 bs at0 code).2.2).2.2 [])) from rfl)
  have HFC := Lib.hid (show fromC bs at0 code = if (fromA bs at0 code).2.2.2 = 0 then chk (fromA bs at0 code).1 (fromA bs at0 code).2.1 else (fromA bs at0 code).2.2.2 from rfl)
  have HFF := Lib.hid (show fromF bs at0 code = if fromC bs at0 code = 0 then ((fromA bs at0 code).1, (fromA bs at0 code).2.1) else (0, []) from rfl)
  have HOC := Lib.hid hb
  have hbd1 := numR_bd code hb (show (0 : Int) ≤ 1099511627776 by decide) ha0 ha1
  have hbd2 := numR_bd (numR 1099511627776 bs at0 code).2.2 hb (show (0 : Int) ≤ 12 by decide) hbd1.2.2.1 hbd1.2.2.2
  generalize fromF bs at0 code = FF at *
  generalize fromC bs at0 code = FC at *
  generalize fromA bs at0 code = FA at *
  have HN1 := Lib.hid (fun W hW => HNUM.out W hW at0 code ha0 ha1 1099511627776 (by decide) (by decide))
  generalize numR 1099511627776 bs at0 code = n1 at *
  have HN2 := Lib.hid (fun W hW => HNUM.out W hW n1.2.1 n1.2.2 hbd1.2.2.1 hbd1.2.2.2 12 (by decide) (by decide))
  generalize numR 12 bs n1.2.1 n1.2.2 = n2 at *
  obtain ⟨N, hN⟩ := Int.eq_ofNat_of_zero_le hbd2.1
  have hN12 : N ≤ 12 := by have := hbd2.2.1; omega
  have HFL := Lib.hid (show fromL bs N n2.2.1 n2.2.2 [] = (FA.2.1, FA.2.2.1, FA.2.2.2) by
    have h1 := HFA.out
    rw [hN] at h1
    rw [h1]
    rfl)
  have HFA1 := Lib.hid (show FA.1 = n1.1 by rw [HFA.out])
  have HNN := Lib.hid hN
  clear hC hb hN HFA
  go_enter Tryd.func25, Tryd.ntmps25
  go_wp2_with fail
  have hz2 : (((w.alloc (.cells #[.slice A bs.length c, .int .i64 at0, .int .i64 code] 50)).alloc (.cells #[.slice none 0 0, .int .i64 0, .int .i64 0] 50)).alloc (.cells #[.int .i64 0, .slice none 0 0] 24)).heap[w.heap.size + 1]? = some (.cells #[.slice none 0 0, .int .i64 0, .int .i64 0] 50 (0, 0)) := a3_mid _ _ _ _ _
  have hz3 : (((w.alloc (.cells #[.slice A bs.length c, .int .i64 at0, .int .i64 code] 50)).alloc (.cells #[.slice none 0 0, .int .i64 0, .int .i64 0] 50)).alloc (.cells #[.int .i64 0, .slice none 0 0] 24)).heap[w.heap.size + 2]? = some (.cells #[.int .i64 0, .slice none 0 0] 24 (0, 0)) := by
    have h := heap_alloc_new ((w.alloc (.cells #[.slice A bs.length c, .int .i64 at0, .int .i64 code] 50)).alloc (.cells #[.slice none 0 0, .int .i64 0, .int .i64 0] 50)) (.cells #[.int .i64 0, .slice none 0 0] 24)
    rw [show ((w.alloc (.cells #[.slice A bs.length c, .int .i64 at0, .int .i64 code] 50)).alloc (.cells #[.slice none 0 0, .int .i64 0, .int .i64 0] 50)).heap.size = w.heap.size + 2 by simp] at h
    exact h
  have Z2 := Lib.hid hz2
  have Z3 := Lib.hid hz3
  have B1 := Lib.hid (bel_a3 w (.cells #[.slice A bs.length c, .int .i64 at0, .int .i64 code] 50) (.cells #[.slice none 0 0, .int .i64 0, .int .i64 0] 50) (.cells #[.int .i64 0, .slice none 0 0] 24))
  clear hz2 hz3
  generalize ((w.alloc (.cells #[.slice A bs.length c, .int .i64 at0, .int .i64 code] 50)).alloc (.cells #[.slice none 0 0, .int .i64 0, .int .i64 0] 50)).alloc (.cells #[.int .i64 0, .slice none 0 0] 24) = w1 at *
  refine (HN1.out _ B1.out).mono ?_
  rintro e w2 ⟨rfl, hb2⟩
  have Z2b := Lib.hid ((hb2.block _ (Array.getElem?_eq_some_iff.1 Z2.out).1).trans Z2.out)
  have Z3b := Lib.hid ((hb2.block _ (Array.getElem?_eq_some_iff.1 Z3.out).1).trans Z3.out)
  have B2 := Lib.hid (B1.out.trans (hb2.mono B1.out.size))
  clear hb2 HN1 Z2 Z3 B1
  go_wp2_with fail
  have hba := bel_alloc w2 (.cells #[.slice A bs.length c, .int .i64 n1.2.1, .int .i64 n1.2.2] 50)
  have Z2c := Lib.hid ((hba.block _ (Array.getElem?_eq_some_iff.1 Z2b.out).1).trans Z2b.out)
  have Z3c := Lib.hid ((hba.block _ (Array.getElem?_eq_some_iff.1 Z3b.out).1).trans Z3b.out)
  have B3 := Lib.hid (B2.out.trans (hba.mono B2.out.size))
  clear hba Z2b Z3b B2
  generalize w2.alloc (.cells #[.slice A bs.length c, .int .i64 n1.2.1, .int .i64 n1.2.2] 50) = w3 at *
  refine (HN2.out _ B3.out).mono ?_
  rintro e w4 ⟨rfl, hb4⟩
  rw [HNN.out]
  have R0 := Lib.hid (show RS w ((w4.alloc (.cells #[.slice A bs.length c, .int .i64 n2.2.1, .int .i64 n2.2.2] 50)).alloc (.cells #[.int .i64 n1.1, .slice none 0 0] 24)) (w4.heap.size + 2) w4.heap.size (w4.heap.size + 1) A c bs n1.1 n2.2.1 n2.2.2 (.slice none 0 0) [] by
    have h2 := (hb4.block _ (Array.getElem?_eq_some_iff.1 Z2c.out).1).trans Z2c.out
    have h3 := (hb4.block _ (Array.getElem?_eq_some_iff.1 Z3c.out).1).trans Z3c.out
    have hbb := bel_a2 w4 (.cells #[.slice A bs.length c, .int .i64 n2.2.1, .int .i64 n2.2.2] 50) (.cells #[.int .i64 n1.1, .slice none 0 0] 24)
    have h4 := B3.out.trans (hb4.mono B3.out.size)
    exact ⟨(hbb.block _ (Array.getElem?_eq_some_iff.1 h2).1).trans h2, (hbb.block _ (Array.getElem?_eq_some_iff.1 h3).1).trans h3, (Below.heap_alloc _ _ _ (by simp)).trans (heap_alloc_new _ _), a2_last _ _ _ _, Kd.R_nil _ _ _ _ _, h4.trans (hbb.mono h4.size), by simp, (Array.getElem?_eq_some_iff.1 h3).1, by omega, by omega⟩)
  clear hb4 HN2 Z2c Z3c B3
  go_wp2_with fail
  generalize (w4.alloc (.cells #[.slice A bs.length c, .int .i64 n2.2.1, .int .i64 n2.2.2] 50)).alloc (.cells #[.int .i64 n1.1, .slice none 0 0] 24) = w5 at *
  generalize w4.heap.size + 2 = β at *
  generalize w4.heap.size + 1 = q8 at *
  generalize w4.heap.size = q6 at *
  go_loopw [9] (fun iv wr => ∃ (i : Nat) (at_ cd : Int) (v : Value) (acc : List Fl), i ≤ N ∧ iv = .int .i64 i ∧ 0 ≤ at_ ∧ at_ ≤ bs.length ∧ acc.length = i ∧ Hid (RS w wr β q6 q8 A c bs n1.1 at_ cd v acc ∧ fromL bs (N - i) at_ cd acc = (FA.2.1, FA.2.2.1, FA.2.2.2))) (fun iv _ => N - (intOf iv).toNat)
  case atStart => exact ⟨0, n2.2.1, n2.2.2, _, [], Nat.zero_le _, rfl, hbd2.2.2.1, hbd2.2.2.2, rfl, R0.out, HFL.out⟩
  case round =>
    obtain ⟨i, at_, cd, v, acc, hi, rfl, ha0', ha1', hal, HD⟩ := hrel
    obtain ⟨wo, rfl⟩ : ∃ wo : World, wo = wr := ⟨_, rfl⟩
    have RO := Lib.hid HD.out.1
    have HL := Lib.hid HD.out.2
    clear HD R0
    obtain ⟨vA, vc, hvs⟩ := Kd.R_slice RO.out.r
    rw [hal] at hvs
    subst hvs
    obtain ⟨r0, r1, r2, r3, r4, r5, r6, r7, r8, r9, ra⟩ := RO.out.facts
    have hq68 : q6 < q8 := RO.out.i8
    have hqw : w.heap.size + 2 < q6 := RO.out.i6
    by_cases hlt : i < N
    · obtain ⟨m, hm⟩ : ∃ m, N - i = m + 1 := ⟨N - i - 1, by omega⟩
      have hL2 := HL.out
      rw [hm, fromL] at hL2
      have hwb := wordR_bd cd HOC.out ha0' ha1'
      have hnb := numR_bd (wordR bs at_ cd).2.2 HOC.out (show (0 : Int) ≤ 1099511627776 by decide) hwb.1 hwb.2
      have HWC := Lib.hid (HWRD.out wo RO.out.bel at_ cd ha0' ha1')
      generalize wordR bs at_ cd = wv at *
      have HNC := Lib.hid (fun W (hW : Below w.heap.size w W) => HNUM.out W hW wv.2.1 wv.2.2 hwb.1 hwb.2 1099511627776 (by decide) (by decide))
      generalize numR 1099511627776 bs wv.2.1 wv.2.2 = nv at *
      have HL2 := Lib.hid hL2
      have hiN : (i : Int) < (N : Int) := by omega
      have HM := Lib.hid hm
      have HAL := Lib.hid hal
      clear hL2 HL hm hal
      go_wp2_with fail
      refine HWC.out.mono ?_
      rintro e w6 ⟨rfl, hb6⟩
      have R6 := Lib.hid ((RO.out.later hb6).later (bel_alloc w6 (.cells #[.slice A bs.length c, .int .i64 wv.2.1, .int .i64 wv.2.2] 50)))
      clear hb6 HWC RO r0 r1 r2 r3 r4 r5 r6 r7 r8 r9 ra
      go_wp2_with fail
      generalize w6.alloc (.cells #[.slice A bs.length c, .int .i64 wv.2.1, .int .i64 wv.2.2] 50) = w7 at *
      refine (HNC.out w7 R6.out.bel).mono ?_
      rintro e w8 ⟨rfl, hb8⟩
      have R8 := Lib.hid (R6.out.later hb8)
      obtain ⟨r0, r1, r2, r3, r4, r5, r6, r7, r8, r9, ra⟩ := R8.out.facts
      have R9 := Lib.hid ((R8.out.setb nv.2.1 nv.2.2).later (bel_alloc _ (.cells #[.slice A bs.length c, .int .i64 nv.2.1, .int .i64 nv.2.2] 50)))
      have HSW := Lib.hid (show ((((w8.setCell ⟨q6, 0, none⟩ (.slice A bs.length c)).setCell ⟨q6, 1, none⟩ (.int .i64 nv.2.1)).setCell ⟨q6, 2, none⟩ (.int .i64 nv.2.2)).alloc (.cells #[.slice A bs.length c, .int .i64 nv.2.1, .int .i64 nv.2.2] 50)).heap.size = w8.heap.size + 1 by simp [World.setCell])
      clear hb8 HNC R6
      go_wp2_with (at_builtin; go_loud (refine Kd.R_append kF (w0 := ((((w8.setCell ⟨q6, 0, none⟩ (.slice A bs.length c)).setCell ⟨q6, 1, none⟩ (.int .i64 nv.2.1)).setCell ⟨q6, 2, none⟩ (.int .i64 nv.2.2)).alloc (.cells #[.slice A bs.length c, .int .i64 nv.2.1, .int .i64 nv.2.2] 50))) β rfl (.tmp 43) (.tmp 47) 22 43 (.agg #[.int .u64 0, .int .i64 0]) 16 rfl Tryd.underlying22 info_fl rfl (by decide) (by omega) (.slice vA i vc) acc (⟨wv.1, nv.1⟩ : Fl) (encF (⟨wv.1, nv.1⟩ : Fl)) (fun _ => True) (fun _ => False) (by rfl) (by rw [HSW.out]; rfl) (kF_mk _ _ _ _) (fun _ hk => hk.elim) (fun _ _ => trivial) R9.out.r (Below.refl _ _) R9.out.siz (by rw [HAL.out]; omega) ?_); intro v1 w9 ho hb hg hat; obtain ⟨A9, c9, hv1⟩ := Kd.R_slice ho; rw [List.length_append, List.length_singleton, HAL.out] at hv1; subst hv1; obtain ⟨hq9, h9⟩ := R9.out.push ho hg; have RA := Lib.hid h9; have k1 : w9.cell? ⟨q8, 1, none⟩ = some (.slice vA i vc) := cell_of_row w9 _ 1 _ _ (0, 0) hq9; have kf : w9.frozen? ⟨q8, 1, none⟩ = false := (by simp [World.frozen?, hq9]); clear ho hb hg hat hq9 h9)
      go_roundw
      case rel => exact ⟨i + 1, nv.2.1, nv.2.2, .slice A9 (i + 1) c9, acc ++ [(⟨wv.1, nv.1⟩ : Fl)], by omega, by go_num, hnb.2.2.1, hnb.2.2.2, by simp [HAL.out], RA.out, by rw [show N - (i + 1) = m by have := HM.out; omega]; exact HL2.out⟩
      case measure => simp [intOf]; omega
    · obtain rfl : N = i := by omega
      have hL0 := HL.out
      rw [Nat.sub_self, fromL] at hL0
      injection hL0 with hA1 hA2
      injection hA2 with hA2 hA3
      have HA1 := Lib.hid hA1
      have HA2 := Lib.hid hA2
      have HA3 := Lib.hid hA3
      have hi3 : ¬ (N : Int) < (N : Int) := by omega
      have HAL := Lib.hid hal
      have HFCX := Lib.hid (show FC = if cd = 0 then chk n1.1 acc else cd by rw [HFC.out, ← HA3.out, ← HA1.out, HFA1.out])
      have HEQ := Lib.hid (show FA.2.1.length = N by rw [← HA1.out]; exact HAL.out)
      clear hA1 hA2 hA3 HL hal
      by_cases hcd : cd = 0
      · have hcb : (cd == 0) = true := by simpa using hcd
        have HX := Lib.hid (show FC = chk n1.1 acc by rw [HFCX.out, if_pos hcd])
        obtain ⟨p1, p2, p3⟩ := Kd.R_reads' RO.out.r
        have hck := refCheck_all n1.1 vA vc acc wo p3 (by rw [HAL.out]; exact p2)
        rw [HAL.out, ← HX.out] at hck
        have HCK := Lib.hid hck
        have hvc : N ≤ vc := p2
        clear hck hcd p1 p2 p3
        by_cases hfc : FC = 0
        · have hfb : (FC != 0) = false := by simpa using hfc
          have HFF0 := Lib.hid (show FF = (n1.1, acc) by rw [HFF.out, if_pos hfc, ← HA1.out, HFA1.out])
          clear hfc
          go_wp2_with fail
          refine HCK.out.mono ?_
          rintro e w6 ⟨rfl, hb6⟩
          have R6 := Lib.hid (RO.out.later hb6)
          clear r0 r1 r2 r3 r4 r5 r6 r7 r8 r9 ra hb6 RO HCK
          obtain ⟨r0, r1, r2, r3, r4, r5, r6, r7, r8, r9, ra⟩ := R6.out.facts
          go_wp2_with fail
          have R7 := Lib.hid (R6.out.setc FC)
          clear r0 r1 r2 r3 r4 r5 r6 r7 r8 r9 ra R6
          generalize w6.setCell ⟨q6, 2, none⟩ (.int .i64 FC) = w7 at *
          obtain ⟨r0, r1, r2, r3, r4, r5, r6, r7, r8, r9, ra⟩ := R7.out.facts
          obtain ⟨s0, s1, s2, s3, s4, s5, s6, s7, s8, s9⟩ := R7.out.zf
          go_region
          all_goals
            go_wp2_with fail
            obtain ⟨e1, e2, e3, e4⟩ := R7.out.fin (.slice A bs.length c) (.int .i64 at_) (.int .i64 FC) (.int .i64 n1.1) (.slice vA N vc)
            refine bodyPost_ret (results_cc rfl _ _ (w.heap.size + 1) (w.heap.size + 1 + 1) 50 24 _ _ _ _ rfl e1 Tryd.underlying50 rfl (by kernel_rfl) rfl e2 Tryd.underlying24 rfl (by kernel_rfl)) rfl ?_
            obtain ⟨p1, p2, p3⟩ := Kd.R_reads' (Kd.R_below e4 (Drawn0.below ⟨1, rfl⟩))
            rw [HFF0.out, ← HA2.out]
            dsimp only
            subst p1
            exact ⟨vA, vc, rfl, hvc, p3, e3.trans ((Drawn0.below ⟨1, rfl⟩).mono e3.size)⟩
        · have hfb : (FC != 0) = true := by simpa using hfc
          have HFF0 := Lib.hid (show FF = (0, []) by rw [HFF.out, if_neg hfc])
          clear hfc
          go_wp2_with fail
          refine HCK.out.mono ?_
          rintro e w6 ⟨rfl, hb6⟩
          have R6 := Lib.hid (RO.out.later hb6)
          clear r0 r1 r2 r3 r4 r5 r6 r7 r8 r9 ra hb6 RO HCK
          obtain ⟨r0, r1, r2, r3, r4, r5, r6, r7, r8, r9, ra⟩ := R6.out.facts
          obtain ⟨s0, s1, s2, s3, s4, s5, s6, s7, s8, s9⟩ := R6.out.zf
          go_wp2_with fail
          obtain ⟨e1, e2, e3, e4⟩ := (R6.out.setc FC).fin (.slice A bs.length c) (.int .i64 at_) (.int .i64 FC) (.int .i64 0) (.slice none 0 0)
          refine bodyPost_ret (results_cc rfl _ _ (w.heap.size + 1) (w.heap.size + 1 + 1) 50 24 _ _ _ _ rfl e1 Tryd.underlying50 rfl (by kernel_rfl) rfl e2 Tryd.underlying24 rfl (by kernel_rfl)) rfl ?_
          rw [HFF0.out, ← HA2.out]
          exact ⟨none, 0, rfl, Nat.le_refl _, kF_nilC _, e3⟩
      · have hcb : (cd == 0) = false := by simpa using hcd
        have hcb2 : (cd != 0) = true := by simpa using hcd
        have HX := Lib.hid (show FC = cd by rw [HFCX.out, if_neg hcd])
        have HFF0 := Lib.hid (show FF = (0, []) by rw [HFF.out, HX.out, if_neg hcd])
        clear hcd
        obtain ⟨s0, s1, s2, s3, s4, s5, s6, s7, s8, s9⟩ := RO.out.zf
        go_wp2_with fail
        obtain ⟨e1, e2, e3, e4⟩ := RO.out.fin (.slice A bs.length c) (.int .i64 at_) (.int .i64 cd) (.int .i64 0) (.slice none 0 0)
        refine bodyPost_ret (results_cc rfl _ _ (w.heap.size + 1) (w.heap.size + 1 + 1) 50 24 _ _ _ _ rfl e1 Tryd.underlying50 rfl (by kernel_rfl) rfl e2 Tryd.underlying24 rfl (by kernel_rfl)) rfl ?_
        rw [HFF0.out, HX.out, ← HA2.out]
        exact ⟨none, 0, rfl, Nat.le_refl _, kF_nilC _, e3⟩
end Go.Proofs.YtmoiochblmdgfaaDoor
namespace Go.Proofs.YtmoiochblmdgfaaDoor
set_option linter.unusedVariables false
set_option linter.unusedSimpArgs false
open Go.RowKit Go.Proofs.YtmoiochblmdgfaaDoorW.PrintWords
attribute [local go_sem ↓] Go.wp_at_zero Go.wp_at_succ

theorem rd_below {w w' : World} {g : Nat} {A : Option Addr} {c : Nat} {bs : List Int} {at_ code : Int} (h : RdSt w g A c bs at_ code) (h' : RdSt w' g A c bs at_ code) (hg : w.grownBy w' (some g)) : Below w.heap.size w w' :=
  ⟨hg.os, hg.tape, hg.output, hg.size, fun k hk => by
    by_cases e : k = g
    · subst e
      exact h'.trans h.symm
    · exact hg.block k hk (fun e2 => e (by injection e2))⟩
theorem RdSt.later {w w' : World} {g : Nat} {A : Option Addr} {c : Nat} {bs : List Int} {at_ code : Int} (h : RdSt w g A c bs at_ code) (hb : Below w.heap.size w w') : RdSt w' g A c bs at_ code :=
  (hb.block g (Array.getElem?_eq_some_iff.1 h).1).trans h
theorem rdCode_b {w : World} {g : Nat} {A : Option Addr} {c : Nat} {bs : List Int} {at_ code : Int} (h : RdSt w g A c bs at_ code) : Calls Tryd.prog 26 #[.pointer (some ⟨g, 0, none⟩)] w fun e w' => e = .returned (.int .i64 code) ∧ Below w.heap.size w w' :=
  (rdCode_any g A c bs at_ code w h).mono fun e w' ⟨he, hr, hg⟩ => ⟨he, rd_below h hr hg⟩
theorem rdAt_b {w : World} {g : Nat} {A : Option Addr} {c : Nat} {bs : List Int} {at_ code : Int} (h : RdSt w g A c bs at_ code) : Calls Tryd.prog 27 #[.pointer (some ⟨g, 0, none⟩)] w fun e w' => e = .returned (.int .i64 at_) ∧ Below w.heap.size w w' :=
  (rdAt_any g A c bs at_ code w h).mono fun e w' ⟨he, hr, hg⟩ => ⟨he, rd_below h hr hg⟩
theorem rdLeft_b {w : World} {g : Nat} {A : Option Addr} {c : Nat} {bs : List Int} {at_ code : Int} (h : RdSt w g A c bs at_ code) (hl : bs.length < 1000000) (ha0 : 0 ≤ at_) (ha1 : at_ ≤ bs.length) : Calls Tryd.prog 31 #[.pointer (some ⟨g, 0, none⟩)] w fun e w' => e = .returned (.int .i64 ((bs.length : Int) - at_)) ∧ Below w.heap.size w w' :=
  (rdLeft_any g A c bs at_ code w h hl ha0 ha1).mono fun e w' ⟨he, hr, hg⟩ => ⟨he, rd_below h hr hg⟩
theorem fromF_len (bs : List Int) : (fromF bs 0 0).2.length ≤ 12 := by
  unfold fromF
  by_cases h : fromC bs 0 0 = 0
  · rw [if_pos h]
    unfold fromC at h
    by_cases h2 : (fromA bs 0 0).2.2.2 = 0
    · rw [if_pos h2] at h
      exact (chk_ok h).2.2
    · rw [if_neg h2] at h
      exact absurd h h2
  · rw [if_neg h]
    exact Nat.zero_le _
theorem same8_any (A0 : Option Addr) (c0 : Nat) (l0 : List Int) (A1 : Option Addr) (c1 : Nat) (w : World) (h0 : kO.C w A0 l0.length l0) (hc0 : l0.length ≤ c0) (h1 : kO.C w A1 l0.length l0) (hc1 : l0.length ≤ c1) (hl : l0.length < 1000000) :
    Calls Tryd.prog 29 #[.slice A0 l0.length c0, .slice A1 l0.length c1] w fun e w' => e = .returned (.bool true) ∧ Below w.heap.size w w' :=
  (PR.butteryref02_Same.calls _ A0 c0 l0 A1 c1 l0 _ w h0 hc0 h1 hc1 (same8_f l0 l0 hl)).mono fun e w' ⟨he, n, hn⟩ => ⟨he.trans (by rw [decide_eq_true rfl]), by rw [hn]; exact Drawn0.below ⟨n, rfl⟩⟩

set_option maxHeartbeats 8000000 in
set_option maxRecDepth 100000 in
theorem back_law (low : Int) (A : Option Addr) (c : Nat) (L : List Fl) (B : Option Addr) (d : Nat) (bs : List Int) (w : World) (hc : L.length ≤ c) (hC : kF.C w A L.length L) (hd : bs.length ≤ d) (hD : kO.C w B bs.length bs) (ho : Oct bs) (hw : ∀ x ∈ L, 0 ≤ x.f0 ∧ x.f0 < 18446744073709551616) (hg : HG w) :
    Calls Tryd.prog 6 #[.agg #[.int .i64 low, .slice A L.length c], .slice B bs.length d] w fun e w' => e = .returned (.bool true) ∧ Below w.heap.size w w' := by
  have HW := Lib.hid (fun W hW => works_below (w1 := W) hg hW)
  have h0 := Lib.hid (hg_pos hg)
  have HH := Lib.hid hg
  have HD := Lib.hid hD
  have HO := Lib.hid ho
  have HWL := Lib.hid hw
  have F1 := Lib.hid (FB.box (low := low) hc hC)
  have B1 := Lib.hid (bel_alloc w (.cells #[.int .i64 low, .slice A L.length c] 24))
  have HG1 := Lib.hid (hg.below (bel_alloc w (.cells #[.int .i64 low, .slice A L.length c] 24)))
  have D1 := Lib.hid (Kd.C_below hD (bel_alloc w (.cells #[.int .i64 low, .slice A L.length c] 24)))
  have HS1 := Lib.hid (show (w.alloc (.cells #[.int .i64 low, .slice A L.length c] 24)).heap.size = w.heap.size + 1 by simp)
  clear hC hD ho hw hg
  by_cases hgd : bs.length ≤ 600
  · have hd1 : decide (600 < (bs.length : Int)) = false := decide_eq_false (by omega)
    go_enter Tryd.func6, Tryd.ntmps6
    go_wp2_with fail
    generalize w.alloc (.cells #[.int .i64 low, .slice A L.length c] 24) = w1 at *
    refine (Read_any B d bs w1 D1.out (by omega)).mono ?_
    rintro e w2 ⟨w0, g, A2, c2, rfl, hI2, hc2, hC2, hge, hb2, hb0⟩
    have I2 := Lib.hid hI2
    have CC2 := Lib.hid hC2
    have BR := Lib.hid hb2
    have B2 := Lib.hid (hb0.trans (hb2.mono hb0.size))
    have HG2 := Lib.hid (HG1.out.below' (hb0.trans (hb2.mono hb0.size)) (hg_pos HG1.out))
    have hg1 : w1.heap.size ≤ g := Nat.le_trans hb0.size hge
    have HG1' := Lib.hid hg1
    clear hI2 hC2 hb2 hb0
    have HFR := Lib.hid (From_any g A2 c2 bs 0 0 w0 w2 I2.out BR.out hge CC2.out hc2 HO.out (by omega) (by omega) (by omega) HG2.out (by have := HS1.out; omega))
    have HRF := Lib.hid (fun W (hW : Below w1.heap.size w1 W) => refFrom_any B d bs 0 0 W (Kd.C_below D1.out hW) HO.out (by omega) (by omega) (by omega))
    have hff := fromF_len bs
    generalize fromF bs 0 0 = FF at *
    generalize fromC bs 0 0 = FC at *
    generalize (fromA bs 0 0).2.2.1 = FP at *
    obtain ⟨fl, fL⟩ := FF
    go_wp2_with fail
    refine HFR.out.mono ?_
    rintro e w3 ⟨A3, c3, rfl, hc3, hC3, hI3, hG3⟩
    try dsimp only at hc3 hC3
    have B3 := Lib.hid (gr_below B2.out B2.out.size hG3 hg1)
    have I4 := Lib.hid (hI3.alloc (.cells #[.int .i64 fl, .slice A3 fL.length c3] 24))
    have G4 := Lib.hid (FB.box (low := fl) hc3 hC3)
    have B4 := Lib.hid (B3.out.trans ((bel_alloc w3 (.cells #[.int .i64 fl, .slice A3 fL.length c3] 24)).mono B3.out.size))
    clear hC3 hI3 hG3 HFR I2 BR
    go_wp2_with fail
    generalize w3.alloc (.cells #[.int .i64 fl, .slice A3 fL.length c3] 24) = w4 at *
    generalize w3.heap.size = q6 at *
    refine (HRF.out w4 B4.out).mono ?_
    rintro e w5 ⟨A5, c5, rfl, hc5, hC5, hb5⟩
    try dsimp only at hc5 hC5
    have b6 := bel_alloc w5 (.cells #[.slice B bs.length d, .int .i64 FP, .int .i64 FC] 50)
    have b7 := bel_alloc (w5.alloc (.cells #[.slice B bs.length d, .int .i64 FP, .int .i64 FC] 50)) (.cells #[.int .i64 fl, .slice A5 fL.length c5] 24)
    have b8 := b6.trans (b7.mono b6.size)
    have I7 := Lib.hid (((I4.out.later hb5).later b6).later b7)
    have G7 := Lib.hid (((G4.out.later hb5).later b6).later b7)
    have H7 := Lib.hid (FB.box (low := fl) hc5 (Kd.C_below hC5 b6))
    have K7 := Lib.hid ((Below.heap_alloc (w5.alloc (.cells #[.slice B bs.length d, .int .i64 FP, .int .i64 FC] 50)) (.cells #[.int .i64 fl, .slice A5 fL.length c5] 24) w5.heap.size (by simp)).trans (heap_alloc_new w5 (.cells #[.slice B bs.length d, .int .i64 FP, .int .i64 FC] 50)))
    have B7 := Lib.hid ((B4.out.trans (hb5.mono B4.out.size)).trans (b8.mono (Nat.le_trans B4.out.size hb5.size)))
    have hq8 : (w5.alloc (.cells #[.slice B bs.length d, .int .i64 FP, .int .i64 FC] 50)).heap.size = w5.heap.size + 1 := by simp
    rw [hq8] at H7
    clear b6 b7 b8 hC5 hb5 I4 G4 B4 hq8
    go_wp2_with fail
    generalize (w5.alloc (.cells #[.slice B bs.length d, .int .i64 FP, .int .i64 FC] 50)).alloc (.cells #[.int .i64 fl, .slice A5 fL.length c5] 24) = wb at *
    generalize w5.heap.size + 1 = q8 at *
    generalize w5.heap.size = q7 at *
    have hfl : fL.length ≤ 12 := hff
    have HSA := Lib.hid (show ∀ W, Below wb.heap.size wb W → Calls Tryd.prog 12 #[.agg #[.int .i64 fl, .slice A3 fL.length c3], .agg #[.int .i64 fl, .slice A5 fL.length c5]] W fun e w' => e = .returned (.bool true) ∧ Below wb.heap.size wb w' from fun W hW =>
      (refSame_any fl A3 c3 fL W (G7.out.later hW).rd G7.out.cap (by omega) fl A5 c5 fL (H7.out.later hW).rd H7.out.cap).mono fun e w' ⟨he, hb⟩ => ⟨he.trans (by rw [decide_eq_true (show fl = fl ∧ fL = fL from ⟨rfl, rfl⟩)]), hW.trans (hb.mono hW.size)⟩)
    have HCO := Lib.hid (show ∀ W, Below wb.heap.size wb W → Calls Tryd.prog 26 #[.pointer (some ⟨g, 0, none⟩)] W fun e w' => e = .returned (.int .i64 FC) ∧ Below wb.heap.size wb w' from fun W hW =>
      (rdCode_b (I7.out.later hW)).mono fun e w' ⟨he, hb⟩ => ⟨he, hW.trans (hb.mono hW.size)⟩)
    have HAT := Lib.hid (show ∀ W, Below wb.heap.size wb W → Calls Tryd.prog 27 #[.pointer (some ⟨g, 0, none⟩)] W fun e w' => e = .returned (.int .i64 FP) ∧ Below wb.heap.size wb w' from fun W hW =>
      (rdAt_b (I7.out.later hW)).mono fun e w' ⟨he, hb⟩ => ⟨he, hW.trans (hb.mono hW.size)⟩)
    have HX := Lib.hid (show ∀ W, Below wb.heap.size wb W → W.cell? ⟨q6, 0, none⟩ = some (.int .i64 fl) ∧ W.cell? ⟨q6, 1, none⟩ = some (.slice A3 fL.length c3) ∧ W.cell? ⟨q8, 0, none⟩ = some (.int .i64 fl) ∧ W.cell? ⟨q8, 1, none⟩ = some (.slice A5 fL.length c5) ∧ W.cell? ⟨q7, 1, none⟩ = some (.int .i64 FP) ∧ W.cell? ⟨q7, 2, none⟩ = some (.int .i64 FC) from fun W hW => by
      have e7 := (hW.block q7 (Array.getElem?_eq_some_iff.1 K7.out).1).trans K7.out
      exact ⟨(G7.out.later hW).cells.1, (G7.out.later hW).cells.2, (H7.out.later hW).cells.1, (H7.out.later hW).cells.2, cell_of_row W _ 1 _ _ (0, 0) e7, cell_of_row W _ 2 _ _ (0, 0) e7⟩)
    have z0 : Hid (Below wb.heap.size wb wb.drew) := Drawn0.below ⟨1, rfl⟩
    obtain ⟨s0, s1, s2, s3, s4, s5⟩ := HX.out _ (Below.refl _ _)
    go_cut [45] (fun cc wx => cc = .bool false ∧ Hid (Below wb.heap.size wb wx))
    case first =>
      go_region_held3 (fun w' => w'.cell? ⟨q6, 0, none⟩ = some (.int .i64 fl) ∧ w'.cell? ⟨q6, 1, none⟩ = some (.slice A3 fL.length c3) ∧ w'.cell? ⟨q8, 0, none⟩ = some (.int .i64 fl) ∧ w'.cell? ⟨q8, 1, none⟩ = some (.slice A5 fL.length c5) ∧ w'.cell? ⟨q7, 1, none⟩ = some (.int .i64 FP) ∧ w'.cell? ⟨q7, 2, none⟩ = some (.int .i64 FC))
        (first | exact ⟨s0, s1, s2, s3, s4, s5⟩ | exact HX.out _ z0.out | exact HX.out _ z1.out | exact HX.out _ z2.out | exact HX.out _ z3.out)
        (first
        | (go_at_call 12; ((with_reducible refine (HSA.out _ z0.out).mono ?_)); rintro e y1 ⟨rfl, hb⟩; have z1 := Lib.hid hb; clear hb)
        | (go_at_call 26; ((with_reducible refine (HCO.out _ z1.out).mono ?_)); rintro e y2 ⟨rfl, hb⟩; have z2 := Lib.hid hb; clear hb)
        | (go_at_call 27; ((with_reducible refine (HAT.out _ z2.out).mono ?_)); rintro e y3 ⟨rfl, hb⟩; have z3 := Lib.hid hb; clear hb))
      all_goals
        go_wp2_with fail
        go_meet
        exact ⟨rfl, z3⟩
    case rest =>
      obtain ⟨rfl, BX⟩ := hcut
      obtain ⟨wd, rfl⟩ : ∃ wd : World, wd = wc := ⟨_, rfl⟩
      have BD := Lib.hid (B7.out.trans (BX.out.mono B7.out.size))
      have FD := Lib.hid (F1.out.later BD.out)
      clear HSA HCO HAT HX z0 s0 s1 s2 s3 s4 s5 BX B7 K7 H7 G7 I7
      obtain ⟨s0, s1⟩ := FD.out.cells
      have HRC := Lib.hid (refCheck_all low A c L wd FD.out.rd hc)
      go_wp2_with fail
      refine HRC.out.mono ?_
      rintro e w6 ⟨rfl, hb6⟩
      have B6 := Lib.hid (BD.out.trans (hb6.mono BD.out.size))
      clear hb6 s0 s1 BD FD HRC
      by_cases hk : chk low L = 0
      · have hcb : (chk low L != 0) = false := by simpa using hk
        have OK := Lib.hid (okf_of hk)
        have F6 := Lib.hid (F1.out.later B6.out)
        obtain ⟨s0, s1⟩ := F6.out.cells
        have hfn : FlN L := fun x hx => ⟨(HWL.out x hx).1, (HWL.out x hx).2, by have := OK.out.1.1; have := (OK.out.1.2.2 x hx).1; omega, (OK.out.1.2.2 x hx).2⟩
        have hl12 := OK.out.2.2
        have hpl := putF_len OK.out
        have hpo := putF_oct low L
        obtain ⟨e1, e2, e3⟩ := from_put bs OK.out HWL.out
        have HPUT := Lib.hid (fun W A' c' (hF : kF.C W A' L.length L) (hc : L.length ≤ c') => PR.floors_Put.calls (L.length + 100) none 0 [] low A' c' L (putF low L) W (C_nil8 W) (Nat.le_refl _) hF hc (flPut_f low L hfn (by omega) OK.out.1.1 OK.out.1.2.1))
        have HRPT := Lib.hid (fun W A' c' (hF : kF.C W A' L.length L) (hc : L.length ≤ c') => PR.butteryref16_Put.calls (L.length + 100) none 0 [] low A' c' L (putF low L) W (C_nil8 W) (Nat.le_refl _) hF hc (refFlPut_f low L hfn (by omega) OK.out.1.1 OK.out.1.2.1))
        have E1 := Lib.hid e1
        have E2 := Lib.hid e2
        have E3 := Lib.hid e3
        have HPO := Lib.hid hpo
        clear hk hfn e1 e2 e3 hpo hff
        generalize putF low L = pb at *
        go_wp2_with fail
        refine (HPUT.out w6 A c F6.out.rd hc).mono ?_
        rintro e w7 ⟨v7, rfl, hr7, hb7⟩
        obtain ⟨A7, c7, rfl, hc7, hC7⟩ := Kd.R_reads hr7
        have C7 := Lib.hid hC7
        have B7 := Lib.hid (B6.out.trans (hb7.mono B6.out.size))
        have D7 := Lib.hid (Kd.C_below D1.out B7.out)
        clear hr7 hC7 hb7 s0 s1 F6 B6 HPUT
        go_wp2_with (first
          | (at_builtin; refine Kd.R_append_rows kO (Rr := kO.K w7) (w0 := w7) w7.heap.size rfl (.tmp 52) (.tmp 53) 45 5 (.int .u8 0) 1 rfl Tryd.underlying45 info_u8 rfl (by decide) (by decide) _ [] pb A7 pb.length c7 (fun _ => True) (fun _ => False) rfl rfl (R_emptyO w7 _ (Nat.le_refl _)) (Kd.C_below C7.out (bel_alloc _ _)) (fun _ _ h => h) (fun _ hk => hk.elim) (fun _ _ => trivial) (bel_alloc _ _) (by simp) (by simp; omega) ?_; intro v8 w8 ho8 hb8 hg8 hat8; rw [List.nil_append] at ho8; have O8 := Lib.hid ho8; have HB8 := Lib.hid hb8; have D8 := Lib.hid (Kd.C_below D7.out hb8); clear ho8 hb8 hg8 hat8)
          | (at_builtin; refine Kd.R_append_rows kO (Rr := kO.K w8) (w0 := w7) w7.heap.size rfl (.tmp 54) (.tmp 55) 45 5 (.int .u8 0) 1 rfl Tryd.underlying45 info_u8 rfl (by decide) (by decide) _ pb bs B bs.length d (fun _ => True) (fun _ => False) rfl rfl O8.out D8.out (fun _ _ h => h) (fun _ hk => hk.elim) (fun _ _ => trivial) HB8.out HB8.out.size (by omega) ?_; intro v9 w9 ho9 hb9 hg9 hat9; obtain ⟨A9, c9, hv9, hc9, hC9⟩ := Kd.R_reads ho9; subst hv9; have C9 := Lib.hid hC9; have HB9 := Lib.hid hb9; clear ho9 hb9 hg9 hat9 hC9))
        have hrd := Read_any A9 c9 (pb ++ bs) w9 C9.out (by rw [List.length_append]; omega)
        have HXO := Lib.hid (show Oct (pb ++ bs) from fun x hx => (List.mem_append.1 hx).elim (fun h => HPO.out x h) (fun h => HO.out x h))
        have hxl : (pb ++ bs).length = pb.length + bs.length := List.length_append
        have HXL := Lib.hid hxl
        generalize pb ++ bs = X at *
        rw [hxl] at hrd
        have HRD := Lib.hid hrd
        have hX1 : X.length ≤ 800 := by omega
        clear hrd hxl
        refine HRD.out.mono ?_
        rintro e w10 ⟨wx, g', A10, c10, rfl, hI10, hc10, hC10, hge', hb10, hbx⟩
        have I10 := Lib.hid hI10
        have C10 := Lib.hid hC10
        have BR := Lib.hid hb10
        have hxs := hbx.size
        have BX := Lib.hid (hbx.trans (hb10.mono hbx.size))
        have B10 := Lib.hid (B7.out.trans ((HB9.out.trans (BX.out.mono HB9.out.size)).mono B7.out.size))
        have P10 := Lib.hid (Kd.C_below C7.out (HB9.out.trans (BX.out.mono HB9.out.size)))
        have F10 := Lib.hid (F1.out.later B10.out)
        have hs9 := HB9.out.size
        have hs7 := B7.out.size
        have hgg : w1.heap.size ≤ g' := by omega
        obtain ⟨s0, s1⟩ := F10.out.cells
        clear hI10 hC10 hb10 hbx HRD C7 C9 D7 D8 O8 HB8 HB9 B7
        go_wp2_with fail
        refine (HRPT.out w10 A c F10.out.rd hc).mono ?_
        rintro e w11 ⟨v11, rfl, hr11, hb11⟩
        obtain ⟨A11, c11, rfl, hc11, hC11⟩ := Kd.R_reads hr11
        have HSM := Lib.hid (same8_any A7 c7 pb A11 c11 w11 (Kd.C_below P10.out hb11) hc7 hC11 hc11 (by omega))
        have I11 := Lib.hid (I10.out.later hb11)
        have B11 := Lib.hid (BR.out.trans (hb11.mono BR.out.size))
        have E11 := Lib.hid (B10.out.trans (hb11.mono B10.out.size))
        clear hr11 hC11 hb11 HRPT s0 s1 F10 P10
        go_wp2_with fail
        refine HSM.out.mono ?_
        rintro e w12 ⟨rfl, hb12⟩
        have I12 := Lib.hid (I11.out.later hb12)
        have B12 := Lib.hid (B11.out.trans (hb12.mono B11.out.size))
        have E12 := Lib.hid (E11.out.trans (hb12.mono E11.out.size))
        have HFR := Lib.hid (From_any g' A10 c10 X 0 0 wx w12 I12.out B12.out hge' (by rw [HXL.out]; exact C10.out) (by rw [HXL.out]; exact hc10) HXO.out (by omega) (by omega) (by omega) (HG1.out.below' E12.out (hg_pos HG1.out)) (by have := HS1.out; omega))
        rw [E1.out, E2.out, E3.out] at HFR
        clear hb12 HSM I11 B11 E11
        go_wp2_with fail
        refine HFR.out.mono ?_
        rintro e w13 ⟨A13, c13, rfl, hc13, hC13, hI13, hG13⟩
        try dsimp only at hc13 hC13
        have E13 := Lib.hid (gr_below E12.out E12.out.size hG13 hgg)
        have I14 := Lib.hid (hI13.alloc (.cells #[.int .i64 low, .slice A13 L.length c13] 24))
        have G14 := Lib.hid (FB.box (low := low) hc13 hC13)
        have E14 := Lib.hid (E13.out.trans ((bel_alloc w13 (.cells #[.int .i64 low, .slice A13 L.length c13] 24)).mono E13.out.size))
        clear hC13 hI13 hG13 HFR I12 B12 E12 E13
        have F14 := Lib.hid (F1.out.later E14.out)
        obtain ⟨s0, s1⟩ := F14.out.cells
        go_wp2_with fail
        generalize w13.alloc (.cells #[.int .i64 low, .slice A13 L.length c13] 24) = w14 at *
        generalize w13.heap.size = q13 at *
        refine (refSame_any low A13 c13 L w14 G14.out.rd hc13 (by omega) low A c L F14.out.rd hc).mono ?_
        rintro e w15 ⟨rfl, hb15⟩
        rw [decide_eq_true (show low = low ∧ L = L from ⟨rfl, rfl⟩)]
        have I15 := Lib.hid (I14.out.later hb15)
        have E15 := Lib.hid (E14.out.trans (hb15.mono E14.out.size))
        clear hb15 s0 s1 F14 G14 E14 I14
        have hleft : IntKind.i64.wrap ((X.length : Int) - (pb.length : Int)) = (bs.length : Int) := by rw [IntKind.wrap_i64]; have := HXL.out; omega
        have HLE := Lib.hid (show (X.length : Int) - (pb.length : Int) = (bs.length : Int) by have := HXL.out; omega)
        clear hleft
        go_wp2_with fail
        refine (rdCode_b I15.out).mono ?_
        rintro e w16 ⟨rfl, hb16⟩
        have I16 := Lib.hid (I15.out.later hb16)
        have E16 := Lib.hid (E15.out.trans (hb16.mono E15.out.size))
        clear hb16 I15 E15
        go_wp2_with fail
        refine (rdLeft_b I16.out (by omega) (by omega) (by have := HXL.out; omega)).mono ?_
        rintro e w17 ⟨rfl, hb17⟩
        have E17 := Lib.hid (E16.out.trans (hb17.mono E16.out.size))
        rw [HLE.out]
        clear hb17 I16 E16
        have dp : decide ((pb.length : Int) ≤ 200) = true := decide_eq_true (by omega)
        go_wp2_with fail
        refine (HW.out _ (B1.out.trans (E17.out.mono B1.out.size))).mono ?_
        rintro e w9 ⟨rfl, hb9⟩
        have HB9 := Lib.hid hb9
        clear hb9
        go_wp2_with fail
        go_ret
        exact ⟨rfl, HB9.out⟩
      · have hcb : (chk low L != 0) = true := by simpa using hk
        clear hk
        go_wp2_with fail
        refine (HW.out _ (B1.out.trans (B6.out.mono B1.out.size))).mono ?_
        rintro e w9 ⟨rfl, hb9⟩
        have HB9 := Lib.hid hb9
        clear hb9
        go_wp2_with fail
        go_ret
        exact ⟨rfl, HB9.out⟩
  · have hd1 : decide (600 < (bs.length : Int)) = true := decide_eq_true (by omega)
    go_enter Tryd.func6, Tryd.ntmps6
    go_wp2_with fail
    refine (HW.out _ B1.out).mono ?_
    rintro e w9 ⟨rfl, hb9⟩
    have HB9 := Lib.hid hb9
    clear hb9
    go_wp2_with fail
    go_ret
    exact ⟨rfl, HB9.out⟩
end Go.Proofs.YtmoiochblmdgfaaDoor
