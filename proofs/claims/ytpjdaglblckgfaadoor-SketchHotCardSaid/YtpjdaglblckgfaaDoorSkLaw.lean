/- What holds of counts: no program and no memory in it. -/
import Derived.Test.YtpjdaglblckgfaaDoorSk3
namespace Go.Proofs.YtpjdaglblckgfaaDoor
set_option linter.unusedVariables false

section
variable {S S' : Sk} {h : Int}
theorem least_le (S : Sk) (h : Int) : ∀ n r, r < n → leastI S h n ≤ S.row r (atI r h S.width).toNat
  | 0, r, hr => by omega
  | n + 1, r, hr => by
    simp only [leastI]
    by_cases e : r = n
    · subst e
      split <;> omega
    · have := least_le S h n r (by omega)
      split <;> omega
theorem least_cap (S : Sk) (h : Int) : ∀ n, leastI S h n ≤ 255
  | 0 => by simp [leastI]
  | n + 1 => by
    have := least_cap S h n
    simp only [leastI]
    split <;> omega
theorem least_ge (S : Sk) (h x : Int) (hx : x ≤ 255) : ∀ n, (∀ r, r < n → x ≤ S.row r (atI r h S.width).toNat) → x ≤ leastI S h n
  | 0, _ => by simpa [leastI] using hx
  | n + 1, hr => by
    have h1 := least_ge S h x hx n (fun r hr' => hr r (by omega))
    have h2 := hr n (by omega)
    simp only [leastI]
    split <;> omega
theorem least_att (S : Sk) (h : Int) : ∀ n, leastI S h n = 255 ∨ ∃ r, r < n ∧ leastI S h n = S.row r (atI r h S.width).toNat
  | 0 => .inl rfl
  | n + 1 => by
    simp only [leastI]
    split
    · exact .inr ⟨n, by omega, rfl⟩
    · rcases least_att S h n with h1 | ⟨r, hr, h1⟩
      · exact .inl h1
      · exact .inr ⟨r, by omega, h1⟩
theorem least_mono (hw : S'.width = S.width) (hr : ∀ r, r < 4 → S.row r (atI r h S.width).toNat ≤ S'.row r (atI r h S.width).toNat) : leastI S h 4 ≤ leastI S' h 4 :=
  least_ge S' h _ (least_cap _ _ _) 4 fun r h4 => by
    rw [hw]
    have := least_le S h 4 r h4
    have := hr r h4
    omega
theorem least_up (hw : S'.width = S.width) (hr : ∀ r, r < 4 → S'.row r (atI r h S.width).toNat ≤ S.row r (atI r h S.width).toNat + 1) : leastI S' h 4 ≤ leastI S h 4 + 1 := by
  rcases least_att S h 4 with h1 | ⟨r, h4, h1⟩
  · have := least_cap S' h 4
    omega
  · have h2 := least_le S' h 4 r h4
    rw [hw] at h2
    have := hr r h4
    omega
theorem bump_row (S : Sk) (h : Int) (r k : Nat) : (S.bump h).row r k = if r < 4 ∧ k = (atI r h S.width).toNat ∧ S.row r k = leastI S h 4 ∧ S.row r k < 255 then S.row r k + 1 else S.row r k := rfl
theorem bump_mono (S : Sk) (h h2 : Int) : leastI S h2 4 ≤ leastI (S.bump h) h2 4 :=
  least_mono rfl fun r _ => by
    rw [bump_row]
    split <;> omega
theorem bump_up (S : Sk) (h h2 : Int) : leastI (S.bump h) h2 4 ≤ leastI S h2 4 + 1 :=
  least_up rfl fun r _ => by
    rw [bump_row]
    split <;> omega
theorem bump_self (S : Sk) (h : Int) (hl : leastI S h 4 < 255) : leastI (S.bump h) h 4 = leastI S h 4 + 1 := by
  refine Int.le_antisymm (bump_up S h h) (least_ge _ _ _ (by omega) 4 fun r h4 => ?_)
  show _ ≤ (S.bump h).row r (atI r h S.width).toNat
  rw [bump_row]
  have := least_le S h 4 r h4
  split
  · omega
  · rename_i hn
    have : ¬ (S.row r (atI r h S.width).toNat = leastI S h 4) := fun e => hn ⟨h4, rfl, e, by omega⟩
    omega
theorem age_least (S : Sk) (h : Int) (hbd : S.row 0 (atI 0 h S.width).toNat ≤ 255) : leastI S.age h 4 = leastI S h 4 / 2 := by
  have hc := least_cap S h 4
  refine Int.le_antisymm ?_ (least_ge _ _ _ (by omega) 4 fun r h4 => ?_)
  · rcases least_att S h 4 with h1 | ⟨r, h4, h1⟩
    · have h2 := least_le S.age h 4 0 (by omega)
      have h3 : S.age.row 0 (atI 0 h S.age.width).toNat = S.row 0 (atI 0 h S.width).toNat / 2 := rfl
      have h4 : leastI S.age h 4 ≤ S.age.row 0 (atI 0 h S.age.width).toNat := h2
      omega
    · have h2 := least_le S.age h 4 r h4
      have h3 : S.age.row r (atI r h S.age.width).toNat = S.row r (atI r h S.width).toNat / 2 := rfl
      omega
  · have h2 := least_le S h 4 r h4
    have h3 : S.age.row r (atI r h S.age.width).toNat = S.row r (atI r h S.width).toNat / 2 := rfl
    omega
theorem least_new (n : Nat) (l h : Int) : leastI (Sk.new n l) h 4 = 0 := by
  simp [leastI, Sk.new]
end

/-- A sketch in which nothing grows old: many keys counted. -/
def Sk.adds (S : Sk) (l : List ByteArray) : Sk := l.foldl Sk.add S
theorem adds_snoc (S : Sk) (l : List ByteArray) (s : ByteArray) : S.adds (l ++ [s]) = (S.adds l).add s := by simp [Sk.adds]
theorem add_plain (S : Sk) (s : ByteArray) (h : S.limit = 0) : S.add s = S.bump (hashI s) := by rw [Sk.add, if_neg (by omega)]
theorem adds_fields (S : Sk) (h : S.limit = 0) (l : List ByteArray) : (S.adds l).limit = 0 ∧ (S.adds l).width = S.width ∧ (S.adds l).aged = S.aged ∧ (S.adds l).total = S.total + l.length := by
  refine list_snoc (P := fun l => (S.adds l).limit = 0 ∧ (S.adds l).width = S.width ∧ (S.adds l).aged = S.aged ∧ (S.adds l).total = S.total + l.length) ?_ (fun l s ih => ?_) l
  · exact ⟨h, rfl, rfl, by simp [Sk.adds]⟩
  · obtain ⟨h1, h2, h3, h4⟩ := ih
    rw [adds_snoc, add_plain _ _ h1]
    refine ⟨h1, h2, h3, ?_⟩
    show (S.adds l).total + 1 = _
    rw [h4]
    simp
    omega
/-- How often a key stands in a list. -/
def cnt (key : ByteArray) (l : List ByteArray) : Nat := (l.filter fun s => s.toList == key.toList).length
theorem cnt_snoc (key : ByteArray) (l : List ByteArray) (s : ByteArray) : cnt key (l ++ [s]) = cnt key l + if s.toList == key.toList then 1 else 0 := by
  unfold cnt
  rw [List.filter_append, List.length_append]
  congr 1
  by_cases h : (s.toList == key.toList) = true <;> simp [h]
/-- NEVER TOO LOW, AND NEVER MORE THAN WAS COUNTED. -/
theorem adds_least (n : Nat) (key : ByteArray) (l : List ByteArray) : min (cnt key l : Int) 255 ≤ ofI ((Sk.new n 0).adds l) key ∧ ofI ((Sk.new n 0).adds l) key ≤ l.length := by
  refine list_snoc (P := fun l => min (cnt key l : Int) 255 ≤ ofI ((Sk.new n 0).adds l) key ∧ ofI ((Sk.new n 0).adds l) key ≤ l.length) ?_ (fun l s ih => ?_) l
  · have : ofI ((Sk.new n 0).adds []) key = 0 := least_new n 0 _
    rw [this]
    simp [cnt]
    decide
  · rw [adds_snoc, add_plain _ _ (adds_fields _ rfl l).1, cnt_snoc]
    obtain ⟨h1, h2⟩ := ih
    unfold ofI at *
    have h3 := bump_mono ((Sk.new n 0).adds l) (hashI s) (hashI key)
    have h4 := bump_up ((Sk.new n 0).adds l) (hashI s) (hashI key)
    have hc := least_cap ((Sk.new n 0).adds l) (hashI key) 4
    refine ⟨?_, by simp; omega⟩
    by_cases e : (s.toList == key.toList) = true
    · rw [if_pos e]
      have e' := (bytes_beq s key).1 e
      subst e'
      by_cases hl : leastI ((Sk.new n 0).adds l) (hashI s) 4 < 255
      · rw [bump_self _ _ hl]
        simp
        omega
      · simp
        omega
    · rw [if_neg e]
      simp
      omega
theorem cnt_le (key : ByteArray) (l : List ByteArray) : cnt key l ≤ l.length := List.length_filter_le _ _

/-- What the document's own example comes to. -/
theorem works_least (a b c : ByteArray) (hab : cnt a [a, a, b] = 2) :
    2 ≤ ofI ((Sk.new 64 0).adds [a, a, b]) a ∧ ofI ((Sk.new 64 0).adds [a, a, b]) a ≤ 3 := by
  have := adds_least 64 a [a, a, b]
  rw [hab] at this
  simp at this
  omega
end Go.Proofs.YtpjdaglblckgfaaDoor
