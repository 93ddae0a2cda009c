/- Few keys move: plain facts on points. No program here. -/
import Derived.Test.YtdaliiaagkhhhaaDoorRgO
namespace Go.Proofs.YtdaliiaagkhhhaaDoor
set_option linter.unusedVariables false
open Go.RowKit Go.Proofs.YtdaliiaagkhhhaaDoorW.PrintWords

theorem ded_head (L : List Pt) (N : Nat) : ∀ i, (ded L N (i + 1)).headD 0 = (pget L (N % L.length)).node ∧ ded L N (i + 1) ≠ []
  | 0 => by simp [ded]
  | i + 1 => by
    obtain ⟨h1, h2⟩ := ded_head L N i
    rw [ded]
    split
    · exact ⟨h1, h2⟩
    · obtain ⟨x, r, e⟩ := List.exists_cons_of_ne_nil h2
      rw [e] at h1 ⊢
      exact ⟨h1, by simp⟩
theorem owner_eq (L : List Pt) (h : Int) : ownerN L h = if L.length = 0 then 0 else (pget L (nextN L h % L.length)).node := by
  unfold ownerN
  rw [owners_take]
  cases hl : L.length with
  | zero => simp [ded]
  | succ n =>
    obtain ⟨h1, h2⟩ := ded_head L (nextN L h) n
    rw [if_neg (by omega)]
    obtain ⟨x, r, e⟩ := List.exists_cons_of_ne_nil h2
    rw [e] at h1 ⊢
    rw [← hl, ← h1]
    rfl
theorem pget_ins (L : List Pt) (K : Nat) (x : Pt) (hK : K ≤ L.length) (j : Nat) : pget (ins L K x) j = if j < K then pget L j else if j = K then x else pget L (j - 1) := by
  unfold pget ins
  have hl : (L.take K).length = K := by rw [List.length_take]; omega
  simp only [List.getD_eq_getElem?_getD]
  by_cases h1 : j < K
  · rw [if_pos h1, List.getElem?_append_left (by omega), List.getElem?_take, if_pos h1]
  · rw [if_neg h1, List.getElem?_append_right (by omega), hl]
    by_cases h2 : j = K
    · rw [if_pos h2, show j - K = 0 by omega]
      rfl
    · rw [if_neg h2]
      obtain ⟨m, hm⟩ : ∃ m, j - K = m + 1 := ⟨j - K - 1, by omega⟩
      rw [hm, List.getElem?_cons_succ, List.getElem?_drop, show K + m = j - 1 by omega]
theorem next_put (L : List Pt) (x : Pt) (h : Int) : nextN (put L x) h = nextN L h + (if x.at_ < h then 1 else 0) := by
  have e : nextN L h = List.countP (fun y => decide (y.at_ < h)) (L.take (nextN L x.at_)) + List.countP (fun y => decide (y.at_ < h)) (L.drop (nextN L x.at_)) := by
    rw [← List.countP_append, List.take_append_drop]; rfl
  rw [e]
  unfold put ins
  show List.countP _ _ = _
  rw [List.countP_append, List.countP_cons]
  by_cases hx : x.at_ < h
  · simp [hx]; omega
  · simp [hx]
theorem next_mono (L : List Pt) {a b : Int} (h : a ≤ b) : nextN L a ≤ nextN L b := by
  unfold nextN
  refine List.countP_mono_left fun x _ hx => ?_
  have : x.at_ < a := of_decide_eq_true hx
  exact decide_eq_true (by omega)
theorem put_owner (L : List Pt) (x : Pt) (h : Int) : ownerN (put L x) h = x.node ∨ (L ≠ [] ∧ ownerN (put L x) h = ownerN L h) := by
  rw [owner_eq (put L x), put_len, if_neg (by omega), next_put]
  cases hL : L with
  | nil =>
    left
    simp [put, ins, nextN, pget]
    split <;> simp
  | cons y r =>
    rw [← hL]
    have hpos : 0 < L.length := by rw [hL]; simp
    have hne : L ≠ [] := by rw [hL]; simp
    have hN := nextN_le L h
    have hK := nextN_le L x.at_
    rw [owner_eq L, if_neg (show ¬ L.length = 0 by omega)]
    unfold put
    rw [pget_ins _ _ _ hK]
    by_cases hx : x.at_ < h
    · rw [if_pos hx]
      have hKN := next_mono L (show x.at_ ≤ h by omega)
      rcases Nat.lt_or_ge (nextN L h) L.length with hlt | hge
      · right
        rw [Nat.mod_eq_of_lt (show nextN L h + 1 < L.length + 1 by omega), if_neg (by omega), if_neg (by omega), Nat.mod_eq_of_lt hlt]
        exact ⟨hne, rfl⟩
      · have e : nextN L h = L.length := by omega
        rw [e, Nat.mod_self, Nat.mod_self]
        by_cases hk : nextN L x.at_ = 0
        · left
          rw [hk]; simp
        · right
          rw [if_pos (by omega)]
          exact ⟨hne, rfl⟩
    · rw [if_neg hx]
      have hKN := next_mono L (show h ≤ x.at_ by omega)
      rw [Nat.add_zero, Nat.mod_eq_of_lt (show nextN L h < L.length + 1 by omega)]
      by_cases hk : nextN L x.at_ = nextN L h
      · left
        rw [if_neg (by omega), if_pos hk.symm]
      · right
        rw [if_pos (by omega), Nat.mod_eq_of_lt (by omega)]
        exact ⟨hne, rfl⟩
/-- Behind a node that comes a key is asked of whom it was asked of, or of that node. -/
theorem add_owner (L : List Pt) (nd h : Int) : ∀ i, ownerN (addTo L nd i) h = nd ∨ ownerN (addTo L nd i) h = ownerN L h
  | 0 => .inr rfl
  | i + 1 => by
    rw [addTo]
    rcases put_owner (addTo L nd i) ⟨atI nd i, nd⟩ h with e | ⟨_, e⟩
    · exact .inl e
    · rw [e]
      exact add_owner L nd h i
theorem drop_put (L : List Pt) (x : Pt) : dropN (put L x) x.node = dropN L x.node := by
  unfold dropN put ins
  rw [List.filter_append, List.filter_cons_of_neg (by simp), ← List.filter_append, List.take_append_drop]
theorem drop_add (L : List Pt) (nd : Int) (h : hasN L nd = false) : ∀ i, dropN (addTo L nd i) nd = L
  | 0 => dropN_none h
  | i + 1 => by
    have := drop_put (addTo L nd i) ⟨atI nd i, nd⟩
    rw [addTo]
    exact this.trans (drop_add L nd h i)
theorem has_drop (L : List Pt) (nd : Int) : hasN (dropN L nd) nd = false := by
  cases hq : hasN (dropN L nd) nd with
  | false => rfl
  | true =>
    obtain ⟨y, hy, e⟩ := has_iff.1 hq
    have := (List.mem_filter.1 hy).2
    simp [e] at this
theorem has_add (L : List Pt) (nd : Int) {i : Nat} (h : 0 < i) : hasN (addTo L nd i) nd = true :=
  has_iff.2 ⟨⟨atI nd (0 : Nat), nd⟩, mem_addTo.2 (.inr ⟨0, h, rfl⟩), rfl⟩
theorem addR_ok_eq (each : Nat) (L : List Pt) (nd : Int) (h1 : 1 ≤ nd) (h2 : nd ≤ 16) (h : hasN L nd = false) : addR each L nd = addTo L nd each ∧ addC L nd = 0 := by
  unfold addR addC
  rw [if_pos ⟨h1, h2, h⟩, if_neg (by omega), if_neg (by rw [h]; decide)]
  exact ⟨rfl, rfl⟩

/-- A row of numbers is not what a ring's function writes. -/
theorem R_ring {w w' : World} {base p : Nat} {each : Int} {v rv : Value} {pts : List Pt} {xs : List Int} (h : (Kd.int .i64).R 3 w base (fun _ => True) v xs) (hS : IsRg w p each rv pts) (hc : Chg (rgM p rv) w w') : (Kd.int .i64).R 3 w' base (fun _ => True) v xs := by
  refine Kd.R_mono (Kd.R_step (Kd.R_bound h) fun k hk hlt => hc.block k hlt ?_) fun _ _ => trivial
  obtain ⟨_, _, _, q, hq, cells, hcl⟩ := hk
  have hq2 : q = 3 := by simpa [Kd.int, Kd.scalar] using hq
  subst hq2
  rintro (rfl | hv)
  · have h1 := hS.head
    rw [hcl] at h1
    simp at h1
  · obtain ⟨inner, ho⟩ := Kd.R_own hS.row
    obtain ⟨cells', hcl'⟩ := own_typed ho k hv
    rw [hcl] at hcl'
    simp at hcl'
end Go.Proofs.YtdaliiaagkhhhaaDoor
