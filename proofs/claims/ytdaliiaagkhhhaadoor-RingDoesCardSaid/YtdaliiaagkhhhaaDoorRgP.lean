/- A ring as a list of points: what its functions compute. No program here. -/
import Derived.Test.YtdaliiaagkhhhaaDoorRg4
namespace Go.Proofs.YtdaliiaagkhhhaaDoor
set_option linter.unusedVariables false
open Go.RowKit Go.Proofs.YtdaliiaagkhhhaaDoorW.PrintWords

def Rising (L : List Pt) : Prop := L.Pairwise (fun x y => x.at_ ≤ y.at_)
/-- How many points stand ahead of a place. -/
def nextN (L : List Pt) (a : Int) : Nat := L.countP (fun x => decide (x.at_ < a))
theorem nextN_le (L : List Pt) (a : Int) : nextN L a ≤ L.length := List.countP_le_length
theorem nextN_take : ∀ (L : List Pt) (a : Int), Rising L → ∀ j, j < L.length → ((pget L j).at_ < a ↔ j < nextN L a)
  | [], _, _, j, h => by simp at h
  | x :: r, a, hR, j, h => by
    obtain ⟨h1, h2⟩ := List.pairwise_cons.1 hR
    by_cases hx : x.at_ < a
    · have hc : nextN (x :: r) a = nextN r a + 1 := by simp [nextN, hx]
      rw [hc]
      cases j with
      | zero => simp [pget, hx]
      | succ j =>
        have ih := nextN_take r a h2 j (by simpa using h)
        have hp : pget (x :: r) (j + 1) = pget r j := by simp [pget]
        rw [hp, ih]
        omega
    · have hr : nextN r a = 0 := by
        rw [nextN, List.countP_eq_zero]
        intro y hy
        have := h1 y hy
        simp
        omega
      have hc : nextN (x :: r) a = 0 := by
        have : nextN (x :: r) a = nextN r a := by simp [nextN, hx]
        omega
      rw [hc]
      have hp : x.at_ ≤ (pget (x :: r) j).at_ := by
        cases j with
        | zero => simp [pget]
        | succ j =>
          have hj : j < r.length := by simpa using h
          have : pget (x :: r) (j + 1) = r[j] := by simp [pget, hj]
          rw [this]
          exact h1 _ (List.getElem_mem hj)
      omega
theorem rising_get {L : List Pt} (h : Rising L) {j k : Nat} (hjk : j < k) (hk : k < L.length) : (pget L j).at_ ≤ (pget L k).at_ := by
  rw [pget_eq hk, pget_eq (by omega)]
  exact List.pairwise_iff_getElem.1 h j k (by omega) hk hjk
/-- A point more, at its place. -/
def put (L : List Pt) (x : Pt) : List Pt := ins L (nextN L x.at_) x
theorem mem_take_lt {L : List Pt} (h : Rising L) (a : Int) {y : Pt} (hy : y ∈ L.take (nextN L a)) : y.at_ < a := by
  obtain ⟨j, hj, rfl⟩ := List.getElem_of_mem hy
  have hj1 : j < nextN L a := by simp at hj; omega
  have hj2 : j < L.length := by simp at hj; omega
  have := (nextN_take L a h j hj2).2 hj1
  rw [pget_eq hj2] at this
  simpa using this
theorem mem_drop_ge {L : List Pt} (h : Rising L) (a : Int) {y : Pt} (hy : y ∈ L.drop (nextN L a)) : a ≤ y.at_ := by
  obtain ⟨j, hj, rfl⟩ := List.getElem_of_mem hy
  have hj2 : nextN L a + j < L.length := by simp at hj; omega
  have := mt (nextN_take L a h _ hj2).1 (by omega)
  rw [pget_eq hj2] at this
  simp
  omega
theorem put_rising {L : List Pt} (h : Rising L) (x : Pt) : Rising (put L x) := by
  unfold put ins Rising
  rw [List.pairwise_append]
  refine ⟨h.sublist (List.take_sublist _ _), List.pairwise_cons.2 ⟨fun y hy => mem_drop_ge h _ hy, h.sublist (List.drop_sublist _ _)⟩, fun y hy z hz => ?_⟩
  have h1 := mem_take_lt h _ hy
  rcases List.mem_cons.1 hz with rfl | hz
  · omega
  · have := mem_drop_ge h _ hz
    omega
theorem put_len (L : List Pt) (x : Pt) : (put L x).length = L.length + 1 := ins_len _ _ _ (nextN_le _ _)
theorem mem_put {L : List Pt} {x y : Pt} : y ∈ put L x ↔ y = x ∨ y ∈ L := by
  unfold put ins
  rw [List.mem_append, List.mem_cons]
  conv => rhs; rw [← List.take_append_drop (nextN L x.at_) L, List.mem_append]
  rw [or_left_comm]
/-- The first points of a node more. -/
def addTo (L : List Pt) (nd : Int) : Nat → List Pt
  | 0 => L
  | i + 1 => put (addTo L nd i) ⟨atI nd i, nd⟩
theorem addTo_rising {L : List Pt} (h : Rising L) (nd : Int) : ∀ i, Rising (addTo L nd i)
  | 0 => h
  | i + 1 => put_rising (addTo_rising h nd i) _
theorem addTo_len (L : List Pt) (nd : Int) : ∀ i, (addTo L nd i).length = L.length + i
  | 0 => rfl
  | i + 1 => by rw [addTo, put_len, addTo_len L nd i]; omega
theorem mem_addTo {L : List Pt} {nd : Int} {y : Pt} : ∀ {i : Nat}, y ∈ addTo L nd i ↔ y ∈ L ∨ ∃ j : Nat, j < i ∧ y = ⟨atI nd j, nd⟩
  | 0 => by simp [addTo]
  | i + 1 => by
    rw [addTo, mem_put, mem_addTo (i := i)]
    constructor
    · rintro (rfl | h | ⟨j, hj, rfl⟩)
      · exact .inr ⟨i, by omega, rfl⟩
      · exact .inl h
      · exact .inr ⟨j, by omega, rfl⟩
    · rintro (h | ⟨j, hj, rfl⟩)
      · exact .inr (.inl h)
      · by_cases e : j = i
        · subst e; exact .inl rfl
        · exact .inr (.inr ⟨j, by omega, rfl⟩)
theorem dropN_rising {L : List Pt} (h : Rising L) (nd : Int) : Rising (dropN L nd) := h.sublist List.filter_sublist
theorem dropN_none {L : List Pt} {nd : Int} (h : hasN L nd = false) : dropN L nd = L := by
  unfold dropN
  rw [List.filter_eq_self]
  intro y hy
  have := List.any_eq_false.1 h y hy
  simpa using this
/-- The nodes that have been met, going on from point N, so many points. -/
def ownTo (L : List Pt) (N : Nat) (most : Int) : Nat → List Int
  | 0 => []
  | i + 1 => if most ≤ (ownTo L N most i).length then ownTo L N most i else if (pget L ((N + i) % L.length)).node ∈ ownTo L N most i then ownTo L N most i else ownTo L N most i ++ [(pget L ((N + i) % L.length)).node]
theorem ownTo_len (L : List Pt) (N : Nat) (most : Int) : ∀ i, (ownTo L N most i).length ≤ i
  | 0 => by simp [ownTo]
  | i + 1 => by
    have := ownTo_len L N most i
    rw [ownTo]
    split
    · omega
    · split
      · omega
      · simp; omega
theorem ownTo_stop (L : List Pt) (N : Nat) (most : Int) {i : Nat} (h : most ≤ (ownTo L N most i).length) : ∀ k, ownTo L N most (i + k) = ownTo L N most i
  | 0 => rfl
  | k + 1 => by
    have ih := ownTo_stop L N most h k
    rw [← Nat.add_assoc, ownTo, ih, if_pos h]
def ownersN (L : List Pt) (h : Int) (most : Int) : List Int := ownTo L (nextN L h) most L.length
def ownerN (L : List Pt) (h : Int) : Int := (ownersN L h 1).headD 0
def shareN (L : List Pt) (nd : Int) : List ByteArray → Int
  | [] => 0
  | k :: r => (if ownerN L (hashI k) = nd then 1 else 0) + shareN L nd r
/-- The nodes of a ring, rising. -/
def nodesN (L : List Pt) (n : Nat) : List Int := ((List.range n).map (fun k : Nat => (k : Int))).filter (hasN L)
end Go.Proofs.YtdaliiaagkhhhaaDoor
