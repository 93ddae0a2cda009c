/- Tallies plainly: the nodes that were asked, rising; how often each had what it was asked for. No program here, but the printed loop of butteryref32.Nodes. Tallies in memory: a row of them; slices.BinarySearchFunc by their nodes. -/
import Derived.Test.YtgfljpchdiapeaaDoorJ1
import Derived.Test.YtgfljpchdiapeaaDoorG7
import Derived.Deep.RegionLaw
import Derived.Laws.IdiomCopy
namespace Go.Proofs.YtgfljpchdiapeaaDoor
set_option linter.unusedVariables false
set_option linter.unusedSimpArgs false
open Go.RowKit Go.Proofs.YtgfljpchdiapeaaDoorW.PrintWords
def asked (e : Ev) : Prop := e.kind = 1 ∨ e.kind = 2
instance (e : Ev) : Decidable (asked e) := inferInstanceAs (Decidable (e.kind = 1 ∨ e.kind = 2))
def tm (k n : Int) : List Ev → Nat
  | [] => 0
  | e :: L => (if e.kind = k ∧ e.node = n then 1 else 0) + tm k n L
theorem tm_snoc (k n : Int) (e : Ev) : ∀ L : List Ev, tm k n (L ++ [e]) = tm k n L + (if e.kind = k ∧ e.node = n then 1 else 0)
  | [] => by simp [tm]
  | a :: L => by
    rw [List.cons_append, tm, tm_snoc k n e L, tm]
    omega
theorem tm_le (k n : Int) : ∀ L : List Ev, tm k n L ≤ L.length
  | [] => Nat.le_refl _
  | a :: L => by
    have := tm_le k n L
    rw [tm, List.length_cons]
    split <;> omega
theorem tm_zero {k n : Int} : ∀ {L : List Ev}, (∀ e ∈ L, ¬ (e.kind = k ∧ e.node = n)) → tm k n L = 0
  | [], _ => rfl
  | a :: L, h => by
    rw [tm, if_neg (h a List.mem_cons_self), tm_zero fun e he => h e (List.mem_cons_of_mem _ he)]
theorem tm_pos {k n : Int} : ∀ {L : List Ev} {e : Ev}, e ∈ L → e.kind = k → e.node = n → 1 ≤ tm k n L
  | a :: L, e, h, hk, hn => by
    rw [tm]
    rcases List.mem_cons.1 h with rfl | h
    · rw [if_pos ⟨hk, hn⟩]
      omega
    · have := tm_pos h hk hn
      omega
def askN : List Ev → Nat
  | [] => 0
  | e :: L => (if asked e then 1 else 0) + askN L
theorem askN_snoc (e : Ev) : ∀ L : List Ev, askN (L ++ [e]) = askN L + (if asked e then 1 else 0)
  | [] => by simp [askN]
  | a :: L => by
    rw [List.cons_append, askN, askN_snoc e L, askN]
    omega
theorem askN_le : ∀ L : List Ev, askN L ≤ L.length
  | [] => Nat.le_refl _
  | a :: L => by
    have := askN_le L
    rw [askN, List.length_cons]
    split <;> omega
structure IsN (N : List Int) (L : List Ev) : Prop where
  rise : N.Pairwise (· < ·)
  mem : ∀ n, n ∈ N ↔ ∃ e ∈ L, asked e ∧ e.node = n
theorem IsN.nil : IsN [] [] := ⟨List.Pairwise.nil, fun n => by simp⟩
def tlOf (L : List Ev) (n : Int) : Tl := ⟨n, tm 1 n L, tm 2 n L⟩
theorem rise_lt {N : List Int} (h : N.Pairwise (· < ·)) {i j : Nat} (hij : i < j) (hj : j < N.length) : N[i] < N[j] := List.pairwise_iff_getElem.1 h i j (by omega) hj hij
theorem tlOf_other {K : List Ev} {e : Ev} {m : Int} (h : e.node ≠ m) : tlOf (K ++ [e]) m = tlOf K m := by
  unfold tlOf
  rw [tm_snoc, tm_snoc, if_neg fun x => h x.2, if_neg fun x => h x.2]
  rfl
theorem IsN.skip {N : List Int} {K : List Ev} {e : Ev} (h : IsN N K) (ha : ¬ asked e) : IsN N (K ++ [e]) ∧ N.map (tlOf (K ++ [e])) = N.map (tlOf K) := by
  refine ⟨⟨h.rise, fun n => ?_⟩, ?_⟩
  · rw [h.mem]
    constructor
    · rintro ⟨x, hx, h1⟩
      exact ⟨x, List.mem_append_left _ hx, h1⟩
    · rintro ⟨x, hx, h1, h2⟩
      rcases List.mem_append.1 hx with hx | hx
      · exact ⟨x, hx, h1, h2⟩
      · rw [List.mem_singleton.1 hx] at h1
        exact absurd h1 ha
  · refine List.map_congr_left fun n _ => ?_
    unfold tlOf
    rw [tm_snoc, tm_snoc, if_neg fun x => ha (.inl x.1), if_neg fun x => ha (.inr x.1)]
    rfl
theorem map_bump {N : List Int} {K : List Ev} {e : Ev} (h : N.Pairwise (· < ·)) {p : Nat} (hp : p < N.length) (hn : N[p] = e.node) : (N.map (tlOf K)).set p (tlOf (K ++ [e]) e.node) = N.map (tlOf (K ++ [e])) := by
  refine List.ext_getElem (by simp) fun j h1 h2 => ?_
  have hj : j < N.length := by simpa using h2
  rw [List.getElem_set]
  split
  · rename_i hpj
    subst hpj
    rw [List.getElem_map, hn]
  · rename_i hpj
    rw [List.getElem_map, List.getElem_map]
    refine (tlOf_other fun hc => ?_).symm
    rcases Nat.lt_or_gt_of_ne hpj with hlt | hlt
    · have := rise_lt h hlt hj
      omega
    · have := rise_lt h hlt hp
      omega
theorem IsN.found {N : List Int} {K : List Ev} {e : Ev} (h : IsN N K) (ha : asked e) {p : Nat} (hp : p < N.length) (hn : N[p] = e.node) : IsN N (K ++ [e]) := by
  refine ⟨h.rise, fun n => ?_⟩
  rw [h.mem]
  constructor
  · rintro ⟨x, hx, h1⟩
    exact ⟨x, List.mem_append_left _ hx, h1⟩
  · rintro ⟨x, hx, h1, h2⟩
    rcases List.mem_append.1 hx with hx | hx
    · exact ⟨x, hx, h1, h2⟩
    · rw [List.mem_singleton.1 hx] at h2
      exact (h.mem n).1 (by rw [← h2, ← hn]; exact List.getElem_mem hp)
theorem ins_get? {α : Type} (xs : List α) (p : Nat) (y : α) (hp : p ≤ xs.length) : (ins xs p y)[p]? = some y := by
  have hl : (xs.take p).length = p := by rw [List.length_take]; omega
  unfold ins
  rw [List.getElem?_append_right (by omega), hl, Nat.sub_self]
  rfl
theorem ins_get {α : Type} (xs : List α) (p : Nat) (y : α) (hp : p ≤ xs.length) (h : p < (ins xs p y).length) : (ins xs p y)[p] = y := (List.getElem?_eq_some_iff.1 (ins_get? xs p y hp)).2
theorem ins_map {α β : Type} (f : α → β) (xs : List α) (p : Nat) (y : α) : (ins xs p y).map f = ins (xs.map f) p (f y) := by
  simp [ins]
theorem IsN.put {N : List Int} {K : List Ev} {e : Ev} (h : IsN N K) (ha : asked e) {p : Nat} (hp : p ≤ N.length) (hlo : ∀ j (hj : j < N.length), j < p → N[j] < e.node) (hhi : ∀ j (hj : j < N.length), p ≤ j → e.node < N[j]) : IsN (ins N p e.node) (K ++ [e]) := by
  refine ⟨?_, fun n => ?_⟩
  · unfold ins
    rw [List.pairwise_append, List.pairwise_cons]
    refine ⟨h.rise.sublist (List.take_sublist _ _), ⟨fun a ha => ?_, h.rise.sublist (List.drop_sublist _ _)⟩, fun a ha b hb => ?_⟩
    · obtain ⟨j, hj, rfl⟩ := List.getElem_of_mem ha
      rw [List.getElem_drop]
      exact hhi _ _ (by omega)
    · obtain ⟨j, hj, rfl⟩ := List.getElem_of_mem ha
      have hjp : j < p := by rw [List.length_take] at hj; omega
      rw [List.getElem_take]
      have h1 := hlo j (by omega) hjp
      rcases List.mem_cons.1 hb with rfl | hb
      · exact h1
      · obtain ⟨i, hi, rfl⟩ := List.getElem_of_mem hb
        rw [List.getElem_drop]
        have := hhi (p + i) (by rw [List.length_drop] at hi; omega) (by omega)
        omega
  · have hm : n ∈ ins N p e.node ↔ n = e.node ∨ n ∈ N := by
      unfold ins
      rw [List.mem_append, List.mem_cons]
      have : n ∈ N ↔ n ∈ N.take p ∨ n ∈ N.drop p := by rw [← List.mem_append, List.take_append_drop]
      rw [this]
      constructor
      · rintro (h | h | h)
        · exact .inr (.inl h)
        · exact .inl h
        · exact .inr (.inr h)
      · rintro (h | h | h)
        · exact .inr (.inl h)
        · exact .inl h
        · exact .inr (.inr h)
    rw [hm, h.mem]
    constructor
    · rintro (rfl | ⟨x, hx, h1⟩)
      · exact ⟨e, List.mem_append_right _ List.mem_cons_self, ha, rfl⟩
      · exact ⟨x, List.mem_append_left _ hx, h1⟩
    · rintro ⟨x, hx, h1, h2⟩
      rcases List.mem_append.1 hx with hx | hx
      · exact .inr ⟨x, hx, h1, h2⟩
      · rw [List.mem_singleton.1 hx] at h2
        exact .inl h2.symm
theorem tlOf_new {N : List Int} {K : List Ev} (h : IsN N K) {n : Int} (hn : n ∉ N) : tlOf K n = ⟨n, 0, 0⟩ := by
  unfold tlOf
  rw [tm_zero (k := 1) fun e he x => hn ((h.mem n).2 ⟨e, he, .inl x.1, x.2⟩), tm_zero (k := 2) fun e he x => hn ((h.mem n).2 ⟨e, he, .inr x.1, x.2⟩)]
  rfl
def sumT (L : List Ev) : List Int → Nat
  | [] => 0
  | n :: N => (tm 1 n L + tm 2 n L) + sumT L N
theorem sumT_nil : ∀ N : List Int, sumT [] N = 0
  | [] => rfl
  | n :: N => by rw [sumT, sumT_nil N]; rfl
theorem sumT_cons (e : Ev) (L : List Ev) : ∀ N : List Int, sumT (e :: L) N = sumT L N + (if asked e then (N.filter (· == e.node)).length else 0)
  | [] => by simp [sumT]
  | n :: N => by
    rw [sumT, sumT_cons e L N, sumT, tm, tm, List.filter_cons]
    by_cases h : e.node = n
    · have hb : (n == e.node) = true := by simp [h]
      rw [if_pos hb, List.length_cons]
      by_cases k1 : e.kind = 1
      · have k2 : ¬ e.kind = 2 := by omega
        have ha : asked e := .inl k1
        rw [if_pos ⟨k1, h⟩, if_neg fun x => k2 x.1, if_pos ha, if_pos ha]
        omega
      · by_cases k2 : e.kind = 2
        · have ha : asked e := .inr k2
          rw [if_neg fun x => k1 x.1, if_pos ⟨k2, h⟩, if_pos ha, if_pos ha]
          omega
        · have ha : ¬ asked e := fun x => x.elim k1 k2
          rw [if_neg fun x => k1 x.1, if_neg fun x => k2 x.1, if_neg ha, if_neg ha]
          omega
    · have hb : ¬ (n == e.node) = true := by simpa using fun x => h x.symm
      rw [if_neg hb, if_neg fun x => h x.2, if_neg fun x => h x.2]
      omega
theorem one_of : ∀ {N : List Int} {n : Int}, N.Pairwise (· < ·) → n ∈ N → (N.filter (· == n)).length = 1
  | a :: N, n, h, hm => by
    rw [List.pairwise_cons] at h
    rw [List.filter_cons]
    by_cases ha : a = n
    · subst ha
      rw [if_pos (by simp), List.filter_eq_nil_iff.2 fun x hx => by have := h.1 x hx; simp; omega]
      rfl
    · rw [if_neg (by simpa using ha)]
      rcases List.mem_cons.1 hm with e | hm
      · exact absurd e.symm ha
      · exact one_of h.2 hm
theorem sum_all {N : List Int} (h : N.Pairwise (· < ·)) : ∀ L : List Ev, (∀ e ∈ L, asked e → e.node ∈ N) → sumT L N = askN L
  | [], _ => by rw [sumT_nil]; rfl
  | e :: L, hm => by
    rw [sumT_cons, askN, sum_all h L fun x hx => hm x (List.mem_cons_of_mem _ hx)]
    by_cases ha : asked e
    · rw [if_pos ha, if_pos ha, one_of h (hm e List.mem_cons_self ha)]
      omega
    · rw [if_neg ha, if_neg ha]
      omega
theorem IsN.sum {N : List Int} {L : List Ev} (h : IsN N L) : sumT L N = askN L := sum_all h.rise L fun e he ha => (h.mem _).2 ⟨e, he, ha, rfl⟩
theorem sumT_ge {L : List Ev} : ∀ {N : List Int}, (∀ n ∈ N, ∃ e ∈ L, asked e ∧ e.node = n) → N.length ≤ sumT L N
  | [], _ => Nat.zero_le _
  | n :: N, h => by
    have h1 := sumT_ge fun x hx => h x (List.mem_cons_of_mem _ hx)
    obtain ⟨e, he, ha, hn⟩ := h n List.mem_cons_self
    rw [List.length_cons, sumT]
    rcases ha with ha | ha
    · have := tm_pos he ha hn
      omega
    · have := tm_pos he ha hn
      omega
theorem IsN.len {N : List Int} {L : List Ev} (h : IsN N L) : N.length ≤ L.length := by
  have h1 := sumT_ge fun n hn => (h.mem n).1 hn
  rw [h.sum] at h1
  exact Nat.le_trans h1 (askN_le L)
theorem sumT_take {L : List Ev} {N : List Int} {i : Nat} (h : i < N.length) : sumT L (N.take (i + 1)) = sumT L (N.take i) + (tm 1 N[i] L + tm 2 N[i] L) := by
  have hs : ∀ (M : List Int) (x : Int), sumT L (M ++ [x]) = sumT L M + (tm 1 x L + tm 2 x L) := by
    intro M x
    induction M with
    | nil => simp [sumT]
    | cons a M ih => rw [List.cons_append, sumT, ih, sumT]; omega
  rw [List.take_succ_eq_append_getElem h, hs]
end Go.Proofs.YtgfljpchdiapeaaDoor
namespace Go.Proofs.YtgfljpchdiapeaaDoor
set_option linter.unusedVariables false
set_option linter.unusedSimpArgs false
open Go.RowKit Go.Proofs.YtgfljpchdiapeaaDoorW.PrintWords
attribute [local go_sem ↓] Go.wp_at_zero Go.wp_at_succ
theorem flat_set1 (v : Int) : ∀ (L : List Tl) (i : Nat) (h : i < L.length), (L.set i ⟨L[i].node, v, L[i].miss⟩).flatMap encT = (L.flatMap encT).set (i * 3 + 1) (.int .i64 v)
  | [], _, h => by simp at h
  | y :: r, 0, _ => by simp [encT]
  | y :: r, i + 1, h => by
    have ih := flat_set1 v r i (by simpa using h)
    rw [List.set_cons_succ, List.flatMap_cons, List.flatMap_cons, show (i + 1) * 3 + 1 = i * 3 + 1 + 1 + 1 + 1 by omega]
    simp only [List.getElem_cons_succ, ih]
    simp [encT]
theorem flat_set2 (v : Int) : ∀ (L : List Tl) (i : Nat) (h : i < L.length), (L.set i ⟨L[i].node, L[i].hits, v⟩).flatMap encT = (L.flatMap encT).set (i * 3 + 2) (.int .i64 v)
  | [], _, h => by simp at h
  | y :: r, 0, _ => by simp [encT]
  | y :: r, i + 1, h => by
    have ih := flat_set2 v r i (by simpa using h)
    rw [List.set_cons_succ, List.flatMap_cons, List.flatMap_cons, show (i + 1) * 3 + 2 = i * 3 + 2 + 1 + 1 + 1 by omega]
    simp only [List.getElem_cons_succ, ih]
    simp [encT]
theorem flatT_get (L : List Tl) (i : Nat) (h : i < L.length) : (L.flatMap encT)[i * 3]? = some (.int .i64 L[i].node) ∧ (L.flatMap encT)[i * 3 + 1]? = some (.int .i64 L[i].hits) ∧ (L.flatMap encT)[i * 3 + 2]? = some (.int .i64 L[i].miss) := by
  have h1 := flat_drop enc_len L i
  rw [List.drop_eq_getElem_cons h, List.flatMap_cons] at h1
  refine ⟨?_, ?_, ?_⟩
  · rw [show i * 3 = i * 3 + 0 by omega, ← List.getElem?_drop, h1]; rfl
  · rw [← List.getElem?_drop, h1]; rfl
  · rw [← List.getElem?_drop, h1]; rfl
theorem OwnTl.block {w : World} {base g n cap : Nat} {L : List Tl} (h : OwnTl w base (.slice (some ⟨g, 0, none⟩) n cap) L) : n = L.length ∧ ∃ cur, base ≤ g ∧ w.heap[g]? = some (.cells cur 56 (0, 0)) ∧ n ≤ cap ∧ cap ≤ maxLen ∧ cur.size = cap * 3 ∧ cur.toList.take (n * 3) = L.flatMap encT := by
  rcases h.2 with ⟨he, _⟩ | ⟨g', cap', cur, he, h1, h2, h3, h4, h5, h6⟩
  · cases he
  · injection he with e1 e2 e3
    injection e1 with e1
    injection e1 with e1
    subst e1
    subst e3
    exact ⟨e2, cur, h1, h2, e2 ▸ h3, h4, h5, e2 ▸ h6⟩
theorem OwnTl.mk {w : World} {base g cap : Nat} {L : List Tl} {cur : Array Value} (h1 : base ≤ g) (h2 : w.heap[g]? = some (.cells cur 56 (0, 0))) (h3 : L.length ≤ cap) (h4 : cap ≤ maxLen) (h5 : cur.size = cap * 3) (h6 : cur.toList.take (L.length * 3) = L.flatMap encT) : OwnTl w base (.slice (some ⟨g, 0, none⟩) L.length cap) L :=
  ⟨flat_len enc_len _, .inr ⟨g, cap, cur, rfl, h1, h2, h3, h4, h5, h6⟩⟩
theorem OwnTl.cells {w : World} {base g n cap : Nat} {L : List Tl} (h : OwnTl w base (.slice (some ⟨g, 0, none⟩) n cap) L) {i : Nat} (hi : i < L.length) :
    w.cell? ⟨g, i * 3, none⟩ = some (.int .i64 L[i].node) ∧ w.cell? ⟨g, i * 3 + 1, none⟩ = some (.int .i64 L[i].hits) ∧ w.cell? ⟨g, i * 3 + 2, none⟩ = some (.int .i64 L[i].miss) ∧ (∀ j, w.frozen? ⟨g, j, none⟩ = false) := by
  obtain ⟨hn, cur, h1, h2, h3, h4, h5, h6⟩ := h.block
  obtain ⟨g1, g2, g3⟩ := flatT_get L i hi
  rw [← h6, List.getElem?_take] at g1 g2 g3
  rw [if_pos (by omega)] at g1 g2 g3
  refine ⟨?_, ?_, ?_, fun j => by simp [World.frozen?, h2]⟩
  · rw [cell_row h2]; simpa using g1
  · rw [cell_row h2]; simpa using g2
  · rw [cell_row h2]; simpa using g3
theorem OwnTl.set1 {w : World} {base g n cap : Nat} {L : List Tl} (h : OwnTl w base (.slice (some ⟨g, 0, none⟩) n cap) L) {i : Nat} (hi : i < L.length) (v : Int) :
    OwnTl (w.setCell ⟨g, i * 3 + 1, none⟩ (.int .i64 v)) base (.slice (some ⟨g, 0, none⟩) n cap) (L.set i ⟨L[i].node, v, L[i].miss⟩) := by
  obtain ⟨hn, cur, h1, h2, h3, h4, h5, h6⟩ := h.block
  rw [setCell_eq_setRow w g (i * 3 + 1) cur _ _ _ h2]
  subst hn
  rw [show L.length = (L.set i ⟨L[i].node, v, L[i].miss⟩).length by simp]
  refine OwnTl.mk h1 (setRow_heap w g cur _ _ _ h2) (by simpa using h3) h4 (by simp [h5]) ?_
  rw [flat_set1 v L i hi, ← h6]
  simp [List.take_set]
theorem OwnTl.set2 {w : World} {base g n cap : Nat} {L : List Tl} (h : OwnTl w base (.slice (some ⟨g, 0, none⟩) n cap) L) {i : Nat} (hi : i < L.length) (v : Int) :
    OwnTl (w.setCell ⟨g, i * 3 + 2, none⟩ (.int .i64 v)) base (.slice (some ⟨g, 0, none⟩) n cap) (L.set i ⟨L[i].node, L[i].hits, v⟩) := by
  obtain ⟨hn, cur, h1, h2, h3, h4, h5, h6⟩ := h.block
  rw [setCell_eq_setRow w g (i * 3 + 2) cur _ _ _ h2]
  subst hn
  rw [show L.length = (L.set i ⟨L[i].node, L[i].hits, v⟩).length by simp]
  refine OwnTl.mk h1 (setRow_heap w g cur _ _ _ h2) (by simpa using h3) h4 (by simp [h5]) ?_
  rw [flat_set2 v L i hi, ← h6]
  simp [List.take_set]
theorem tl_at {w : World} {A : Option Addr} {n : Nat} {X : List Tl} (h : kT.C w A n X) {k : Nat} (hk : k < X.length) : ∃ ad, A = some ad ∧ ∀ W : World, Below w.heap.size w W → W.cell? (ad.add (k * 3)) = some (.int .i64 X[k].node) ∧ W.cell? ⟨(ad.add (k * 3)).block, (ad.add (k * 3)).off + 1, none⟩ = some (.int .i64 X[k].hits) ∧ W.cell? ⟨(ad.add (k * 3)).block, (ad.add (k * 3)).off + 2, none⟩ = some (.int .i64 X[k].miss) := by
  have hl : X.length = n := h.1
  obtain ⟨ad, c, e, _, hK, hc0⟩ := Kd.C_get h ⟨0, 0, 0⟩ (k : Int) (by omega) (by omega)
  rw [Int.toNat_natCast] at hK hc0
  have hx : X.getD k ⟨0, 0, 0⟩ = X[k] := by rw [List.getD_eq_getElem?_getD, List.getElem?_eq_getElem hk]; rfl
  rw [hx] at hK
  have hE := kT_K _ _ _ hK
  subst hE
  have hc : ∀ j u, (encT X[k])[j]? = some u → w.cell? (ad.add (k * 3 + j)) = some u := hc0
  have c0 : w.cell? (ad.add (k * 3)) = some (.int .i64 X[k].node) := hc 0 _ rfl
  have c1 : w.cell? ⟨(ad.add (k * 3)).block, (ad.add (k * 3)).off + 1, none⟩ = some (.int .i64 X[k].hits) := by rw [← add_field _ _ 1 (by omega)]; exact hc 1 _ rfl
  have c2 : w.cell? ⟨(ad.add (k * 3)).block, (ad.add (k * 3)).off + 2, none⟩ = some (.int .i64 X[k].miss) := by rw [← add_field _ _ 2 (by omega)]; exact hc 2 _ rfl
  exact ⟨ad, e, fun W hW => ⟨(hW.cell (World.block_lt_of_cell? w _ c0)).trans c0, (hW.cell (World.block_lt_of_cell? w _ c1)).trans c1, (hW.cell (World.block_lt_of_cell? w _ c2)).trans c2⟩⟩
theorem nan_any (x : Int) (w : World) : Calls Tryd.prog 71 #[.int .i64 x] w fun e w' => e = .returned (.bool false) ∧ Below w.heap.size w w' := by
  go_enter Tryd.func71, Tryd.ntmps71
  go_wp2
  go_ret
  exact ⟨by first | rfl | (simp; done), Below.refl _ _⟩
def cmpS (a b : Int) : Int := if a < b then -1 else if b < a then 1 else 0
theorem cmp_any (a b : Int) (w : World) : Calls Tryd.prog 51 #[.int .i64 a, .int .i64 b] w fun e w' => e = .returned (.int .i64 (cmpS a b)) ∧ Below w.heap.size w w' := by
  have HA := Lib.hid (fun W => nan_any a W)
  have HB := Lib.hid (fun W => nan_any b W)
  have hc : (a < b ∧ cmpS a b = -1) ∨ (¬ a < b ∧ b < a ∧ cmpS a b = 1) ∨ (¬ a < b ∧ ¬ b < a ∧ cmpS a b = 0) := by
    unfold cmpS
    by_cases h1 : a < b
    · exact .inl ⟨h1, by rw [if_pos h1]⟩
    · by_cases h2 : b < a
      · exact .inr (.inl ⟨h1, h2, by rw [if_neg h1, if_pos h2]⟩)
      · exact .inr (.inr ⟨h1, h2, by rw [if_neg h1, if_neg h2]⟩)
  generalize cmpS a b = cc at hc
  go_enter Tryd.func51, Tryd.ntmps51
  go_wp2_with fail
  refine (HA.out w).mono ?_
  rintro e w1 ⟨rfl, hb⟩
  have HB1 := Lib.hid hb
  clear hb
  go_wp2_with fail
  refine (HB.out w1).mono ?_
  rintro e w2 ⟨rfl, hb⟩
  have HB2 := Lib.hid (HB1.out.trans (hb.mono HB1.out.size))
  clear hb
  rcases hc with ⟨h1, rfl⟩ | ⟨h1, h2, rfl⟩ | ⟨h1, h2, rfl⟩
  all_goals
    go_wp2_with fail
    go_ret
    exact ⟨rfl, HB2.out⟩
theorem tal1_any (x : Tl) (n : Int) (w : World) : Calls Tryd.prog 50 #[.agg #[.int .i64 x.node, .int .i64 x.hits, .int .i64 x.miss], .int .i64 n] w fun e w' => e = .returned (.int .i64 (cmpS x.node n)) ∧ Below w.heap.size w w' := by
  have HB0 := Lib.hid (show Below w.heap.size w (w.alloc (.cells #[.int .i64 x.node, .int .i64 x.hits, .int .i64 x.miss] 56)) from (Below.refl _ _).alloc (Nat.le_refl _) _)
  have HC := Lib.hid (fun W => cmp_any x.node n W)
  go_enter Tryd.func50, Tryd.ntmps50
  go_wp2_with fail
  refine (HC.out _).mono ?_
  rintro e w1 ⟨rfl, hb⟩
  have HB1 := Lib.hid (HB0.out.trans (hb.mono HB0.out.size))
  clear hb
  go_wp2_with fail
  go_ret
  exact ⟨rfl, HB1.out⟩
def Finds (X : List Tl) (n : Int) (p : Nat) (q : Bool) : Prop := p ≤ X.length ∧ (∀ j (h : j < X.length), j < p → X[j].node < n) ∧ (∀ j (h : j < X.length), p ≤ j → n ≤ X[j].node) ∧ (q = true → ∃ h : p < X.length, X[p].node = n) ∧ (q = false → ∀ h : p < X.length, n < X[p].node)
set_option maxHeartbeats 4000000 in
theorem bsf_any (n : Int) (X : List Tl) (A : Option Addr) (c : Nat) (w : World) (hC : kT.C w A X.length X) (hs : ∀ i j (h : j < X.length) (hij : i < j), X[i].node < X[j].node) (hl : X.length ≤ 1000) :
    Calls Tryd.prog 49 #[.slice A X.length c, .int .i64 n, .func (.func 50) #[] #[]] w fun e w' => ∃ p q, Finds X n p q ∧ e = .returned (.tuple #[.int .i64 p, .bool q]) ∧ Below w.heap.size w w' := by
  have eg : ∀ args w, (callFunc 50 args).run Tryd.prog w = .ok (.enter 50 args) w := enters_of Tryd.func50 (by kernel_rfl) rfl
  have HC := Lib.hid hC
  have HS := Lib.hid hs
  have HT := Lib.hid (show ∀ (x : Tl) (W : World), Below w.heap.size w W → Calls Tryd.prog 50 #[.agg #[.int .i64 x.node, .int .i64 x.hits, .int .i64 x.miss], .int .i64 n] W fun e w' => e = .returned (.int .i64 (cmpS x.node n)) ∧ Below w.heap.size w w' from fun x W hW => (tal1_any x n W).mono fun e w' ⟨he, hb⟩ => ⟨he, hW.trans (hb.mono hW.size)⟩)
  clear hC hs
  go_enter Tryd.func49, Tryd.ntmps49
  go_wp2
  go_loopw [9, 10] (fun iv jv wr => ∃ lo hi : Nat, lo ≤ hi ∧ hi ≤ X.length ∧ iv = .int .i64 lo ∧ jv = .int .i64 hi ∧ Hid ((∀ j (h : j < X.length), j < lo → X[j].node < n) ∧ (∀ j (h : j < X.length), hi ≤ j → n ≤ X[j].node) ∧ Below w.heap.size w wr)) (fun iv jv _ => (intOf jv).toNat - (intOf iv).toNat)
  case atStart => exact ⟨0, X.length, Nat.zero_le _, Nat.le_refl _, rfl, rfl, fun j h hj => absurd hj (Nat.not_lt_zero _), fun j h hj => by omega, Below.refl _ _⟩
  case round =>
    obtain ⟨lo, hi, hlh, hin, rfl, rfl, HI⟩ := hrel
    by_cases hlt : lo < hi
    · obtain ⟨m, hm⟩ : ∃ m, m = (lo + hi) / 2 := ⟨_, rfl⟩
      have hmi : m < X.length := by omega
      have hml : lo ≤ m := by omega
      have hmh : m < hi := by omega
      have hmid : ((lo : Int) + (hi : Int)) / 2 = (m : Int) := by omega
      obtain ⟨x, hx⟩ : ∃ x, x = X[m] := ⟨_, rfl⟩
      have HX := Lib.hid hx
      obtain ⟨ad, hA, hat⟩ := tl_at HC.out hmi
      subst hA
      obtain ⟨k0, k1, k2⟩ := hat wr HI.out.2.2
      rw [← hx] at k0 k1 k2
      have hcall := HT.out x wr HI.out.2.2
      have m1 : (0 : Int) ≤ (m : Int) := by omega
      have m2 : (m : Int) < (X.length : Int) := by omega
      have HLO := Lib.hid HI.out.1
      have HHI := Lib.hid HI.out.2.1
      have hw1 : IntKind.i64.wrap ((m : Int) + 1) = (m : Int) + 1 := by rw [IntKind.wrap_i64]; omega
      have hcc : (cmpS x.node n < 0 ∧ x.node < n) ∨ (¬ cmpS x.node n < 0 ∧ n ≤ x.node) := by
        unfold cmpS
        by_cases h1 : x.node < n
        · exact .inl ⟨by rw [if_pos h1]; decide, h1⟩
        · refine .inr ⟨?_, by omega⟩
          rw [if_neg h1]
          split <;> decide
      clear hx hat hm
      generalize cmpS x.node n = cc at hcall hcc
      rcases hcc with ⟨h1, h2⟩ | ⟨h1, h2⟩
      · have H2 := Lib.hid h2
        clear h2
        go_wp2_with (go_at_fn 50; refine hcall.mono ?_; rintro e w' ⟨rfl, hb'⟩; have HB := Lib.hid hb'; clear hb')
        go_roundw
        case rel =>
          refine ⟨m + 1, hi, by omega, hin, by go_num, rfl, fun j h hj => ?_, HHI.out, HB.out⟩
          have h3 := H2.out
          rw [HX.out] at h3
          rcases Nat.eq_or_lt_of_le (Nat.le_of_lt_succ hj) with e | e
          · subst e; exact h3
          · have := HS.out j m hmi e
            omega
        case measure => simp [intOf]; omega
      · have H2 := Lib.hid h2
        clear h2
        go_wp2_with (go_at_fn 50; refine hcall.mono ?_; rintro e w' ⟨rfl, hb'⟩; have HB := Lib.hid hb'; clear hb')
        go_roundw
        case rel =>
          refine ⟨lo, m, by omega, by omega, rfl, by go_num, HLO.out, fun j h hj => ?_, HB.out⟩
          have h3 := H2.out
          rw [HX.out] at h3
          rcases Nat.eq_or_lt_of_le hj with e | e
          · subst e; exact h3
          · have := HS.out m j h e
            omega
        case measure => simp [intOf]; omega
    · have : hi = lo := by omega
      subst this
      have hlt' : ¬ (hi : Int) < (hi : Int) := by omega
      by_cases hn : hi < X.length
      · obtain ⟨x, hx⟩ : ∃ x, x = X[hi] := ⟨_, rfl⟩
        have HX := Lib.hid hx
        obtain ⟨ad, hA, hat⟩ := tl_at HC.out hn
        subst hA
        obtain ⟨k0, k1, k2⟩ := hat wr HI.out.2.2
        rw [← hx] at k0 k1 k2
        have hcall := HT.out x wr HI.out.2.2
        have m1 : (0 : Int) ≤ (hi : Int) := by omega
        have m2 : (hi : Int) < (X.length : Int) := by omega
        have HLO := Lib.hid HI.out.1
        have HHI := Lib.hid HI.out.2.1
        have hge := HI.out.2.1 hi hn (Nat.le_refl _)
        rw [← hx] at hge
        have hcc : (cmpS x.node n = 0 ∧ x.node = n) ∨ (cmpS x.node n = 1 ∧ n < x.node) := by
          unfold cmpS
          rw [if_neg (by omega)]
          by_cases h1 : n < x.node
          · exact .inr ⟨by rw [if_pos h1], h1⟩
          · exact .inl ⟨by rw [if_neg h1], by omega⟩
        clear hx hat hge
        generalize cmpS x.node n = cc at hcall hcc
        rcases hcc with ⟨rfl, h2⟩ | ⟨rfl, h2⟩
        · have H2 := Lib.hid h2
          clear h2
          go_wp2_with (go_at_fn 50; refine hcall.mono ?_; rintro e w' ⟨rfl, hb'⟩; have HB := Lib.hid hb'; clear hb')
          go_ret2
          exact ⟨hi, true, ⟨by omega, HLO.out, HHI.out, fun _ => ⟨hn, by rw [← HX.out]; exact H2.out⟩, fun h => by cases h⟩, by first | rfl | simp, HB.out⟩
        · have H2 := Lib.hid h2
          clear h2
          go_wp2_with (go_at_fn 50; refine hcall.mono ?_; rintro e w' ⟨rfl, hb'⟩; have HB := Lib.hid hb'; clear hb')
          go_ret2
          exact ⟨hi, false, ⟨by omega, HLO.out, HHI.out, fun h => (by cases h), fun _ h => by rw [← HX.out]; exact H2.out⟩, by first | rfl | simp, HB.out⟩
      · have m2 : ¬ (hi : Int) < (X.length : Int) := by omega
        go_wp2
        go_ret2
        have hF : Finds X n hi false := ⟨by omega, HI.out.1, HI.out.2.1, fun h => (by cases h), fun _ h => absurd h hn⟩
        first
        | exact ⟨hi, .inl ⟨hF, by first | rfl | simp, HI.out.2.2⟩⟩
        | exact ⟨hi, false, hF, by first | rfl | simp, HI.out.2.2⟩
end Go.Proofs.YtgfljpchdiapeaaDoor
