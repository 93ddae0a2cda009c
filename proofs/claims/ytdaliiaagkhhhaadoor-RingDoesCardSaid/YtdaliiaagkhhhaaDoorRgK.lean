/- The ring's nodes and the document's are the same, whatever comes and goes. Plain facts; what a law keeps of both. -/
import Derived.Test.YtdaliiaagkhhhaaDoorRgH
import Derived.Test.YtdaliiaagkhhhaaDoorRgMov
namespace Go.Proofs.YtdaliiaagkhhhaaDoor
set_option linter.unusedVariables false
open Go.RowKit Go.Proofs.YtdaliiaagkhhhaaDoorW.PrintWords

theorem has_zero {L : List Pt} (h : NodesOk L) : hasN L 0 = false := by
  cases hq : hasN L 0 with
  | false => rfl
  | true =>
    obtain ⟨y, hy, e⟩ := has_iff.1 hq
    have := h y hy
    omega
theorem link_code {P : List Pt} (h : NodesOk P) (nd : Int) : addLC (nodesN P 17) nd = addC P nd ∧ remLC (nodesN P 17) nd = remC P nd := by
  have hm := mem_nodes h nd
  constructor
  · unfold addLC addC
    by_cases h1 : nd < 1 ∨ 16 < nd
    · rw [if_pos h1, if_pos h1]
    · rw [if_neg h1, if_neg h1]
      by_cases h2 : hasN P nd = true
      · rw [if_pos h2, if_pos (hm.2 h2)]
      · rw [if_neg h2, if_neg (fun e => h2 (hm.1 e))]
  · unfold remLC remC
    by_cases h2 : hasN P nd = true
    · rw [if_pos h2, if_pos (hm.2 h2)]
    · rw [if_neg h2, if_neg (fun e => h2 (hm.1 e))]
theorem has_addTo (P : List Pt) (nd x : Int) {i : Nat} (h : 0 < i) : hasN (addTo P nd i) x = true ↔ x = nd ∨ hasN P x = true := by
  rw [has_iff, has_iff]
  constructor
  · rintro ⟨y, hy, e⟩
    rcases mem_addTo.1 hy with hy | ⟨j, _, rfl⟩
    · exact .inr ⟨y, hy, e⟩
    · exact .inl e.symm
  · rintro (rfl | ⟨y, hy, e⟩)
    · exact ⟨_, mem_addTo.2 (.inr ⟨0, h, rfl⟩), rfl⟩
    · exact ⟨y, mem_addTo.2 (.inl hy), e⟩
theorem link_add {P : List Pt} (h : NodesOk P) {each : Nat} (h0 : 0 < each) (nd : Int) : nodesN (addR each P nd) 17 = addL (nodesN P 17) nd := by
  have hm := mem_nodes h
  unfold addR addL
  by_cases h1 : nd < 1 ∨ 16 < nd
  · rw [if_pos h1, if_neg (by omega)]
  · rw [if_neg h1]
    by_cases h2 : hasN P nd = true
    · rw [if_pos ((hm nd).2 h2), if_neg (by rw [h2]; simp)]
    · have h2' : hasN P nd = false := by simpa using h2
      rw [if_neg (fun e => h2 ((hm nd).1 e)), if_pos ⟨by omega, by omega, h2'⟩]
      have hz : hasN (addTo P nd each) 0 = false := has_zero (addTo_ok h (by omega) (by omega) each)
      have hrec : ∀ k, nodesN (addTo P nd each) (k + 1) = refAdd (nodesN P 17) nd k := by
        intro k
        induction k with
        | zero =>
          rw [nodes_succ, if_neg (by rw [show ((0 : Nat) : Int) = 0 from rfl, hz]; decide)]
          rfl
        | succ k ih =>
          rw [nodes_succ, ih, refAdd]
          have he : (hasN (addTo P nd each) ((k + 1 : Nat) : Int) = true) ↔ ((k : Int) + 1 = nd ∨ (k : Int) + 1 ∈ nodesN P 17) := by
            rw [has_addTo P nd _ h0, hm]
            rfl
          by_cases hc : (k : Int) + 1 = nd ∨ (k : Int) + 1 ∈ nodesN P 17
          · rw [if_pos hc, if_pos (he.2 hc)]; rfl
          · rw [if_neg hc, if_neg (fun e => hc (he.1 e))]
      exact hrec 16
theorem link_rem (P : List Pt) (nd : Int) : nodesN (dropN P nd) 17 = remL (nodesN P 17) nd := by
  unfold nodesN remL
  rw [List.filter_filter]
  refine List.filter_congr fun x _ => ?_
  have : (hasN (dropN P nd) x = true) ↔ ((!(x == nd) && hasN P x) = true) := by
    rw [has_iff, Bool.and_eq_true, has_iff]
    constructor
    · rintro ⟨y, hy, rfl⟩
      obtain ⟨h1, h2⟩ := List.mem_filter.1 hy
      exact ⟨h2, y, h1, rfl⟩
    · rintro ⟨h1, y, hy, rfl⟩
      exact ⟨y, List.mem_filter.2 ⟨hy, h1⟩, rfl⟩
  cases h1 : hasN (dropN P nd) x <;> cases h2 : (!(x == nd) && hasN P x) <;> simp_all

/-- What a law keeps: the ring, and the document's one in a box. -/
structure Both (w0 w : World) (B p each : Nat) (v : Value) (P : List Pt) (q : Nat) (xv : Value) (L : List Int) : Prop where
  st : RSt w0 w B p each v P
  good : Good each P
  box : w.heap[q]? = some (.cells #[.int .i64 each, xv] 33 (0, 0))
  row : (Kd.int .i64).R 3 w B (fun _ => True) xv L
  hq : B ≤ q
namespace Both
variable {w0 w w' w1 : World} {B p each q : Nat} {v v' xv xv' : Value} {P P' : List Pt} {L L' : List Int}
theorem later (h : Both w0 w B p each v P q xv L) (hb : Below w.heap.size w w') : Both w0 w' B p each v P q xv L :=
  ⟨h.st.later hb, h.good, (hb.block q (Array.getElem?_eq_some_iff.1 h.box).1).trans h.box, Kd.R_below h.row hb, h.hq⟩
theorem drewN (h : Both w0 w B p each v P q xv L) (n : Nat) : Both w0 (w.drewN n) B p each v P q xv L := h.later (Drawn0.below ⟨n, rfl⟩)
theorem cell0 (h : Both w0 w B p each v P q xv L) : w.cell? ⟨q, 0, none⟩ = some (.int .i64 each) := cell_row h.box 0
theorem cell1 (h : Both w0 w B p each v P q xv L) : w.cell? ⟨q, 1, none⟩ = some xv := cell_row h.box 1
theorem fro (h : Both w0 w B p each v P q xv L) (j : Nat) : w.frozen? ⟨q, j, none⟩ = false := by simp [World.frozen?, h.box]
theorem ne_ring (h : Both w0 w B p each v P q xv L) : ¬ rgM p v q := by
  rintro (rfl | hv)
  · have h1 := h.st.rg.head
    rw [h.box] at h1
    simp at h1
  · obtain ⟨inner, ho⟩ := Kd.R_own h.st.rg.row
    obtain ⟨cells, hcl⟩ := own_typed ho q hv
    rw [h.box] at hcl
    simp at hcl
/-- The ring has been changed. -/
theorem ring (h : Both w0 w B p each v P q xv L) (hc : Chg (rgM p v) w w') (hs : RSt w0 w' B p each v' P') (hg : Good each P') : Both w0 w' B p each v' P' q xv L :=
  ⟨hs, hg, (hc.block q (Array.getElem?_eq_some_iff.1 h.box).1 h.ne_ring).trans h.box, R_ring h.row h.st.rg hc, h.hq⟩
/-- The document's ring has been changed. -/
theorem setx (h : Both w0 w B p each v P q xv L) (hr : (Kd.int .i64).R 3 w1 B (fun _ => True) xv' L') (hb : Below w.heap.size w w1) : Both w0 ((w1.setCell ⟨q, 0, none⟩ (.int .i64 each)).setCell ⟨q, 1, none⟩ xv') B p each v P q xv' L' := by
  have h1 := h.later hb
  have hpq : p ≠ q := fun e => h1.ne_ring (.inl e.symm)
  have e : (w1.setCell ⟨q, 0, none⟩ (.int .i64 each)).heap[q]? = some (.cells #[.int .i64 each, xv] 33 (0, 0)) := by
    rw [setCell_eq_setRow w1 _ 0 _ _ _ _ h1.box]
    exact setRow_heap w1 _ _ _ _ _ h1.box
  have hoff : ∀ k, k ≠ q → ((w1.setCell ⟨q, 0, none⟩ (.int .i64 each)).setCell ⟨q, 1, none⟩ xv').heap[k]? = w1.heap[k]? := fun k hk => by
    rw [Below.heap_setCell _ _ _ _ hk, Below.heap_setCell _ _ _ _ hk]
  refine ⟨⟨⟨(hoff p hpq).trans h1.st.rg.head, ?_⟩, h1.st.ris, ?_, by simp [World.setCell]; exact h1.st.hb, h1.st.hp, h1.st.he⟩, h1.good, block_set2 h1.box _ _, Kd.R_set (Kd.R_set hr h1.box (fun q hq => ring_ne hq) 0 _) e (fun q hq => ring_ne hq) 1 _, h1.hq⟩
  · refine OwnP.to_R (own_move (OwnP.of_R h1.st.rg.row) fun k hk => hoff k fun e => h1.ne_ring (.inr (e ▸ hk)))
  · exact (h1.st.bel.setCell h1.hq _).setCell h1.hq _
end Both
end Go.Proofs.YtdaliiaagkhhhaaDoor
