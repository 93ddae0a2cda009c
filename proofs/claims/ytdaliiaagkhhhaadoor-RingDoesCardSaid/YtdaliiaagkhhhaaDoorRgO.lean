/- Which nodes are asked: plain facts on points. No program here. -/
import Derived.Test.YtdaliiaagkhhhaaDoorRgL
namespace Go.Proofs.YtdaliiaagkhhhaaDoor
set_option linter.unusedVariables false
open Go.RowKit Go.Proofs.YtdaliiaagkhhhaaDoorW.PrintWords

/-- The nodes that are met from point N on, each once. -/
def ded (L : List Pt) (N : Nat) : Nat → List Int
  | 0 => []
  | i + 1 => if (pget L ((N + i) % L.length)).node ∈ ded L N i then ded L N i else ded L N i ++ [(pget L ((N + i) % L.length)).node]
theorem ownTo_ded (L : List Pt) (N : Nat) (most : Int) : ∀ i, ownTo L N most i = (ded L N i).take most.toNat
  | 0 => by simp [ownTo, ded]
  | i + 1 => by
    have ih := ownTo_ded L N most i
    have hl : (ownTo L N most i).length = min most.toNat (ded L N i).length := by rw [ih, List.length_take]
    rw [ownTo, ded]
    by_cases h : most ≤ (ownTo L N most i).length
    · rw [if_pos h, ih]
      have h2 : most.toNat ≤ (ded L N i).length := by omega
      split
      · rfl
      · rw [List.take_append_of_le_length h2]
    · rw [if_neg h]
      have h2 : ownTo L N most i = ded L N i := by rw [ih]; exact List.take_of_length_le (by omega)
      rw [h2]
      split
      · rw [List.take_of_length_le (by omega)]
      · rw [List.take_of_length_le (by simp; omega)]
theorem ded_nodup (L : List Pt) (N : Nat) : ∀ i, (ded L N i).Nodup
  | 0 => List.nodup_nil
  | i + 1 => by
    rw [ded]
    split
    · exact ded_nodup L N i
    · rename_i h
      rw [List.nodup_append]
      refine ⟨ded_nodup L N i, by simp, fun a ha b hb => ?_⟩
      rw [List.mem_singleton.1 hb]
      exact fun e => h (e ▸ ha)
theorem mem_ded (L : List Pt) (N : Nat) (x : Int) : ∀ i, x ∈ ded L N i ↔ ∃ j, j < i ∧ (pget L ((N + j) % L.length)).node = x
  | 0 => by simp [ded]
  | i + 1 => by
    have ih := mem_ded L N x i
    have hs : x ∈ ded L N (i + 1) ↔ x ∈ ded L N i ∨ (pget L ((N + i) % L.length)).node = x := by
      rw [ded]
      split
      · rename_i h
        exact ⟨.inl, fun e => e.elim id (fun e => e ▸ h)⟩
      · rw [List.mem_append, List.mem_singleton]
        exact or_congr Iff.rfl ⟨Eq.symm, Eq.symm⟩
    rw [hs, ih]
    constructor
    · rintro (⟨j, hj, e⟩ | e)
      · exact ⟨j, by omega, e⟩
      · exact ⟨i, by omega, e⟩
    · rintro ⟨j, hj, e⟩
      by_cases h : j = i
      · subst h; exact .inr e
      · exact .inl ⟨j, by omega, e⟩
theorem has_iff {L : List Pt} {x : Int} : hasN L x = true ↔ ∃ y ∈ L, y.node = x := by
  unfold hasN
  rw [List.any_eq_true]
  exact ⟨fun ⟨y, h, e⟩ => ⟨y, h, by simpa using e⟩, fun ⟨y, h, e⟩ => ⟨y, h, by simpa using e⟩⟩
theorem mem_ded_all (L : List Pt) (N : Nat) (x : Int) : x ∈ ded L N L.length ↔ hasN L x = true := by
  rw [mem_ded, has_iff]
  constructor
  · rintro ⟨j, hj, e⟩
    have hm : (N + j) % L.length < L.length := Nat.mod_lt _ (by omega)
    exact ⟨L[(N + j) % L.length], List.getElem_mem hm, by rw [← e, pget_eq hm]⟩
  · rintro ⟨y, hy, e⟩
    obtain ⟨m, hm, rfl⟩ := List.getElem_of_mem hy
    have hr : N % L.length < L.length := Nat.mod_lt _ (by omega)
    refine ⟨(m + L.length - N % L.length) % L.length, Nat.mod_lt _ (by omega), ?_⟩
    have hmm : (N + (m + L.length - N % L.length) % L.length) % L.length = m := by
      rw [Nat.add_mod, Nat.mod_mod, ← Nat.add_mod, show N + (m + L.length - N % L.length) = m + L.length * (N / L.length + 1) by
        have := Nat.div_add_mod N L.length
        rw [Nat.mul_add]
        omega, Nat.add_mul_mod_self_left, Nat.mod_eq_of_lt hm]
    rw [hmm, pget_eq hm, e]
/-- All points are of nodes that may be. -/
def NodesOk (L : List Pt) : Prop := ∀ y ∈ L, 1 ≤ y.node ∧ y.node ≤ 16
theorem mem_nodes {L : List Pt} (h : NodesOk L) (x : Int) : x ∈ nodesN L 17 ↔ hasN L x = true := by
  unfold nodesN
  rw [List.mem_filter, List.mem_map]
  refine ⟨fun e => e.2, fun e => ⟨?_, e⟩⟩
  obtain ⟨y, hy, rfl⟩ := has_iff.1 e
  have := h y hy
  exact ⟨y.node.toNat, by rw [List.mem_range]; omega, by omega⟩
theorem nodes_nodup (L : List Pt) (n : Nat) : (nodesN L n).Nodup := by
  induction n with
  | zero => exact List.nodup_nil
  | succ n ih =>
    rw [nodes_succ]
    split
    · rw [List.nodup_append]
      refine ⟨ih, by simp, fun a ha b hb => ?_⟩
      rw [List.mem_singleton.1 hb]
      unfold nodesN at ha
      obtain ⟨k, hk, rfl⟩ := List.mem_map.1 (List.mem_filter.1 ha).1
      rw [List.mem_range] at hk
      omega
    · exact ih
theorem ded_len {L : List Pt} (h : NodesOk L) (N : Nat) : (ded L N L.length).length = (nodesN L 17).length := by
  refine ((List.perm_ext_iff_of_nodup (ded_nodup L N _) (nodes_nodup L 17)).2 fun x => ?_).length_eq
  rw [mem_ded_all, mem_nodes h]
theorem owners_take (L : List Pt) (h most : Int) : ownersN L h most = (ded L (nextN L h) L.length).take most.toNat := ownTo_ded _ _ _ _
theorem owners_len {L : List Pt} (h : NodesOk L) (a most : Int) : (ownersN L a most).length = min most.toNat (nodesN L 17).length := by
  rw [owners_take, List.length_take, ded_len h]
theorem owners_prefix (L : List Pt) (a : Int) (n : Nat) : (ownersN L a ((n : Int) + 1)).take (ownersN L a n).length = ownersN L a n := by
  rw [owners_take, owners_take, List.take_take, List.length_take, show ((n : Int)).toNat = n by omega, show ((n : Int) + 1).toNat = n + 1 by omega, List.take_eq_take_iff]
  omega
theorem owners_nodup (L : List Pt) (a most : Int) : (ownersN L a most).Nodup := by
  rw [owners_take]
  exact (List.take_sublist _ _).nodup (ded_nodup _ _ _)
theorem owners_mem {L : List Pt} (h : NodesOk L) {a most x : Int} (hx : x ∈ ownersN L a most) : x ∈ nodesN L 17 := by
  rw [owners_take] at hx
  rw [mem_nodes h]
  exact (mem_ded_all _ _ _).1 (List.mem_of_mem_take hx)
theorem addTo_ok {L : List Pt} (h : NodesOk L) {nd : Int} (h1 : 1 ≤ nd) (h2 : nd ≤ 16) (i : Nat) : NodesOk (addTo L nd i) := by
  intro y hy
  rcases mem_addTo.1 hy with hy | ⟨j, _, rfl⟩
  · exact h y hy
  · exact ⟨h1, h2⟩
theorem addR_ok {L : List Pt} (h : NodesOk L) (each : Nat) (nd : Int) : NodesOk (addR each L nd) := by
  unfold addR
  split
  · rename_i hh
    exact addTo_ok h hh.1 hh.2.1 _
  · exact h
theorem dropN_ok {L : List Pt} (h : NodesOk L) (nd : Int) : NodesOk (dropN L nd) := fun y hy => h y ((List.mem_filter.1 hy).1)
end Go.Proofs.YtdaliiaagkhhhaaDoor
