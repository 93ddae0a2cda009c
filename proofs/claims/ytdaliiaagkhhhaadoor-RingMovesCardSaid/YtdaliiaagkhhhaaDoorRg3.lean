/- slices.DeleteFunc at the points, in place. -/
import Derived.Test.YtdaliiaagkhhhaaDoorRg2
namespace Go.Proofs.YtdaliiaagkhhhaaDoor
set_option linter.unusedVariables false
open Go.RowKit Go.Proofs.YtdaliiaagkhhhaaDoorW.PrintWords

theorem flat_set (x : Pt) : ∀ (L : List Pt) (i : Nat), i < L.length → (L.set i x).flatMap Pt.enc = ((L.flatMap Pt.enc).set (i * 2) (.int .u64 x.at_)).set (i * 2 + 1) (.int .i64 x.node)
  | [], _, h => by simp at h
  | y :: r, 0, _ => by simp [Pt.enc]
  | y :: r, i + 1, h => by
    have ih := flat_set x r i (by simpa using h)
    rw [List.set_cons_succ, List.flatMap_cons, ih, List.flatMap_cons, show (i + 1) * 2 = i * 2 + 1 + 1 by omega]
    simp [Pt.enc]
theorem flat_get (L : List Pt) (i : Nat) (h : i < L.length) : (L.flatMap Pt.enc)[i * 2]? = some (.int .u64 (pget L i).at_) ∧ (L.flatMap Pt.enc)[i * 2 + 1]? = some (.int .i64 (pget L i).node) := by
  have h1 := flat_drop enc_len L i
  rw [List.drop_eq_getElem_cons h, List.flatMap_cons] at h1
  rw [pget_eq h]
  constructor
  · rw [show i * 2 = i * 2 + 0 by omega, ← List.getElem?_drop, h1]; rfl
  · rw [← List.getElem?_drop, h1]; rfl
theorem OwnP.block {w : World} {base g n cap : Nat} {L : List Pt} (h : OwnP w base (.slice (some ⟨g, 0, none⟩) n cap) L) : n = L.length ∧ ∃ cur, base ≤ g ∧ w.heap[g]? = some (.cells cur 66 (0, 0)) ∧ n ≤ cap ∧ cap ≤ maxLen ∧ cur.size = cap * 2 ∧ cur.toList.take (n * 2) = L.flatMap Pt.enc := by
  rcases h.2 with ⟨he, _⟩ | ⟨g', cap', cur, he, h1, h2, h3, h4, h5, h6⟩
  · cases he
  · injection he with e1 e2 e3
    injection e1 with e1
    injection e1 with e1
    subst e1
    subst e3
    exact ⟨e2, cur, h1, h2, e2 ▸ h3, h4, h5, e2 ▸ h6⟩
theorem OwnP.mk {w : World} {base g cap : Nat} {L : List Pt} {cur : Array Value} (h1 : base ≤ g) (h2 : w.heap[g]? = some (.cells cur 66 (0, 0))) (h3 : L.length ≤ cap) (h4 : cap ≤ maxLen) (h5 : cur.size = cap * 2) (h6 : cur.toList.take (L.length * 2) = L.flatMap Pt.enc) : OwnP w base (.slice (some ⟨g, 0, none⟩) L.length cap) L :=
  ⟨flat_len enc_len _, .inr ⟨g, cap, cur, rfl, h1, h2, h3, h4, h5, h6⟩⟩
theorem OwnP.cells {w : World} {base g n cap : Nat} {L : List Pt} (h : OwnP w base (.slice (some ⟨g, 0, none⟩) n cap) L) {i : Nat} (hi : i < L.length) :
    w.cell? ⟨g, i * 2, none⟩ = some (.int .u64 (pget L i).at_) ∧ w.cell? ⟨g, i * 2 + 1, none⟩ = some (.int .i64 (pget L i).node) ∧ (∀ j, w.frozen? ⟨g, j, none⟩ = false) := by
  obtain ⟨hn, cur, h1, h2, h3, h4, h5, h6⟩ := h.block
  obtain ⟨g1, g2⟩ := flat_get L i hi
  rw [← h6, List.getElem?_take] at g1 g2
  rw [if_pos (by omega)] at g1 g2
  refine ⟨?_, ?_, fun j => by simp [World.frozen?, h2]⟩
  · rw [cell_row h2]; simpa using g1
  · rw [cell_row h2]; simpa using g2
theorem OwnP.set {w : World} {base g n cap : Nat} {L : List Pt} (h : OwnP w base (.slice (some ⟨g, 0, none⟩) n cap) L) {i : Nat} (hi : i < L.length) (x : Pt) :
    OwnP ((w.setCell ⟨g, i * 2, none⟩ (.int .u64 x.at_)).setCell ⟨g, i * 2 + 1, none⟩ (.int .i64 x.node)) base (.slice (some ⟨g, 0, none⟩) n cap) (L.set i x) := by
  obtain ⟨hn, cur, h1, h2, h3, h4, h5, h6⟩ := h.block
  rw [setCell_eq_setRow w g (i * 2) cur _ _ _ h2, setCell_eq_setRow _ g (i * 2 + 1) _ _ _ _ (setRow_heap w g cur _ _ _ h2), setRow_setRow]
  subst hn
  rw [show L.length = (L.set i x).length by simp]
  refine OwnP.mk h1 (setRow_heap w g cur _ _ _ h2) (by simpa using h3) h4 (by simp [h5]) ?_
  rw [flat_set x L i hi, ← h6]
  simp [List.take_set]
theorem zero_len : (Builtin.zeroCells (Value.agg #[.int .u64 0, .int .i64 0]).cells 1).size = 2 := by rw [size_zeroCells]; rfl
theorem zero_pt (w : World) : (zeroValue 66).run Tryd.prog w = .ok (.agg #[.int .u64 0, .int .i64 0]) w := by kernel_rfl
theorem zero_one (m : Nat) : ∀ v ∈ (Builtin.zeroCells (Value.agg #[.int .u64 0, .int .i64 0]).cells m).toList, v.oneCell' = true := by
  intro v hv
  simp only [Builtin.zeroCells, Value.cells, Array.toList_map, List.mem_map] at hv
  obtain ⟨j, _, rfl⟩ := hv
  have : j % 2 = 0 ∨ j % 2 = 1 := by omega
  show (#[Value.int .u64 0, .int .i64 0][j % 2]!).oneCell' = true
  rcases this with h | h <;> rw [h] <;> rfl
theorem OwnP.cut {w : World} {base g n cap : Nat} {L : List Pt} (h : OwnP w base (.slice (some ⟨g, 0, none⟩) n cap) L) {i : Nat} (hi : i < L.length) :
    ∃ row : Array Value, (∀ ty, (Builtin.clear_ #[56] ty #[.slice (some ⟨g, i * 2, none⟩) (n - i) (cap - i)]).run Tryd.prog w = .ok (.tuple #[]) (w.setRow g row)) ∧ OwnP (w.setRow g row) base (.slice (some ⟨g, 0, none⟩) i cap) (L.take i) := by
  obtain ⟨hn, cur, h1, h2, h3, h4, h5, h6⟩ := h.block
  obtain ⟨m, hm⟩ : ∃ m, n - i = m + 1 := ⟨n - i - 1, by omega⟩
  obtain ⟨Z, hZ⟩ : ∃ Z, Z = (Builtin.zeroCells (Value.agg #[.int .u64 0, .int .i64 0]).cells (m + 1)).toList := ⟨_, rfl⟩
  have hZl : Z.length = (m + 1) * 2 := by rw [hZ, Array.length_toList, size_zeroCells]; rfl
  have hst := run_storeCells_at Tryd.prog g (i * 2) _ Z 0 cur w h2 (by rw [hZl]; omega) (by rw [hZ]; exact zero_one _)
  simp only [Nat.add_zero] at hst
  refine ⟨(cur.toList.take (i * 2) ++ Z ++ cur.toList.drop (i * 2 + Z.length)).toArray, ?_, ?_⟩
  · intro ty
    rw [hm]
    simp [Builtin.clear_, run_underlying Tryd.underlying56, zero_pt, ← hZ, hst]
  · have hl : (L.take i).length = i := by rw [List.length_take]; omega
    have hcl : cur.toList.length = cap * 2 := by rw [Array.length_toList, h5]
    rw [show (Value.slice (some ⟨g, 0, none⟩) i cap) = .slice (some ⟨g, 0, none⟩) (L.take i).length cap by rw [hl]]
    refine OwnP.mk h1 (setRow_heap w g cur _ _ _ h2) (by omega) h4 (by simp only [List.size_toArray, List.length_append, List.length_take, List.length_drop, hcl, hZl]; omega) ?_
    rw [hl, ← flat_take enc_len, ← h6, List.take_take, show min (i * 2) (n * 2) = i * 2 by omega]
    rw [List.append_assoc, List.take_append_of_le_length (by simp only [List.length_take, hcl]; omega), List.take_take, Nat.min_self]
end Go.Proofs.YtdaliiaagkhhhaaDoor
