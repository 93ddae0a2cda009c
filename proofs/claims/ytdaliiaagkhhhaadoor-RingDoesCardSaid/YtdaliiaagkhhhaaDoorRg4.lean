/- slices.DeleteFunc at the points, in place. slices.DeleteFunc at the points: the walk. -/
import Derived.Test.YtdaliiaagkhhhaaDoorRg2
namespace Go.Proofs.YtdaliiaagkhhhaaDoor
set_option linter.unusedVariables false
open Go.RowKit Go.Proofs.YtdaliiaagkhhhaaDoorW.PrintWords

theorem flat_set (x : Pt) : ∀ (L : List Pt) (i : Nat), i < L.length → (L.set i x).flatMap Pt.enc = ((L.flatMap Pt.enc).set (i * 2) (.int .u64 x.at_)).set (i * 2 + 1) (.int .i64 x.node)
  | [], _, h => by simp at h
  | y :: r, 0, _ => by simp [Pt.enc]
  | y :: r, i + 1, h => by
    have ih := flat_set x r i (by simpa using h)
    rw [List.set_cons_succ, List.flatMap_cons, ih, List.flatMap_cons, show (i + 1) * 2 = i * 2 + 1 + 1 by omega]
    simp [Pt.enc]
theorem flat_get (L : List Pt) (i : Nat) (h : i < L.length) : (L.flatMap Pt.enc)[i * 2]? = some (.int .u64 (pget L i).at_) ∧ (L.flatMap Pt.enc)[i * 2 + 1]? = some (.int .i64 (pget L i).node) := by
  have h1 := flat_drop enc_len L i
  rw [List.drop_eq_getElem_cons h, List.flatMap_cons] at h1
  rw [pget_eq h]
  constructor
  · rw [show i * 2 = i * 2 + 0 by omega, ← List.getElem?_drop, h1]; rfl
  · rw [← List.getElem?_drop, h1]; rfl
theorem OwnP.block {w : World} {base g n cap : Nat} {L : List Pt} (h : OwnP w base (.slice (some ⟨g, 0, none⟩) n cap) L) : n = L.length ∧ ∃ cur, base ≤ g ∧ w.heap[g]? = some (.cells cur 66 (0, 0)) ∧ n ≤ cap ∧ cap ≤ maxLen ∧ cur.size = cap * 2 ∧ cur.toList.take (n * 2) = L.flatMap Pt.enc := by
  rcases h.2 with ⟨he, _⟩ | ⟨g', cap', cur, he, h1, h2, h3, h4, h5, h6⟩
  · cases he
  · injection he with e1 e2 e3
    injection e1 with e1
    injection e1 with e1
    subst e1
    subst e3
    exact ⟨e2, cur, h1, h2, e2 ▸ h3, h4, h5, e2 ▸ h6⟩
theorem OwnP.mk {w : World} {base g cap : Nat} {L : List Pt} {cur : Array Value} (h1 : base ≤ g) (h2 : w.heap[g]? = some (.cells cur 66 (0, 0))) (h3 : L.length ≤ cap) (h4 : cap ≤ maxLen) (h5 : cur.size = cap * 2) (h6 : cur.toList.take (L.length * 2) = L.flatMap Pt.enc) : OwnP w base (.slice (some ⟨g, 0, none⟩) L.length cap) L :=
  ⟨flat_len enc_len _, .inr ⟨g, cap, cur, rfl, h1, h2, h3, h4, h5, h6⟩⟩
theorem OwnP.cells {w : World} {base g n cap : Nat} {L : List Pt} (h : OwnP w base (.slice (some ⟨g, 0, none⟩) n cap) L) {i : Nat} (hi : i < L.length) :
    w.cell? ⟨g, i * 2, none⟩ = some (.int .u64 (pget L i).at_) ∧ w.cell? ⟨g, i * 2 + 1, none⟩ = some (.int .i64 (pget L i).node) ∧ (∀ j, w.frozen? ⟨g, j, none⟩ = false) := by
  obtain ⟨hn, cur, h1, h2, h3, h4, h5, h6⟩ := h.block
  obtain ⟨g1, g2⟩ := flat_get L i hi
  rw [← h6, List.getElem?_take] at g1 g2
  rw [if_pos (by omega)] at g1 g2
  refine ⟨?_, ?_, fun j => by simp [World.frozen?, h2]⟩
  · rw [cell_row h2]; simpa using g1
  · rw [cell_row h2]; simpa using g2
theorem OwnP.set {w : World} {base g n cap : Nat} {L : List Pt} (h : OwnP w base (.slice (some ⟨g, 0, none⟩) n cap) L) {i : Nat} (hi : i < L.length) (x : Pt) :
    OwnP ((w.setCell ⟨g, i * 2, none⟩ (.int .u64 x.at_)).setCell ⟨g, i * 2 + 1, none⟩ (.int .i64 x.node)) base (.slice (some ⟨g, 0, none⟩) n cap) (L.set i x) := by
  obtain ⟨hn, cur, h1, h2, h3, h4, h5, h6⟩ := h.block
  rw [setCell_eq_setRow w g (i * 2) cur _ _ _ h2, setCell_eq_setRow _ g (i * 2 + 1) _ _ _ _ (setRow_heap w g cur _ _ _ h2), setRow_setRow]
  subst hn
  rw [show L.length = (L.set i x).length by simp]
  refine OwnP.mk h1 (setRow_heap w g cur _ _ _ h2) (by simpa using h3) h4 (by simp [h5]) ?_
  rw [flat_set x L i hi, ← h6]
  simp [List.take_set]
theorem zero_len : (Builtin.zeroCells (Value.agg #[.int .u64 0, .int .i64 0]).cells 1).size = 2 := by rw [size_zeroCells]; rfl
theorem zero_pt (w : World) : (zeroValue 66).run Tryd.prog w = .ok (.agg #[.int .u64 0, .int .i64 0]) w := by kernel_rfl
theorem zero_one (m : Nat) : ∀ v ∈ (Builtin.zeroCells (Value.agg #[.int .u64 0, .int .i64 0]).cells m).toList, v.oneCell' = true := by
  intro v hv
  simp only [Builtin.zeroCells, Value.cells, Array.toList_map, List.mem_map] at hv
  obtain ⟨j, _, rfl⟩ := hv
  have : j % 2 = 0 ∨ j % 2 = 1 := by omega
  show (#[Value.int .u64 0, .int .i64 0][j % 2]!).oneCell' = true
  rcases this with h | h <;> rw [h] <;> rfl
theorem OwnP.cut {w : World} {base g n cap : Nat} {L : List Pt} (h : OwnP w base (.slice (some ⟨g, 0, none⟩) n cap) L) {i : Nat} (hi : i < L.length) :
    ∃ row : Array Value, (∀ ty, (Builtin.clear_ #[56] ty #[.slice (some ⟨g, i * 2, none⟩) (n - i) (cap - i)]).run Tryd.prog w = .ok (.tuple #[]) (w.setRow g row)) ∧ OwnP (w.setRow g row) base (.slice (some ⟨g, 0, none⟩) i cap) (L.take i) := by
  obtain ⟨hn, cur, h1, h2, h3, h4, h5, h6⟩ := h.block
  obtain ⟨m, hm⟩ : ∃ m, n - i = m + 1 := ⟨n - i - 1, by omega⟩
  obtain ⟨Z, hZ⟩ : ∃ Z, Z = (Builtin.zeroCells (Value.agg #[.int .u64 0, .int .i64 0]).cells (m + 1)).toList := ⟨_, rfl⟩
  have hZl : Z.length = (m + 1) * 2 := by rw [hZ, Array.length_toList, size_zeroCells]; rfl
  have hst := run_storeCells_at Tryd.prog g (i * 2) _ Z 0 cur w h2 (by rw [hZl]; omega) (by rw [hZ]; exact zero_one _)
  simp only [Nat.add_zero] at hst
  refine ⟨(cur.toList.take (i * 2) ++ Z ++ cur.toList.drop (i * 2 + Z.length)).toArray, ?_, ?_⟩
  · intro ty
    rw [hm]
    simp [Builtin.clear_, run_underlying Tryd.underlying56, zero_pt, ← hZ, hst]
  · have hl : (L.take i).length = i := by rw [List.length_take]; omega
    have hcl : cur.toList.length = cap * 2 := by rw [Array.length_toList, h5]
    rw [show (Value.slice (some ⟨g, 0, none⟩) i cap) = .slice (some ⟨g, 0, none⟩) (L.take i).length cap by rw [hl]]
    refine OwnP.mk h1 (setRow_heap w g cur _ _ _ h2) (by omega) h4 (by simp only [List.size_toArray, List.length_append, List.length_take, List.length_drop, hcl, hZl]; omega) ?_
    rw [hl, ← flat_take enc_len, ← h6, List.take_take, show min (i * 2) (n * 2) = i * 2 by omega]
    rw [List.append_assoc, List.take_append_of_le_length (by simp only [List.length_take, hcl]; omega), List.take_take, Nat.min_self]
end Go.Proofs.YtdaliiaagkhhhaaDoor
namespace Go.Proofs.YtdaliiaagkhhhaaDoor
set_option linter.unusedVariables false
open Go.RowKit Go.Proofs.YtdaliiaagkhhhaaDoorW.PrintWords

theorem OwnP.later {w w' : World} {base : Nat} {v : Value} {L : List Pt} (h : OwnP w base v L) (hb : Below w.heap.size w w') : OwnP w' base v L := OwnP.of_R (Kd.R_below h.to_R hb)
theorem bel_alloc (w : World) (o : Obj) : Below w.heap.size w (w.alloc o) := (Below.refl _ _).alloc (Nat.le_refl _) _
theorem grown_below {w w' : World} {r : Option Nat} (h : Below w.heap.size w w') : w.grownBy w' r := ⟨h.os, h.tape, h.output, h.size, fun k hk _ => h.block k hk⟩
theorem _root_.Go.World.grownBy.alloc {w w' : World} {r : Option Nat} (h : w.grownBy w' r) (o : Obj) : w.grownBy (w'.alloc o) r :=
  ⟨h.os, h.tape, h.output, Nat.le_trans h.size (by simp), fun k hk hn => (Below.heap_alloc w' o k (Nat.lt_of_lt_of_le hk h.size)).trans (h.block k hk hn)⟩
theorem grown_set {w w' : World} {g : Nat} (h : w.grownBy w' (some g)) (j : Nat) (v : Value) : w.grownBy (w'.setCell ⟨g, j, none⟩ v) (some g) :=
  ⟨h.os, h.tape, h.output, Nat.le_trans h.size (by simp [World.setCell]), fun k hk hn => (Below.heap_setCell w' ⟨g, j, none⟩ v k (fun e => hn (by rw [e]))).trans (h.block k hk hn)⟩
theorem grown_set2 {w w' : World} {g : Nat} (h : w.grownBy w' (some g)) (j k : Nat) (v u : Value) : w.grownBy ((w'.setCell ⟨g, j, none⟩ v).setCell ⟨g, k, none⟩ u) (some g) := grown_set (grown_set h j v) k u
theorem grown_row {w w' : World} {g : Nat} (h : w.grownBy w' (some g)) (row : Array Value) : w.grownBy (w'.setRow g row) (some g) :=
  ⟨h.os, h.tape, h.output, Nat.le_trans h.size (by simp), fun k hk hn => (setRow_ne w' g k row (fun e => hn (by rw [e]))).trans (h.block k hk hn)⟩
def dropN (pts : List Pt) (nd : Int) : List Pt := pts.filter (fun x => !(x.node == nd))

set_option maxHeartbeats 4000000 in
theorem Delete_hit (g cap base B : Nat) (nd : Int) (pts : List Pt) (w : World) (hO : OwnP w base (.slice (some ⟨g, 0, none⟩) pts.length cap) pts) (hc : w.cell? ⟨B, 0, none⟩ = some (.int .i64 nd)) (hBg : B ≠ g) (i0 : Nat) (hi0 : i0 < pts.length) (hx : idxN pts nd = i0) (h1 : ((pget pts i0).node == nd) = true) (h0 : (pts.take i0).filter (fun x => !(x.node == nd)) = pts.take i0) (hl : pts.length ≤ 1000000) :
    Calls Tryd.prog 30 #[.slice (some ⟨g, 0, none⟩) pts.length cap, .func (.func 31) #[] #[.pointer (some ⟨B, 0, none⟩)]] w fun e w' => ∃ n', e = .returned (.slice (some ⟨g, 0, none⟩) n' cap) ∧ OwnP w' base (.slice (some ⟨g, 0, none⟩) n' cap) (dropN pts nd) ∧ w.grownBy w' (some g) := by
  have hidx := Index_any 31 B (.inr rfl) nd (some ⟨g, 0, none⟩) cap pts w (by
    obtain ⟨A, c, he, _, hC⟩ := Kd.R_reads hO.to_R
    injection he with e1 e2 e3
    rw [e1]; exact hC) hc
  rw [hx] at hidx
  have hcap : cap ≤ maxLen := by obtain ⟨_, _, _, _, _, h, _⟩ := hO.block; exact h
  have hcap' : cap ≤ 9223372036854775807 := hcap
  have hn : pts.length ≤ cap := by obtain ⟨_, _, _, _, h, _⟩ := hO.block; exact h
  have H1 := Lib.hid h1
  have H0 := Lib.hid h0
  have HO := Lib.hid hO
  have HC := Lib.hid hc
  clear hO hc h1 h0 hx hcap
  go_enter Tryd.func30, Tryd.ntmps30
  go_wp2_with (go_at_call 46; refine hidx.mono ?_; rintro e w1 ⟨rfl, hb⟩; have HB := Lib.hid hb; clear hb)
  clear hidx
  go_loopw [5, 6] (fun x y wr => ∃ i j : Nat, i < j ∧ j ≤ pts.length ∧ x = .int .i64 i ∧ y = .int .i64 j ∧ Hid (∃ L : List Pt, L.length = pts.length ∧ OwnP wr base (.slice (some ⟨g, 0, none⟩) pts.length cap) L ∧ L.take i = (pts.take j).filter (fun x => !(x.node == nd)) ∧ (∀ k, j ≤ k → k < pts.length → pget L k = pget pts k) ∧ w.grownBy wr (some g) ∧ wr.cell? ⟨B, 0, none⟩ = some (.int .i64 nd))) (fun _ y _ => pts.length - (intOf y).toNat)
  case atStart =>
    have hlb : B < w.heap.size := World.block_lt_of_cell? w _ HC.out
    refine ⟨i0, i0 + 1, by omega, by omega, rfl, by go_num, pts, rfl, HO.out.later HB.out, ?_, fun _ _ _ => rfl, grown_below HB.out, (HB.out.cell (p := ⟨B, 0, none⟩) hlb).trans HC.out⟩
    rw [take_p hi0, List.filter_append, H0.out, List.filter_cons_of_neg (by rw [H1.out]; decide), List.filter_nil, List.append_nil]
  case round =>
    obtain ⟨i, j, hij, hj, rfl, rfl, HR⟩ := hrel
    obtain ⟨L, HR⟩ : ∃ L : List Pt, Hid (L.length = pts.length ∧ OwnP wr base (.slice (some ⟨g, 0, none⟩) pts.length cap) L ∧ L.take i = (pts.take j).filter (fun x => !(x.node == nd)) ∧ (∀ k, j ≤ k → k < pts.length → pget L k = pget pts k) ∧ w.grownBy wr (some g) ∧ wr.cell? ⟨B, 0, none⟩ = some (.int .i64 nd)) := HR.out
    by_cases hlt : j < pts.length
    · obtain ⟨c0, c1, _⟩ := HR.out.2.1.cells (i := j) (by rw [HR.out.1]; exact hlt)
      have hB := HR.out.2.2.2.2.2
      have hBl : B < wr.heap.size := World.block_lt_of_cell? wr _ hB
      have hBn : B ≠ wr.heap.size := by omega
      have hBn2 : B ≠ wr.heap.size + 1 := by omega
      have hgl : g < wr.heap.size := World.block_lt_of_cell? wr _ c0
      have hgn : g ≠ wr.heap.size := by omega
      have hgn2 : g ≠ wr.heap.size + 1 := by omega
      rw [HR.out.2.2.2.1 j (Nat.le_refl _) hlt] at c0 c1
      have hin : i < pts.length := by omega
      obtain ⟨d0, d1, df⟩ := HR.out.2.1.cells (i := i) (by rw [HR.out.1]; exact hin)
      have f0 := df (i * 2)
      have f1 := df (i * 2 + 1)
      clear df
      obtain ⟨x, hxj⟩ : ∃ x, x = pget pts j := ⟨_, rfl⟩
      rw [← hxj] at c0 c1
      have HX := Lib.hid hxj
      clear hxj
      cases hq : (x.node == nd) with
      | true =>
        go_wp2
        go_roundw
        case rel =>
          refine ⟨i, j + 1, by omega, by omega, rfl, by go_num, L, HR.out.1, ((HR.out.2.1.later (bel_alloc _ _)).later (bel_alloc _ _)), ?_, fun k hk hk2 => HR.out.2.2.2.1 k (by omega) hk2, (HR.out.2.2.2.2.1.alloc _).alloc _, ?_⟩
          · rw [HR.out.2.2.1, take_p hlt, List.filter_append, ← HX.out, List.filter_cons_of_neg (by rw [hq]; decide), List.filter_nil, List.append_nil]
          · exact Lib.cell?_alloc_some _ (Lib.cell?_alloc_some _ HR.out.2.2.2.2.2)
        case measure => simp [intOf]; omega
      | false =>
        go_wp2
        go_roundw
        case rel =>
          refine ⟨i + 1, j + 1, by omega, by omega, by go_num, by go_num, L.set i x, by rw [List.length_set]; exact HR.out.1, ((HR.out.2.1.set (by rw [HR.out.1]; exact hin) x).later (bel_alloc _ _)).later (bel_alloc _ _), ?_, fun k hk hk2 => ?_, ?_, ?_⟩
          · rw [take_p hlt, List.filter_append, ← HX.out, List.filter_cons_of_pos (by rw [hq]; decide), List.filter_nil, ← HR.out.2.2.1, List.take_set, List.take_succ_eq_append_getElem (by rw [HR.out.1]; exact hin), List.set_append_right _ _ (by rw [List.length_take]; omega)]
            have hz : i - (L.take i).length = 0 := by rw [List.length_take, HR.out.1]; omega
            rw [hz]
            rfl
          · have := HR.out.2.2.2.1 k (by omega) hk2
            rw [← this]
            simp [pget, List.getElem?_set, show ¬ i = k by omega]
          · exact ((grown_set2 HR.out.2.2.2.2.1 _ _ _ _).alloc _).alloc _
          · refine Lib.cell?_alloc_some _ (Lib.cell?_alloc_some _ ?_)
            rw [World.cell?_setCell_other _ _ _ _ (by simp [Ne.symm hBg]), World.cell?_setCell_other _ _ _ _ (by simp [Ne.symm hBg])]
            exact HR.out.2.2.2.2.2
        case measure => simp [intOf]; omega
    · obtain rfl : j = pts.length := by omega
      have hin : i < pts.length := hij
      obtain ⟨row, hcl, hO2⟩ := HR.out.2.1.cut (i := i) (by rw [HR.out.1]; exact hin)
      rw [HR.out.2.2.1, List.take_length] at hO2
      have HO2 := Lib.hid hO2
      have hci : ¬ (cap = i) := by omega
      have hni : ¬ (pts.length = i) := by omega
      have hic : i ≤ cap := by omega
      clear hO2
      go_wp2
      go_ret
      exact ⟨i, rfl, HO2.out, grown_row HR.out.2.2.2.2.1 _⟩
end Go.Proofs.YtdaliiaagkhhhaaDoor
