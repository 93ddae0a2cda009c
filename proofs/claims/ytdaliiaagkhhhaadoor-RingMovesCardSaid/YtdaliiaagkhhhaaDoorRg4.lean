/- slices.DeleteFunc at the points: the walk. -/
import Derived.Test.YtdaliiaagkhhhaaDoorRg3
namespace Go.Proofs.YtdaliiaagkhhhaaDoor
set_option linter.unusedVariables false
open Go.RowKit Go.Proofs.YtdaliiaagkhhhaaDoorW.PrintWords

theorem OwnP.later {w w' : World} {base : Nat} {v : Value} {L : List Pt} (h : OwnP w base v L) (hb : Below w.heap.size w w') : OwnP w' base v L := OwnP.of_R (Kd.R_below h.to_R hb)
theorem bel_alloc (w : World) (o : Obj) : Below w.heap.size w (w.alloc o) := (Below.refl _ _).alloc (Nat.le_refl _) _
theorem grown_below {w w' : World} {r : Option Nat} (h : Below w.heap.size w w') : w.grownBy w' r := ⟨h.os, h.tape, h.output, h.size, fun k hk _ => h.block k hk⟩
theorem _root_.Go.World.grownBy.alloc {w w' : World} {r : Option Nat} (h : w.grownBy w' r) (o : Obj) : w.grownBy (w'.alloc o) r :=
  ⟨h.os, h.tape, h.output, Nat.le_trans h.size (by simp), fun k hk hn => (Below.heap_alloc w' o k (Nat.lt_of_lt_of_le hk h.size)).trans (h.block k hk hn)⟩
theorem grown_set {w w' : World} {g : Nat} (h : w.grownBy w' (some g)) (j : Nat) (v : Value) : w.grownBy (w'.setCell ⟨g, j, none⟩ v) (some g) :=
  ⟨h.os, h.tape, h.output, Nat.le_trans h.size (by simp [World.setCell]), fun k hk hn => (Below.heap_setCell w' ⟨g, j, none⟩ v k (fun e => hn (by rw [e]))).trans (h.block k hk hn)⟩
theorem grown_set2 {w w' : World} {g : Nat} (h : w.grownBy w' (some g)) (j k : Nat) (v u : Value) : w.grownBy ((w'.setCell ⟨g, j, none⟩ v).setCell ⟨g, k, none⟩ u) (some g) := grown_set (grown_set h j v) k u
theorem grown_row {w w' : World} {g : Nat} (h : w.grownBy w' (some g)) (row : Array Value) : w.grownBy (w'.setRow g row) (some g) :=
  ⟨h.os, h.tape, h.output, Nat.le_trans h.size (by simp), fun k hk hn => (setRow_ne w' g k row (fun e => hn (by rw [e]))).trans (h.block k hk hn)⟩
def dropN (pts : List Pt) (nd : Int) : List Pt := pts.filter (fun x => !(x.node == nd))

set_option maxHeartbeats 4000000 in
theorem Delete_hit (g cap base B : Nat) (nd : Int) (pts : List Pt) (w : World) (hO : OwnP w base (.slice (some ⟨g, 0, none⟩) pts.length cap) pts) (hc : w.cell? ⟨B, 0, none⟩ = some (.int .i64 nd)) (hBg : B ≠ g) (i0 : Nat) (hi0 : i0 < pts.length) (hx : idxN pts nd = i0) (h1 : ((pget pts i0).node == nd) = true) (h0 : (pts.take i0).filter (fun x => !(x.node == nd)) = pts.take i0) (hl : pts.length ≤ 1000000) :
    Calls Tryd.prog 30 #[.slice (some ⟨g, 0, none⟩) pts.length cap, .func (.func 31) #[] #[.pointer (some ⟨B, 0, none⟩)]] w fun e w' => ∃ n', e = .returned (.slice (some ⟨g, 0, none⟩) n' cap) ∧ OwnP w' base (.slice (some ⟨g, 0, none⟩) n' cap) (dropN pts nd) ∧ w.grownBy w' (some g) := by
  have hidx := Index_any 31 B (.inr rfl) nd (some ⟨g, 0, none⟩) cap pts w (by
    obtain ⟨A, c, he, _, hC⟩ := Kd.R_reads hO.to_R
    injection he with e1 e2 e3
    rw [e1]; exact hC) hc
  rw [hx] at hidx
  have hcap : cap ≤ maxLen := by obtain ⟨_, _, _, _, _, h, _⟩ := hO.block; exact h
  have hcap' : cap ≤ 9223372036854775807 := hcap
  have hn : pts.length ≤ cap := by obtain ⟨_, _, _, _, h, _⟩ := hO.block; exact h
  have H1 := Lib.hid h1
  have H0 := Lib.hid h0
  have HO := Lib.hid hO
  have HC := Lib.hid hc
  clear hO hc h1 h0 hx hcap
  go_enter Tryd.func30, Tryd.ntmps30
  go_wp2_with (go_at_call 46; refine hidx.mono ?_; rintro e w1 ⟨rfl, hb⟩; have HB := Lib.hid hb; clear hb)
  clear hidx
  go_loopw [5, 6] (fun x y wr => ∃ i j : Nat, i < j ∧ j ≤ pts.length ∧ x = .int .i64 i ∧ y = .int .i64 j ∧ Hid (∃ L : List Pt, L.length = pts.length ∧ OwnP wr base (.slice (some ⟨g, 0, none⟩) pts.length cap) L ∧ L.take i = (pts.take j).filter (fun x => !(x.node == nd)) ∧ (∀ k, j ≤ k → k < pts.length → pget L k = pget pts k) ∧ w.grownBy wr (some g) ∧ wr.cell? ⟨B, 0, none⟩ = some (.int .i64 nd))) (fun _ y _ => pts.length - (intOf y).toNat)
  case atStart =>
    have hlb : B < w.heap.size := World.block_lt_of_cell? w _ HC.out
    refine ⟨i0, i0 + 1, by omega, by omega, rfl, by go_num, pts, rfl, HO.out.later HB.out, ?_, fun _ _ _ => rfl, grown_below HB.out, (HB.out.cell (p := ⟨B, 0, none⟩) hlb).trans HC.out⟩
    rw [take_p hi0, List.filter_append, H0.out, List.filter_cons_of_neg (by rw [H1.out]; decide), List.filter_nil, List.append_nil]
  case round =>
    obtain ⟨i, j, hij, hj, rfl, rfl, HR⟩ := hrel
    obtain ⟨L, HR⟩ : ∃ L : List Pt, Hid (L.length = pts.length ∧ OwnP wr base (.slice (some ⟨g, 0, none⟩) pts.length cap) L ∧ L.take i = (pts.take j).filter (fun x => !(x.node == nd)) ∧ (∀ k, j ≤ k → k < pts.length → pget L k = pget pts k) ∧ w.grownBy wr (some g) ∧ wr.cell? ⟨B, 0, none⟩ = some (.int .i64 nd)) := HR.out
    by_cases hlt : j < pts.length
    · obtain ⟨c0, c1, _⟩ := HR.out.2.1.cells (i := j) (by rw [HR.out.1]; exact hlt)
      have hB := HR.out.2.2.2.2.2
      have hBl : B < wr.heap.size := World.block_lt_of_cell? wr _ hB
      have hBn : B ≠ wr.heap.size := by omega
      have hBn2 : B ≠ wr.heap.size + 1 := by omega
      have hgl : g < wr.heap.size := World.block_lt_of_cell? wr _ c0
      have hgn : g ≠ wr.heap.size := by omega
      have hgn2 : g ≠ wr.heap.size + 1 := by omega
      rw [HR.out.2.2.2.1 j (Nat.le_refl _) hlt] at c0 c1
      have hin : i < pts.length := by omega
      obtain ⟨d0, d1, df⟩ := HR.out.2.1.cells (i := i) (by rw [HR.out.1]; exact hin)
      have f0 := df (i * 2)
      have f1 := df (i * 2 + 1)
      clear df
      obtain ⟨x, hxj⟩ : ∃ x, x = pget pts j := ⟨_, rfl⟩
      rw [← hxj] at c0 c1
      have HX := Lib.hid hxj
      clear hxj
      cases hq : (x.node == nd) with
      | true =>
        go_wp2
        go_roundw
        case rel =>
          refine ⟨i, j + 1, by omega, by omega, rfl, by go_num, L, HR.out.1, ((HR.out.2.1.later (bel_alloc _ _)).later (bel_alloc _ _)), ?_, fun k hk hk2 => HR.out.2.2.2.1 k (by omega) hk2, (HR.out.2.2.2.2.1.alloc _).alloc _, ?_⟩
          · rw [HR.out.2.2.1, take_p hlt, List.filter_append, ← HX.out, List.filter_cons_of_neg (by rw [hq]; decide), List.filter_nil, List.append_nil]
          · exact Lib.cell?_alloc_some _ (Lib.cell?_alloc_some _ HR.out.2.2.2.2.2)
        case measure => simp [intOf]; omega
      | false =>
        go_wp2
        go_roundw
        case rel =>
          refine ⟨i + 1, j + 1, by omega, by omega, by go_num, by go_num, L.set i x, by rw [List.length_set]; exact HR.out.1, ((HR.out.2.1.set (by rw [HR.out.1]; exact hin) x).later (bel_alloc _ _)).later (bel_alloc _ _), ?_, fun k hk hk2 => ?_, ?_, ?_⟩
          · rw [take_p hlt, List.filter_append, ← HX.out, List.filter_cons_of_pos (by rw [hq]; decide), List.filter_nil, ← HR.out.2.2.1, List.take_set, List.take_succ_eq_append_getElem (by rw [HR.out.1]; exact hin), List.set_append_right _ _ (by rw [List.length_take]; omega)]
            have hz : i - (L.take i).length = 0 := by rw [List.length_take, HR.out.1]; omega
            rw [hz]
            rfl
          · have := HR.out.2.2.2.1 k (by omega) hk2
            rw [← this]
            simp [pget, List.getElem?_set, show ¬ i = k by omega]
          · exact ((grown_set2 HR.out.2.2.2.2.1 _ _ _ _).alloc _).alloc _
          · refine Lib.cell?_alloc_some _ (Lib.cell?_alloc_some _ ?_)
            rw [World.cell?_setCell_other _ _ _ _ (by simp [Ne.symm hBg]), World.cell?_setCell_other _ _ _ _ (by simp [Ne.symm hBg])]
            exact HR.out.2.2.2.2.2
        case measure => simp [intOf]; omega
    · obtain rfl : j = pts.length := by omega
      have hin : i < pts.length := hij
      obtain ⟨row, hcl, hO2⟩ := HR.out.2.1.cut (i := i) (by rw [HR.out.1]; exact hin)
      rw [HR.out.2.2.1, List.take_length] at hO2
      have HO2 := Lib.hid hO2
      have hci : ¬ (cap = i) := by omega
      have hni : ¬ (pts.length = i) := by omega
      have hic : i ≤ cap := by omega
      clear hO2
      go_wp2
      go_ret
      exact ⟨i, rfl, HO2.out, grown_row HR.out.2.2.2.2.1 _⟩
end Go.Proofs.YtdaliiaagkhhhaaDoor
