/- has: the closure, slices.IndexFunc, slices.ContainsFunc. -/
import Derived.Test.YtdaliiaagkhhhaaDoorRg1
namespace Go.Proofs.YtdaliiaagkhhhaaDoor
set_option linter.unusedVariables false
open Go.RowKit Go.Proofs.YtdaliiaagkhhhaaDoorW.PrintWords

theorem block_add (a : Addr) (j : Nat) : (a.add j).block = a.block := by
  unfold Addr.add
  split <;> rfl
theorem pt_cells {w : World} {A : Option Addr} {n : Nat} {xs : List Pt} (h : kP.C w A n xs) {k : Nat} (hk : k < n) : ∃ ad, A = some ad ∧ ∀ W : World, Below w.heap.size w W → W.cell? (ad.add (k * 2)) = some (.int .u64 (pget xs k).at_) ∧ W.cell? ⟨(ad.add (k * 2)).block, (ad.add (k * 2)).off + 1, none⟩ = some (.int .i64 (pget xs k).node) := by
  obtain ⟨ad, e, c0, c1⟩ := at_pt h hk
  have hb : ad.block < w.heap.size := by
    have := World.block_lt_of_cell? w _ c0
    rwa [block_add] at this
  rw [add_field _ _ 1 (by omega)] at c1
  exact ⟨ad, e, fun W hW => ⟨(hW.cell (by rw [block_add]; exact hb)).trans c0, (hW.cell (p := ⟨(ad.add (k * 2)).block, (ad.add (k * 2)).off + 1, none⟩) (by rw [show (⟨(ad.add (k * 2)).block, (ad.add (k * 2)).off + 1, none⟩ : Addr).block = (ad.add (k * 2)).block from rfl, block_add]; exact hb)).trans c1⟩⟩

set_option maxHeartbeats 1000000 in
theorem pred_has (B : Nat) (nd : Int) (x : Pt) (W : World) (hc : W.cell? ⟨B, 0, none⟩ = some (.int .i64 nd)) :
    Calls Tryd.prog 43 #[.agg x.enc.toArray, .pointer (some ⟨B, 0, none⟩)] W fun e w' => e = .returned (.bool (x.node == nd)) ∧ Below W.heap.size W w' := by
  have hB : B < W.heap.size := World.block_lt_of_cell? W _ hc
  have hne : B ≠ W.heap.size := by omega
  show Calls Tryd.prog 43 #[.agg #[.int .u64 x.at_, .int .i64 x.node], .pointer (some ⟨B, 0, none⟩)] W _
  go_enter Tryd.func43, Tryd.ntmps43
  go_wp2
  go_ret
  exact ⟨rfl, (Below.refl _ _).alloc (Nat.le_refl _) _⟩
set_option maxHeartbeats 1000000 in
theorem pred_rem (B : Nat) (nd : Int) (x : Pt) (W : World) (hc : W.cell? ⟨B, 0, none⟩ = some (.int .i64 nd)) :
    Calls Tryd.prog 31 #[.agg x.enc.toArray, .pointer (some ⟨B, 0, none⟩)] W fun e w' => e = .returned (.bool (x.node == nd)) ∧ Below W.heap.size W w' := by
  have hB : B < W.heap.size := World.block_lt_of_cell? W _ hc
  have hne : B ≠ W.heap.size := by omega
  show Calls Tryd.prog 31 #[.agg #[.int .u64 x.at_, .int .i64 x.node], .pointer (some ⟨B, 0, none⟩)] W _
  go_enter Tryd.func31, Tryd.ntmps31
  go_wp2
  go_ret
  exact ⟨rfl, (Below.refl _ _).alloc (Nat.le_refl _) _⟩

/-- The first point of a node; -1: there is none. -/
def idxN (pts : List Pt) (nd : Int) : Int := match pts.findIdx? (fun x => x.node == nd) with | some i => i | none => -1
theorem idxN_hit {pts : List Pt} {nd : Int} {k : Nat} (hk : k < pts.length) (h : ((pget pts k).node == nd) = true) (h0 : ∀ j, j < k → ((pget pts j).node == nd) = false) : idxN pts nd = k := by
  unfold idxN
  rw [List.findIdx?_eq_some_iff_getElem.2 ⟨hk, by rwa [pget_eq hk] at h, fun j hj => by have := h0 j hj; rw [pget_eq (by omega)] at this; simp [this]⟩]
theorem idxN_none {pts : List Pt} {nd : Int} (h0 : ∀ j, j < pts.length → ((pget pts j).node == nd) = false) : idxN pts nd = -1 := by
  unfold idxN
  rw [List.findIdx?_eq_none_iff.2 fun x hx => by
    obtain ⟨j, hj, rfl⟩ := List.getElem_of_mem hx
    have := h0 j hj
    rwa [pget_eq hj] at this]
def hasN (pts : List Pt) (nd : Int) : Bool := pts.any (fun x => x.node == nd)
theorem idxN_has (pts : List Pt) (nd : Int) : decide (0 ≤ idxN pts nd) = hasN pts nd := by
  unfold idxN hasN
  cases h : pts.findIdx? (fun x => x.node == nd) with
  | none =>
    rw [List.findIdx?_eq_none_iff] at h
    symm
    simpa using h
  | some i =>
    obtain ⟨hi, h1, _⟩ := List.findIdx?_eq_some_iff_getElem.1 h
    have h2 : pts.any (fun x => x.node == nd) = true := List.any_eq_true.2 ⟨pts[i], List.getElem_mem hi, h1⟩
    rw [h2]
    simp

set_option maxHeartbeats 4000000 in
theorem Index_any (g B : Nat) (hg : g = 43 ∨ g = 31) (nd : Int) (A : Option Addr) (c : Nat) (pts : List Pt) (w : World) (hC : kP.C w A pts.length pts) (hc : w.cell? ⟨B, 0, none⟩ = some (.int .i64 nd)) :
    Calls Tryd.prog 46 #[.slice A pts.length c, .func (.func g) #[] #[.pointer (some ⟨B, 0, none⟩)]] w fun e w' => e = .returned (.int .i64 (idxN pts nd)) ∧ Below w.heap.size w w' := by
  have hB : B < w.heap.size := World.block_lt_of_cell? w _ hc
  have hp : ∀ (W : World) (x : Pt), Below w.heap.size w W → Calls Tryd.prog g #[.agg x.enc.toArray, .pointer (some ⟨B, 0, none⟩)] W fun e w' => e = .returned (.bool (x.node == nd)) ∧ Below w.heap.size w w' := fun W x hW => by
    have hc' : W.cell? ⟨B, 0, none⟩ = some (.int .i64 nd) := (hW.cell (p := ⟨B, 0, none⟩) hB).trans hc
    rcases hg with rfl | rfl
    · exact (pred_has B nd x W hc').mono fun e w' ⟨he, hb⟩ => ⟨he, hW.trans (hb.mono hW.size)⟩
    · exact (pred_rem B nd x W hc').mono fun e w' ⟨he, hb⟩ => ⟨he, hW.trans (hb.mono hW.size)⟩
  have eg : ∀ args w, (callFunc g args).run Tryd.prog w = .ok (.enter g args) w := by
    rcases hg with rfl | rfl
    · exact enters_of Tryd.func43 (by kernel_rfl) rfl
    · exact enters_of Tryd.func31 (by kernel_rfl) rfl
  have hl : pts.length ≤ 9223372036854775807 := hC.2.1
  have HC := Lib.hid hC
  have HP := Lib.hid hp
  clear hC hp hc hg
  go_enter Tryd.func46, Tryd.ntmps46
  go_wp2
  go_loopw [5, 8] (fun _ i wr => ∃ k : Nat, k ≤ pts.length ∧ i = .int .i64 k ∧ Hid (Below w.heap.size w wr ∧ ∀ j, j < k → ((pget pts j).node == nd) = false)) (fun _ i _ => pts.length - (intOf i).toNat)
  case atStart => exact ⟨0, Nat.zero_le _, rfl, Below.refl _ _, fun j hj => absurd hj (Nat.not_lt_zero _)⟩
  case round =>
    obtain ⟨k, hk, rfl, HD⟩ := hrel
    by_cases hlt : k < pts.length
    · obtain ⟨ad, hA, hld⟩ := pt_cells HC.out hlt
      obtain ⟨l2, l3⟩ := hld wr HD.out.1
      subst hA
      clear hld
      have hcall := HP.out wr (pget pts k) HD.out.1
      cases hq : ((pget pts k).node == nd) with
      | true =>
        rw [hq] at hcall
        have HQ := Lib.hid hq
        clear hq
        go_wp2_with (go_at_fn g; refine hcall.mono ?_; rintro e w' ⟨rfl, hb'⟩; have HB := Lib.hid hb'; clear hb')
        go_ret
        exact ⟨ret_int (idxN_hit hlt HQ.out HD.out.2).symm, HB.out⟩
      | false =>
        rw [hq] at hcall
        have HQ := Lib.hid hq
        clear hq
        go_wp2_with (go_at_fn g; refine hcall.mono ?_; rintro e w' ⟨rfl, hb'⟩; have HB := Lib.hid hb'; clear hb')
        go_roundw
        case rel =>
          refine ⟨k + 1, by omega, by go_num, HB.out, fun j hj => ?_⟩
          rcases Nat.lt_or_ge j k with h | h
          · exact HD.out.2 j h
          · obtain rfl : j = k := by omega
            exact HQ.out
        case measure => simp [intOf]; omega
    · obtain rfl : k = pts.length := by omega
      go_wp2
      go_ret
      exact ⟨ret_int (idxN_none HD.out.2).symm, HD.out.1⟩

set_option maxHeartbeats 1000000 in
theorem Contains_any (B : Nat) (nd : Int) (A : Option Addr) (c : Nat) (pts : List Pt) (w : World) (hC : kP.C w A pts.length pts) (hc : w.cell? ⟨B, 0, none⟩ = some (.int .i64 nd)) :
    Calls Tryd.prog 42 #[.slice A pts.length c, .func (.func 43) #[] #[.pointer (some ⟨B, 0, none⟩)]] w fun e w' => e = .returned (.bool (hasN pts nd)) ∧ Below w.heap.size w w' := by
  have hcall := Index_any 43 B (.inl rfl) nd A c pts w hC hc
  have hd := idxN_has pts nd
  have HC := Lib.hid hC
  clear hC hc
  go_enter Tryd.func42, Tryd.ntmps42
  go_wp2_with (go_at_call 46; refine hcall.mono ?_; rintro e w' ⟨rfl, hb⟩; have HB := Lib.hid hb; clear hb)
  go_ret
  exact ⟨rfl, HB.out⟩

set_option maxHeartbeats 1000000 in
theorem has_any (p : Nat) (each : Int) (v : Value) (pts : List Pt) (nd : Int) (w : World) (hS : IsRg w p each v pts) :
    Calls Tryd.prog 27 #[.pointer (some ⟨p, 0, none⟩), .int .i64 nd] w fun e w' => e = .returned (.bool (hasN pts nd)) ∧ Below w.heap.size w w' := by
  obtain ⟨A, c, hv, hc, hC⟩ := Kd.R_reads hS.row
  subst hv
  have c1 := hS.cell1
  have hp := hS.lt
  have hne : p ≠ w.heap.size := by omega
  have hb : Below w.heap.size w (w.alloc (.cells #[.int .i64 nd] 3)) := (Below.refl _ _).alloc (Nat.le_refl _) _
  have hcall := Contains_any w.heap.size nd A c pts (w.alloc (.cells #[.int .i64 nd] 3)) (Kd.C_below hC hb) (by simp)
  have HB0 := Lib.hid hb
  clear hS hC hb
  go_enter Tryd.func27, Tryd.ntmps27
  go_wp2_with (go_at_call 42; refine hcall.mono ?_; rintro e w' ⟨rfl, hb⟩; have HB := Lib.hid hb; clear hb)
  go_ret
  exact ⟨rfl, HB0.out.trans (HB.out.mono (by simp))⟩
end Go.Proofs.YtdaliiaagkhhhaaDoor
