/- A ring in memory; the contracts of New, At, next, has. has: the closure, slices.IndexFunc, slices.ContainsFunc. slices.DeleteFunc at the points, in place. slices.DeleteFunc at the points: the walk. A ring as a list of points: what its functions compute. No program here. -/
import Derived.Test.YtndgjhhhggkdmaaDoorIns2
import Derived.Test.YtndgjhhhggkdmaaDoorBloomM
import Derived.Test.YtndgjhhhggkdmaaDoorErr2
import Derived.Deep.QuietTactic
import Derived.BigQuiet
import Derived.Deep.OwnRows
import Derived.Deep.LoopGhost
import Derived.Lib.Hide
namespace Go.Proofs.YtndgjhhhggkdmaaDoor
set_option linter.unusedVariables false
open Go.RowKit Go.Proofs.YtndgjhhhggkdmaaDoorW.PrintWords

def pget (xs : List Pt) (k : Nat) : Pt := xs.getD k ⟨0, 0⟩
theorem pget_eq {xs : List Pt} {k : Nat} (h : k < xs.length) : pget xs k = xs[k] := by simp [pget, h]
theorem take_p {xs : List Pt} {k : Nat} (h : k < xs.length) : xs.take (k + 1) = xs.take k ++ [pget xs k] := by rw [List.take_succ_eq_append_getElem h, pget_eq h]
theorem at_pt {w : World} {A : Option Addr} {n : Nat} {xs : List Pt} (h : kP.C w A n xs) {k : Nat} (hk : k < n) : ∃ ad, A = some ad ∧ w.cell? (ad.add (k * 2)) = some (.int .u64 (pget xs k).at_) ∧ w.cell? (ad.add (k * 2 + 1)) = some (.int .i64 (pget xs k).node) := by
  obtain ⟨ad, c, e, _, hK, hc⟩ := Kd.C_get h ⟨0, 0⟩ (k : Int) (by omega) (by omega)
  obtain ⟨_, _, rfl, rfl, rfl⟩ := hK
  refine ⟨ad, e, ?_, ?_⟩
  · have := hc 0 _ rfl
    simpa [pget, kP_sz] using this
  · have := hc 1 _ rfl
    simpa [pget, kP_sz] using this

/-- A ring: its head in block p, its points in a block of their own, that was made later. -/
structure IsRg (w : World) (p : Nat) (each : Int) (v : Value) (pts : List Pt) : Prop where
  head : w.heap[p]? = some (.cells #[.int .i64 each, v] 76 (0, 0))
  row : kP.R 81 w (p + 1) (fun _ => True) v pts
namespace IsRg
variable {w w' : World} {p : Nat} {each : Int} {v : Value} {pts : List Pt}
theorem lt (h : IsRg w p each v pts) : p < w.heap.size := (Array.getElem?_eq_some_iff.1 h.head).1
theorem later (h : IsRg w p each v pts) (hb : Below w.heap.size w w') : IsRg w' p each v pts := ⟨(hb.block p h.lt).trans h.head, Kd.R_below h.row hb⟩
theorem drewN (h : IsRg w p each v pts) (n : Nat) : IsRg (w.drewN n) p each v pts := ⟨h.head, h.row⟩
theorem cell0 (h : IsRg w p each v pts) : w.cell? ⟨p, 0, none⟩ = some (.int .i64 each) := cell_row h.head 0
theorem cell1 (h : IsRg w p each v pts) : w.cell? ⟨p, 1, none⟩ = some v := cell_row h.head 1
theorem fro (h : IsRg w p each v pts) (j : Nat) : w.frozen? ⟨p, j, none⟩ = false := by simp [World.frozen?, h.head]
end IsRg

set_option maxHeartbeats 1000000 in
theorem New_ok (n : Int) (w : World) (h1 : 1 ≤ n) (h2 : n ≤ 64) :
    Calls Tryd.prog 23 #[.int .i64 n] w fun e w' => e = .returned (.tuple #[.pointer (some ⟨w.heap.size, 0, none⟩), .nilIface]) ∧ IsRg w' w.heap.size n (.slice none 0 0) [] ∧ Below w.heap.size w w' ∧ w.heap.size < w'.heap.size := by
  go_enter Tryd.func23, Tryd.ntmps23
  go_wp2
  go_ret2
  exact ⟨rfl, ⟨heap_alloc_new _ _, Kd.R_nil _ _ _ _ _⟩, (Below.refl _ _).alloc (Nat.le_refl _) _, by simp⟩

set_option maxHeartbeats 1000000 in
theorem New_bad (n : Int) (w : World) (h : n < 1 ∨ 64 < n) :
    Calls Tryd.prog 23 #[.int .i64 n] w fun e w' => ∃ op at_, e = .returned (.tuple #[.pointer none, faultV w.heap.size]) ∧ w' = w.alloc (faultO op at_ 2 .nilIface) := by
  have H := Lib.hid h
  clear h
  by_cases h1 : n < 1
  · go_enter Tryd.func23, Tryd.ntmps23
    go_wp2_with (go_at_call 35; refine (new_any _ _ 2 rfl _).mono ?_; rintro e w' ⟨rfl, rfl⟩)
    go_ret2
    exact ⟨_, _, rfl, rfl⟩
  · have h2 : 64 < n := by have := H.out; omega
    go_enter Tryd.func23, Tryd.ntmps23
    go_wp2_with (go_at_call 35; refine (new_any _ _ 2 rfl _).mono ?_; rintro e w' ⟨rfl, rfl⟩)
    go_ret2
    exact ⟨_, _, rfl, rfl⟩

/-- A node's point. -/
def atI (node i : Int) : Int := mixI (bits .or .u64 (IntKind.u64.wrap (IntKind.u64.wrap node * 256)) (IntKind.u64.wrap i))
set_option maxHeartbeats 1000000 in
theorem at_any (node i : Int) (w : World) :
    Calls Tryd.prog 37 #[.int .i64 node, .int .i64 i] w fun e w' => e = .returned (.int .u64 (atI node i)) ∧ w = w' := by
  go_enter Tryd.func37, Tryd.ntmps37
  go_wp2_with (go_at_call 50; refine (mix_any _ _).mono ?_; rintro e w' ⟨rfl, rfl⟩)
  go_ret
  exact ⟨rfl, rfl⟩

theorem half (l h : Nat) : ((l : Int) + (h : Int)) / 2 = (((l + h) / 2 : Nat) : Int) := by omega
set_option maxHeartbeats 2000000 in
/-- next, where N is how many points stand ahead of a. -/
theorem next_any (p : Nat) (each : Int) (v : Value) (pts : List Pt) (a : Int) (N : Nat) (w : World) (hS : IsRg w p each v pts) (hN : N ≤ pts.length) (hlt : ∀ j, j < pts.length → ((pget pts j).at_ < a ↔ j < N)) (hl : pts.length ≤ 1000000) :
    Calls Tryd.prog 38 #[.pointer (some ⟨p, 0, none⟩), .int .u64 a] w fun e w' => e = .returned (.int .i64 N) ∧ ∃ n, w' = w.drewN n := by
  obtain ⟨A, c, hv, hc, hC⟩ := Kd.R_reads hS.row
  subst hv
  have c1 := hS.cell1
  have HS := Lib.hid hS
  have HC := Lib.hid hC
  have HL := Lib.hid hlt
  clear hS hC hlt
  go_enter Tryd.func38, Tryd.ntmps38
  go_wp2
  go_quiet (skip)
  go_wp2
  go_loopw [5, 6] (fun x y wr => ∃ l h : Nat, l ≤ N ∧ N ≤ h ∧ h ≤ pts.length ∧ x = .int .i64 l ∧ y = .int .i64 h ∧ Hid (∃ n, wr = w.drewN n)) (fun x y _ => (intOf y - intOf x).toNat)
  case atStart => exact ⟨0, pts.length, Nat.zero_le _, hN, Nat.le_refl _, rfl, rfl, ⟨_, rfl⟩⟩
  case round =>
    obtain ⟨l, h, hlN, hNh, hhl, rfl, rfl, HW⟩ := hrel
    by_cases hlh : l < h
    · obtain ⟨m, hm, hm1, hm2⟩ : ∃ m : Nat, ((l : Int) + (h : Int)) / 2 = (m : Int) ∧ l ≤ m ∧ m < h := ⟨(l + h) / 2, half l h, by omega, by omega⟩
      have c2 : wr.cell? ⟨p, 1, none⟩ = some (.slice A pts.length c) := by
        obtain ⟨n, hn⟩ := HW.out
        rw [hn]; exact c1
      obtain ⟨ad, hA, hd, _⟩ := at_pt HC.out (k := m) (by omega)
      have hd' : wr.cell? (ad.add (m * 2)) = some (.int .u64 (pget pts m).at_) := by
        obtain ⟨n, hn⟩ := HW.out
        rw [hn]; exact hd
      subst hA
      clear hd
      by_cases hq : (pget pts m).at_ < a
      · have hN1 : m < N := (HL.out _ (by omega)).1 hq
        go_wp2
        go_roundw
        case rel => exact ⟨m + 1, h, by omega, by omega, by omega, by go_num, rfl, HW.out⟩
        case measure => simp [intOf]; omega
      · have hN1 : ¬ m < N := fun e => hq ((HL.out _ (by omega)).2 e)
        go_wp2
        go_roundw
        case rel => exact ⟨l, m, by omega, by omega, by omega, rfl, by go_num, HW.out⟩
        case measure => simp [intOf]; omega
    · obtain rfl : l = N := by omega
      go_wp2
      go_ret
      obtain ⟨n, hn⟩ := HW.out
      exact ⟨rfl, n, hn⟩
end Go.Proofs.YtndgjhhhggkdmaaDoor
namespace Go.Proofs.YtndgjhhhggkdmaaDoor
set_option linter.unusedVariables false
open Go.RowKit Go.Proofs.YtndgjhhhggkdmaaDoorW.PrintWords

theorem block_add (a : Addr) (j : Nat) : (a.add j).block = a.block := by
  unfold Addr.add
  split <;> rfl
theorem pt_cells {w : World} {A : Option Addr} {n : Nat} {xs : List Pt} (h : kP.C w A n xs) {k : Nat} (hk : k < n) : ∃ ad, A = some ad ∧ ∀ W : World, Below w.heap.size w W → W.cell? (ad.add (k * 2)) = some (.int .u64 (pget xs k).at_) ∧ W.cell? ⟨(ad.add (k * 2)).block, (ad.add (k * 2)).off + 1, none⟩ = some (.int .i64 (pget xs k).node) := by
  obtain ⟨ad, e, c0, c1⟩ := at_pt h hk
  have hb : ad.block < w.heap.size := by
    have := World.block_lt_of_cell? w _ c0
    rwa [block_add] at this
  rw [add_field _ _ 1 (by omega)] at c1
  exact ⟨ad, e, fun W hW => ⟨(hW.cell (by rw [block_add]; exact hb)).trans c0, (hW.cell (p := ⟨(ad.add (k * 2)).block, (ad.add (k * 2)).off + 1, none⟩) (by rw [show (⟨(ad.add (k * 2)).block, (ad.add (k * 2)).off + 1, none⟩ : Addr).block = (ad.add (k * 2)).block from rfl, block_add]; exact hb)).trans c1⟩⟩

set_option maxHeartbeats 1000000 in
theorem pred_has (B : Nat) (nd : Int) (x : Pt) (W : World) (hc : W.cell? ⟨B, 0, none⟩ = some (.int .i64 nd)) :
    Calls Tryd.prog 49 #[.agg x.enc.toArray, .pointer (some ⟨B, 0, none⟩)] W fun e w' => e = .returned (.bool (x.node == nd)) ∧ Below W.heap.size W w' := by
  have hB : B < W.heap.size := World.block_lt_of_cell? W _ hc
  have hne : B ≠ W.heap.size := by omega
  show Calls Tryd.prog 49 #[.agg #[.int .u64 x.at_, .int .i64 x.node], .pointer (some ⟨B, 0, none⟩)] W _
  go_enter Tryd.func49, Tryd.ntmps49
  go_wp2
  go_ret
  exact ⟨rfl, (Below.refl _ _).alloc (Nat.le_refl _) _⟩
set_option maxHeartbeats 1000000 in
theorem pred_rem (B : Nat) (nd : Int) (x : Pt) (W : World) (hc : W.cell? ⟨B, 0, none⟩ = some (.int .i64 nd)) :
    Calls Tryd.prog 49 #[.agg x.enc.toArray, .pointer (some ⟨B, 0, none⟩)] W fun e w' => e = .returned (.bool (x.node == nd)) ∧ Below W.heap.size W w' := by
  have hB : B < W.heap.size := World.block_lt_of_cell? W _ hc
  have hne : B ≠ W.heap.size := by omega
  show Calls Tryd.prog 49 #[.agg #[.int .u64 x.at_, .int .i64 x.node], .pointer (some ⟨B, 0, none⟩)] W _
  go_enter Tryd.func49, Tryd.ntmps49
  go_wp2
  go_ret
  exact ⟨rfl, (Below.refl _ _).alloc (Nat.le_refl _) _⟩

/-- The first point of a node; -1: there is none. -/
def idxN (pts : List Pt) (nd : Int) : Int := match pts.findIdx? (fun x => x.node == nd) with | some i => i | none => -1
theorem idxN_hit {pts : List Pt} {nd : Int} {k : Nat} (hk : k < pts.length) (h : ((pget pts k).node == nd) = true) (h0 : ∀ j, j < k → ((pget pts j).node == nd) = false) : idxN pts nd = k := by
  unfold idxN
  rw [List.findIdx?_eq_some_iff_getElem.2 ⟨hk, by rwa [pget_eq hk] at h, fun j hj => by have := h0 j hj; rw [pget_eq (by omega)] at this; simp [this]⟩]
theorem idxN_none {pts : List Pt} {nd : Int} (h0 : ∀ j, j < pts.length → ((pget pts j).node == nd) = false) : idxN pts nd = -1 := by
  unfold idxN
  rw [List.findIdx?_eq_none_iff.2 fun x hx => by
    obtain ⟨j, hj, rfl⟩ := List.getElem_of_mem hx
    have := h0 j hj
    rwa [pget_eq hj] at this]
def hasN (pts : List Pt) (nd : Int) : Bool := pts.any (fun x => x.node == nd)
theorem idxN_has (pts : List Pt) (nd : Int) : decide (0 ≤ idxN pts nd) = hasN pts nd := by
  unfold idxN hasN
  cases h : pts.findIdx? (fun x => x.node == nd) with
  | none =>
    rw [List.findIdx?_eq_none_iff] at h
    symm
    simpa using h
  | some i =>
    obtain ⟨hi, h1, _⟩ := List.findIdx?_eq_some_iff_getElem.1 h
    have h2 : pts.any (fun x => x.node == nd) = true := List.any_eq_true.2 ⟨pts[i], List.getElem_mem hi, h1⟩
    rw [h2]
    simp

set_option maxHeartbeats 4000000 in
theorem Index_any (g B : Nat) (hg : g = 49 ∨ g = 49) (nd : Int) (A : Option Addr) (c : Nat) (pts : List Pt) (w : World) (hC : kP.C w A pts.length pts) (hc : w.cell? ⟨B, 0, none⟩ = some (.int .i64 nd)) :
    Calls Tryd.prog 58 #[.slice A pts.length c, .func (.func g) #[] #[.pointer (some ⟨B, 0, none⟩)]] w fun e w' => e = .returned (.int .i64 (idxN pts nd)) ∧ Below w.heap.size w w' := by
  have hB : B < w.heap.size := World.block_lt_of_cell? w _ hc
  have hp : ∀ (W : World) (x : Pt), Below w.heap.size w W → Calls Tryd.prog g #[.agg x.enc.toArray, .pointer (some ⟨B, 0, none⟩)] W fun e w' => e = .returned (.bool (x.node == nd)) ∧ Below w.heap.size w w' := fun W x hW => by
    have hc' : W.cell? ⟨B, 0, none⟩ = some (.int .i64 nd) := (hW.cell (p := ⟨B, 0, none⟩) hB).trans hc
    rcases hg with rfl | rfl
    · exact (pred_has B nd x W hc').mono fun e w' ⟨he, hb⟩ => ⟨he, hW.trans (hb.mono hW.size)⟩
    · exact (pred_rem B nd x W hc').mono fun e w' ⟨he, hb⟩ => ⟨he, hW.trans (hb.mono hW.size)⟩
  have eg : ∀ args w, (callFunc g args).run Tryd.prog w = .ok (.enter g args) w := by
    rcases hg with rfl | rfl
    · exact enters_of Tryd.func49 (by kernel_rfl) rfl
    · exact enters_of Tryd.func49 (by kernel_rfl) rfl
  have hl : pts.length ≤ 9223372036854775807 := hC.2.1
  have HC := Lib.hid hC
  have HP := Lib.hid hp
  clear hC hp hc hg
  go_enter Tryd.func58, Tryd.ntmps58
  go_wp2
  go_loopw [5, 8] (fun _ i wr => ∃ k : Nat, k ≤ pts.length ∧ i = .int .i64 k ∧ Hid (Below w.heap.size w wr ∧ ∀ j, j < k → ((pget pts j).node == nd) = false)) (fun _ i _ => pts.length - (intOf i).toNat)
  case atStart => exact ⟨0, Nat.zero_le _, rfl, Below.refl _ _, fun j hj => absurd hj (Nat.not_lt_zero _)⟩
  case round =>
    obtain ⟨k, hk, rfl, HD⟩ := hrel
    by_cases hlt : k < pts.length
    · obtain ⟨ad, hA, hld⟩ := pt_cells HC.out hlt
      obtain ⟨l2, l3⟩ := hld wr HD.out.1
      subst hA
      clear hld
      have hcall := HP.out wr (pget pts k) HD.out.1
      cases hq : ((pget pts k).node == nd) with
      | true =>
        rw [hq] at hcall
        have HQ := Lib.hid hq
        clear hq
        go_wp2_with (go_at_fn g; refine hcall.mono ?_; rintro e w' ⟨rfl, hb'⟩; have HB := Lib.hid hb'; clear hb')
        go_ret
        exact ⟨ret_int (idxN_hit hlt HQ.out HD.out.2).symm, HB.out⟩
      | false =>
        rw [hq] at hcall
        have HQ := Lib.hid hq
        clear hq
        go_wp2_with (go_at_fn g; refine hcall.mono ?_; rintro e w' ⟨rfl, hb'⟩; have HB := Lib.hid hb'; clear hb')
        go_roundw
        case rel =>
          refine ⟨k + 1, by omega, by go_num, HB.out, fun j hj => ?_⟩
          rcases Nat.lt_or_ge j k with h | h
          · exact HD.out.2 j h
          · obtain rfl : j = k := by omega
            exact HQ.out
        case measure => simp [intOf]; omega
    · obtain rfl : k = pts.length := by omega
      go_wp2
      go_ret
      exact ⟨ret_int (idxN_none HD.out.2).symm, HD.out.1⟩

set_option maxHeartbeats 1000000 in
theorem Contains_any (B : Nat) (nd : Int) (A : Option Addr) (c : Nat) (pts : List Pt) (w : World) (hC : kP.C w A pts.length pts) (hc : w.cell? ⟨B, 0, none⟩ = some (.int .i64 nd)) :
    Calls Tryd.prog 48 #[.slice A pts.length c, .func (.func 49) #[] #[.pointer (some ⟨B, 0, none⟩)]] w fun e w' => e = .returned (.bool (hasN pts nd)) ∧ Below w.heap.size w w' := by
  have hcall := Index_any 49 B (.inl rfl) nd A c pts w hC hc
  have hd := idxN_has pts nd
  have HC := Lib.hid hC
  clear hC hc
  go_enter Tryd.func48, Tryd.ntmps48
  go_wp2_with (go_at_call 58; refine hcall.mono ?_; rintro e w' ⟨rfl, hb⟩; have HB := Lib.hid hb; clear hb)
  go_ret
  exact ⟨rfl, HB.out⟩

set_option maxHeartbeats 1000000 in
theorem has_any (p : Nat) (each : Int) (v : Value) (pts : List Pt) (nd : Int) (w : World) (hS : IsRg w p each v pts) :
    Calls Tryd.prog 36 #[.pointer (some ⟨p, 0, none⟩), .int .i64 nd] w fun e w' => e = .returned (.bool (hasN pts nd)) ∧ Below w.heap.size w w' := by
  obtain ⟨A, c, hv, hc, hC⟩ := Kd.R_reads hS.row
  subst hv
  have c1 := hS.cell1
  have hp := hS.lt
  have hne : p ≠ w.heap.size := by omega
  have hb : Below w.heap.size w (w.alloc (.cells #[.int .i64 nd] 3)) := (Below.refl _ _).alloc (Nat.le_refl _) _
  have hcall := Contains_any w.heap.size nd A c pts (w.alloc (.cells #[.int .i64 nd] 3)) (Kd.C_below hC hb) (by simp)
  have HB0 := Lib.hid hb
  clear hS hC hb
  go_enter Tryd.func36, Tryd.ntmps36
  go_wp2_with (go_at_call 48; refine hcall.mono ?_; rintro e w' ⟨rfl, hb⟩; have HB := Lib.hid hb; clear hb)
  go_ret
  exact ⟨rfl, HB0.out.trans (HB.out.mono (by simp))⟩
end Go.Proofs.YtndgjhhhggkdmaaDoor
namespace Go.Proofs.YtndgjhhhggkdmaaDoor
set_option linter.unusedVariables false
open Go.RowKit Go.Proofs.YtndgjhhhggkdmaaDoorW.PrintWords

theorem flat_set (x : Pt) : ∀ (L : List Pt) (i : Nat), i < L.length → (L.set i x).flatMap Pt.enc = ((L.flatMap Pt.enc).set (i * 2) (.int .u64 x.at_)).set (i * 2 + 1) (.int .i64 x.node)
  | [], _, h => by simp at h
  | y :: r, 0, _ => by simp [Pt.enc]
  | y :: r, i + 1, h => by
    have ih := flat_set x r i (by simpa using h)
    rw [List.set_cons_succ, List.flatMap_cons, ih, List.flatMap_cons, show (i + 1) * 2 = i * 2 + 1 + 1 by omega]
    simp [Pt.enc]
theorem flat_get (L : List Pt) (i : Nat) (h : i < L.length) : (L.flatMap Pt.enc)[i * 2]? = some (.int .u64 (pget L i).at_) ∧ (L.flatMap Pt.enc)[i * 2 + 1]? = some (.int .i64 (pget L i).node) := by
  have h1 := flat_drop enc_len L i
  rw [List.drop_eq_getElem_cons h, List.flatMap_cons] at h1
  rw [pget_eq h]
  constructor
  · rw [show i * 2 = i * 2 + 0 by omega, ← List.getElem?_drop, h1]; rfl
  · rw [← List.getElem?_drop, h1]; rfl
theorem OwnP.block {w : World} {base g n cap : Nat} {L : List Pt} (h : OwnP w base (.slice (some ⟨g, 0, none⟩) n cap) L) : n = L.length ∧ ∃ cur, base ≤ g ∧ w.heap[g]? = some (.cells cur 81 (0, 0)) ∧ n ≤ cap ∧ cap ≤ maxLen ∧ cur.size = cap * 2 ∧ cur.toList.take (n * 2) = L.flatMap Pt.enc := by
  rcases h.2 with ⟨he, _⟩ | ⟨g', cap', cur, he, h1, h2, h3, h4, h5, h6⟩
  · cases he
  · injection he with e1 e2 e3
    injection e1 with e1
    injection e1 with e1
    subst e1
    subst e3
    exact ⟨e2, cur, h1, h2, e2 ▸ h3, h4, h5, e2 ▸ h6⟩
theorem OwnP.mk {w : World} {base g cap : Nat} {L : List Pt} {cur : Array Value} (h1 : base ≤ g) (h2 : w.heap[g]? = some (.cells cur 81 (0, 0))) (h3 : L.length ≤ cap) (h4 : cap ≤ maxLen) (h5 : cur.size = cap * 2) (h6 : cur.toList.take (L.length * 2) = L.flatMap Pt.enc) : OwnP w base (.slice (some ⟨g, 0, none⟩) L.length cap) L :=
  ⟨flat_len enc_len _, .inr ⟨g, cap, cur, rfl, h1, h2, h3, h4, h5, h6⟩⟩
theorem OwnP.cells {w : World} {base g n cap : Nat} {L : List Pt} (h : OwnP w base (.slice (some ⟨g, 0, none⟩) n cap) L) {i : Nat} (hi : i < L.length) :
    w.cell? ⟨g, i * 2, none⟩ = some (.int .u64 (pget L i).at_) ∧ w.cell? ⟨g, i * 2 + 1, none⟩ = some (.int .i64 (pget L i).node) ∧ (∀ j, w.frozen? ⟨g, j, none⟩ = false) := by
  obtain ⟨hn, cur, h1, h2, h3, h4, h5, h6⟩ := h.block
  obtain ⟨g1, g2⟩ := flat_get L i hi
  rw [← h6, List.getElem?_take] at g1 g2
  rw [if_pos (by omega)] at g1 g2
  refine ⟨?_, ?_, fun j => by simp [World.frozen?, h2]⟩
  · rw [cell_row h2]; simpa using g1
  · rw [cell_row h2]; simpa using g2
theorem OwnP.set {w : World} {base g n cap : Nat} {L : List Pt} (h : OwnP w base (.slice (some ⟨g, 0, none⟩) n cap) L) {i : Nat} (hi : i < L.length) (x : Pt) :
    OwnP ((w.setCell ⟨g, i * 2, none⟩ (.int .u64 x.at_)).setCell ⟨g, i * 2 + 1, none⟩ (.int .i64 x.node)) base (.slice (some ⟨g, 0, none⟩) n cap) (L.set i x) := by
  obtain ⟨hn, cur, h1, h2, h3, h4, h5, h6⟩ := h.block
  rw [setCell_eq_setRow w g (i * 2) cur _ _ _ h2, setCell_eq_setRow _ g (i * 2 + 1) _ _ _ _ (setRow_heap w g cur _ _ _ h2), setRow_setRow]
  subst hn
  rw [show L.length = (L.set i x).length by simp]
  refine OwnP.mk h1 (setRow_heap w g cur _ _ _ h2) (by simpa using h3) h4 (by simp [h5]) ?_
  rw [flat_set x L i hi, ← h6]
  simp [List.take_set]
theorem zero_len : (Builtin.zeroCells (Value.agg #[.int .u64 0, .int .i64 0]).cells 1).size = 2 := by rw [size_zeroCells]; rfl
theorem zero_pt (w : World) : (zeroValue 81).run Tryd.prog w = .ok (.agg #[.int .u64 0, .int .i64 0]) w := by kernel_rfl
theorem zero_one (m : Nat) : ∀ v ∈ (Builtin.zeroCells (Value.agg #[.int .u64 0, .int .i64 0]).cells m).toList, v.oneCell' = true := by
  intro v hv
  simp only [Builtin.zeroCells, Value.cells, Array.toList_map, List.mem_map] at hv
  obtain ⟨j, _, rfl⟩ := hv
  have : j % 2 = 0 ∨ j % 2 = 1 := by omega
  show (#[Value.int .u64 0, .int .i64 0][j % 2]!).oneCell' = true
  rcases this with h | h <;> rw [h] <;> rfl
theorem OwnP.cut {w : World} {base g n cap : Nat} {L : List Pt} (h : OwnP w base (.slice (some ⟨g, 0, none⟩) n cap) L) {i : Nat} (hi : i < L.length) :
    ∃ row : Array Value, (∀ ty, (Builtin.clear_ #[74] ty #[.slice (some ⟨g, i * 2, none⟩) (n - i) (cap - i)]).run Tryd.prog w = .ok (.tuple #[]) (w.setRow g row)) ∧ OwnP (w.setRow g row) base (.slice (some ⟨g, 0, none⟩) i cap) (L.take i) := by
  obtain ⟨hn, cur, h1, h2, h3, h4, h5, h6⟩ := h.block
  obtain ⟨m, hm⟩ : ∃ m, n - i = m + 1 := ⟨n - i - 1, by omega⟩
  obtain ⟨Z, hZ⟩ : ∃ Z, Z = (Builtin.zeroCells (Value.agg #[.int .u64 0, .int .i64 0]).cells (m + 1)).toList := ⟨_, rfl⟩
  have hZl : Z.length = (m + 1) * 2 := by rw [hZ, Array.length_toList, size_zeroCells]; rfl
  have hst := run_storeCells_at Tryd.prog g (i * 2) _ Z 0 cur w h2 (by rw [hZl]; omega) (by rw [hZ]; exact zero_one _)
  simp only [Nat.add_zero] at hst
  refine ⟨(cur.toList.take (i * 2) ++ Z ++ cur.toList.drop (i * 2 + Z.length)).toArray, ?_, ?_⟩
  · intro ty
    rw [hm]
    simp [Builtin.clear_, run_underlying Tryd.underlying74, zero_pt, ← hZ, hst]
  · have hl : (L.take i).length = i := by rw [List.length_take]; omega
    have hcl : cur.toList.length = cap * 2 := by rw [Array.length_toList, h5]
    rw [show (Value.slice (some ⟨g, 0, none⟩) i cap) = .slice (some ⟨g, 0, none⟩) (L.take i).length cap by rw [hl]]
    refine OwnP.mk h1 (setRow_heap w g cur _ _ _ h2) (by omega) h4 (by simp only [List.size_toArray, List.length_append, List.length_take, List.length_drop, hcl, hZl]; omega) ?_
    rw [hl, ← flat_take enc_len, ← h6, List.take_take, show min (i * 2) (n * 2) = i * 2 by omega]
    rw [List.append_assoc, List.take_append_of_le_length (by simp only [List.length_take, hcl]; omega), List.take_take, Nat.min_self]
end Go.Proofs.YtndgjhhhggkdmaaDoor
namespace Go.Proofs.YtndgjhhhggkdmaaDoor
set_option linter.unusedVariables false
open Go.RowKit Go.Proofs.YtndgjhhhggkdmaaDoorW.PrintWords

theorem OwnP.later {w w' : World} {base : Nat} {v : Value} {L : List Pt} (h : OwnP w base v L) (hb : Below w.heap.size w w') : OwnP w' base v L := OwnP.of_R (Kd.R_below h.to_R hb)
theorem bel_alloc (w : World) (o : Obj) : Below w.heap.size w (w.alloc o) := (Below.refl _ _).alloc (Nat.le_refl _) _
theorem grown_below {w w' : World} {r : Option Nat} (h : Below w.heap.size w w') : w.grownBy w' r := ⟨h.os, h.tape, h.output, h.size, fun k hk _ => h.block k hk⟩
theorem _root_.Go.World.grownBy.alloc {w w' : World} {r : Option Nat} (h : w.grownBy w' r) (o : Obj) : w.grownBy (w'.alloc o) r :=
  ⟨h.os, h.tape, h.output, Nat.le_trans h.size (by simp), fun k hk hn => (Below.heap_alloc w' o k (Nat.lt_of_lt_of_le hk h.size)).trans (h.block k hk hn)⟩
theorem grown_set {w w' : World} {g : Nat} (h : w.grownBy w' (some g)) (j : Nat) (v : Value) : w.grownBy (w'.setCell ⟨g, j, none⟩ v) (some g) :=
  ⟨h.os, h.tape, h.output, Nat.le_trans h.size (by simp [World.setCell]), fun k hk hn => (Below.heap_setCell w' ⟨g, j, none⟩ v k (fun e => hn (by rw [e]))).trans (h.block k hk hn)⟩
theorem grown_set2 {w w' : World} {g : Nat} (h : w.grownBy w' (some g)) (j k : Nat) (v u : Value) : w.grownBy ((w'.setCell ⟨g, j, none⟩ v).setCell ⟨g, k, none⟩ u) (some g) := grown_set (grown_set h j v) k u
theorem grown_row {w w' : World} {g : Nat} (h : w.grownBy w' (some g)) (row : Array Value) : w.grownBy (w'.setRow g row) (some g) :=
  ⟨h.os, h.tape, h.output, Nat.le_trans h.size (by simp), fun k hk hn => (setRow_ne w' g k row (fun e => hn (by rw [e]))).trans (h.block k hk hn)⟩
def dropN (pts : List Pt) (nd : Int) : List Pt := pts.filter (fun x => !(x.node == nd))

end Go.Proofs.YtndgjhhhggkdmaaDoor
namespace Go.Proofs.YtndgjhhhggkdmaaDoor
set_option linter.unusedVariables false
open Go.RowKit Go.Proofs.YtndgjhhhggkdmaaDoorW.PrintWords

def Rising (L : List Pt) : Prop := L.Pairwise (fun x y => x.at_ ≤ y.at_)
/-- How many points stand ahead of a place. -/
def nextN (L : List Pt) (a : Int) : Nat := L.countP (fun x => decide (x.at_ < a))
theorem nextN_le (L : List Pt) (a : Int) : nextN L a ≤ L.length := List.countP_le_length
theorem nextN_take : ∀ (L : List Pt) (a : Int), Rising L → ∀ j, j < L.length → ((pget L j).at_ < a ↔ j < nextN L a)
  | [], _, _, j, h => by simp at h
  | x :: r, a, hR, j, h => by
    obtain ⟨h1, h2⟩ := List.pairwise_cons.1 hR
    by_cases hx : x.at_ < a
    · have hc : nextN (x :: r) a = nextN r a + 1 := by simp [nextN, hx]
      rw [hc]
      cases j with
      | zero => simp [pget, hx]
      | succ j =>
        have ih := nextN_take r a h2 j (by simpa using h)
        have hp : pget (x :: r) (j + 1) = pget r j := by simp [pget]
        rw [hp, ih]
        omega
    · have hr : nextN r a = 0 := by
        rw [nextN, List.countP_eq_zero]
        intro y hy
        have := h1 y hy
        simp
        omega
      have hc : nextN (x :: r) a = 0 := by
        have : nextN (x :: r) a = nextN r a := by simp [nextN, hx]
        omega
      rw [hc]
      have hp : x.at_ ≤ (pget (x :: r) j).at_ := by
        cases j with
        | zero => simp [pget]
        | succ j =>
          have hj : j < r.length := by simpa using h
          have : pget (x :: r) (j + 1) = r[j] := by simp [pget, hj]
          rw [this]
          exact h1 _ (List.getElem_mem hj)
      omega
theorem rising_get {L : List Pt} (h : Rising L) {j k : Nat} (hjk : j < k) (hk : k < L.length) : (pget L j).at_ ≤ (pget L k).at_ := by
  rw [pget_eq hk, pget_eq (by omega)]
  exact List.pairwise_iff_getElem.1 h j k (by omega) hk hjk
/-- A point more, at its place. -/
def put (L : List Pt) (x : Pt) : List Pt := ins L (nextN L x.at_) x
theorem mem_take_lt {L : List Pt} (h : Rising L) (a : Int) {y : Pt} (hy : y ∈ L.take (nextN L a)) : y.at_ < a := by
  obtain ⟨j, hj, rfl⟩ := List.getElem_of_mem hy
  have hj1 : j < nextN L a := by simp at hj; omega
  have hj2 : j < L.length := by simp at hj; omega
  have := (nextN_take L a h j hj2).2 hj1
  rw [pget_eq hj2] at this
  simpa using this
theorem mem_drop_ge {L : List Pt} (h : Rising L) (a : Int) {y : Pt} (hy : y ∈ L.drop (nextN L a)) : a ≤ y.at_ := by
  obtain ⟨j, hj, rfl⟩ := List.getElem_of_mem hy
  have hj2 : nextN L a + j < L.length := by simp at hj; omega
  have := mt (nextN_take L a h _ hj2).1 (by omega)
  rw [pget_eq hj2] at this
  simp
  omega
theorem put_rising {L : List Pt} (h : Rising L) (x : Pt) : Rising (put L x) := by
  unfold put ins Rising
  rw [List.pairwise_append]
  refine ⟨h.sublist (List.take_sublist _ _), List.pairwise_cons.2 ⟨fun y hy => mem_drop_ge h _ hy, h.sublist (List.drop_sublist _ _)⟩, fun y hy z hz => ?_⟩
  have h1 := mem_take_lt h _ hy
  rcases List.mem_cons.1 hz with rfl | hz
  · omega
  · have := mem_drop_ge h _ hz
    omega
theorem put_len (L : List Pt) (x : Pt) : (put L x).length = L.length + 1 := ins_len _ _ _ (nextN_le _ _)
theorem mem_put {L : List Pt} {x y : Pt} : y ∈ put L x ↔ y = x ∨ y ∈ L := by
  unfold put ins
  rw [List.mem_append, List.mem_cons]
  conv => rhs; rw [← List.take_append_drop (nextN L x.at_) L, List.mem_append]
  rw [or_left_comm]
/-- The first points of a node more. -/
def addTo (L : List Pt) (nd : Int) : Nat → List Pt
  | 0 => L
  | i + 1 => put (addTo L nd i) ⟨atI nd i, nd⟩
theorem addTo_rising {L : List Pt} (h : Rising L) (nd : Int) : ∀ i, Rising (addTo L nd i)
  | 0 => h
  | i + 1 => put_rising (addTo_rising h nd i) _
theorem addTo_len (L : List Pt) (nd : Int) : ∀ i, (addTo L nd i).length = L.length + i
  | 0 => rfl
  | i + 1 => by rw [addTo, put_len, addTo_len L nd i]; omega
theorem mem_addTo {L : List Pt} {nd : Int} {y : Pt} : ∀ {i : Nat}, y ∈ addTo L nd i ↔ y ∈ L ∨ ∃ j : Nat, j < i ∧ y = ⟨atI nd j, nd⟩
  | 0 => by simp [addTo]
  | i + 1 => by
    rw [addTo, mem_put, mem_addTo (i := i)]
    constructor
    · rintro (rfl | h | ⟨j, hj, rfl⟩)
      · exact .inr ⟨i, by omega, rfl⟩
      · exact .inl h
      · exact .inr ⟨j, by omega, rfl⟩
    · rintro (h | ⟨j, hj, rfl⟩)
      · exact .inr (.inl h)
      · by_cases e : j = i
        · subst e; exact .inl rfl
        · exact .inr (.inr ⟨j, by omega, rfl⟩)
theorem dropN_rising {L : List Pt} (h : Rising L) (nd : Int) : Rising (dropN L nd) := h.sublist List.filter_sublist
theorem dropN_none {L : List Pt} {nd : Int} (h : hasN L nd = false) : dropN L nd = L := by
  unfold dropN
  rw [List.filter_eq_self]
  intro y hy
  have := List.any_eq_false.1 h y hy
  simpa using this
/-- The nodes that have been met, going on from point N, so many points. -/
def ownTo (L : List Pt) (N : Nat) (most : Int) : Nat → List Int
  | 0 => []
  | i + 1 => if most ≤ (ownTo L N most i).length then ownTo L N most i else if (pget L ((N + i) % L.length)).node ∈ ownTo L N most i then ownTo L N most i else ownTo L N most i ++ [(pget L ((N + i) % L.length)).node]
theorem ownTo_len (L : List Pt) (N : Nat) (most : Int) : ∀ i, (ownTo L N most i).length ≤ i
  | 0 => by simp [ownTo]
  | i + 1 => by
    have := ownTo_len L N most i
    rw [ownTo]
    split
    · omega
    · split
      · omega
      · simp; omega
theorem ownTo_stop (L : List Pt) (N : Nat) (most : Int) {i : Nat} (h : most ≤ (ownTo L N most i).length) : ∀ k, ownTo L N most (i + k) = ownTo L N most i
  | 0 => rfl
  | k + 1 => by
    have ih := ownTo_stop L N most h k
    rw [← Nat.add_assoc, ownTo, ih, if_pos h]
def ownersN (L : List Pt) (h : Int) (most : Int) : List Int := ownTo L (nextN L h) most L.length
def ownerN (L : List Pt) (h : Int) : Int := (ownersN L h 1).headD 0
def shareN (L : List Pt) (nd : Int) : List ByteArray → Int
  | [] => 0
  | k :: r => (if ownerN L (hashI k) = nd then 1 else 0) + shareN L nd r
/-- The nodes of a ring, rising. -/
def nodesN (L : List Pt) (n : Nat) : List Int := ((List.range n).map (fun k : Nat => (k : Int))).filter (hasN L)
end Go.Proofs.YtndgjhhhggkdmaaDoor
