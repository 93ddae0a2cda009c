/- A ring in memory; the contracts of New, At, next, has. -/
import Derived.Test.YtdaliiaagkhhhaaDoorIns2
import Derived.Test.YtdaliiaagkhhhaaDoorBloomM
import Derived.Test.YtdaliiaagkhhhaaDoorErr2
import Derived.Deep.QuietTactic
import Derived.BigQuiet
import Derived.Deep.OwnRows
import Derived.Deep.LoopGhost
import Derived.Lib.Hide
namespace Go.Proofs.YtdaliiaagkhhhaaDoor
set_option linter.unusedVariables false
open Go.RowKit Go.Proofs.YtdaliiaagkhhhaaDoorW.PrintWords

def pget (xs : List Pt) (k : Nat) : Pt := xs.getD k ⟨0, 0⟩
theorem pget_eq {xs : List Pt} {k : Nat} (h : k < xs.length) : pget xs k = xs[k] := by simp [pget, h]
theorem take_p {xs : List Pt} {k : Nat} (h : k < xs.length) : xs.take (k + 1) = xs.take k ++ [pget xs k] := by rw [List.take_succ_eq_append_getElem h, pget_eq h]
theorem at_pt {w : World} {A : Option Addr} {n : Nat} {xs : List Pt} (h : kP.C w A n xs) {k : Nat} (hk : k < n) : ∃ ad, A = some ad ∧ w.cell? (ad.add (k * 2)) = some (.int .u64 (pget xs k).at_) ∧ w.cell? (ad.add (k * 2 + 1)) = some (.int .i64 (pget xs k).node) := by
  obtain ⟨ad, c, e, _, hK, hc⟩ := Kd.C_get h ⟨0, 0⟩ (k : Int) (by omega) (by omega)
  obtain ⟨_, _, rfl, rfl, rfl⟩ := hK
  refine ⟨ad, e, ?_, ?_⟩
  · have := hc 0 _ rfl
    simpa [pget, kP_sz] using this
  · have := hc 1 _ rfl
    simpa [pget, kP_sz] using this

/-- A ring: its head in block p, its points in a block of their own, that was made later. -/
structure IsRg (w : World) (p : Nat) (each : Int) (v : Value) (pts : List Pt) : Prop where
  head : w.heap[p]? = some (.cells #[.int .i64 each, v] 58 (0, 0))
  row : kP.R 66 w (p + 1) (fun _ => True) v pts
namespace IsRg
variable {w w' : World} {p : Nat} {each : Int} {v : Value} {pts : List Pt}
theorem lt (h : IsRg w p each v pts) : p < w.heap.size := (Array.getElem?_eq_some_iff.1 h.head).1
theorem later (h : IsRg w p each v pts) (hb : Below w.heap.size w w') : IsRg w' p each v pts := ⟨(hb.block p h.lt).trans h.head, Kd.R_below h.row hb⟩
theorem drewN (h : IsRg w p each v pts) (n : Nat) : IsRg (w.drewN n) p each v pts := ⟨h.head, h.row⟩
theorem cell0 (h : IsRg w p each v pts) : w.cell? ⟨p, 0, none⟩ = some (.int .i64 each) := cell_row h.head 0
theorem cell1 (h : IsRg w p each v pts) : w.cell? ⟨p, 1, none⟩ = some v := cell_row h.head 1
theorem fro (h : IsRg w p each v pts) (j : Nat) : w.frozen? ⟨p, j, none⟩ = false := by simp [World.frozen?, h.head]
end IsRg

set_option maxHeartbeats 1000000 in
theorem New_ok (n : Int) (w : World) (h1 : 1 ≤ n) (h2 : n ≤ 64) :
    Calls Tryd.prog 8 #[.int .i64 n] w fun e w' => e = .returned (.tuple #[.pointer (some ⟨w.heap.size, 0, none⟩), .nilIface]) ∧ IsRg w' w.heap.size n (.slice none 0 0) [] ∧ Below w.heap.size w w' ∧ w.heap.size < w'.heap.size := by
  go_enter Tryd.func8, Tryd.ntmps8
  go_wp2
  go_ret2
  exact ⟨rfl, ⟨heap_alloc_new _ _, Kd.R_nil _ _ _ _ _⟩, (Below.refl _ _).alloc (Nat.le_refl _) _, by simp⟩

set_option maxHeartbeats 1000000 in
theorem New_bad (n : Int) (w : World) (h : n < 1 ∨ 64 < n) :
    Calls Tryd.prog 8 #[.int .i64 n] w fun e w' => ∃ op at_, e = .returned (.tuple #[.pointer none, faultV w.heap.size]) ∧ w' = w.alloc (faultO op at_ 2 .nilIface) := by
  have H := Lib.hid h
  clear h
  by_cases h1 : n < 1
  · go_enter Tryd.func8, Tryd.ntmps8
    go_wp2_with (go_at_call 25; refine (new_any _ _ 2 rfl _).mono ?_; rintro e w' ⟨rfl, rfl⟩)
    go_ret2
    exact ⟨_, _, rfl, rfl⟩
  · have h2 : 64 < n := by have := H.out; omega
    go_enter Tryd.func8, Tryd.ntmps8
    go_wp2_with (go_at_call 25; refine (new_any _ _ 2 rfl _).mono ?_; rintro e w' ⟨rfl, rfl⟩)
    go_ret2
    exact ⟨_, _, rfl, rfl⟩

/-- A node's point. -/
def atI (node i : Int) : Int := mixI (bits .or .u64 (IntKind.u64.wrap (IntKind.u64.wrap node * 256)) (IntKind.u64.wrap i))
set_option maxHeartbeats 1000000 in
theorem at_any (node i : Int) (w : World) :
    Calls Tryd.prog 23 #[.int .i64 node, .int .i64 i] w fun e w' => e = .returned (.int .u64 (atI node i)) ∧ w = w' := by
  go_enter Tryd.func23, Tryd.ntmps23
  go_wp2_with (go_at_call 36; refine (mix_any _ _).mono ?_; rintro e w' ⟨rfl, rfl⟩)
  go_ret
  exact ⟨rfl, rfl⟩

theorem half (l h : Nat) : ((l : Int) + (h : Int)) / 2 = (((l + h) / 2 : Nat) : Int) := by omega
set_option maxHeartbeats 2000000 in
/-- next, where N is how many points stand ahead of a. -/
theorem next_any (p : Nat) (each : Int) (v : Value) (pts : List Pt) (a : Int) (N : Nat) (w : World) (hS : IsRg w p each v pts) (hN : N ≤ pts.length) (hlt : ∀ j, j < pts.length → ((pget pts j).at_ < a ↔ j < N)) (hl : pts.length ≤ 1000000) :
    Calls Tryd.prog 28 #[.pointer (some ⟨p, 0, none⟩), .int .u64 a] w fun e w' => e = .returned (.int .i64 N) ∧ ∃ n, w' = w.drewN n := by
  obtain ⟨A, c, hv, hc, hC⟩ := Kd.R_reads hS.row
  subst hv
  have c1 := hS.cell1
  have HS := Lib.hid hS
  have HC := Lib.hid hC
  have HL := Lib.hid hlt
  clear hS hC hlt
  go_enter Tryd.func28, Tryd.ntmps28
  go_wp2
  go_quiet (skip)
  go_wp2
  go_loopw [5, 6] (fun x y wr => ∃ l h : Nat, l ≤ N ∧ N ≤ h ∧ h ≤ pts.length ∧ x = .int .i64 l ∧ y = .int .i64 h ∧ Hid (∃ n, wr = w.drewN n)) (fun x y _ => (intOf y - intOf x).toNat)
  case atStart => exact ⟨0, pts.length, Nat.zero_le _, hN, Nat.le_refl _, rfl, rfl, ⟨_, rfl⟩⟩
  case round =>
    obtain ⟨l, h, hlN, hNh, hhl, rfl, rfl, HW⟩ := hrel
    by_cases hlh : l < h
    · obtain ⟨m, hm, hm1, hm2⟩ : ∃ m : Nat, ((l : Int) + (h : Int)) / 2 = (m : Int) ∧ l ≤ m ∧ m < h := ⟨(l + h) / 2, half l h, by omega, by omega⟩
      have c2 : wr.cell? ⟨p, 1, none⟩ = some (.slice A pts.length c) := by
        obtain ⟨n, hn⟩ := HW.out
        rw [hn]; exact c1
      obtain ⟨ad, hA, hd, _⟩ := at_pt HC.out (k := m) (by omega)
      have hd' : wr.cell? (ad.add (m * 2)) = some (.int .u64 (pget pts m).at_) := by
        obtain ⟨n, hn⟩ := HW.out
        rw [hn]; exact hd
      subst hA
      clear hd
      by_cases hq : (pget pts m).at_ < a
      · have hN1 : m < N := (HL.out _ (by omega)).1 hq
        go_wp2
        go_roundw
        case rel => exact ⟨m + 1, h, by omega, by omega, by omega, by go_num, rfl, HW.out⟩
        case measure => simp [intOf]; omega
      · have hN1 : ¬ m < N := fun e => hq ((HL.out _ (by omega)).2 e)
        go_wp2
        go_roundw
        case rel => exact ⟨l, m, by omega, by omega, by omega, rfl, by go_num, HW.out⟩
        case measure => simp [intOf]; omega
    · obtain rfl : l = N := by omega
      go_wp2
      go_ret
      obtain ⟨n, hn⟩ := HW.out
      exact ⟨rfl, n, hn⟩
end Go.Proofs.YtdaliiaagkhhhaaDoor
