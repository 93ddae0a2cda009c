/- A sketch in memory; the contracts of its readers. -/
import Derived.Test.YtpjdaglblckgfaaDoorBloom
import Derived.Deep.QuietTactic
import Derived.BigQuiet
import Derived.Deep.OwnRows
import Derived.Deep.LoopGhost
import Derived.Lib.Hide
namespace Go.Proofs.YtpjdaglblckgfaaDoor
set_option linter.unusedVariables false
open Go.RowKit

def atI (row hash width : Int) : Int := mixI (IntKind.u64.wrap (hash + IntKind.u64.wrap (IntKind.u64.wrap row * 11400714819323198485))) % width

set_option maxHeartbeats 400000 in
theorem at_any (p : Nat) (r width hash : Int) (w : World) (w1 : 1 ≤ width) (w2 : width ≤ 4096)
    (hc : w.cell? ⟨p, 0, none⟩ = some (.int .i64 width)) :
    Calls Tryd.prog 35 #[.pointer (some ⟨p, 0, none⟩), .int .i64 r, .int .u64 hash] w fun e w' => e = .returned (.int .i64 (atI r hash width)) ∧ ∃ n, w' = w.drewN n := by
  obtain ⟨b0, b1⟩ := mixI_bd (IntKind.u64.wrap (hash + IntKind.u64.wrap (IntKind.u64.wrap r * 11400714819323198485)))
  go_enter Tryd.func35, Tryd.ntmps35
  go_wp2
  go_quiet (first | (go_at_call 43; exact quiet_eq (mix_any _ _)) | (go_at_call 44; exact quiet_eq (slot_pos _ _ b0 b1 w1 (by omega) _)))
  go_wp2
  go_ret
  exact ⟨rfl, _, rfl⟩

theorem atI_bd (row hash width : Int) (w1 : 1 ≤ width) : 0 ≤ atI row hash width ∧ atI row hash width < width :=
  ⟨Int.emod_nonneg _ (by omega), Int.emod_lt_of_pos _ (by omega)⟩

/-- A sketch: how wide, its four rows of counts, how much was counted, behind how much all grows old, how often it did. -/
structure Sk where
  width : Nat
  row : Nat → Nat → Int
  total : Int
  limit : Int
  aged : Int
def Sk.cells (S : Sk) (B : Nat → Nat) (i : Nat) : Value :=
  if i = 0 then .int .i64 S.width else if i < 5 then .slice (some ⟨B (i - 1), 0, none⟩) S.width S.width
  else if i = 5 then .int .i64 S.total else if i = 6 then .int .i64 S.limit else .int .i64 S.aged
/-- .. in memory: its head in block p, its rows in blocks B 0 to B 3. -/
structure IsSk (w : World) (p : Nat) (B : Nat → Nat) (S : Sk) : Prop where
  w1 : 1 ≤ S.width
  w2 : S.width ≤ 4096
  head : w.rowIs p 62 8 (S.cells B)
  row : ∀ r, r < 4 → w.rowIs (B r) 5 S.width (fun k => .int .u8 (S.row r k))
  apart : ∀ r, r < 4 → B r ≠ p
  inj : ∀ r s, r < 4 → s < 4 → r ≠ s → B r ≠ B s
  bd : ∀ r k, r < 4 → k < S.width → 0 ≤ S.row r k ∧ S.row r k ≤ 255

theorem IsSk.move {w w' : World} {p : Nat} {B : Nat → Nat} {S : Sk} (h : IsSk w p B S) (hp : w'.heap[p]? = w.heap[p]?) (hr : ∀ r, r < 4 → w'.heap[B r]? = w.heap[B r]?) : IsSk w' p B S :=
  ⟨h.w1, h.w2, h.head.of_block hp, fun r hr' => (h.row r hr').of_block (hr r hr'), h.apart, h.inj, h.bd⟩
theorem IsSk.of_heap {w w' : World} {p : Nat} {B : Nat → Nat} {S : Sk} (h : IsSk w p B S) (hh : w'.heap = w.heap) : IsSk w' p B S :=
  h.move (by rw [hh]) (fun r _ => by rw [hh])
theorem IsSk.drewN {w : World} {p : Nat} {B : Nat → Nat} {S : Sk} (h : IsSk w p B S) (n : Nat) : IsSk (w.drewN n) p B S := h.of_heap rfl
theorem IsSk.later {w w' : World} {p : Nat} {B : Nat → Nat} {S : Sk} (h : IsSk w p B S) (hb : Below w.heap.size w w') : IsSk w' p B S :=
  h.move (hb.block p h.head.lt) (fun r hr => hb.block _ (h.row r hr).lt)
section
variable {w : World} {p : Nat} {B : Nat → Nat} {S : Sk} (h : IsSk w p B S)
include h
theorem IsSk.cell0 : w.cell? ⟨p, 0, none⟩ = some (.int .i64 S.width) := h.head.cell (i := 0) (by omega)
theorem IsSk.cell1 {k : Nat} (hk : k < 4) : w.cell? ⟨p, 1 + k, none⟩ = some (.slice (some ⟨B k, 0, none⟩) S.width S.width) := by
  have := h.head.cell (i := 1 + k) (by omega)
  rw [this]; simp only [Sk.cells]
  rw [if_neg (by omega), if_pos (by omega)]; simp
theorem IsSk.cell5 : w.cell? ⟨p, 5, none⟩ = some (.int .i64 S.total) := h.head.cell (i := 5) (by omega)
theorem IsSk.cell6 : w.cell? ⟨p, 6, none⟩ = some (.int .i64 S.limit) := h.head.cell (i := 6) (by omega)
theorem IsSk.cell7 : w.cell? ⟨p, 7, none⟩ = some (.int .i64 S.aged) := h.head.cell (i := 7) (by omega)
end

/-- The least count of a hash in the first rows. -/
def leastI (S : Sk) (hash : Int) : Nat → Int
  | 0 => 255
  | k + 1 => if S.row k (atI k hash S.width).toNat < leastI S hash k then S.row k (atI k hash S.width).toNat else leastI S hash k
def ofI (S : Sk) (s : ByteArray) : Int := leastI S (hashI s) 4

set_option maxHeartbeats 400000 in
theorem of_any (p : Nat) (B : Nat → Nat) (S : Sk) (hash : Int) (w : World) (hS : IsSk w p B S) :
    Calls Tryd.prog 34 #[.pointer (some ⟨p, 0, none⟩), .int .u64 hash] w fun e w' => e = .returned (.int .i64 (leastI S hash 4)) ∧ ∃ n, w' = w.drewN n := by
  have hw1 := hS.w1
  have hw2 := hS.w2
  have HS : Hid (IsSk w p B S) := hS
  clear hS
  go_enter Tryd.func34, Tryd.ntmps34
  go_wp2
  go_loopw [5, 7] (fun l i wr => ∃ k : Nat, k ≤ 4 ∧ i = .int .i64 k ∧ l = .int .i64 (leastI S hash k) ∧ Hid (∃ n, wr = w.drewN n)) (fun _ i _ => 4 - (intOf i).toNat)
  case atStart => exact ⟨0, Nat.zero_le _, rfl, rfl, 0, rfl⟩
  case round =>
    obtain ⟨k, hk, rfl, rfl, HD⟩ := hrel
    have HSr : Hid (IsSk wr p B S) := by obtain ⟨n, rfl⟩ := HD.out; exact HS.out.drewN n
    by_cases hlt : k < 4
    · obtain ⟨a0, a1⟩ := atI_bd k hash S.width (by omega)
      have c1 := HSr.out.cell1 hlt
      have c2 := (HSr.out.row k hlt).cell (i := (atI k hash S.width).toNat) (by omega)
      have b2 := HSr.out.bd k (atI k hash S.width).toNat hlt (by omega)
      have c0 := HSr.out.cell0
      go_wp2
      go_quiet (first | (go_at_call 35; exact Calls.quiet_of (at_any p k S.width hash _ (by omega) (by omega) c0)))
      go_wp2
      go_roundw
      case rel => exact ⟨k + 1, by omega, by go_num, rfl, by obtain ⟨n, rfl⟩ := HD.out; exact ⟨n + nq, by simp⟩⟩
      case measure => simp [intOf]; omega
    · go_wp2
      go_ret
      obtain rfl : k = 4 := by omega
      exact ⟨rfl, HD.out⟩

set_option maxHeartbeats 400000 in
theorem Of_any (p : Nat) (B : Nat → Nat) (S : Sk) (s : ByteArray) (w : World) (hS : IsSk w p B S) (hs : s.size ≤ maxLen) :
    Calls Tryd.prog 13 #[.pointer (some ⟨p, 0, none⟩), .string s] w fun e w' => e = .returned (.int .i64 (ofI S s)) ∧ ∃ n, w' = w.drewN n := by
  have HS : Hid (IsSk w p B S) := hS
  clear hS
  go_enter Tryd.func13, Tryd.ntmps13
  go_wp2_with (first | (go_at_call 33; refine (hash_any s _ hs).mono ?_; rintro e w' ⟨rfl, rfl⟩) | (go_at_call 34; refine (of_any p B S _ _ HS.out).mono ?_; rintro e w' ⟨rfl, n, rfl⟩))
  go_ret
  exact ⟨rfl, n, rfl⟩

theorem Total_any (p : Nat) (B : Nat → Nat) (S : Sk) (w : World) (hS : IsSk w p B S) :
    Calls Tryd.prog 14 #[.pointer (some ⟨p, 0, none⟩)] w fun e w' => e = .returned (.int .i64 S.total) ∧ w = w' := by
  have h5 := hS.cell5
  clear hS
  go_enter Tryd.func14, Tryd.ntmps14
  go_wp2
  go_ret
  exact ⟨rfl, rfl⟩
theorem Aged_any (p : Nat) (B : Nat → Nat) (S : Sk) (w : World) (hS : IsSk w p B S) :
    Calls Tryd.prog 15 #[.pointer (some ⟨p, 0, none⟩)] w fun e w' => e = .returned (.int .i64 S.aged) ∧ w = w' := by
  have h5 := hS.cell7
  clear hS
  go_enter Tryd.func15, Tryd.ntmps15
  go_wp2
  go_ret
  exact ⟨rfl, rfl⟩
theorem Width_any (p : Nat) (B : Nat → Nat) (S : Sk) (w : World) (hS : IsSk w p B S) :
    Calls Tryd.prog 21 #[.pointer (some ⟨p, 0, none⟩)] w fun e w' => e = .returned (.int .i64 S.width) ∧ w = w' := by
  have h5 := hS.cell0
  clear hS
  go_enter Tryd.func21, Tryd.ntmps21
  go_wp2
  go_ret
  exact ⟨rfl, rfl⟩
theorem Limit_any (p : Nat) (B : Nat → Nat) (S : Sk) (w : World) (hS : IsSk w p B S) :
    Calls Tryd.prog 22 #[.pointer (some ⟨p, 0, none⟩)] w fun e w' => e = .returned (.int .i64 S.limit) ∧ w = w' := by
  have h5 := hS.cell6
  clear hS
  go_enter Tryd.func22, Tryd.ntmps22
  go_wp2
  go_ret
  exact ⟨rfl, rfl⟩
set_option maxHeartbeats 400000 in
theorem More_any (p : Nat) (B : Nat → Nat) (S : Sk) (s t : ByteArray) (w : World) (hS : IsSk w p B S) (hs : s.size ≤ maxLen) (ht : t.size ≤ maxLen) :
    Calls Tryd.prog 24 #[.pointer (some ⟨p, 0, none⟩), .string s, .string t] w fun e w' => e = .returned (.bool (decide (ofI S t < ofI S s))) ∧ ∃ n, w' = w.drewN n := by
  have HS : Hid (IsSk w p B S) := hS
  clear hS
  go_enter Tryd.func24, Tryd.ntmps24
  go_wp2_with (first | (go_at_call 13; refine (Of_any p B S s _ HS.out hs).mono ?_; rintro e w' ⟨rfl, n, rfl⟩) | (go_at_call 13; refine (Of_any p B S t _ (HS.out.drewN _) ht).mono ?_; rintro e w' ⟨rfl, n2, rfl⟩))
  go_ret
  exact ⟨rfl, _, rfl⟩
end Go.Proofs.YtpjdaglblckgfaaDoor
