/- The contracts of package bloom's Mix, Slot, Hash, under no condition but a string's length. -/
import Derived.Test.YtpjdaglblckgfaaDoorChg
import Derived.WalkKit
import Derived.WalkSpells
import Derived.WalkLawsBesides
import Derived.OpenShut
namespace Go.Proofs.YtpjdaglblckgfaaDoor
set_option linter.unusedVariables false
open Go.RowKit

/-- A number of 64 bits, halved 33 times and taken together with itself. -/
def foldI (h : Int) : Int := bits BinOp.xor IntKind.u64 h (h / 8589934592)
def mixI (h : Int) : Int := foldI (IntKind.u64.wrap (foldI (IntKind.u64.wrap (foldI h * 18397679294719823053)) * 14181476777654086739))
def hashF (l : List UInt8) (h : Int) : Int := l.foldl (fun h c => IntKind.u64.wrap (bits .xor .u64 h (IntKind.u64.wrap c.toNat) * 1099511628211)) h
/-- A key's hash. -/
def hashI (s : ByteArray) : Int := mixI (hashF s.data.toList 14695981039346656037)

theorem ret_int {k : IntKind} {a b : Int} (h : a = b) : Ending.returned (.int k a) = .returned (.int k b) := by rw [h]

theorem bits_bd (op : BinOp) (x y : Int) : 0 ≤ bits op .u64 x y ∧ bits op .u64 x y < 18446744073709551616 := by
  have := bounds_u64 (wf_bits op .u64 x y)
  omega
theorem wrapu_bd (x : Int) : 0 ≤ IntKind.u64.wrap x ∧ IntKind.u64.wrap x < 18446744073709551616 := by
  have := bounds_u64 (wf_wrap .u64 x)
  omega
theorem foldI_bd (h : Int) : 0 ≤ foldI h ∧ foldI h < 18446744073709551616 := by
  unfold foldI
  exact bits_bd _ _ _
theorem mixI_bd (h : Int) : 0 ≤ mixI h ∧ mixI h < 18446744073709551616 := by
  unfold mixI
  exact foldI_bd _
theorem hashI_bd (s : ByteArray) : 0 ≤ hashI s ∧ hashI s < 18446744073709551616 := by
  unfold hashI
  exact mixI_bd _
theorem take_snoc (s : ByteArray) (k : Nat) (h : k < s.size) : s.data.toList.take (k + 1) = s.data.toList.take k ++ [s[k]] := by
  rw [List.take_succ_eq_append_getElem (by simpa using h)]; rfl
theorem hashF_snoc (l : List UInt8) (c : UInt8) (h : Int) : hashF (l ++ [c]) h = IntKind.u64.wrap (bits .xor .u64 (hashF l h) (IntKind.u64.wrap c.toNat) * 1099511628211) := by
  simp [hashF]

set_option maxHeartbeats 400000 in
theorem mix_any (h : Int) (w : World) :
    Calls Tryd.prog 43 #[.int .u64 h] w fun e w' => e = .returned (.int .u64 (mixI h)) ∧ w = w' := by
  go_enter Tryd.func43, Tryd.ntmps43
  go_wp2
  go_ret
  exact ⟨rfl, rfl⟩

set_option maxHeartbeats 400000 in
theorem slot_pos (h n : Int) (h0 : 0 ≤ h) (h1 : h < 18446744073709551616) (n1 : 1 ≤ n) (n2 : n < 9223372036854775808) (w : World) :
    Calls Tryd.prog 44 #[.int .u64 h, .int .i64 n] w fun e w' => e = .returned (.int .i64 (h % n)) ∧ w = w' := by
  have hm : 0 ≤ h % n := Int.emod_nonneg _ (by omega)
  have hm2 : h % n < n := Int.emod_lt_of_pos _ (by omega)
  go_enter Tryd.func44, Tryd.ntmps44
  go_wp2
  go_ret
  exact ⟨rfl, rfl⟩

set_option maxHeartbeats 400000 in
theorem hash_any (s : ByteArray) (w : World) (hs : s.size ≤ maxLen) :
    Calls Tryd.prog 33 #[.string s] w fun e w' => e = .returned (.int .u64 (hashI s)) ∧ w = w' := by
  unfold maxLen at hs
  go_enter Tryd.func33, Tryd.ntmps33
  go_wp2
  go_loop [3, 7] (fun h i => ∃ k : Nat, k ≤ s.size ∧ i = .int .i64 k ∧ h = .int .u64 (hashF (s.data.toList.take k) 14695981039346656037)) (fun _ i => s.size - (intOf i).toNat)
  case atStart => exact ⟨0, Nat.zero_le _, rfl, rfl⟩
  case round =>
    obtain ⟨k, hk, rfl, rfl⟩ := hrel
    by_cases hlt : k < s.size
    · have hsn := hashF_snoc (s.data.toList.take k) s[k] 14695981039346656037
      have hts := take_snoc s k hlt
      have HS : Hid (hashF (s.data.toList.take (k + 1)) 14695981039346656037 = IntKind.u64.wrap (bits .xor .u64 (hashF (s.data.toList.take k) 14695981039346656037) (IntKind.u64.wrap s[k].toNat) * 1099511628211)) := by rw [hts]; exact hsn
      clear hsn hts
      go_wp2
      go_round
      case rel => exact ⟨k + 1, by omega, by go_num, by rw [HS.out]⟩
      case measure => simp [intOf]; omega
    · go_wp2_with (go_at_call 43; refine (mix_any _ _).mono ?_; rintro e w' ⟨rfl, rfl⟩)
      go_ret
      exact ⟨ret_int (by rw [List.take_of_length_le (by simp; omega)]; rfl), rfl⟩
end Go.Proofs.YtpjdaglblckgfaaDoor
