/- The document's Mix, Hash and Slot are the program's. -/
import Derived.Test.YtpjdaglblckgfaaDoorBase
import Derived.Test.YtpjdaglblckgfaaDoorBloom
import Derived.Test.YtpjdaglblckgfaaDoorPRall
namespace Go.Proofs.YtpjdaglblckgfaaDoor
set_option linter.unusedVariables false
open Go.RowKit Go.Proofs.YtpjdaglblckgfaaDoorW.PrintWords

theorem wrap_in (a : Int) (h0 : 0 ≤ a) (h1 : a < 18446744073709551616) : IntKind.u64.wrap a = a := by
  rw [IntKind.wrap_u64]
  omega
theorem fold_eq (a : Int) (h0 : 0 ≤ a) (h1 : a < 18446744073709551616) : PR.butteryref07_fold.f a = some (foldI a) := by
  unfold PR.butteryref07_fold.f foldI
  rw [Int.tdiv_eq_ediv_of_nonneg h0, wrap_in (a / 8589934592) (by omega) (by omega)]
theorem refmix_f (a : Int) (h0 : 0 ≤ a) (h1 : a < 18446744073709551616) : PR.butteryref07_Mix.f a = some (mixI a) := by
  unfold PR.butteryref07_Mix.f mixI
  have b1 := wrapu_bd (foldI a * 18397679294719823053)
  have b2 := wrapu_bd (foldI (IntKind.u64.wrap (foldI a * 18397679294719823053)) * 14181476777654086739)
  rw [fold_eq a h0 h1, Option.bind_some, fold_eq _ b1.1 b1.2, Option.bind_some, fold_eq _ b2.1 b2.2, Option.bind_some]
theorem hashF_bd (l : List UInt8) : 0 ≤ hashF l 14695981039346656037 ∧ hashF l 14695981039346656037 < 18446744073709551616 := by
  rcases List.eq_nil_or_concat l with rfl | ⟨r, c, rfl⟩
  · exact ⟨by decide, by decide⟩
  · rw [List.concat_eq_append, hashF_snoc]
    exact wrapu_bd _
theorem refhash_run (s : ByteArray) (hs : s.size ≤ 9223372036854775807) : ∀ m k i, i + m = s.size → m < k → PR.butteryref07_Hash.l0 k s (hashF (s.data.toList.take i) 14695981039346656037) i = some (hashI s)
  | 0, k + 1, i, h1, h2 => by
    have b := hashF_bd s.data.toList
    rw [PR.butteryref07_Hash.l0, if_neg (by omega), List.take_of_length_le (by simp; omega), refmix_f _ b.1 b.2, Option.bind_some]
    rfl
  | m + 1, k + 1, i, h1, h2 => by
    have hi : i < s.size := by omega
    have hw : wrap64 ((i : Int) + 1) = ((i + 1 : Nat) : Int) := by unfold wrap64; omega
    have ih := refhash_run s hs m k (i + 1) (by omega) (by omega)
    rw [take_snoc s i hi, hashF_snoc] at ih
    have hbt : IntKind.u64.wrap (bt s (i : Int)) = IntKind.u64.wrap (s[i].toNat : Int) := by simp [bt, hi]
    rw [PR.butteryref07_Hash.l0, if_pos (by omega), if_pos (by omega), hw, hbt]
    exact ih
theorem refhash_f (s : ByteArray) (hs : s.size ≤ 9223372036854775807) (k : Nat) (hk : s.size < k) : PR.butteryref07_Hash.f k s = some (hashI s) := by
  unfold PR.butteryref07_Hash.f
  have := refhash_run s hs s.size k 0 (by omega) hk
  exact this
theorem refhash_any (s : ByteArray) (hs : s.size ≤ maxLen) (w : World) :
    Calls Tryd.prog 51 #[.string s] w fun e w' => e = .returned (.int .u64 (hashI s)) ∧ Below w.heap.size w w' := by
  unfold maxLen at hs
  exact (PR.butteryref07_Hash.calls (s.size + 1) s _ w (refhash_f s (by omega) _ (Nat.lt_succ_self _))).mono fun e w' ⟨he, hdr⟩ => ⟨he, hdr.below⟩
theorem refmix_any (h : Int) (h0 : 0 ≤ h) (h1 : h < 18446744073709551616) (w : World) :
    Calls Tryd.prog 50 #[.int .u64 h] w fun e w' => e = .returned (.int .u64 (mixI h)) ∧ Below w.heap.size w w' :=
  (PR.butteryref07_Mix.calls h _ w (refmix_f h h0 h1)).mono fun e w' ⟨he, hdr⟩ => ⟨he, hdr.below⟩
end Go.Proofs.YtpjdaglblckgfaaDoor
