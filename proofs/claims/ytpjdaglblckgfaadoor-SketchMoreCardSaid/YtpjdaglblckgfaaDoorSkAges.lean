/- The law SketchAges: what its call comes to. -/
import Derived.Test.YtpjdaglblckgfaaDoorSkLeast
namespace Go.Proofs.YtpjdaglblckgfaaDoor
set_option linter.unusedVariables false
open Go.RowKit Go.Proofs.YtpjdaglblckgfaaDoorW.PrintWords

def Sk.ages (S : Sk) : Nat → Sk
  | 0 => S
  | n + 1 => (S.ages n).age
theorem ages_aged (S : Sk) (n : Nat) : (S.ages n).aged = S.aged + n := by
  induction n with
  | zero => simp [Sk.ages]
  | succ n ih =>
    show (S.ages n).aged + 1 = _
    rw [ih]
    omega
theorem ofI_nonneg {w : World} {p : Nat} {B : Nat → Nat} {S : Sk} (h : IsSk w p B S) (s : ByteArray) : 0 ≤ ofI S s :=
  least_ge S _ 0 (by omega) 4 fun r hr => (h.bd r _ hr (by have := atI_bd r (hashI s) S.width (by have := h.w1; omega); omega)).1
theorem ofI_age {w : World} {p : Nat} {B : Nat → Nat} {S : Sk} (h : IsSk w p B S) (s : ByteArray) : ofI S.age s = ofI S s / 2 :=
  age_least S _ (h.bd 0 _ (by omega) (by have := atI_bd 0 (hashI s) S.width (by have := h.w1; omega); omega)).2
theorem half_pow (x : Int) (j : Nat) (h : x ≤ (255 / 2 ^ j : Nat)) : x / 2 ≤ (255 / 2 ^ (j + 1) : Nat) := by
  have : 255 / 2 ^ (j + 1) = 255 / 2 ^ j / 2 := by rw [Nat.pow_succ, Nat.div_div_eq_div_mul]
  rw [this]
  omega

set_option maxHeartbeats 2000000 in
theorem ages_law (A : Option Addr) (c wd : Nat) (ss : List ByteArray) (key : ByteArray) (w : World) (hr : Kd.string.C w A ss.length ss) (hk : key.size ≤ maxLen) (hwd : wd ≤ 65535) (hg : HG w) :
    Calls Tryd.prog 4 #[.int .u16 wd, .slice A ss.length c, .string key] w fun e w' => e = .returned (.bool true) ∧ Below w.heap.size w w' := by
  have HR := Lib.hid hr
  have HH := Lib.hid hg
  have HK := Lib.hid hk
  have h0 := Lib.hid (hg_pos hg)
  clear hr hg hk
  by_cases hs1 : shortB ss = true
  · by_cases hs2 : shortB [key] = true
    · go_enter Tryd.func4, Tryd.ntmps4
      go_wp2_with fail
      refine (short_any A c ss _ HR.out).mono ?_
      rintro e w' ⟨rfl, rfl⟩
      go_wp2_with fail
      refine (short_any _ 1 [key] _ (C_one _ _ _)).mono ?_
      rintro e w' ⟨rfl, hw⟩
      subst hw
      have B1 := Lib.hid ((Below.refl w.heap.size w).alloc (Nat.le_refl _) (.cells #[.string key] 9))
      generalize w.alloc (.cells #[.string key] 9) = w1 at *
      have hb1 := Lib.hid B1.out.size
      go_wp2_with fail
      refine (New_st B1.out hb1.out (1 + wd % 100) _ (by omega) (by omega) (by omega)).mono ?_
      rintro e w2 ⟨rfl, i2⟩
      have I2 := Lib.hid i2
      clear i2 B1
      generalize w1.heap.size = p at *
      have hn1 : 1 + wd % 100 ≤ 4096 := by omega
      generalize 1 + wd % 100 = n at *
      go_wp2_with fail
      go_loopw [9] (fun i wr => ∃ k : Nat, k ≤ ss.length ∧ i = .int .i64 k ∧ Hid (St w wr w.heap.size p (fun r => p + (1 + r)) ((Sk.new n 0).adds (ss.take k)))) (fun i _ => ss.length - (intOf i).toNat)
      case atStart => exact ⟨0, Nat.zero_le _, rfl, I2.out⟩
      case round =>
        obtain ⟨k, hk, rfl, HD⟩ := hrel
        by_cases hlt : k < ss.length
        · obtain ⟨ad, hA, hc⟩ := at_str HR.out hlt
          subst hA
          have hc1 : wr.cell? (ad.add k) = some (.string (sget ss k)) := (HD.out.bel.cell (World.block_lt_of_cell? w _ hc)).trans hc
          have hf := adds_fields (Sk.new n 0) rfl (ss.take k)
          have htk : (ss.take k).length ≤ k := List.length_take_le _ _
          have hAdd := Lib.hid (Add_st HD.out (sget ss k) (short_mem hs1 hlt) hf.1 (by rw [hf.2.2.2]; have := short_len hs1; simp [Sk.new]; omega))
          have hss := short_len hs1
          have HT := Lib.hid (take_s hlt)
          clear hf htk
          go_wp2_with fail
          refine hAdd.out.mono ?_
          rintro e w3 ⟨rfl, i3, c3⟩
          have I3 := Lib.hid i3
          clear i3 c3
          go_wp2_with fail
          go_roundw
          case rel => exact ⟨k + 1, by omega, by go_num, by rw [HT.out, adds_snoc]; exact I3.out⟩
          case measure => simp [intOf]; omega
        · have hT : ss.take k = ss := List.take_of_length_le (by omega)
          rw [hT] at HD
          have hf := Lib.hid (adds_fields (Sk.new n 0) rfl ss)
          clear hT
          generalize hS : (Sk.new n 0).adds ss = S at *
          clear hS
          go_wp2_with fail
          go_loopw [10] (fun i wx => ∃ j : Nat, j ≤ 8 ∧ i = .int .i64 j ∧ Hid (St w wx w.heap.size p (fun r => p + (1 + r)) (S.ages j) ∧ ofI (S.ages j) key ≤ (255 / 2 ^ j : Nat))) (fun i _ => 8 - (intOf i).toNat)
          case atStart => exact ⟨0, Nat.zero_le _, rfl, HD.out, least_cap S _ 4⟩
          case round =>
            obtain ⟨j, hj, rfl, HE⟩ := hrel
            by_cases hjl : j < 8
            · have h5 := Lib.hid (ages_aged S j)
              have h6 := Lib.hid (ofI_age HE.out.1.sk key)
              have h7 := ofI_nonneg HE.out.1.sk key
              have h7b : ofI (S.ages j) key ≤ 255 := least_cap _ _ 4
              have h8 : S.aged = 0 := hf.out.2.2.1
              have H8 := Lib.hid h8
              clear h8
              go_wp2_with fail
              refine (Of_st HE.out.1 key HK.out).mono ?_
              rintro e w3 ⟨rfl, i3, n3, hn3⟩
              have I3 := Lib.hid i3
              clear i3 hn3
              go_wp2_with fail
              refine (Age_st I3.out (by rw [h5.out, H8.out]; omega)).mono ?_
              rintro e w4 ⟨rfl, i4, c4⟩
              have I4 := Lib.hid i4
              clear i4 c4
              go_wp2_with fail
              refine (Of_st I4.out key HK.out).mono ?_
              rintro e w5 ⟨rfl, i5, n5, hn5⟩
              rw [h6.out]
              have I5 := Lib.hid i5
              clear i5 hn5
              go_wp2_with fail
              refine (Aged_st I5.out).mono ?_
              rintro e w6 ⟨rfl, rfl⟩
              have ha : (S.ages j).age.aged = (j : Int) + 1 := by
                show (S.ages j).aged + 1 = _
                rw [h5.out, H8.out]
                omega
              rw [ha]
              clear ha
              go_wp2_with fail
              go_roundw
              case rel => exact ⟨j + 1, by omega, by go_num, I5.out, by show ofI (S.ages j).age key ≤ _; rw [h6.out]; exact half_pow _ _ HE.out.2⟩
              case measure => simp [intOf]; omega
            · obtain rfl : j = 8 := by omega
              have h7 := ofI_nonneg HE.out.1.sk key
              have h9 : ofI (S.ages 8) key = 0 := by
                have := HE.out.2
                simp at this
                omega
              have H9 := Lib.hid h9
              clear h9 h7
              go_wp2_with fail
              refine (Of_st HE.out.1 key HK.out).mono ?_
              rintro e w3 ⟨rfl, i3, n3, hn3⟩
              rw [H9.out]
              have I3 := Lib.hid i3
              clear i3 hn3
              go_wp2_with fail
              refine (works_below HH.out h0.out I3.out.bel I3.out.hb).mono ?_
              rintro e w6 ⟨rfl, b6⟩
              have B6 := Lib.hid b6
              clear b6
              go_wp2_with fail
              go_ret
              exact ⟨rfl, B6.out⟩
    · have hs2' : shortB [key] = false := by simpa using hs2
      go_enter Tryd.func4, Tryd.ntmps4
      go_wp2_with fail
      refine (short_any A c ss _ HR.out).mono ?_
      rintro e w' ⟨rfl, rfl⟩
      go_wp2_with fail
      refine (short_any _ 1 [key] _ (C_one _ _ _)).mono ?_
      rintro e w' ⟨rfl, hw⟩
      subst hw
      have B1 := Lib.hid ((Below.refl w.heap.size w).alloc (Nat.le_refl _) (.cells #[.string key] 9))
      generalize w.alloc (.cells #[.string key] 9) = w1 at *
      go_wp2_with fail
      refine (works_below HH.out h0.out B1.out B1.out.size).mono ?_
      rintro e w6 ⟨rfl, b6⟩
      have B6 := Lib.hid b6
      clear b6
      go_wp2_with fail
      go_ret
      exact ⟨rfl, B6.out⟩
  · have hs1' : shortB ss = false := by simpa using hs1
    go_enter Tryd.func4, Tryd.ntmps4
    go_wp2_with fail
    refine (short_any A c ss _ HR.out).mono ?_
    rintro e w' ⟨rfl, rfl⟩
    go_wp2_with fail
    refine (works_below HH.out h0.out (Below.refl _ _) (Nat.le_refl _)).mono ?_
    rintro e w6 ⟨rfl, b6⟩
    have B6 := Lib.hid b6
    clear b6
    go_wp2_with fail
    go_ret
    exact ⟨rfl, B6.out⟩
end Go.Proofs.YtpjdaglblckgfaaDoor
