/- The law SketchMore: what its call comes to. -/
import Derived.Test.YtpjdaglblckgfaaDoorSkAges
namespace Go.Proofs.YtpjdaglblckgfaaDoor
set_option linter.unusedVariables false
open Go.RowKit Go.Proofs.YtpjdaglblckgfaaDoorW.PrintWords

theorem C_two (w : World) (s s2 : ByteArray) (t : TypeId) : Kd.string.C (w.alloc (.cells #[.string s, .string s2] t)) (some ⟨w.heap.size, 0, none⟩) 2 [s, s2] := by
  refine ⟨rfl, by omega, fun _ => ⟨_, rfl, fun j p hj => ?_⟩⟩
  rcases j with _ | _ | j
  · have : s = p := by simpa using hj
    subst this
    refine ⟨[.string s], rfl, rfl, fun i u hu => ?_⟩
    rcases i with _ | i
    · have : Value.string s = u := by simpa using hu
      subst this
      simp [Addr.add, Kd.string, Kd.scalar]
    · simp at hu
  · have : s2 = p := by simpa using hj
    subst this
    refine ⟨[.string s2], rfl, rfl, fun i u hu => ?_⟩
    rcases i with _ | i
    · have : Value.string s2 = u := by simpa using hu
      subst this
      simp [Addr.add, Kd.string, Kd.scalar]
    · simp at hu
  · simp at hj

set_option maxHeartbeats 2000000 in
theorem more_law (A : Option Addr) (c wd : Nat) (ss : List ByteArray) (key ask : ByteArray) (w : World) (hr : Kd.string.C w A ss.length ss) (hk : key.size ≤ maxLen) (hq : ask.size ≤ maxLen) (hwd : wd ≤ 65535) (hg : HG w) :
    Calls Tryd.prog 5 #[.int .u16 wd, .slice A ss.length c, .string key, .string ask] w fun e w' => e = .returned (.bool true) ∧ Below w.heap.size w w' := by
  have HR := Lib.hid hr
  have HH := Lib.hid hg
  have HK := Lib.hid hk
  have HQ := Lib.hid hq
  have h0 := Lib.hid (hg_pos hg)
  clear hr hg hk hq
  by_cases hs1 : shortB ss = true
  · by_cases hs2 : shortB [key, ask] = true
    · go_enter Tryd.func5, Tryd.ntmps5
      go_wp2_with fail
      refine (short_any A c ss _ HR.out).mono ?_
      rintro e w' ⟨rfl, rfl⟩
      go_wp2_with fail
      refine (short_any _ 2 [key, ask] _ (C_two _ _ _ _)).mono ?_
      rintro e w' ⟨rfl, hw⟩
      subst hw
      have B1 := Lib.hid ((Below.refl w.heap.size w).alloc (Nat.le_refl _) (.cells #[.string key, .string ask] 9))
      generalize w.alloc (.cells #[.string key, .string ask] 9) = w1 at *
      have hb1 := Lib.hid B1.out.size
      go_wp2_with fail
      refine (New_st B1.out hb1.out (1 + wd % 100) _ (by omega) (by omega) (by omega)).mono ?_
      rintro e w2 ⟨rfl, i2⟩
      have I2 := Lib.hid i2
      clear i2 B1
      generalize w1.heap.size = p at *
      have hn1 : 1 + wd % 100 ≤ 4096 := by omega
      generalize 1 + wd % 100 = n at *
      go_wp2_with fail
      go_loopw [11] (fun i wr => ∃ k : Nat, k ≤ ss.length ∧ i = .int .i64 k ∧ Hid (St w wr w.heap.size p (fun r => p + (1 + r)) ((Sk.new n 0).adds (ss.take k)))) (fun i _ => ss.length - (intOf i).toNat)
      case atStart => exact ⟨0, Nat.zero_le _, rfl, I2.out⟩
      case round =>
        obtain ⟨k, hk, rfl, HD⟩ := hrel
        by_cases hlt : k < ss.length
        · obtain ⟨ad, hA, hc⟩ := at_str HR.out hlt
          subst hA
          have hc1 : wr.cell? (ad.add k) = some (.string (sget ss k)) := (HD.out.bel.cell (World.block_lt_of_cell? w _ hc)).trans hc
          have hf := adds_fields (Sk.new n 0) rfl (ss.take k)
          have htk : (ss.take k).length ≤ k := List.length_take_le _ _
          have hAdd := Lib.hid (Add_st HD.out (sget ss k) (short_mem hs1 hlt) hf.1 (by rw [hf.2.2.2]; have := short_len hs1; simp [Sk.new]; omega))
          have hss := short_len hs1
          have HT := Lib.hid (take_s hlt)
          clear hf htk
          go_wp2_with fail
          refine hAdd.out.mono ?_
          rintro e w3 ⟨rfl, i3, c3⟩
          have I3 := Lib.hid i3
          clear i3 c3
          go_wp2_with fail
          go_roundw
          case rel => exact ⟨k + 1, by omega, by go_num, by rw [HT.out, adds_snoc]; exact I3.out⟩
          case measure => simp [intOf]; omega
        · have hT : ss.take k = ss := List.take_of_length_le (by omega)
          rw [hT] at HD
          have hf := Lib.hid (adds_fields (Sk.new n 0) rfl ss)
          have hss := short_len hs1
          clear hT
          generalize hS : (Sk.new n 0).adds ss = S at *
          clear hS
          have hadd := Lib.hid (add_plain S key hf.out.1)
          have m1 : ofI S ask ≤ ofI (S.add key) ask := by rw [hadd.out]; exact bump_mono S (hashI key) (hashI ask)
          have m2 : ofI (S.add key) ask ≤ ofI S ask + 1 := by rw [hadd.out]; exact bump_up S (hashI key) (hashI ask)
          have m3 := least_cap S (hashI key) 4
          have m4 : ofI S key ≤ 255 := m3
          have m5 := ofI_nonneg HD.out.sk key
          have m6 := ofI_nonneg HD.out.sk ask
          have m8 : ofI S ask ≤ 255 := least_cap S (hashI ask) 4
          clear m3
          have g1 : decide (ofI S ask ≤ ofI (S.add key) ask) = true := by simpa using m1
          have g2 : decide (ofI (S.add key) ask ≤ ofI S ask + 1) = true := by simpa using m2
          clear m1 m2
          by_cases hl : ofI S key < 255
          · have m7 : ofI (S.add key) key = ofI S key + 1 := by rw [hadd.out]; exact bump_self S (hashI key) hl
            have g3 : (ofI (S.add key) key == ofI S key + 1) = true := by simpa using m7
            have G := Lib.hid m7
            clear m7
            go_wp2_with fail
            refine (Of_st HD.out key HK.out).mono ?_
            rintro e w3 ⟨rfl, i3, n3, hn3⟩
            have I3 := Lib.hid i3
            clear i3 hn3
            go_wp2_with fail
            refine (Of_st I3.out ask HQ.out).mono ?_
            rintro e w4 ⟨rfl, i4, n4, hn4⟩
            have I4 := Lib.hid i4
            clear i4 hn4 I3
            go_wp2_with fail
            refine (Add_st I4.out key HK.out hf.out.1 (by rw [hf.out.2.2.2]; simp [Sk.new]; omega)).mono ?_
            rintro e w5 ⟨rfl, i5, c5⟩
            have I5 := Lib.hid i5
            clear i5 c5 I4
            go_wp2_with fail
            refine (Of_st I5.out key HK.out).mono ?_
            rintro e w6 ⟨rfl, i6, n6, hn6⟩
            have I6 := Lib.hid i6
            clear i6 hn6 I5
            go_wp2_with fail
            refine (Of_st I6.out ask HQ.out).mono ?_
            rintro e w7 ⟨rfl, i7, n7, hn7⟩
            have I7 := Lib.hid i7
            clear i7 hn7 I6
            go_wp2_with fail
            refine (Of_st I7.out ask HQ.out).mono ?_
            rintro e w8 ⟨rfl, i8, n8, hn8⟩
            have I8 := Lib.hid i8
            clear i8 hn8 I7
            go_wp2_with fail
            refine (works_below HH.out h0.out I8.out.bel I8.out.hb).mono ?_
            rintro e w9 ⟨rfl, b9⟩
            have B9 := Lib.hid b9
            clear b9
            go_wp2_with fail
            go_ret
            exact ⟨rfl, B9.out⟩
          · have m7 : ofI (S.add key) key = ofI S key := by
              have h1 : ofI S key ≤ ofI (S.add key) key := by rw [hadd.out]; exact bump_mono S (hashI key) (hashI key)
              have h2 : ofI (S.add key) key ≤ 255 := least_cap _ _ 4
              omega
            have g3 : (ofI (S.add key) key == ofI S key + 1) = false := by simp; omega
            have g4 : (ofI S key == 255) = true := by simp; omega
            have g5 : (ofI (S.add key) key == ofI S key) = true := by simpa using m7
            have G := Lib.hid m7
            clear m7
            go_wp2_with fail
            refine (Of_st HD.out key HK.out).mono ?_
            rintro e w3 ⟨rfl, i3, n3, hn3⟩
            have I3 := Lib.hid i3
            clear i3 hn3
            go_wp2_with fail
            refine (Of_st I3.out ask HQ.out).mono ?_
            rintro e w4 ⟨rfl, i4, n4, hn4⟩
            have I4 := Lib.hid i4
            clear i4 hn4 I3
            go_wp2_with fail
            refine (Add_st I4.out key HK.out hf.out.1 (by rw [hf.out.2.2.2]; simp [Sk.new]; omega)).mono ?_
            rintro e w5 ⟨rfl, i5, c5⟩
            have I5 := Lib.hid i5
            clear i5 c5 I4
            go_wp2_with fail
            refine (Of_st I5.out key HK.out).mono ?_
            rintro e w6 ⟨rfl, i6, n6, hn6⟩
            have I6 := Lib.hid i6
            clear i6 hn6 I5
            go_wp2_with fail
            refine (Of_st I6.out ask HQ.out).mono ?_
            rintro e w7 ⟨rfl, i7, n7, hn7⟩
            have I7 := Lib.hid i7
            clear i7 hn7 I6
            go_wp2_with fail
            refine (Of_st I7.out ask HQ.out).mono ?_
            rintro e w8 ⟨rfl, i8, n8, hn8⟩
            have I8 := Lib.hid i8
            clear i8 hn8 I7
            go_wp2_with fail
            refine (works_below HH.out h0.out I8.out.bel I8.out.hb).mono ?_
            rintro e w9 ⟨rfl, b9⟩
            have B9 := Lib.hid b9
            clear b9
            go_wp2_with fail
            go_ret
            exact ⟨rfl, B9.out⟩
    · have hs2' : shortB [key, ask] = false := by simpa using hs2
      go_enter Tryd.func5, Tryd.ntmps5
      go_wp2_with fail
      refine (short_any A c ss _ HR.out).mono ?_
      rintro e w' ⟨rfl, rfl⟩
      go_wp2_with fail
      refine (short_any _ 2 [key, ask] _ (C_two _ _ _ _)).mono ?_
      rintro e w' ⟨rfl, hw⟩
      subst hw
      have B1 := Lib.hid ((Below.refl w.heap.size w).alloc (Nat.le_refl _) (.cells #[.string key, .string ask] 9))
      generalize w.alloc (.cells #[.string key, .string ask] 9) = w1 at *
      go_wp2_with fail
      refine (works_below HH.out h0.out B1.out B1.out.size).mono ?_
      rintro e w6 ⟨rfl, b6⟩
      have B6 := Lib.hid b6
      clear b6
      go_wp2_with fail
      go_ret
      exact ⟨rfl, B6.out⟩
  · have hs1' : shortB ss = false := by simpa using hs1
    go_enter Tryd.func5, Tryd.ntmps5
    go_wp2_with fail
    refine (short_any A c ss _ HR.out).mono ?_
    rintro e w' ⟨rfl, rfl⟩
    go_wp2_with fail
    refine (works_below HH.out h0.out (Below.refl _ _) (Nat.le_refl _)).mono ?_
    rintro e w6 ⟨rfl, b6⟩
    have B6 := Lib.hid b6
    clear b6
    go_wp2_with fail
    go_ret
    exact ⟨rfl, B6.out⟩
end Go.Proofs.YtpjdaglblckgfaaDoor
