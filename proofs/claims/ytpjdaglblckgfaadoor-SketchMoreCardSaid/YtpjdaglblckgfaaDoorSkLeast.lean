/- The law SketchLeast: what its call comes to. -/
import Derived.Test.YtpjdaglblckgfaaDoorSkWorks
namespace Go.Proofs.YtpjdaglblckgfaaDoor
set_option linter.unusedVariables false
open Go.RowKit Go.Proofs.YtpjdaglblckgfaaDoorW.PrintWords

theorem C_one (w : World) (s : ByteArray) (t : TypeId) : Kd.string.C (w.alloc (.cells #[.string s] t)) (some ⟨w.heap.size, 0, none⟩) 1 [s] := by
  refine ⟨rfl, by omega, fun _ => ⟨_, rfl, fun j p hj => ?_⟩⟩
  have hj' : j = 0 := by
    rcases j with _ | j
    · rfl
    · simp at hj
  subst hj'
  have : s = p := by simpa using hj
  subst this
  refine ⟨[.string s], rfl, rfl, fun i u hu => ?_⟩
  rcases i with _ | i
  · have : Value.string s = u := by simpa using hu
    subst this
    simp [Addr.add, Kd.string, Kd.scalar]
  · simp at hu
theorem short_mem {ss : List ByteArray} (h : shortB ss = true) {k : Nat} (hk : k < ss.length) : (sget ss k).size ≤ maxLen := by
  have h2 : ss.length ≤ 400 ∧ ∀ s ∈ ss, s.size ≤ 60 := of_decide_eq_true h
  have := h2.2 (sget ss k) (by rw [sget_eq hk]; exact List.getElem_mem hk)
  have : 60 ≤ maxLen := by decide
  omega
theorem short_len {ss : List ByteArray} (h : shortB ss = true) : ss.length ≤ 400 := by
  have h2 : ss.length ≤ 400 ∧ ∀ s ∈ ss, s.size ≤ 60 := of_decide_eq_true h
  exact h2.1
theorem New_st {w0 w : World} {base : Nat} (hb : Below base w0 w) (hs : base ≤ w.heap.size) (n : Nat) (z : Int) (hz : z = n) (h1 : 1 ≤ n) (h2 : n ≤ 4096) :
    Calls Tryd.prog 11 #[.int .i64 z, .int .i64 0] w fun e w' => e = .returned (.tuple #[.pointer (some ⟨w.heap.size, 0, none⟩), .nilIface]) ∧ St w0 w' base w.heap.size (fun r => w.heap.size + (1 + r)) (Sk.new n 0) := by
  subst hz
  exact (New_ok n 0 w h1 h2 (by omega) (by omega)).mono fun e w' ⟨he, h1, h2, h3⟩ => ⟨he, St.new hb hs h1 h2⟩
theorem works_below {w0 w : World} {base : Nat} (hg : HG w0) (h0 : 0 < base) (hb : Below base w0 w) (hs : base ≤ w.heap.size) :
    Calls Tryd.prog 10 #[] w fun e w' => e = .returned (.bool true) ∧ Below base w0 w' :=
  (works_any w (hg.below' hb h0)).mono fun e w' ⟨he, h⟩ => ⟨he, hb.trans (h.mono hs)⟩
theorem hg_pos {w : World} (h : HG w) : 0 < w.heap.size := by
  rcases Nat.eq_zero_or_pos w.heap.size with h0 | h0
  · exact absurd (World.block_lt_of_cell? w _ h) (by omega)
  · exact h0

set_option maxHeartbeats 2000000 in
theorem least_law (A : Option Addr) (c wd : Nat) (ss : List ByteArray) (key : ByteArray) (w : World) (hr : Kd.string.C w A ss.length ss) (hk : key.size ≤ maxLen) (hwd : wd ≤ 65535) (hg : HG w) :
    Calls Tryd.prog 3 #[.int .u16 wd, .slice A ss.length c, .string key] w fun e w' => e = .returned (.bool true) ∧ Below w.heap.size w w' := by
  have HR := Lib.hid hr
  have HH := Lib.hid hg
  have HK := Lib.hid hk
  have h0 := Lib.hid (hg_pos hg)
  clear hr hg hk
  by_cases hs1 : shortB ss = true
  · by_cases hs2 : shortB [key] = true
    · go_enter Tryd.func3, Tryd.ntmps3
      go_wp2_with fail
      refine (short_any A c ss _ HR.out).mono ?_
      rintro e w' ⟨rfl, rfl⟩
      go_wp2_with fail
      refine (short_any _ 1 [key] _ (C_one _ _ _)).mono ?_
      rintro e w' ⟨rfl, hw⟩
      subst hw
      have B1 := Lib.hid ((Below.refl w.heap.size w).alloc (Nat.le_refl _) (.cells #[.string key] 9))
      generalize w.alloc (.cells #[.string key] 9) = w1 at *
      have hb1 := Lib.hid B1.out.size
      go_wp2_with fail
      refine (New_st B1.out hb1.out (1 + wd % 100) _ (by omega) (by omega) (by omega)).mono ?_
      rintro e w2 ⟨rfl, i2⟩
      have I2 := Lib.hid i2
      clear i2 B1
      generalize w1.heap.size = p at *
      have hn1 : 1 + wd % 100 ≤ 4096 := by omega
      generalize 1 + wd % 100 = n at *
      go_wp2_with fail
      go_loopw [9, 10] (fun v i wr => ∃ k : Nat, k ≤ ss.length ∧ i = .int .i64 k ∧ v = .int .i64 (cnt key (ss.take k)) ∧ Hid (St w wr w.heap.size p (fun r => p + (1 + r)) ((Sk.new n 0).adds (ss.take k)))) (fun _ i _ => ss.length - (intOf i).toNat)
      case atStart => exact ⟨0, Nat.zero_le _, rfl, rfl, I2.out⟩
      case round =>
        obtain ⟨k, hk, rfl, rfl, HD⟩ := hrel
        by_cases hlt : k < ss.length
        · obtain ⟨ad, hA, hc⟩ := at_str HR.out hlt
          subst hA
          have hc1 : wr.cell? (ad.add k) = some (.string (sget ss k)) := (HD.out.bel.cell (World.block_lt_of_cell? w _ hc)).trans hc
          have hf := adds_fields (Sk.new n 0) rfl (ss.take k)
          have htk : (ss.take k).length ≤ k := List.length_take_le _ _
          have hAdd := Lib.hid (Add_st HD.out (sget ss k) (short_mem hs1 hlt) hf.1 (by rw [hf.2.2.2]; have := short_len hs1; simp [Sk.new]; omega))
          have hts := take_s hlt
          have HC := Lib.hid (cnt_snoc key (ss.take k) (sget ss k))
          have hss := short_len hs1
          have hcl : cnt key (ss.take k) ≤ 400 := by have := cnt_le key (ss.take k); omega
          have HT := Lib.hid hts
          clear hf htk hts
          by_cases e1 : ((sget ss k).toList == key.toList) = true
          · have HE := Lib.hid e1
            go_wp2_with fail
            refine hAdd.out.mono ?_
            rintro e w3 ⟨rfl, i3, c3⟩
            have I3 := Lib.hid i3
            have hc2 : w3.cell? (ad.add k) = some (.string (sget ss k)) := (I3.out.bel.cell (World.block_lt_of_cell? w _ hc)).trans hc
            clear i3 c3
            go_wp2_with fail
            go_roundw
            case rel => exact ⟨k + 1, by omega, by go_num, by rw [HT.out, HC.out, if_pos HE.out]; go_num, by rw [HT.out, adds_snoc]; exact I3.out⟩
            case measure => simp [intOf]; omega
          · have e2 : ((sget ss k).toList == key.toList) = false := by simpa using e1
            have HE := Lib.hid e1
            clear e1
            go_wp2_with fail
            refine hAdd.out.mono ?_
            rintro e w3 ⟨rfl, i3, c3⟩
            have I3 := Lib.hid i3
            have hc2 : w3.cell? (ad.add k) = some (.string (sget ss k)) := (I3.out.bel.cell (World.block_lt_of_cell? w _ hc)).trans hc
            clear i3 c3
            go_wp2_with fail
            go_roundw
            case rel => exact ⟨k + 1, by omega, by go_num, by rw [HT.out, HC.out, if_neg HE.out]; rfl, by rw [HT.out, adds_snoc]; exact I3.out⟩
            case measure => simp [intOf]; omega
        · have hT : ss.take k = ss := List.take_of_length_le (by omega)
          rw [hT] at HD ⊢
          have hf := Lib.hid (adds_fields (Sk.new n 0) rfl ss)
          obtain ⟨q1, q2⟩ := adds_least n key ss
          clear hT
          generalize hS : (Sk.new n 0).adds ss = S at *
          clear hS
          have ht : S.total = ss.length := by rw [hf.out.2.2.2]; simp [Sk.new]
          have ha : S.aged = 0 := hf.out.2.2.1
          have hcl : cnt key ss ≤ 400 := by have := cnt_le key ss; have := short_len hs1; omega
          have HOf := Lib.hid (Of_st HD.out key HK.out)
          have HT := Lib.hid ht
          have HA := Lib.hid ha
          clear ht ha
          have d2 : decide (ofI S key ≤ (ss.length : Int)) = true := by simpa using q2
          by_cases hn : 255 < cnt key ss
          · have d1 : decide (255 ≤ ofI S key) = true := by simp; omega
            go_wp2_with fail
            refine HOf.out.mono ?_
            rintro e w3 ⟨rfl, i3, n3, hn3⟩
            have I3 := Lib.hid i3
            clear i3 hn3
            go_wp2_with fail
            refine (Of_st I3.out key HK.out).mono ?_
            rintro e w4 ⟨rfl, i4, n4, hn4⟩
            have I4 := Lib.hid i4
            clear i4 hn4
            go_wp2_with fail
            refine (Total_st I4.out).mono ?_
            rintro e w5 ⟨rfl, rfl⟩
            rw [HT.out]
            go_wp2_with fail
            refine (Aged_st I4.out).mono ?_
            rintro e w5 ⟨rfl, rfl⟩
            rw [HA.out]
            go_wp2_with fail
            refine (works_below HH.out h0.out I4.out.bel I4.out.hb).mono ?_
            rintro e w6 ⟨rfl, b6⟩
            have B6 := Lib.hid b6
            clear b6
            go_wp2_with fail
            go_ret
            exact ⟨rfl, B6.out⟩
          · have d1 : decide ((cnt key ss : Int) ≤ ofI S key) = true := by simp; omega
            go_wp2_with fail
            refine HOf.out.mono ?_
            rintro e w3 ⟨rfl, i3, n3, hn3⟩
            have I3 := Lib.hid i3
            clear i3 hn3
            go_wp2_with fail
            refine (Of_st I3.out key HK.out).mono ?_
            rintro e w4 ⟨rfl, i4, n4, hn4⟩
            have I4 := Lib.hid i4
            clear i4 hn4
            go_wp2_with fail
            refine (Total_st I4.out).mono ?_
            rintro e w5 ⟨rfl, rfl⟩
            rw [HT.out]
            go_wp2_with fail
            refine (Aged_st I4.out).mono ?_
            rintro e w5 ⟨rfl, rfl⟩
            rw [HA.out]
            go_wp2_with fail
            refine (works_below HH.out h0.out I4.out.bel I4.out.hb).mono ?_
            rintro e w6 ⟨rfl, b6⟩
            have B6 := Lib.hid b6
            clear b6
            go_wp2_with fail
            go_ret
            exact ⟨rfl, B6.out⟩
    · have hs2' : shortB [key] = false := by simpa using hs2
      go_enter Tryd.func3, Tryd.ntmps3
      go_wp2_with fail
      refine (short_any A c ss _ HR.out).mono ?_
      rintro e w' ⟨rfl, rfl⟩
      go_wp2_with fail
      refine (short_any _ 1 [key] _ (C_one _ _ _)).mono ?_
      rintro e w' ⟨rfl, hw⟩
      subst hw
      have B1 := Lib.hid ((Below.refl w.heap.size w).alloc (Nat.le_refl _) (.cells #[.string key] 9))
      generalize w.alloc (.cells #[.string key] 9) = w1 at *
      go_wp2_with fail
      refine (works_below HH.out h0.out B1.out B1.out.size).mono ?_
      rintro e w6 ⟨rfl, b6⟩
      have B6 := Lib.hid b6
      clear b6
      go_wp2_with fail
      go_ret
      exact ⟨rfl, B6.out⟩
  · have hs1' : shortB ss = false := by simpa using hs1
    go_enter Tryd.func3, Tryd.ntmps3
    go_wp2_with fail
    refine (short_any A c ss _ HR.out).mono ?_
    rintro e w' ⟨rfl, rfl⟩
    go_wp2_with fail
    refine (works_below HH.out h0.out (Below.refl _ _) (Nat.le_refl _)).mono ?_
    rintro e w6 ⟨rfl, b6⟩
    have B6 := Lib.hid b6
    clear b6
    go_wp2_with fail
    go_ret
    exact ⟨rfl, B6.out⟩
end Go.Proofs.YtpjdaglblckgfaaDoor
