/- The law PlanBest: what its call comes to. -/
import Derived.Test.YtndgjhhhggkdmaaDoorG6
namespace Go.Proofs.YtndgjhhhggkdmaaDoor
set_option linter.unusedVariables false
open Go.RowKit Go.Proofs.YtndgjhhhggkdmaaDoorW.PrintWords

set_option maxHeartbeats 4000000 in
set_option maxRecDepth 100000 in
theorem best_law (fr to_ : Int) (A : Option Addr) (c : Nat) (l : List Int) (KA : Option Addr) (kc : Nat) (ks : List ByteArray) (w : World) (hC : (Kd.int .i64).C w A l.length l) (hc : l.length ≤ c) (hK : Kd.string.C w KA ks.length ks) (hkc : ks.length ≤ kc) (hg : HG w) :
    Calls Tryd.prog 4 #[.int .i64 fr, .int .i64 to_, .slice A l.length c, .slice KA ks.length kc] w fun e w' => e = .returned (.bool true) ∧ Below w.heap.size w w' := by
  have HC := Lib.hid hC
  have HKS := Lib.hid hK
  have HH := Lib.hid hg
  have h0 := Lib.hid (hg_pos hg)
  have hshort := short_any KA kc ks w hK hkc
  by_cases hgd : l.length ≤ 4 ∧ ks.length ≤ 6 ∧ shortB ks = true ∧ ¬ (8 < to_ ∧ fr ≤ 64)
  · obtain ⟨g1, g2, g3, g4⟩ := hgd
    have HS2 := Lib.hid g3
    have HSS := Lib.hid (show ∀ s ∈ ks, s.size ≤ maxLen from fun s hs => by obtain ⟨i, hi, rfl⟩ := List.getElem_of_mem hs; rw [← sget_eq hi]; exact short_mem HS2.out hi)
    rw [g3] at hshort
    have HSH := Lib.hid hshort
    have HTO := Lib.hid (show to_ ≤ 8 ∨ 64 < fr by omega)
    have hd : decide (8 < to_) = false ∨ (decide (8 < to_) = true ∧ decide (fr ≤ 64) = false) := by
      by_cases h : 8 < to_
      · exact .inr ⟨decide_eq_true h, decide_eq_false (by omega)⟩
      · exact .inl (decide_eq_false h)
    have hda : decide (4 < (l.length : Int)) = false := decide_eq_false (by omega)
    have hdb : decide (6 < (ks.length : Int)) = false := decide_eq_false (by omega)
    clear hC hK hshort hg g4 g3
    rcases hd with hd1 | ⟨hd1, hd2⟩
    all_goals
      go_enter Tryd.func4, Tryd.ntmps4
      go_wp2_with fail
      refine HSH.out.mono ?_
      rintro e wa ⟨rfl, na, hna⟩
      have Ba : Hid (Below w.heap.size w wa) := by rw [hna]; exact Drawn0.below ⟨_, rfl⟩
      clear hna HSH
      go_wp2_with fail
      refine (Best_any fr to_ HTO.out A c l KA kc ks wa (Kd.C_below HC.out Ba.out) (Kd.C_below HKS.out Ba.out) HSS.out (by omega) (by omega)).mono ?_
      rintro e w1 ⟨ev1, lst, rfl, e1, hcd, b1⟩
      have E1 := Lib.hid e1
      have CD := Lib.hid hcd
      have B1 := Lib.hid (Ba.out.trans (b1.mono Ba.out.size))
      have HR2 := Lib.hid (refBest_any fr to_ HTO.out A c l KA kc ks w1 (Kd.C_below HC.out B1.out) (Kd.C_below HKS.out B1.out) hkc HSS.out (by omega) (by omega))
      clear e1 hcd b1 Ba
      generalize bestN fr to_ l ks = R at *
      obtain ⟨r1, r2⟩ := R
      go_wp2_with fail
      refine HR2.out.mono ?_
      rintro e w2 ⟨rfl, b2⟩
      have E2 := Lib.hid (E1.out.later b2)
      have B2 := Lib.hid (B1.out.trans (b2.mono B1.out.size))
      clear b2 HR2 E1 B1
      have HOf := Lib.hid (of_code _ lst w2 E2.out (HH.out.below' B2.out h0.out))
      rw [CD.out] at HOf
      go_wp2_with fail
      refine HOf.out.mono ?_
      rintro e w4 ⟨rfl, b4⟩
      have B4 := Lib.hid (B2.out.trans (b4.mono B2.out.size))
      clear b4 HOf B2 E2
      go_wp2_with fail
      refine (works_below HH.out h0.out B4.out B4.out.size).mono ?_
      rintro e w12 ⟨rfl, hb12⟩
      have HB12 := Lib.hid hb12
      clear hb12
      go_wp2_with fail
      go_ret
      exact ⟨rfl, HB12.out⟩
  · have HSH := Lib.hid hshort
    have hd : decide (4 < (l.length : Int)) = true ∨ (decide (4 < (l.length : Int)) = false ∧ (decide (6 < (ks.length : Int)) = true ∨ (decide (6 < (ks.length : Int)) = false ∧ (shortB ks = false ∨ (shortB ks = true ∧ decide (8 < to_) = true ∧ decide (fr ≤ 64) = true))))) := by
      by_cases h1 : 4 < l.length
      · exact .inl (decide_eq_true (by omega))
      · refine .inr ⟨decide_eq_false (by omega), ?_⟩
        by_cases h2 : 6 < ks.length
        · exact .inl (decide_eq_true (by omega))
        · refine .inr ⟨decide_eq_false (by omega), ?_⟩
          cases hq : shortB ks with
          | false => exact .inl rfl
          | true =>
            refine .inr ⟨rfl, ?_⟩
            by_cases h3 : 8 < to_ ∧ fr ≤ 64
            · exact ⟨decide_eq_true h3.1, decide_eq_true h3.2⟩
            · exact absurd ⟨by omega, by omega, hq, h3⟩ hgd
    clear hC hK hshort hgd hg
    rcases hd with d1 | ⟨d1, d2 | ⟨d2, d5 | ⟨d5, d6, d7⟩⟩⟩
    all_goals
      go_enter Tryd.func4, Tryd.ntmps4
      go_wp2_with fail
      first
      | (refine (works_below HH.out h0.out (Below.refl _ _) (Nat.le_refl _)).mono ?_
         rintro e w9 ⟨rfl, hb9⟩
         have HB := Lib.hid hb9
         clear hb9
         go_wp2_with fail
         go_ret
         exact ⟨rfl, HB.out⟩)
      | (rw [d5] at HSH
         refine HSH.out.mono ?_
         rintro e wa ⟨rfl, na, hna⟩
         have Ba : Hid (Below w.heap.size w wa) := by rw [hna]; exact Drawn0.below ⟨_, rfl⟩
         clear hna
         go_wp2_with fail
         refine (works_below HH.out h0.out Ba.out Ba.out.size).mono ?_
         rintro e w9 ⟨rfl, hb9⟩
         have HB := Lib.hid hb9
         clear hb9
         go_wp2_with fail
         go_ret
         exact ⟨rfl, HB.out⟩)
end Go.Proofs.YtndgjhhhggkdmaaDoor
