-- made by the kit's print.py for this seat's functions
import Derived.Test.YtgfljpchdiapeaaDoorPRx0
namespace Go.Proofs.YtgfljpchdiapeaaDoor.PR
open Go.RowKit Go.Proofs.YtgfljpchdiapeaaDoorW.PrintWords Go.Proofs.YtgfljpchdiapeaaDoorW.PrintLast Go.Proofs.YtgfljpchdiapeaaDoorW.PrintMore
attribute [local go_sem] max2_int min2_int max_two min_two max_three min_three max_four min_four   -- for this text's walks alone
set_option linter.unusedVariables false
set_option linter.unusedSimpArgs false

/-! ### butteryref32_Times: function 25 -/
def butteryref32_Times.l0 : Nat → List (S30) → Int → Int → Int → Int → Option (Int)
  | 0, _, _, _, _, _ => none
  | k + 1, x0, x1, x2, x7, x8 => if x8 < (x0.length : Int) then (if 0 ≤ x8 then (if ((rd_T30 x0 x8).f0) = x1 then (if ((rd_T30 x0 x8).f1) = x2 then (butteryref32_Times.l0 k x0 x1 x2 (wrap64 (x7 + 1)) (wrap64 (x8 + 1))) else (butteryref32_Times.l0 k x0 x1 x2 x7 (wrap64 (x8 + 1)))) else (butteryref32_Times.l0 k x0 x1 x2 x7 (wrap64 (x8 + 1)))) else (none)) else (some x7)
def butteryref32_Times.f (k : Nat) (l0 : List (S30)) (a1 : Int) (a2 : Int) : Option (Int) := butteryref32_Times.l0 k l0 a1 a2 0 0
theorem butteryref32_Times.mono_l : ∀ k, (∀ y0 y1 y2 y3 y4, LeO (butteryref32_Times.l0 k y0 y1 y2 y3 y4) (butteryref32_Times.l0 (k + 1) y0 y1 y2 y3 y4))
  | 0 => fun _ _ _ _ _ r h => by simp [butteryref32_Times.l0] at h
  | k + 1 => by
    have ih0 := butteryref32_Times.mono_l k
    · intro y0 y1 y2 y3 y4
      unfold butteryref32_Times.l0
      repeat' first
      | (with_reducible exact ih0 _ _ _ _ _)
      | (with_reducible exact LeO.refl _)
      | (with_reducible exact LeO.none _)
      | (with_reducible refine LeO.ite ?_ ?_)
      | (with_reducible refine LeO.bind ?_ (fun _ => ?_))
      | exact ih0 _ _ _ _ _
      | exact LeO.none _
      | refine LeO.ite ?_ ?_
      | refine LeO.bind ?_ (fun _ => ?_)
theorem butteryref32_Times.mono : ∀ a0 a1 a2 k, LeO (butteryref32_Times.f k a0 a1 a2) (butteryref32_Times.f (k + 1) a0 a1 a2) := by
  intro a0 a1 a2 k
  have ih0 := butteryref32_Times.mono_l k
  unfold butteryref32_Times.f
  repeat' first
      | (with_reducible exact ih0 _ _ _ _ _)
      | (with_reducible exact LeO.refl _)
      | (with_reducible exact LeO.none _)
      | (with_reducible refine LeO.ite ?_ ?_)
      | (with_reducible refine LeO.bind ?_ (fun _ => ?_))
      | exact ih0 _ _ _ _ _
      | exact LeO.none _
      | refine LeO.ite ?_ ?_
      | refine LeO.bind ?_ (fun _ => ?_)
set_option maxHeartbeats 8000000 in
set_option maxRecDepth 100000 in
theorem butteryref32_Times.calls (k : Nat) (A0 : Option Addr) (c0 : Nat) (l0 : List (S30)) (a1 : Int) (a2 : Int) (r : Int) (w : World) (hr0 : Kd.C k30 w A0 l0.length l0) (hc0 : l0.length ≤ c0) (h : butteryref32_Times.f k l0 a1 a2 = some r) :
    Calls Tryd.prog 25 #[.slice A0 l0.length c0, .int .i64 a1, .int .i64 a2] w fun e w' => e = .returned (.int .i64 r) ∧ Drawn0 w w' := by
  have HR0 := Aside0.mk hr0
  have HC0 := Aside0.mk hc0
  clear hr0 hc0
  have H : (butteryref32_Times.l0 k l0 a1 a2 0 0) = some r := h
  clear h
  have H' := Aside0.mk H
  clear H
  go_enter Tryd.func25, Tryd.ntmps25
  go_wp2
  go_loopg [7, 8] k (fun kq v7 v8 w' => ∃ (x7_1 : Int) (x8_1 : Int), v7 = .int .i64 x7_1 ∧ v8 = .int .i64 x8_1 ∧ Aside0 (butteryref32_Times.l0 kq l0 a1 a2 x7_1 x8_1 = some r) ∧ Aside0 (kq ≤ k) ∧ Drawn0 w w')
  case atStart => exact ⟨(0), (0), (by first | rfl | (simp; done) | (simp [*]; done)), (by first | rfl | (simp; done) | (simp [*]; done)), H', ⟨Nat.le_refl _⟩, by repeat (first | exact Drawn0.refl _ | apply Drawn0.step)⟩
  case round =>
    clear H'
    try clear c2
    try clear p2
    obtain ⟨x7_1, x8_1, rfl, rfl, HA, HK1, ⟨m1, rfl⟩⟩ := hrel
    cases gk with
    | zero => exact absurd HA.out (by simp [butteryref32_Times.l0])
    | succ k1 =>
      have H := HA.out
      clear HA
      simp only [butteryref32_Times.l0] at H
      by_cases c4 : x8_1 < (l0.length : Int)
      · rw [if_pos c4] at H
        have c4b0 : decide (x8_1 < (l0.length : Int)) = true := decide_eq_true c4
        clear c4
        by_cases c5 : 0 ≤ x8_1
        · rw [if_pos c5] at H
          have c5b0 : decide (0 ≤ x8_1) = true := decide_eq_true c5
          clear c5
          by_cases c6 : ((rd_T30 l0 x8_1).f0) = a1
          · rw [if_pos c6] at H
            have c6b0 : (((rd_T30 l0 x8_1).f0) == a1) = true := beq_iff_eq.mpr c6
            have c6b1 : (((rd_T30 l0 x8_1).f0) != a1) = false := bne_eq_false_iff_eq.mpr c6
            clear c6
            by_cases c7 : ((rd_T30 l0 x8_1).f1) = a2
            · rw [if_pos c7] at H
              have c7b0 : (((rd_T30 l0 x8_1).f1) == a2) = true := beq_iff_eq.mpr c7
              have c7b1 : (((rd_T30 l0 x8_1).f1) != a2) = false := bne_eq_false_iff_eq.mpr c7
              clear c7
              have H' := Aside0.mk H
              clear H
              have p256 : 0 ≤ (x8_1 : Int) := of_decide_eq_true (by first | (with_reducible assumption) | assumption)
              have q256 : x8_1 < (l0.length : Int) := of_decide_eq_true (by first | (with_reducible assumption) | assumption)
              obtain ⟨ad256, A256_6, c256_6, e256, hx256_0, hx256_1, hx256_2, hx256_3, hx256_4, hx256_5, hx256_6, hx256_7, hl256_6, hi256_6⟩ := at_T30 HR0.out x8_1 p256 q256
              cases e256
              have HR256_6 := Aside0.mk hi256_6
              have HC256_6 := Aside0.mk hl256_6
              clear hi256_6 hl256_6
              replace p256 := eq_true p256
              replace q256 := eq_true q256
              have p257 : 0 ≤ (x8_1 : Int) := of_decide_eq_true (by first | (with_reducible assumption) | assumption)
              have q257 : x8_1 < (l0.length : Int) := of_decide_eq_true (by first | (with_reducible assumption) | assumption)
              obtain ⟨ad257, A257_6, c257_6, e257, hx257_0, hx257_1, hx257_2, hx257_3, hx257_4, hx257_5, hx257_6, hx257_7, hl257_6, hi257_6⟩ := at_T30 HR0.out x8_1 p257 q257
              obtain rfl : ad256 = ad257 := (by injection e257)
              have HR257_6 := Aside0.mk hi257_6
              have HC257_6 := Aside0.mk hl257_6
              clear hi257_6 hl257_6
              replace p257 := eq_true p257
              replace q257 := eq_true q257
              have ea_ := Option.some.inj (hx256_6.symm.trans hx257_6)
              injection ea_ with ea_ en_ ec_
              subst ea_
              subst ec_
              clear en_
              go_wp2
              go_roundg k1
              case measure => have := HK1.out; omega
              case rel => exact ⟨(wrap64 (x7_1 + 1)), (wrap64 (x8_1 + 1)), (by first | rfl | (simp; done) | (simp [*]; done)), (by first | rfl | (simp; done) | (simp [*]; done)), H', ⟨by have := HK1.out; omega⟩, by repeat (first | exact Drawn0.refl _ | apply Drawn0.step)⟩
            · rw [if_neg c7] at H
              have c7b0 : (((rd_T30 l0 x8_1).f1) == a2) = false := beq_eq_false_iff_ne.mpr c7
              have c7b1 : (((rd_T30 l0 x8_1).f1) != a2) = true := bne_iff_ne.mpr c7
              have H' := Aside0.mk H
              clear H
              have p256 : 0 ≤ (x8_1 : Int) := of_decide_eq_true (by first | (with_reducible assumption) | assumption)
              have q256 : x8_1 < (l0.length : Int) := of_decide_eq_true (by first | (with_reducible assumption) | assumption)
              obtain ⟨ad256, A256_6, c256_6, e256, hx256_0, hx256_1, hx256_2, hx256_3, hx256_4, hx256_5, hx256_6, hx256_7, hl256_6, hi256_6⟩ := at_T30 HR0.out x8_1 p256 q256
              cases e256
              have HR256_6 := Aside0.mk hi256_6
              have HC256_6 := Aside0.mk hl256_6
              clear hi256_6 hl256_6
              replace p256 := eq_true p256
              replace q256 := eq_true q256
              have p257 : 0 ≤ (x8_1 : Int) := of_decide_eq_true (by first | (with_reducible assumption) | assumption)
              have q257 : x8_1 < (l0.length : Int) := of_decide_eq_true (by first | (with_reducible assumption) | assumption)
              obtain ⟨ad257, A257_6, c257_6, e257, hx257_0, hx257_1, hx257_2, hx257_3, hx257_4, hx257_5, hx257_6, hx257_7, hl257_6, hi257_6⟩ := at_T30 HR0.out x8_1 p257 q257
              obtain rfl : ad256 = ad257 := (by injection e257)
              have HR257_6 := Aside0.mk hi257_6
              have HC257_6 := Aside0.mk hl257_6
              clear hi257_6 hl257_6
              replace p257 := eq_true p257
              replace q257 := eq_true q257
              have ea_ := Option.some.inj (hx256_6.symm.trans hx257_6)
              injection ea_ with ea_ en_ ec_
              subst ea_
              subst ec_
              clear en_
              go_wp2
              go_roundg k1
              case measure => have := HK1.out; omega
              case rel => exact ⟨(x7_1), (wrap64 (x8_1 + 1)), (by first | rfl | (simp; done) | (simp [*]; done)), (by first | rfl | (simp; done) | (simp [*]; done)), H', ⟨by have := HK1.out; omega⟩, by repeat (first | exact Drawn0.refl _ | apply Drawn0.step)⟩
          · rw [if_neg c6] at H
            have c6b0 : (((rd_T30 l0 x8_1).f0) == a1) = false := beq_eq_false_iff_ne.mpr c6
            have c6b1 : (((rd_T30 l0 x8_1).f0) != a1) = true := bne_iff_ne.mpr c6
            have H' := Aside0.mk H
            clear H
            have p256 : 0 ≤ (x8_1 : Int) := of_decide_eq_true (by first | (with_reducible assumption) | assumption)
            have q256 : x8_1 < (l0.length : Int) := of_decide_eq_true (by first | (with_reducible assumption) | assumption)
            obtain ⟨ad256, A256_6, c256_6, e256, hx256_0, hx256_1, hx256_2, hx256_3, hx256_4, hx256_5, hx256_6, hx256_7, hl256_6, hi256_6⟩ := at_T30 HR0.out x8_1 p256 q256
            cases e256
            have HR256_6 := Aside0.mk hi256_6
            have HC256_6 := Aside0.mk hl256_6
            clear hi256_6 hl256_6
            replace p256 := eq_true p256
            replace q256 := eq_true q256
            go_wp2
            go_roundg k1
            case measure => have := HK1.out; omega
            case rel => exact ⟨(x7_1), (wrap64 (x8_1 + 1)), (by first | rfl | (simp; done) | (simp [*]; done)), (by first | rfl | (simp; done) | (simp [*]; done)), H', ⟨by have := HK1.out; omega⟩, by repeat (first | exact Drawn0.refl _ | apply Drawn0.step)⟩
        · rw [if_neg c5] at H
          exact absurd H (by simp)
      · rw [if_neg c4] at H
        have c4b0 : decide (x8_1 < (l0.length : Int)) = false := decide_eq_false c4
        clear c4
        obtain rfl := Option.some.inj H
        go_wp2
        go_ret
        exact ⟨by first | rfl | (simp; done) | (simp [*]; done), by repeat (first | exact Drawn0.refl _ | apply Drawn0.step)⟩

/-! ### butteryref32_Percent: function 27 -/
def butteryref32_Percent.f (a0 : Int) (a1 : Int) : Option (Int) := if (wrap64 (a0 + a1)) = 0 then (some 0) else (some (wrap64 (Int.tdiv (wrap64 (100 * a0)) (wrap64 (a0 + a1)))))
set_option maxHeartbeats 8000000 in
set_option maxRecDepth 100000 in
theorem butteryref32_Percent.calls (a0 : Int) (a1 : Int) (r : Int) (w : World) (h : butteryref32_Percent.f a0 a1 = some r) :
    Calls Tryd.prog 27 #[.int .i64 a0, .int .i64 a1] w fun e w' => e = .returned (.int .i64 r) ∧ Drawn0 w w' := by
  have H : (if (wrap64 (a0 + a1)) = 0 then (some 0) else (some (wrap64 (Int.tdiv (wrap64 (100 * a0)) (wrap64 (a0 + a1)))))) = some r := h
  clear h
  by_cases c3 : (wrap64 (a0 + a1)) = 0
  · rw [if_pos c3] at H
    have c3b0 : ((wrap64 (a0 + a1)) == 0) = true := beq_iff_eq.mpr c3
    have c3b1 : ((wrap64 (a0 + a1)) != 0) = false := bne_eq_false_iff_eq.mpr c3
    clear c3
    obtain rfl := Option.some.inj H
    go_enter Tryd.func27, Tryd.ntmps27
    go_wp2
    go_ret
    exact ⟨by first | rfl | (simp; done) | (simp [*]; done), by repeat (first | exact Drawn0.refl _ | apply Drawn0.step)⟩
  · rw [if_neg c3] at H
    have c3b0 : ((wrap64 (a0 + a1)) == 0) = false := beq_eq_false_iff_ne.mpr c3
    have c3b1 : ((wrap64 (a0 + a1)) != 0) = true := bne_iff_ne.mpr c3
    obtain rfl := Option.some.inj H
    go_enter Tryd.func27, Tryd.ntmps27
    go_wp2
    go_ret
    exact ⟨by first | rfl | (simp; done) | (simp [*]; done), by repeat (first | exact Drawn0.refl _ | apply Drawn0.step)⟩

end Go.Proofs.YtgfljpchdiapeaaDoor.PR
