/- PRx4 PRy0 -/
import Derived.Test.YtgfljpchdiapeaaDoorPRx0
import Derived.Test.YtgfljpchdiapeaaDoorPRx1
import Derived.Test.YtgfljpchdiapeaaDoorG1
namespace Go.Proofs.YtgfljpchdiapeaaDoor.PR
open Go.RowKit Go.Proofs.YtgfljpchdiapeaaDoorW.PrintWords Go.Proofs.YtgfljpchdiapeaaDoorW.PrintLast Go.Proofs.YtgfljpchdiapeaaDoorW.PrintMore
attribute [local go_sem] max2_int min2_int max_two min_two max_three min_three max_four min_four   -- for this text's walks alone
set_option linter.unusedVariables false
set_option linter.unusedSimpArgs false
/-! ### butteryref29_Number: function 84, by hand (ReF) -/
def butteryref29_Number.f (_k : Nat) (a0 : ByteArray) : Option (Int × Bool) := if a0.data.toList.length < 100000000 then some (numV a0.data.toList) else none
theorem butteryref29_Number.mono : ∀ a0 k, LeO (butteryref29_Number.f k a0) (butteryref29_Number.f (k + 1) a0) := fun _ _ => LeO.refl _
theorem butteryref29_Number.calls (k : Nat) (a0 : ByteArray) (r1 : Int) (r2 : Bool) (w : World) (h : butteryref29_Number.f k a0 = some (r1, r2)) :
    Calls Tryd.prog 84 #[.string a0] w fun e w' => e = .returned (.tuple #[.int .i64 r1, .bool r2]) ∧ Below w.heap.size w w' := by
  unfold butteryref29_Number.f at h
  split at h
  · rename_i hl
    have e := Option.some.inj h
    have := refNumV a0 hl w
    rw [e] at this
    exact this
  · cases h
/-! ### butteryref32_number: function 68 -/
def butteryref32_number.f (k : Nat) (l0 : List ByteArray) (a1 : Int) (a2 : Bool) : Option (Int × Bool) := if 0 ≤ a1 then (if a1 < (l0.length : Int) then ((butteryref29_Number.f k (rdOf ByteArray.empty l0 a1)).bind fun bt145 => (if a2 = true then (some (bt145.1, bt145.2)) else (some (bt145.1, false)))) else (none)) else (none)
theorem butteryref32_number.mono : ∀ a0 a1 a2 k, LeO (butteryref32_number.f k a0 a1 a2) (butteryref32_number.f (k + 1) a0 a1 a2) := by
  intro a0 a1 a2 k
  unfold butteryref32_number.f
  repeat' first
      | (with_reducible exact butteryref29_Number.mono _ _)
      | (with_reducible exact LeO.refl _)
      | (with_reducible exact LeO.none _)
      | (with_reducible refine LeO.ite ?_ ?_)
      | (with_reducible refine LeO.bind ?_ (fun _ => ?_))
      | exact butteryref29_Number.mono _ _
      | exact LeO.none _
      | refine LeO.ite ?_ ?_
      | refine LeO.bind ?_ (fun _ => ?_)
set_option maxHeartbeats 8000000 in
set_option maxRecDepth 100000 in
theorem butteryref32_number.calls (k : Nat) (A0 : Option Addr) (c0 : Nat) (l0 : List ByteArray) (a1 : Int) (a2 : Bool) (r1 : Int) (r2 : Bool) (w : World) (hr0 : Kd.C Kd.string w A0 l0.length l0) (hc0 : l0.length ≤ c0) (h : butteryref32_number.f k l0 a1 a2 = some (r1, r2)) :
    Calls Tryd.prog 68 #[.slice A0 l0.length c0, .int .i64 a1, .bool a2] w fun e w' => e = .returned (.tuple #[.int .i64 r1, .bool r2]) ∧ Below w.heap.size w w' := by
  have HR0 := Aside0.mk hr0
  have HC0 := Aside0.mk hc0
  clear hr0 hc0
  have HB := Aside0.mk (Below.refl w.heap.size w)
  have H : (if 0 ≤ a1 then (if a1 < (l0.length : Int) then ((butteryref29_Number.f k (rdOf ByteArray.empty l0 a1)).bind fun bt145 => (if a2 = true then (some (bt145.1, bt145.2)) else (some (bt145.1, false)))) else (none)) else (none)) = some (r1, r2) := h
  clear h
  by_cases c4 : 0 ≤ a1
  · rw [if_pos c4] at H
    have c4b0 : decide (0 ≤ a1) = true := decide_eq_true c4
    clear c4
    by_cases c5 : a1 < (l0.length : Int)
    · rw [if_pos c5] at H
      have c5b0 : decide (a1 < (l0.length : Int)) = true := decide_eq_true c5
      clear c5
      replace H := Option.bind_eq_some_iff.mp H
      obtain ⟨⟨t145, t146⟩, A60, H⟩ := H
      replace H : (if a2 = true then (some (t145, t146)) else (some (t145, false))) = some (r1, r2) := H
      have A6 := Aside0.mk A60
      clear A60
      by_cases c7 : a2 = true
      · subst c7
        have H1 : (some (t145, t146)) = some (r1, r2) := by rw [if_pos rfl] at H; exact H
        clear H
        have H := H1
        clear H1
        simp only [Option.some.injEq, Prod.mk.injEq] at H
        obtain ⟨rfl, rfl⟩ := H
        have p144 : 0 ≤ (a1 : Int) := of_decide_eq_true (by first | (with_reducible assumption) | assumption)
        have q144 : a1 < (l0.length : Int) := of_decide_eq_true (by first | (with_reducible assumption) | assumption)
        obtain ⟨ad144, e144, hx144_0⟩ := Kd.at_string HR0.out a1 p144 q144
        cases e144
        replace p144 := eq_true p144
        replace q144 := eq_true q144
        go_enter Tryd.func68, Tryd.ntmps68
        go_wp2_with (first | ((with_reducible refine gate_callee (f := 84) rfl ?_); refine goesL_ (some 15) rfl rfl Tryd.func84 (by kernel_rfl) rfl #[.string (rdOf ByteArray.empty l0 a1)] rfl (by (try simp only [List.map_toArray, List.map_cons, List.map_nil]); first | done | rfl | (simp only [List.length_drop, List.length_take]; rfl)) ?_; (with_reducible refine (butteryref29_Number.calls k (rdOf ByteArray.empty l0 a1) t145 t146 _ A6.out).mono ?_); rintro e w8 ⟨rfl, hb⟩; refine ⟨_, rfl, ?_⟩; have n0_ := Aside0.mk (below_step (by repeat (first | (with_reducible first | exact HB.out | apply below_alloc | apply pw_below_drewN | apply below_drew1) | exact HB.out)) hb); clear HB; have HB := n0_; clear n0_; (try clear hb); (try clear hb2); (try clear hk); (try clear hi)))
        go_ret2
        exact ⟨by first | rfl | (simp [errW_none, errW_some] <;> rfl) | (simp [*, errW_none, errW_some] <;> rfl), by repeat (first | (with_reducible first | exact HB.out | apply below_alloc | apply pw_below_drewN | apply below_drew1) | exact HB.out)⟩
      · replace c7 := Bool.eq_false_iff.mpr c7
        subst c7
        have H1 : (some (t145, false)) = some (r1, r2) := by rw [if_neg (show ¬ (false = true) by decide)] at H; exact H
        clear H
        have H := H1
        clear H1
        simp only [Option.some.injEq, Prod.mk.injEq] at H
        obtain ⟨rfl, rfl⟩ := H
        have p144 : 0 ≤ (a1 : Int) := of_decide_eq_true (by first | (with_reducible assumption) | assumption)
        have q144 : a1 < (l0.length : Int) := of_decide_eq_true (by first | (with_reducible assumption) | assumption)
        obtain ⟨ad144, e144, hx144_0⟩ := Kd.at_string HR0.out a1 p144 q144
        cases e144
        replace p144 := eq_true p144
        replace q144 := eq_true q144
        go_enter Tryd.func68, Tryd.ntmps68
        go_wp2_with (first | ((with_reducible refine gate_callee (f := 84) rfl ?_); refine goesL_ (some 15) rfl rfl Tryd.func84 (by kernel_rfl) rfl #[.string (rdOf ByteArray.empty l0 a1)] rfl (by (try simp only [List.map_toArray, List.map_cons, List.map_nil]); first | done | rfl | (simp only [List.length_drop, List.length_take]; rfl)) ?_; (with_reducible refine (butteryref29_Number.calls k (rdOf ByteArray.empty l0 a1) t145 t146 _ A6.out).mono ?_); rintro e w9 ⟨rfl, hb⟩; refine ⟨_, rfl, ?_⟩; have n0_ := Aside0.mk (below_step (by repeat (first | (with_reducible first | exact HB.out | apply below_alloc | apply pw_below_drewN | apply below_drew1) | exact HB.out)) hb); clear HB; have HB := n0_; clear n0_; (try clear hb); (try clear hb2); (try clear hk); (try clear hi)))
        go_ret2
        exact ⟨by first | rfl | (simp [errW_none, errW_some] <;> rfl) | (simp [*, errW_none, errW_some] <;> rfl), by repeat (first | (with_reducible first | exact HB.out | apply below_alloc | apply pw_below_drewN | apply below_drew1) | exact HB.out)⟩
    · rw [if_neg c5] at H
      exact absurd H (by simp)
  · rw [if_neg c4] at H
    exact absurd H (by simp)
/-! ### butteryref32_bytes: function 69 -/
def butteryref32_bytes.f (k : Nat) (l0 : List ByteArray) (a1 : Int) (a2 : Bool) : Option (List Int × Bool) := if 0 ≤ a1 then (if a1 < (l0.length : Int) then ((butteryref29_Unquote.f k (rdOf ByteArray.empty l0 a1)).bind fun bt148 => (if a2 = true then (some (bt148.1, bt148.2)) else (some (bt148.1, false)))) else (none)) else (none)
theorem butteryref32_bytes.mono : ∀ a0 a1 a2 k, LeO (butteryref32_bytes.f k a0 a1 a2) (butteryref32_bytes.f (k + 1) a0 a1 a2) := by
  intro a0 a1 a2 k
  unfold butteryref32_bytes.f
  repeat' first
      | (with_reducible exact butteryref29_Unquote.mono _ _)
      | (with_reducible exact LeO.refl _)
      | (with_reducible exact LeO.none _)
      | (with_reducible refine LeO.ite ?_ ?_)
      | (with_reducible refine LeO.bind ?_ (fun _ => ?_))
      | exact butteryref29_Unquote.mono _ _
      | exact LeO.none _
      | refine LeO.ite ?_ ?_
      | refine LeO.bind ?_ (fun _ => ?_)
set_option maxHeartbeats 8000000 in
set_option maxRecDepth 100000 in
theorem butteryref32_bytes.calls (k : Nat) (A0 : Option Addr) (c0 : Nat) (l0 : List ByteArray) (a1 : Int) (a2 : Bool) (r1 : List Int) (r2 : Bool) (w : World) (hr0 : Kd.C Kd.string w A0 l0.length l0) (hc0 : l0.length ≤ c0) (h : butteryref32_bytes.f k l0 a1 a2 = some (r1, r2)) :
    Calls Tryd.prog 69 #[.slice A0 l0.length c0, .int .i64 a1, .bool a2] w fun e w' => ∃ v0_ : Value, e = .returned (.tuple #[v0_, .bool r2]) ∧ Kd.R (Kd.int .u8) 5 w' w.heap.size (fun _ => True) v0_ r1 ∧ Below w.heap.size w w' := by
  have HR0 := Aside0.mk hr0
  have HC0 := Aside0.mk hc0
  clear hr0 hc0
  have HB := Aside0.mk (Below.refl w.heap.size w)
  have H : (if 0 ≤ a1 then (if a1 < (l0.length : Int) then ((butteryref29_Unquote.f k (rdOf ByteArray.empty l0 a1)).bind fun bt148 => (if a2 = true then (some (bt148.1, bt148.2)) else (some (bt148.1, false)))) else (none)) else (none)) = some (r1, r2) := h
  clear h
  by_cases c4 : 0 ≤ a1
  · rw [if_pos c4] at H
    have c4b0 : decide (0 ≤ a1) = true := decide_eq_true c4
    clear c4
    by_cases c5 : a1 < (l0.length : Int)
    · rw [if_pos c5] at H
      have c5b0 : decide (a1 < (l0.length : Int)) = true := decide_eq_true c5
      clear c5
      replace H := Option.bind_eq_some_iff.mp H
      obtain ⟨⟨t148, t149⟩, A60, H⟩ := H
      replace H : (if a2 = true then (some (t148, t149)) else (some (t148, false))) = some (r1, r2) := H
      have A6 := Aside0.mk A60
      clear A60
      by_cases c7 : a2 = true
      · subst c7
        have H1 : (some (t148, t149)) = some (r1, r2) := by rw [if_pos rfl] at H; exact H
        clear H
        have H := H1
        clear H1
        simp only [Option.some.injEq, Prod.mk.injEq] at H
        obtain ⟨rfl, rfl⟩ := H
        have p147 : 0 ≤ (a1 : Int) := of_decide_eq_true (by first | (with_reducible assumption) | assumption)
        have q147 : a1 < (l0.length : Int) := of_decide_eq_true (by first | (with_reducible assumption) | assumption)
        obtain ⟨ad147, e147, hx147_0⟩ := Kd.at_string HR0.out a1 p147 q147
        cases e147
        replace p147 := eq_true p147
        replace q147 := eq_true q147
        go_enter Tryd.func69, Tryd.ntmps69
        go_wp2_with (first | ((with_reducible refine gate_callee (f := 85) rfl ?_); refine goesL_ (some 15) rfl rfl Tryd.func85 (by kernel_rfl) rfl #[.string (rdOf ByteArray.empty l0 a1)] rfl (by (try simp only [List.map_toArray, List.map_cons, List.map_nil]); first | done | rfl | (simp only [List.length_drop, List.length_take]; rfl)) ?_; (with_reducible refine (butteryref29_Unquote.calls k (rdOf ByteArray.empty l0 a1) t148 t149 _ A6.out).mono ?_); rintro e w8 ⟨v150, rfl, ho0, hb⟩; refine ⟨_, rfl, ?_⟩; have n0_ := Aside0.mk (Kd.R_lower ho0 (below_size (by repeat (first | (with_reducible first | exact HB.out | apply below_alloc | apply pw_below_drewN | apply below_drew1) | exact HB.out)))); have n1_ := Aside0.mk (below_step (by repeat (first | (with_reducible first | exact HB.out | apply below_alloc | apply pw_below_drewN | apply below_drew1) | exact HB.out)) hb); clear HB; have HO151 := n0_; have HB := n1_; clear n0_ n1_; (try clear hb); (try clear hb2); (try clear hk); (try clear hi); (try clear ho0)))
        go_ret2
        exact ⟨_, by first | rfl | (simp [errW_none, errW_some] <;> rfl) | (simp [*, errW_none, errW_some] <;> rfl), by (with_reducible repeat (first | apply Kd.R_alloc | apply Kd.R_drewN | apply Kd.R_drew)); exact HO151.out, by repeat (first | (with_reducible first | exact HB.out | apply below_alloc | apply pw_below_drewN | apply below_drew1) | exact HB.out)⟩
      · replace c7 := Bool.eq_false_iff.mpr c7
        subst c7
        have H1 : (some (t148, false)) = some (r1, r2) := by rw [if_neg (show ¬ (false = true) by decide)] at H; exact H
        clear H
        have H := H1
        clear H1
        simp only [Option.some.injEq, Prod.mk.injEq] at H
        obtain ⟨rfl, rfl⟩ := H
        have p147 : 0 ≤ (a1 : Int) := of_decide_eq_true (by first | (with_reducible assumption) | assumption)
        have q147 : a1 < (l0.length : Int) := of_decide_eq_true (by first | (with_reducible assumption) | assumption)
        obtain ⟨ad147, e147, hx147_0⟩ := Kd.at_string HR0.out a1 p147 q147
        cases e147
        replace p147 := eq_true p147
        replace q147 := eq_true q147
        go_enter Tryd.func69, Tryd.ntmps69
        go_wp2_with (first | ((with_reducible refine gate_callee (f := 85) rfl ?_); refine goesL_ (some 15) rfl rfl Tryd.func85 (by kernel_rfl) rfl #[.string (rdOf ByteArray.empty l0 a1)] rfl (by (try simp only [List.map_toArray, List.map_cons, List.map_nil]); first | done | rfl | (simp only [List.length_drop, List.length_take]; rfl)) ?_; (with_reducible refine (butteryref29_Unquote.calls k (rdOf ByteArray.empty l0 a1) t148 t149 _ A6.out).mono ?_); rintro e w9 ⟨v150, rfl, ho0, hb⟩; refine ⟨_, rfl, ?_⟩; have n0_ := Aside0.mk (Kd.R_lower ho0 (below_size (by repeat (first | (with_reducible first | exact HB.out | apply below_alloc | apply pw_below_drewN | apply below_drew1) | exact HB.out)))); have n1_ := Aside0.mk (below_step (by repeat (first | (with_reducible first | exact HB.out | apply below_alloc | apply pw_below_drewN | apply below_drew1) | exact HB.out)) hb); clear HB; have HO151 := n0_; have HB := n1_; clear n0_ n1_; (try clear hb); (try clear hb2); (try clear hk); (try clear hi); (try clear ho0)))
        go_ret2
        exact ⟨_, by first | rfl | (simp [errW_none, errW_some] <;> rfl) | (simp [*, errW_none, errW_some] <;> rfl), by (with_reducible repeat (first | apply Kd.R_alloc | apply Kd.R_drewN | apply Kd.R_drew)); exact HO151.out, by repeat (first | (with_reducible first | exact HB.out | apply below_alloc | apply pw_below_drewN | apply below_drew1) | exact HB.out)⟩
    · rw [if_neg c5] at H
      exact absurd H (by simp)
  · rw [if_neg c4] at H
    exact absurd H (by simp)
end Go.Proofs.YtgfljpchdiapeaaDoor.PR
namespace Go.Proofs.YtgfljpchdiapeaaDoor.PR
open Go.RowKit Go.Proofs.YtgfljpchdiapeaaDoorW.PrintWords Go.Proofs.YtgfljpchdiapeaaDoorW.PrintLast Go.Proofs.YtgfljpchdiapeaaDoorW.PrintMore
attribute [local go_sem] max2_int min2_int max_two min_two max_three min_three max_four min_four   -- for this text's walks alone
set_option linter.unusedVariables false
set_option linter.unusedSimpArgs false
/-! ### butteryref32_hit: function 67 -/
def butteryref32_hit.f (k : Nat) (l0 : List ByteArray) : Option (Int × Int × ByteArray × Int × Int × Int × List Int × Bool × Bool) := (butteryref32_number.f k l0 1 true).bind fun bt154 => ((butteryref32_bytes.f k l0 2 bt154.2).bind fun bt156 => ((butteryref32_number.f k l0 3 bt156.2).bind fun bt160 => ((butteryref32_number.f k l0 4 bt160.2).bind fun bt162 => ((butteryref32_bytes.f k l0 5 bt162.2).bind fun bt164 => (some (1, bt154.1, strOfNums bt156.1, bt160.1, bt162.1, 0, bt164.1, false, bt164.2))))))
theorem butteryref32_hit.mono : ∀ a0 k, LeO (butteryref32_hit.f k a0) (butteryref32_hit.f (k + 1) a0) := by
  intro a0 k
  unfold butteryref32_hit.f
  repeat' first
      | (with_reducible exact butteryref32_bytes.mono _ _ _ _)
      | (with_reducible exact butteryref32_number.mono _ _ _ _)
      | (with_reducible exact LeO.refl _)
      | (with_reducible exact LeO.none _)
      | (with_reducible refine LeO.ite ?_ ?_)
      | (with_reducible refine LeO.bind ?_ (fun _ => ?_))
      | exact butteryref32_bytes.mono _ _ _ _
      | exact butteryref32_number.mono _ _ _ _
      | exact LeO.none _
      | refine LeO.ite ?_ ?_
      | refine LeO.bind ?_ (fun _ => ?_)
/-! ### butteryref32_written: function 70 -/
def butteryref32_written.f (k : Nat) (l0 : List ByteArray) : Option (Int × Int × ByteArray × Int × Int × Int × List Int × Bool × Bool) := (butteryref32_number.f k l0 1 true).bind fun bt170 => ((butteryref32_bytes.f k l0 2 bt170.2).bind fun bt172 => (if (l0.length : Int) = 4 then ((butteryref32_bytes.f k l0 3 bt172.2).bind fun bt176 => (some (3, 0, strOfNums bt172.1, bt170.1, 0, 0, bt176.1, ((l0.length : Int) == 4), bt176.2))) else (some (3, 0, strOfNums bt172.1, bt170.1, 0, 0, ([] : List Int), ((l0.length : Int) == 4), bt172.2))))
theorem butteryref32_written.mono : ∀ a0 k, LeO (butteryref32_written.f k a0) (butteryref32_written.f (k + 1) a0) := by
  intro a0 k
  unfold butteryref32_written.f
  repeat' first
      | (with_reducible exact butteryref32_bytes.mono _ _ _ _)
      | (with_reducible exact butteryref32_number.mono _ _ _ _)
      | (with_reducible exact LeO.refl _)
      | (with_reducible exact LeO.none _)
      | (with_reducible refine LeO.ite ?_ ?_)
      | (with_reducible refine LeO.bind ?_ (fun _ => ?_))
      | exact butteryref32_bytes.mono _ _ _ _
      | exact butteryref32_number.mono _ _ _ _
      | exact LeO.none _
      | refine LeO.ite ?_ ?_
      | refine LeO.bind ?_ (fun _ => ?_)
end Go.Proofs.YtgfljpchdiapeaaDoor.PR
