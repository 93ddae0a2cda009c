/- DeedsParts, plainly: a text behind another one has the deeds of both. DeedsParts: a text behind another one has the deeds of both; remarks and empty lines between change nothing. -/
import Derived.Test.YtbckbpimabmacaaDoorGB
namespace Go.Proofs.YtbckbpimabmacaaDoor
set_option linter.unusedVariables false
set_option linter.unusedSimpArgs false
open Go.RowKit Go.Proofs.YtbckbpimabmacaaDoorW.PrintWords
attribute [local go_sem ↓] Go.wp_at_zero Go.wp_at_succ
attribute [local go_sem] bsV_get bsV_size bsV_toList

theorem readS_form (s : Bs) (h : (splitS 10 s).length ≤ 4096) : (∃ i : Nat, readG 0 (splitS 10 s) = .inl i ∧ readS s = ([], 16, (i : Int))) ∨ ∃ L, readG 0 (splitS 10 s) = .inr L ∧ readS s = (L, 0, 0) := by
  unfold readS
  rw [if_neg (by omega)]
  cases e : readG 0 (splitS 10 s) with
  | inl i => exact .inl ⟨i, rfl, rfl⟩
  | inr L => exact .inr ⟨L, rfl, rfl⟩
/-- The text of both, with a remark and an empty line between. -/
def bothS (a note b : Bs) : Bs := a ++ 10 :: 35 :: (note ++ 10 :: 10 :: b)
theorem split_one {s : Bs} (h : (splitS 10 s).length ≤ 1) : (10 : UInt8) ∉ s := fun hm => by
  obtain ⟨x, y, e⟩ := List.append_of_mem hm
  rw [e, split_app, List.length_append] at h
  obtain ⟨a1, t1, e1⟩ := split_cons 10 x
  obtain ⟨a2, t2, e2⟩ := split_cons 10 y
  rw [e1, e2] at h
  simp at h
  omega
theorem split_both {a note b : Bs} (h : (splitS 10 note).length ≤ 1) : splitS 10 (bothS a note b) = splitS 10 a ++ (35 :: note) :: [] :: splitS 10 b := by
  have hn := split_one h
  have e : (35 :: (note ++ 10 :: 10 :: b) : Bs) = (35 :: note) ++ 10 :: 10 :: b := rfl
  unfold bothS
  rw [split_app, e, split_app, split_none (s := 35 :: note) (fun hm => by
    rcases List.mem_cons.1 hm with h1 | h1
    · exact absurd h1 (by decide)
    · exact hn h1), split_hit]
  rfl
/-- Both are read, and the text of both has the deeds of both; or one is none, and so is the text of both. -/
theorem parts_plain {a note b : Bs} (hn : (splitS 10 note).length ≤ 1) (hl : (splitS 10 a).length + (splitS 10 b).length ≤ 4000) :
    ((readS a).2.1 = 0 ∧ (readS b).2.1 = 0 ∧ readS (bothS a note b) = ((readS a).1 ++ (readS b).1, 0, 0)) ∨ (((readS a).2.1 ≠ 0 ∨ (readS b).2.1 ≠ 0) ∧ (readS (bothS a note b)).2.1 ≠ 0) := by
  have hz := split_both (a := a) (b := b) hn
  have hg := readG_app (splitS 10 a) ((35 :: note) :: [] :: splitS 10 b) 0
  rw [readG_skip (r := 35 :: note) (.inr rfl), readG_skip (r := []) (.inl rfl), ← hz] at hg
  have hzl : (splitS 10 (bothS a note b)).length ≤ 4096 := by rw [hz]; simp; omega
  have h16 : (16 : Int) ≠ 0 := by decide
  rcases readS_form a (by omega) with ⟨i, h1, h2⟩ | ⟨L, h1, h2⟩
  · right
    rw [h1] at hg
    refine ⟨.inl (by rw [h2]; exact h16), ?_⟩
    rcases readS_form _ hzl with ⟨j, h3, h4⟩ | ⟨M, h3, h4⟩
    · rw [h4]; exact h16
    · rw [hg] at h3; cases h3
  · rw [h1] at hg
    dsimp only at hg
    rcases readS_form b (by omega) with ⟨i, h5, h6⟩ | ⟨M, h5, h6⟩
    · right
      refine ⟨.inr (by rw [h6]; exact h16), ?_⟩
      rcases readG_at (splitS 10 b) 0 (0 + (splitS 10 a).length + 1 + 1) with ⟨x, y, h7, h8⟩ | ⟨T, h7, h8⟩
      · rw [h8] at hg
        rcases readS_form _ hzl with ⟨j, h3, h4⟩ | ⟨M, h3, h4⟩
        · rw [h4]; exact h16
        · rw [hg] at h3; cases h3
      · rw [h7] at h5; cases h5
    · left
      refine ⟨by rw [h2], by rw [h6], ?_⟩
      rcases readG_at (splitS 10 b) 0 (0 + (splitS 10 a).length + 1 + 1) with ⟨x, y, h7, h8⟩ | ⟨T, h7, h8⟩
      · rw [h7] at h5; cases h5
      · rw [h7] at h5
        injection h5 with h5
        subst h5
        rw [h8] at hg
        rcases readS_form _ hzl with ⟨j, h3, h4⟩ | ⟨M, h3, h4⟩
        · rw [hg] at h3; cases h3
        · rw [hg] at h3
          injection h3 with h3
          rw [h4, ← h3, h2, h6]
theorem both_len (a note b : Bs) : (bothS a note b).length = a.length + note.length + b.length + 4 := by
  unfold bothS
  simp
  omega
end Go.Proofs.YtbckbpimabmacaaDoor
namespace Go.Proofs.YtbckbpimabmacaaDoor
set_option linter.unusedVariables false
set_option linter.unusedSimpArgs false
open Go.RowKit Go.Proofs.YtbckbpimabmacaaDoorW.PrintWords
attribute [local go_sem ↓] Go.wp_at_zero Go.wp_at_succ
attribute [local go_sem] bsV_get bsV_size bsV_toList

theorem both_v (a note b : Bs) : bsV a ++ ⟨#[10, 35]⟩ ++ bsV note ++ ⟨#[10, 10]⟩ ++ bsV b = bsV (bothS a note b) := by
  rw [show (⟨#[10, 35]⟩ : ByteArray) = bsV [10, 35] from rfl, show (⟨#[10, 10]⟩ : ByteArray) = bsV [10, 10] from rfl, bsV_app, bsV_app, bsV_app, bsV_app]
  unfold bothS
  simp
set_option maxHeartbeats 4000000 in
set_option maxRecDepth 100000 in
theorem parts_law (a b note : Bs) (w : World) (hg : HG w) (hm : MX w) : Calls Tryd.prog 5 #[.string (bsV a), .string (bsV b), .string (bsV note)] w fun e w' => e = .returned (.bool true) ∧ Below w.heap.size w w' := by
  have HW := Lib.hid (works_later hg hm)
  have HM := Lib.hid hm
  clear hg hm
  by_cases hgd : a.length ≤ 2000 ∧ b.length ≤ 2000 ∧ note.length ≤ 200
  · obtain ⟨ha, hb, hn⟩ := hgd
    have d1 : ¬ (2000 : Int) < (a.length : Int) := by omega
    have d2 : ¬ (2000 : Int) < (b.length : Int) := by omega
    have d3 : ¬ (200 : Int) < (note.length : Int) := by omega
    have HRN := Lib.hid (fun W => rows_any note (by omega) W)
    have HRA := Lib.hid (fun W => rows_any a (by omega) W)
    have HRB := Lib.hid (fun W => rows_any b (by omega) W)
    have hxa := fun W (hW : MX W) => read_any a W (by omega) hW
    have hxb := fun W (hW : MX W) => read_any b W (by omega) hW
    have hxz := fun W (hW : MX W) => read_any (bothS a note b) W (by have := both_len a note b; omega) hW
    unfold ReadPost at hxa hxb hxz
    rw [← both_v] at hxz
    have HOA := Lib.hid (readS_ok (s := a) (by omega))
    have HOB := Lib.hid (readS_ok (s := b) (by omega))
    have hpp := fun h1 h2 => parts_plain (a := a) (note := note) (b := b) h1 h2
    have hla : (splitS 10 a).length ≤ 2001 := by have := split_len 10 a; omega
    have hlb : (splitS 10 b).length ≤ 2001 := by have := split_len 10 b; omega
    generalize readS a = ra at hxa hpp HOA
    generalize readS b = rb at hxb hpp HOB
    generalize readS (bothS a note b) = rz at hxz hpp
    obtain ⟨X, cx, px⟩ := ra
    obtain ⟨Y, cy, py⟩ := rb
    obtain ⟨Z, cz, pz⟩ := rz
    dsimp only at hxa hxb hxz hpp HOA HOB
    generalize (splitS 10 a).length = na at HRA hpp hla
    generalize (splitS 10 b).length = nb at HRB hpp hlb
    generalize (splitS 10 note).length = nn at HRN hpp
    have HXA := Lib.hid hxa
    have HXB := Lib.hid hxb
    have HXZ := Lib.hid hxz
    have HPP := Lib.hid hpp
    clear hxa hxb hxz hpp
    go_enter Tryd.func5, Tryd.ntmps5
    go_wp2_with fail
    refine (HRN.out w).mono ?_
    rintro e w0 ⟨A0, c0, rfl, _, _, hb0⟩
    have HB0 := Lib.hid hb0
    clear hb0 HRN
    by_cases hnn : nn ≤ 1
    · have d4 : ¬ (1 : Int) < (nn : Int) := by omega
      go_wp2_with fail
      refine (HXA.out w0 (HM.out.later HB0.out)).mono ?_
      rintro e w1 ⟨A1, c1, v1, rfl, hR1, hE1, hb1⟩
      have HB1 := Lib.hid (HB0.out.trans (hb1.mono HB0.out.size))
      have HS1 := Lib.hid hb1.size
      have HR1 := Lib.hid hR1
      clear hb1 hR1 HXA
      go_wp2_with fail
      refine (HXB.out w1 (HM.out.later HB1.out)).mono ?_
      rintro e w2 ⟨A2, c2, v2, rfl, hR2, hE2, hb2⟩
      have HB2 := Lib.hid (HB1.out.trans (hb2.mono HB1.out.size))
      have HS2 := Lib.hid hb2.size
      have HT1 := Lib.hid (Kd.R_below HR1.out hb2)
      have HLX := Lib.hid (Kd.R_lt HR1.out)
      have HR2 := Lib.hid hR2
      clear hb2 hR2 HXB HR1
      go_wp2_with fail
      refine (HXZ.out w2 (HM.out.later HB2.out)).mono ?_
      rintro e w3 ⟨A3, c3, v3, rfl, hR3, hE3, hb3⟩
      have HB3 := Lib.hid (HB2.out.trans (hb3.mono HB2.out.size))
      have HT2 := Lib.hid (Kd.R_below HT1.out hb3)
      have HU2 := Lib.hid (Kd.R_below HR2.out hb3)
      have HR3 := Lib.hid hR3
      clear hb3 hR3 HXZ HT1 HR2
      go_wp2_with fail
      refine (HRA.out w3).mono ?_
      rintro e w4 ⟨A4, c4, rfl, _, _, hb4⟩
      have HB4 := Lib.hid (HB3.out.trans (hb4.mono HB3.out.size))
      have HT3 := Lib.hid (Kd.R_below HT2.out hb4)
      have HU3 := Lib.hid (Kd.R_below HU2.out hb4)
      have HV3 := Lib.hid (Kd.R_below HR3.out hb4)
      clear hb4 HRA HT2 HU2 HR3
      go_wp2_with fail
      refine (HRB.out w4).mono ?_
      rintro e w5 ⟨A5, c5, rfl, _, _, hb5⟩
      have HB5 := Lib.hid (HB4.out.trans (hb5.mono HB4.out.size))
      have HT4 := Lib.hid (Kd.R_below HT3.out hb5)
      have HU4 := Lib.hid (Kd.R_below HU3.out hb5)
      have HV4 := Lib.hid (Kd.R_below HV3.out hb5)
      clear hb5 HRB HT3 HU3 HV3
      have hws : IntKind.i64.wrap ((na : Int) + (nb : Int)) = ((na + nb : Nat) : Int) := by rw [IntKind.wrap_i64]; omega
      by_cases hnab : na + nb ≤ 4000
      · have d5 : ¬ (4000 : Int) < ((na + nb : Nat) : Int) := by omega
        have hpp := HPP.out hnn hnab
        have HZ := Lib.hid hpp
        clear hpp HPP
        rcases hE1 with ⟨q1, rfl⟩ | ⟨q1, b1, op1, rfl, _⟩ <;> rcases hE2 with ⟨q2, rfl⟩ | ⟨q2, b2, op2, rfl, _⟩
        · rcases HZ.out with ⟨_, _, hz⟩ | ⟨hz, _⟩
          · injection hz with z1 z2
            injection z2 with z2 z3
            have HZE := Lib.hid z1
            clear z1
            rcases hE3 with ⟨q3, rfl⟩ | ⟨q3, _⟩
            · clear HZ
              have HRr := Lib.hid (Kd.R_lower (Kd.R_bound HU4.out) (HB1.out.size))
              obtain ⟨A2', c2', ev2, _, HRd⟩ := HRr.out.2.reads
              have HVG := Lib.hid (Kd.R_bound HV4.out)
              have HLT := Lib.hid (show ∀ k, w1.heap.size ≤ k → some k ≠ (Value.slice A1 X.length c1).ownBlock from fun k hk e => by have := HLX.out k e.symm; omega)
              have HXL := Lib.hid HOA.out.2
              have HYL := Lib.hid HOB.out.2
              have HZS := Lib.hid (show ∀ d ∈ Z, okS d from fun d hd => by
                rw [HZE.out] at hd
                rcases List.mem_append.1 hd with h | h
                · exact HOA.out.1 d h
                · exact HOB.out.1 d h)
              have HZN := Lib.hid (show Z.length ≤ 4100 by rw [HZE.out, List.length_append]; have := HOA.out.2; have := HOB.out.2; omega)
              have hbase : w.heap.size ≤ w5.heap.size := HB5.out.size
              obtain ⟨_, hc3, _⟩ := Kd.R_reads' HV4.out
              injection ev2 with g1 g2 g3
              subst g1
              subst g3
              have HRD := Lib.hid HRd
              have HTX := Lib.hid (Kd.R_lower HT4.out HB0.out.size)
              clear HRd HT4 HU4 HRr
              go_wp2_with (at_builtin; go_loud (refine gate_guard (by rfl) ?_); go_loud (refine Kd.R_append_rows kE (w0 := w) (W := w5) w.heap.size rfl (.tmp 78) (.tmp 79) 32 45 (.agg z9) 104 rfl Tryd.underlying32 info_deed rfl (by decide) (by decide) (.slice A1 X.length c1) X Y A2 Y.length c2 (fun _ => True) (fun k => w1.heap.size ≤ k) rfl rfl HTX.out HRD.out (fun x cs h => Kd.M_mono kE (fun k hk => hk.1.2.1) h) (fun k hk => ⟨trivial, HLT.out k hk⟩) (fun _ _ => trivial) HB5.out hbase (by have := HXL.out; have := HYL.out; omega) ?_); intro v1 w6 ho hb6 hg6 hat; rw [← HZE.out] at ho; obtain ⟨A6, c6, hv1⟩ := Kd.R_slice ho; subst hv1; have HO := Lib.hid ho; have HB6 := Lib.hid hb6; have HV6 := Lib.hid (Kd.R_grown HVG.out hg6 (fun k hk => HLT.out k (Nat.le_trans HS2.out hk.2.1))); clear ho hb6 hg6 hat)
              obtain ⟨_, hc6, hC6⟩ := Kd.R_reads' HO.out
              obtain ⟨_, _, hC7⟩ := Kd.R_reads' HV6.out
              refine (refSameAll_any Z Z A3 A6 c3 c6 w6 (kE_C hC7) (kE_C hC6) hc3 hc6 HZS.out HZS.out (by have := HZN.out; omega) (by have := HZN.out; omega)).mono ?_
              rintro e w7 ⟨rfl, hb7⟩
              rw [sameAll_refl]
              have HB7 := Lib.hid (HB6.out.trans (hb7.mono HB6.out.size))
              clear hb7 hC6 hC7
              go_wp2_with fail
              refine (HW.out _ HB7.out).mono ?_
              rintro e w8 ⟨rfl, hb8⟩
              have HB8 := Lib.hid hb8
              clear hb8
              go_wp2_with fail
              go_ret
              exact ⟨rfl, HB8.out⟩
            · exact absurd z2 q3
          · rcases hz with hz | hz
            · exact absurd q1 hz
            · exact absurd q2 hz
        all_goals
          rcases HZ.out with ⟨z1, z2, _⟩ | ⟨_, hz⟩
          · first | exact absurd z1 q1 | exact absurd z2 q2
          · rcases hE3 with ⟨q3, _⟩ | ⟨q3, b3, op3, rfl, _⟩
            · exact absurd q3 hz
            · unfold faultV
              go_wp2_with fail
              refine (HW.out _ HB5.out).mono ?_
              rintro e w6 ⟨rfl, hb6⟩
              have HB6 := Lib.hid hb6
              clear hb6
              go_wp2_with fail
              go_ret
              exact ⟨rfl, HB6.out⟩
      · have d5 : (4000 : Int) < ((na + nb : Nat) : Int) := by omega
        go_wp2_with fail
        refine (HW.out _ HB5.out).mono ?_
        rintro e w6 ⟨rfl, hb6⟩
        have HB6 := Lib.hid hb6
        clear hb6
        go_wp2_with fail
        go_ret
        exact ⟨rfl, HB6.out⟩
    · have d4 : (1 : Int) < (nn : Int) := by omega
      go_wp2_with fail
      refine (HW.out _ HB0.out).mono ?_
      rintro e w6 ⟨rfl, hb6⟩
      have HB6 := Lib.hid hb6
      clear hb6
      go_wp2_with fail
      go_ret
      exact ⟨rfl, HB6.out⟩
  · have hdd : (2000 : Int) < (a.length : Int) ∨ (¬ (2000 : Int) < (a.length : Int) ∧ (2000 : Int) < (b.length : Int)) ∨ (¬ (2000 : Int) < (a.length : Int) ∧ ¬ (2000 : Int) < (b.length : Int) ∧ (200 : Int) < (note.length : Int)) := by omega
    clear hgd
    rcases hdd with d1 | ⟨d1, d2⟩ | ⟨d1, d2, d3⟩
    all_goals
      go_enter Tryd.func5, Tryd.ntmps5
      go_wp2_with fail
      refine (HW.out _ (Below.refl _ _)).mono ?_
      rintro e w9 ⟨rfl, hb9⟩
      have HB9 := Lib.hid hb9
      clear hb9
      go_wp2_with fail
      go_ret
      exact ⟨rfl, HB9.out⟩
end Go.Proofs.YtbckbpimabmacaaDoor
