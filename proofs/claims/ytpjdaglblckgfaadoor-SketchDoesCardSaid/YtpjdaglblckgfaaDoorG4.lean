/- The law SketchDoes, its width or limit out of bounds. The law SketchDoes, its arguments out of the guard. The law SketchDoes, the good arm (with a hole). The law SketchDoes: what its call comes to. -/
import Derived.Test.YtpjdaglblckgfaaDoorG2
import Derived.Test.YtpjdaglblckgfaaDoorG3
import Derived.Test.YtpjdaglblckgfaaDoorIntsA
import Derived.Deep.DeepCutAuto
import Derived.Deep.RegionHeld3
import Derived.Deep.DrawnRows
import Derived.Deep.RegionWith
namespace Go.Proofs.YtpjdaglblckgfaaDoor
set_option linter.unusedVariables false
open Go.RowKit Go.Proofs.YtpjdaglblckgfaaDoorW.PrintWords

set_option maxHeartbeats 4000000 in
set_option maxRecDepth 100000 in
theorem does_bad (A : Option Addr) (c : Nat) (t o : Int) (ss : List ByteArray) (a y : ByteArray) (w : World) (hr : Kd.string.C w A ss.length ss) (hg : HG w)
    (hl : ss.length ≤ 60) (hs1 : shortB ss = true) (hs2 : shortB [a, y] = true) (ht : ¬ (40 < t ∧ t ≤ 4096)) (hbad : t < 1 ∨ 4096 < t ∨ o < 0 ∨ 1099511627776 < o) :
    Calls Tryd.prog 6 #[.int .i64 t, .int .i64 o, .slice A ss.length c, .string a, .string y] w fun e w' => e = .returned (.bool true) ∧ Below w.heap.size w w' := by
  have HR := Lib.hid hr
  have HH := Lib.hid hg
  have h0 := Lib.hid (hg_pos hg)
  have HBAD := Lib.hid hbad
  clear hr hg hbad
  have hd1 : decide (60 < (ss.length : Int)) = false := decide_eq_false (by omega)
  have ht' : decide (40 < t) = false ∨ (decide (40 < t) = true ∧ decide (t ≤ 4096) = false) := by
    simp only [decide_eq_true_eq, decide_eq_false_iff_not]; omega
  clear ht
  go_enter Tryd.func6, Tryd.ntmps6
  go_wp2_with fail
  refine (short_any A c ss _ HR.out).mono ?_
  rintro e w' ⟨rfl, rfl⟩
  go_wp2_with fail
  refine (short_any _ 2 [a, y] _ (C_two _ _ _ _)).mono ?_
  rintro e w' ⟨rfl, hw⟩
  subst hw
  have B1 := Lib.hid ((Below.refl w.heap.size w).alloc (Nat.le_refl _) (.cells #[.string a, .string y] 9))
  generalize w.alloc (.cells #[.string a, .string y] 9) = w1 at *
  rcases ht' with d1 | ⟨d1, d2⟩
  all_goals
    go_wp2_with fail
    refine (New_bad t o w1 HBAD.out).mono ?_
    rintro e w2 ⟨op, at_, rfl, hw2⟩
    have E2 := Lib.hid (show ErrIs w2 (faultV w1.heap.size) [(op, at_, 2)] by rw [hw2]; exact ErrIs.new_alloc _ op at_ 2 (by decide))
    have B2 := Lib.hid (show Below w.heap.size w w2 by rw [hw2]; exact B1.out.trans ((bel_alloc _ _).mono B1.out.size))
    clear hw2
    generalize w1.heap.size = eb at *
    go_wp2_with fail
    refine (refNew_bad t o w2 HBAD.out).mono ?_
    rintro e w3 ⟨rfl, h3⟩
    have E4 := Lib.hid ((E2.out.later h3).later (bel_alloc w3 (.cells #[.int .i64 0, .slice none 0 0, .int .i64 0, .int .i64 0, .int .i64 0] 38)))
    have B4 := Lib.hid ((B2.out.trans (h3.mono B2.out.size)).trans ((bel_alloc w3 (.cells #[.int .i64 0, .slice none 0 0, .int .i64 0, .int .i64 0, .int .i64 0] 38)).mono (Nat.le_trans B2.out.size h3.size)))
    clear h3 E2 B2
    go_wp2_with fail
    refine (of_code _ _ _ E4.out (HH.out.below' B4.out h0.out)).mono ?_
    rintro e w5 ⟨rfl, h5⟩
    have B5 := Lib.hid (B4.out.trans (h5.mono B4.out.size))
    have s5 := Lib.hid B5.out.size
    clear h5
    have hco : codeOf [(op, at_, 2)] = 2 := rfl
    rw [hco]
    clear hco
    go_wp2_with fail
    go_loopw [15] (fun i wr => i = .int .i64 0 ∧ Hid (Below w.heap.size w wr)) (fun i _ => 0)
    case atStart => exact ⟨rfl, B5.out⟩
    case round =>
      obtain ⟨rfl, HD⟩ := hrel
      have hsz := Lib.hid HD.out.size
      by_cases hp : 0 < ss.length
      · go_wp2_with fail
        refine (works_below HH.out h0.out HD.out hsz.out).mono ?_
        rintro e w6 ⟨rfl, b6⟩
        have B6 := Lib.hid b6
        clear b6
        go_wp2_with fail
        go_ret
        exact ⟨rfl, B6.out⟩
      · go_wp2_with fail
        refine (works_below HH.out h0.out HD.out hsz.out).mono ?_
        rintro e w6 ⟨rfl, b6⟩
        have B6 := Lib.hid b6
        clear b6
        go_wp2_with fail
        go_ret
        exact ⟨rfl, B6.out⟩
end Go.Proofs.YtpjdaglblckgfaaDoor
namespace Go.Proofs.YtpjdaglblckgfaaDoor
set_option linter.unusedVariables false
open Go.RowKit Go.Proofs.YtpjdaglblckgfaaDoorW.PrintWords

set_option maxHeartbeats 4000000 in
set_option maxRecDepth 100000 in
theorem does_out (A : Option Addr) (c : Nat) (t o : Int) (ss : List ByteArray) (a y : ByteArray) (w : World) (hr : Kd.string.C w A ss.length ss) (hg : HG w)
    (hout : 60 < ss.length ∨ shortB ss = false ∨ shortB [a, y] = false ∨ (40 < t ∧ t ≤ 4096)) :
    Calls Tryd.prog 6 #[.int .i64 t, .int .i64 o, .slice A ss.length c, .string a, .string y] w fun e w' => e = .returned (.bool true) ∧ Below w.heap.size w w' := by
  have HR := Lib.hid hr
  have HH := Lib.hid hg
  have h0 := Lib.hid (hg_pos hg)
  clear hr hg
  have hc : decide (60 < (ss.length : Int)) = true ∨ (decide (60 < (ss.length : Int)) = false ∧ (shortB ss = false ∨ (shortB ss = true ∧ (shortB [a, y] = false ∨ (shortB [a, y] = true ∧ decide (40 < t) = true ∧ decide (t ≤ 4096) = true))))) := by
    by_cases h1 : 60 < ss.length
    · exact .inl (decide_eq_true (by omega))
    · refine .inr ⟨decide_eq_false (by omega), ?_⟩
      cases h2 : shortB ss
      · exact .inl rfl
      · refine .inr ⟨rfl, ?_⟩
        cases h3 : shortB [a, y]
        · exact .inl rfl
        · rcases hout with h | h | h | h
          · omega
          · rw [h2] at h; cases h
          · rw [h3] at h; cases h
          · exact .inr ⟨rfl, decide_eq_true h.1, decide_eq_true h.2⟩
  clear hout
  go_enter Tryd.func6, Tryd.ntmps6
  rcases hc with d1 | ⟨d1, hs1 | ⟨hs1, hs2⟩⟩
  · go_wp2_with fail
    refine (works_below HH.out h0.out (Below.refl _ _) (Nat.le_refl _)).mono ?_
    rintro e w6 ⟨rfl, b6⟩
    have B6 := Lib.hid b6
    clear b6
    go_wp2_with fail
    go_ret
    exact ⟨rfl, B6.out⟩
  · go_wp2_with fail
    refine (short_any A c ss _ HR.out).mono ?_
    rintro e w' ⟨rfl, rfl⟩
    go_wp2_with fail
    refine (works_below HH.out h0.out (Below.refl _ _) (Nat.le_refl _)).mono ?_
    rintro e w6 ⟨rfl, b6⟩
    have B6 := Lib.hid b6
    clear b6
    go_wp2_with fail
    go_ret
    exact ⟨rfl, B6.out⟩
  · go_wp2_with fail
    refine (short_any A c ss _ HR.out).mono ?_
    rintro e w' ⟨rfl, rfl⟩
    go_wp2_with fail
    refine (short_any _ 2 [a, y] _ (C_two _ _ _ _)).mono ?_
    rintro e w' ⟨rfl, hw⟩
    subst hw
    have B1 := Lib.hid ((Below.refl w.heap.size w).alloc (Nat.le_refl _) (.cells #[.string a, .string y] 9))
    generalize w.alloc (.cells #[.string a, .string y] 9) = w1 at *
    rcases hs2 with hs2 | ⟨hs2, d2, d3⟩
    all_goals
      go_wp2_with fail
      refine (works_below HH.out h0.out B1.out B1.out.size).mono ?_
      rintro e w6 ⟨rfl, b6⟩
      have B6 := Lib.hid b6
      clear b6
      go_wp2_with fail
      go_ret
      exact ⟨rfl, B6.out⟩
end Go.Proofs.YtpjdaglblckgfaaDoor
namespace Go.Proofs.YtpjdaglblckgfaaDoor
set_option linter.unusedVariables false
open Go.RowKit Go.Proofs.YtpjdaglblckgfaaDoorW.PrintWords
attribute [local go_sem ↓] Go.wp_at_zero Go.wp_at_succ

set_option maxHeartbeats 4000000 in
set_option maxRecDepth 100000 in
theorem does_good (A : Option Addr) (c n : Nat) (o : Int) (ss : List ByteArray) (a y : ByteArray) (w : World) (hr : Kd.string.C w A ss.length ss) (hg : HG w) (hka : a.size ≤ maxLen) (hky : y.size ≤ maxLen)
    (hl : ss.length ≤ 60) (hs1 : shortB ss = true) (hs2 : shortB [a, y] = true) (hn1 : 1 ≤ n) (hn2 : n ≤ 40) (ho0 : 0 ≤ o) (ho1 : o ≤ 1099511627776) :
    Calls Tryd.prog 6 #[.int .i64 n, .int .i64 o, .slice A ss.length c, .string a, .string y] w fun e w' => e = .returned (.bool true) ∧ Below w.heap.size w w' := by
  have HR := Lib.hid hr
  have HH := Lib.hid hg
  have HK := Lib.hid hka
  have HY := Lib.hid hky
  have h0 := Lib.hid (hg_pos hg)
  clear hr hg hka hky
  have hd1 : decide (60 < (ss.length : Int)) = false := decide_eq_false (by omega)
  have d1 : decide (40 < (n : Int)) = false := decide_eq_false (by omega)
  go_enter Tryd.func6, Tryd.ntmps6
  go_wp2_with fail
  refine (short_any A c ss _ HR.out).mono ?_
  rintro e w' ⟨rfl, rfl⟩
  go_wp2_with fail
  refine (short_any _ 2 [a, y] _ (C_two _ _ _ _)).mono ?_
  rintro e w' ⟨rfl, hw⟩
  subst hw
  have B1 := Lib.hid ((Below.refl w.heap.size w).alloc (Nat.le_refl _) (.cells #[.string a, .string y] 9))
  generalize w.alloc (.cells #[.string a, .string y] 9) = w1 at *
  have hb1 := Lib.hid B1.out.size
  go_wp2_with fail
  refine (New_ok n o w1 hn1 (by omega) ho0 ho1).mono ?_
  rintro e w2 ⟨rfl, i2, b2, s2⟩
  have I2 := Lib.hid (St.new B1.out hb1.out i2 b2)
  clear i2 b2 s2 B1 hb1
  generalize w1.heap.size = p at *
  go_wp2_with fail
  refine (refNew_ok n o w2 hn1 (by omega) ho0 ho1).mono ?_
  rintro e w3 ⟨LA, nL, R, cp, rfl, h3, ow3, b3⟩
  have hrf : rfCells LA nL (Sk.new n o) = #[.int .i64 n, .slice (some ⟨LA, 0, none⟩) 4 nL, .int .i64 0, .int .i64 o, .int .i64 0] := rfl
  rw [hrf]
  clear hrf
  have T0 := Lib.hid (show SkTwo w (w3.alloc (.cells #[.int .i64 n, .slice (some ⟨LA, 0, none⟩) 4 nL, .int .i64 0, .int .i64 o, .int .i64 0] 38)) w.heap.size p (fun r => p + (1 + r)) (Sk.new n o) w3.heap.size LA nL R cp (Sk.new n o) from
    ⟨(I2.out.later b3).later (bel_alloc _ _), h3.later (bel_alloc _ _), heap_alloc_new _ _, Nat.le_trans I2.out.hb b3.size⟩)
  clear h3 ow3 b3 I2
  go_wp2_with fail
  refine (of_code .nilIface [] _ .nil (HH.out.below' T0.out.st.bel h0.out)).mono ?_
  rintro e w5 ⟨rfl, h5⟩
  have T1 := Lib.hid (T0.out.later h5)
  have hco : codeOf [] = 0 := rfl
  rw [hco]
  clear hco T0 h5
  generalize w3.heap.size = q at *
  go_wp2_with fail
  go_loopw [15] (fun i wr => ∃ k : Nat, k ≤ ss.length ∧ i = .int .i64 k ∧ Hid (∃ S LA nL R cp, SkTwo w wr w.heap.size p (fun r => p + (1 + r)) S q LA nL R cp S ∧ S.width = n ∧ S.limit = o ∧ S.total ≤ k ∧ S.aged ≤ 2 * k)) (fun i _ => ss.length - (intOf i).toNat)
  case atStart => exact ⟨0, Nat.zero_le _, rfl, _, _, _, _, _, T1.out, rfl, rfl, Int.le_refl _, Int.le_refl _⟩
  case round =>
    obtain ⟨k, hk, rfl, HD⟩ := hrel
    obtain ⟨S, LA, nL, R, cp, HD⟩ : ∃ S LA nL R cp, Hid (SkTwo w wr w.heap.size p (fun r => p + (1 + r)) S q LA nL R cp S ∧ S.width = n ∧ S.limit = o ∧ S.total ≤ k ∧ S.aged ≤ 2 * k) := HD.out
    by_cases hlt : k < ss.length
    · obtain ⟨ad, hA, hc⟩ := at_str HR.out hlt
      subst hA
      have hc1 : wr.cell? (ad.add k) = some (.string (sget ss k)) := (HD.out.1.st.bel.cell (World.block_lt_of_cell? w _ hc)).trans hc
      have HT := Lib.hid HD.out.2.2.2
      have hAdd := Lib.hid (Add_stL HD.out.1.st (sget ss k) (short_mem hs1 hlt) (by have := HT.out.1; omega) (by have := HT.out.2; omega))
      go_wp2_with fail
      refine hAdd.out.mono ?_
      rintro e w6 ⟨rfl, h6, c6⟩
      have T6 := Lib.hid (HD.out.1.chg h6 c6)
      clear h6 c6
      have hc6 : w6.cell? (ad.add k) = some (.string (sget ss k)) := (T6.out.st.bel.cell (World.block_lt_of_cell? w _ hc)).trans hc
      have v0 : w6.cell? ⟨q, 0, none⟩ = some (.int .i64 S.width) := T6.out.cell 0
      have v1 : w6.cell? ⟨q, 1, none⟩ = some (.slice (some ⟨LA, 0, none⟩) 4 nL) := T6.out.cell 1
      have v2 : w6.cell? ⟨q, 2, none⟩ = some (.int .i64 S.total) := T6.out.cell 2
      have v3 : w6.cell? ⟨q, 3, none⟩ = some (.int .i64 S.limit) := T6.out.cell 3
      have v4 : w6.cell? ⟨q, 4, none⟩ = some (.int .i64 S.aged) := T6.out.cell 4
      go_wp2_with fail
      go_still_tail 5, (by kernel_rfl)
      go_wp2_with fail
      refine (refAdd_any LA nL R cp S (sget ss k) (short_mem hs1 hlt) _ (by first | exact T6.out.rf | exact T6.out.rf.later (Drawn0.below ⟨_, rfl⟩)) HD.out.1.st.t0 (by have := HT.out.1; omega) HD.out.1.st.a0 (by have := HT.out.2; omega)).mono ?_
      rintro e w7 ⟨LA2, nL2, R2, cp2, rfl, h7, o7, b7⟩
      have T6d := Lib.hid (T6.out.later (Drawn0.below ⟨1, rfl⟩ : Below w6.heap.size w6 w6.drew))
      have T7 := Lib.hid (T6d.out.put h7 o7 b7)
      have T7b := Lib.hid (T6d.out.later b7)
      have hrf : rfCells LA2 nL2 (S.add (sget ss k)) = #[.int .i64 (S.add (sget ss k)).width, .slice (some ⟨LA2, 0, none⟩) 4 nL2, .int .i64 (S.add (sget ss k)).total, .int .i64 (S.add (sget ss k)).limit, .int .i64 (S.add (sget ss k)).aged] := rfl
      rw [hrf]
      clear hrf h7 o7 b7 T6 v0 v1 v2 v3 v4 T6d
      have v0 : w7.cell? ⟨q, 0, none⟩ = some (.int .i64 S.width) := T7b.out.cell 0
      have v1 : w7.cell? ⟨q, 1, none⟩ = some (.slice (some ⟨LA, 0, none⟩) 4 nL) := T7b.out.cell 1
      have v2 : w7.cell? ⟨q, 2, none⟩ = some (.int .i64 S.total) := T7b.out.cell 2
      have v3 : w7.cell? ⟨q, 3, none⟩ = some (.int .i64 S.limit) := T7b.out.cell 3
      have v4 : w7.cell? ⟨q, 4, none⟩ = some (.int .i64 S.aged) := T7b.out.cell 4
      obtain ⟨f0, f1, f2, f3, f4⟩ : w7.frozen? ⟨q, 0, none⟩ = false ∧ w7.frozen? ⟨q, 1, none⟩ = false ∧ w7.frozen? ⟨q, 2, none⟩ = false ∧ w7.frozen? ⟨q, 3, none⟩ = false ∧ w7.frozen? ⟨q, 4, none⟩ = false := ⟨T7b.out.fro 0, T7b.out.fro 1, T7b.out.fro 2, T7b.out.fro 3, T7b.out.fro 4⟩
      have hbd := Lib.hid (add_bd S (sget ss k) HD.out.1.st.t0)
      clear T7b
      generalize hSa : S.add (sget ss k) = Sa at *
      clear hSa
      go_upto_region 12 with (fail)
      generalize (((((w7.setCell ⟨q, 0, none⟩ (.int .i64 Sa.width)).setCell ⟨q, 1, none⟩ (.slice (some ⟨LA2, 0, none⟩) 4 nL2)).setCell ⟨q, 2, none⟩ (.int .i64 Sa.total)).setCell ⟨q, 3, none⟩ (.int .i64 Sa.limit)).setCell ⟨q, 4, none⟩ (.int .i64 Sa.aged)) = w8 at *
      clear v0 v1 v2 v3 v4 f0 f1 f2 f3 f4 hc6 hc1
      have hc8 : w8.cell? (ad.add k) = some (.string (sget ss k)) := (T7.out.st.bel.cell (World.block_lt_of_cell? w _ hc)).trans hc
      have T8 := Lib.hid (show SkTwo w w8 w.heap.size p (fun r => p + (1 + r)) Sa q LA2 nL2 R2 cp2 Sa ∧ Sa.width = n ∧ Sa.limit = o ∧ Sa.total ≤ k + 1 ∧ Sa.aged ≤ 2 * k + 1 from ⟨T7.out, by rw [hbd.out.2.2.1]; exact HD.out.2.1, by rw [hbd.out.2.2.2]; exact HD.out.2.2.1, by have := hbd.out.1; have := HT.out.1; omega, by have := hbd.out.2.1; have := HT.out.2; omega⟩)
      clear T7 HT hbd HD hAdd
      generalize sget ss k = key at *
      go_upto_if 90 with (fail)
      go_cut [] (fun wx => Hid (∃ S LA nL R cp, SkTwo w wx w.heap.size p (fun r => p + (1 + r)) S q LA nL R cp S ∧ S.width = n ∧ S.limit = o ∧ S.total ≤ k + 1 ∧ S.aged ≤ 2 * k + 2))
      case first =>
        go_wp2_with fail
        · refine (Age_st T8.out.1.st (by have := T8.out.2.2.2.2; omega)).mono ?_
          rintro e w9 ⟨rfl, h9, c9⟩
          have T9 := Lib.hid (T8.out.1.chg h9 c9)
          clear h9 c9
          have v0 : w9.cell? ⟨q, 0, none⟩ = some (.int .i64 Sa.width) := T9.out.cell 0
          have v1 : w9.cell? ⟨q, 1, none⟩ = some (.slice (some ⟨LA2, 0, none⟩) 4 nL2) := T9.out.cell 1
          have v2 : w9.cell? ⟨q, 2, none⟩ = some (.int .i64 Sa.total) := T9.out.cell 2
          have v3 : w9.cell? ⟨q, 3, none⟩ = some (.int .i64 Sa.limit) := T9.out.cell 3
          have v4 : w9.cell? ⟨q, 4, none⟩ = some (.int .i64 Sa.aged) := T9.out.cell 4
          go_wp2_with fail
          refine (refAge_any LA2 nL2 R2 cp2 Sa _ T9.out.rf T8.out.1.st.t0 (by have := T8.out.1.st.t1; omega) T8.out.1.st.a0 (by have := T8.out.1.st.a1; omega)).mono ?_
          rintro e wA ⟨LA3, nL3, R3, cp3, rfl, hA, oA, bA⟩
          have TA := Lib.hid (T9.out.put hA oA bA)
          have TAb := Lib.hid (T9.out.later bA)
          have hrf : rfCells LA3 nL3 Sa.age = #[.int .i64 Sa.age.width, .slice (some ⟨LA3, 0, none⟩) 4 nL3, .int .i64 Sa.age.total, .int .i64 Sa.age.limit, .int .i64 Sa.age.aged] := rfl
          rw [hrf]
          clear hrf hA oA bA v0 v1 v2 v3 v4
          have v0 : wA.cell? ⟨q, 0, none⟩ = some (.int .i64 Sa.width) := TAb.out.cell 0
          have v1 : wA.cell? ⟨q, 1, none⟩ = some (.slice (some ⟨LA2, 0, none⟩) 4 nL2) := TAb.out.cell 1
          have v2 : wA.cell? ⟨q, 2, none⟩ = some (.int .i64 Sa.total) := TAb.out.cell 2
          have v3 : wA.cell? ⟨q, 3, none⟩ = some (.int .i64 Sa.limit) := TAb.out.cell 3
          have v4 : wA.cell? ⟨q, 4, none⟩ = some (.int .i64 Sa.aged) := TAb.out.cell 4
          obtain ⟨f0, f1, f2, f3, f4⟩ : wA.frozen? ⟨q, 0, none⟩ = false ∧ wA.frozen? ⟨q, 1, none⟩ = false ∧ wA.frozen? ⟨q, 2, none⟩ = false ∧ wA.frozen? ⟨q, 3, none⟩ = false ∧ wA.frozen? ⟨q, 4, none⟩ = false := ⟨TAb.out.fro 0, TAb.out.fro 1, TAb.out.fro 2, TAb.out.fro 3, TAb.out.fro 4⟩
          have hag := Lib.hid (show Sa.age.width = n ∧ Sa.age.limit = o ∧ Sa.age.total ≤ k + 1 ∧ Sa.age.aged ≤ 2 * k + 2 from ⟨T8.out.2.1, T8.out.2.2.1, by show Sa.total / 2 ≤ _; have := T8.out.2.2.2.1; have := T8.out.1.st.t0; omega, by show Sa.aged + 1 ≤ _; have := T8.out.2.2.2.2; omega⟩)
          clear TAb
          generalize hSg : Sa.age = Sg at *
          clear hSg
          go_wp2_with fail
          go_meet
          exact ⟨Sg, _, _, _, _, TA.out, hag.out⟩
        · go_meet
          exact ⟨Sa, _, _, _, _, T8.out.1, T8.out.2.1, T8.out.2.2.1, T8.out.2.2.2.1, by have := T8.out.2.2.2.2; omega⟩
      case rest =>
        clear T8 hc8
        obtain ⟨wb, rfl⟩ : ∃ wb : World, wb = wc := ⟨_, rfl⟩
        obtain ⟨S, LA, nL, R, cp, HD⟩ : ∃ S LA nL R cp, Hid (SkTwo w wb w.heap.size p (fun r => p + (1 + r)) S q LA nL R cp S ∧ S.width = n ∧ S.limit = o ∧ S.total ≤ k + 1 ∧ S.aged ≤ 2 * k + 2) := hcut.out
        have hS : ∀ W, Below wb.heap.size wb W → (W.cell? ⟨q, 0, none⟩ = some (.int .i64 S.width) ∧ W.cell? ⟨q, 1, none⟩ = some (.slice (some ⟨LA, 0, none⟩) 4 nL) ∧ W.cell? ⟨q, 2, none⟩ = some (.int .i64 S.total) ∧ W.cell? ⟨q, 3, none⟩ = some (.int .i64 S.limit) ∧ W.cell? ⟨q, 4, none⟩ = some (.int .i64 S.aged)) := fun W hW =>
          ⟨(HD.out.1.later hW).cell 0, (HD.out.1.later hW).cell 1, (HD.out.1.later hW).cell 2, (HD.out.1.later hW).cell 3, (HD.out.1.later hW).cell 4⟩
        have hC1 : ∀ W, Below wb.heap.size wb W → Calls Tryd.prog 21 #[.pointer (some ⟨p, 0, none⟩)] W fun e w' => e = .returned (.int .i64 S.width) ∧ W = w' := fun W hW => Width_any p _ S W (HD.out.1.later hW).st.sk
        have hC2 : ∀ W, Below wb.heap.size wb W → Calls Tryd.prog 22 #[.pointer (some ⟨p, 0, none⟩)] W fun e w' => e = .returned (.int .i64 S.limit) ∧ W = w' := fun W hW => Limit_any p _ S W (HD.out.1.later hW).st.sk
        have hC3 : ∀ W, Below wb.heap.size wb W → Calls Tryd.prog 14 #[.pointer (some ⟨p, 0, none⟩)] W fun e w' => e = .returned (.int .i64 S.total) ∧ W = w' := fun W hW => Total_any p _ S W (HD.out.1.later hW).st.sk
        have hC4 : ∀ W, Below wb.heap.size wb W → Calls Tryd.prog 15 #[.pointer (some ⟨p, 0, none⟩)] W fun e w' => e = .returned (.int .i64 S.aged) ∧ W = w' := fun W hW => Aged_any p _ S W (HD.out.1.later hW).st.sk
        have hC5 : ∀ W, Below wb.heap.size wb W → Calls Tryd.prog 13 #[.pointer (some ⟨p, 0, none⟩), .string a] W fun e w' => e = .returned (.int .i64 (ofI S a)) ∧ Below wb.heap.size wb w' := fun W hW =>
          (Of_any p _ S a W (HD.out.1.later hW).st.sk HK.out).mono fun e w' ⟨he, m, hm⟩ => ⟨he, by subst hm; exact hW.trans ((Drawn0.below ⟨m, rfl⟩).mono hW.size)⟩
        have hC6 : ∀ W, Below wb.heap.size wb W → Calls Tryd.prog 24 #[.pointer (some ⟨p, 0, none⟩), .string a, .string y] W fun e w' => e = .returned (.bool (decide (ofI S y < ofI S a))) ∧ Below wb.heap.size wb w' := fun W hW =>
          (More_any p _ S a y W (HD.out.1.later hW).st.sk HK.out HY.out).mono fun e w' ⟨he, m, hm⟩ => ⟨he, by subst hm; exact hW.trans ((Drawn0.below ⟨m, rfl⟩).mono hW.size)⟩
        have hC7 : ∀ key : ByteArray, key.size ≤ maxLen → ∀ W, Below wb.heap.size wb W → Calls Tryd.prog 23 #[.agg #[.int .i64 S.width, .slice (some ⟨LA, 0, none⟩) 4 nL, .int .i64 S.total, .int .i64 S.limit, .int .i64 S.aged], .string key] W fun e w' => e = .returned (.int .i64 (ofI S key)) ∧ Below wb.heap.size wb w' := fun key hk W hW =>
          (refOf_any LA nL R cp S key hk W (HD.out.1.later hW).rf).mono fun e w' ⟨he, hb⟩ => ⟨he, hW.trans (hb.mono hW.size)⟩
        have hC7a := hC7 a HK.out
        have hC7y := hC7 y HY.out
        generalize ofI S a = oa at *
        generalize ofI S y = oy at *
        have HC7a := Lib.hid hC7a
        have HC7y := Lib.hid hC7y
        have HSS := Lib.hid hS
        have HC1 := Lib.hid hC1
        have HC2 := Lib.hid hC2
        have HC3 := Lib.hid hC3
        have HC4 := Lib.hid hC4
        have HC5 := Lib.hid hC5
        have HC6 := Lib.hid hC6
        clear hS hC1 hC2 hC3 hC4 hC5 hC6 hC7 hC7a hC7y hcut
        have b0 : Hid (Below wb.heap.size wb wb.drew) := Drawn0.below ⟨1, rfl⟩
        obtain ⟨s0, s1, s2, s3, s4⟩ := HSS.out wb (Below.refl _ _)
        go_upto_region 15 with (fail)
        go_cut [143] (fun cc wx => cc = .bool false ∧ Hid (Below wb.heap.size wb wx))
        case first =>
          go_region_held3 (fun w' => w'.cell? ⟨q, 0, none⟩ = some (.int .i64 S.width) ∧ w'.cell? ⟨q, 1, none⟩ = some (.slice (some ⟨LA, 0, none⟩) 4 nL) ∧ w'.cell? ⟨q, 2, none⟩ = some (.int .i64 S.total) ∧ w'.cell? ⟨q, 3, none⟩ = some (.int .i64 S.limit) ∧ w'.cell? ⟨q, 4, none⟩ = some (.int .i64 S.aged))
            (first | exact ⟨s0, s1, s2, s3, s4⟩ | exact HSS.out _ b0.out | exact HSS.out _ b5.out | exact HSS.out _ b6.out | exact HSS.out _ b7.out | exact HSS.out _ b8.out | exact HSS.out _ b9.out)
            (first
            | (go_at_call 21; ((with_reducible refine (HC1.out _ ?_).mono ?_)); (case refine_1 => exact b0.out); rintro e w' ⟨rfl, rfl⟩)
            | (go_at_call 22; ((with_reducible refine (HC2.out _ ?_).mono ?_)); (case refine_1 => exact b0.out); rintro e w' ⟨rfl, rfl⟩)
            | (go_at_call 14; ((with_reducible refine (HC3.out _ ?_).mono ?_)); (case refine_1 => exact b0.out); rintro e w' ⟨rfl, rfl⟩)
            | (go_at_call 15; ((with_reducible refine (HC4.out _ ?_).mono ?_)); (case refine_1 => exact b0.out); rintro e w' ⟨rfl, rfl⟩)
            | (go_at_call 13; ((with_reducible refine (HC5.out _ ?_).mono ?_)); (case refine_1 => exact b0.out); rintro e w5 ⟨rfl, hb⟩; have b5 := Lib.hid hb; clear hb)
            | (go_at_call 24; ((with_reducible refine (HC6.out _ ?_).mono ?_)); (case refine_1 => first | exact b6.out | exact b5.out); rintro e w7 ⟨rfl, hb⟩; have b7 := Lib.hid hb; clear hb)
            | (go_at_call_of 23 (Value.string a); ((with_reducible refine (HC7a.out _ ?_).mono ?_)); (case refine_1 => first | exact b9.out | exact b8.out | exact b7.out | exact b6.out | exact b5.out | exact b0.out); rintro e w6 ⟨rfl, hb⟩; have b6 := Lib.hid hb; clear hb)
            | (go_at_call_of 23 (Value.string y); ((with_reducible refine (HC7y.out _ ?_).mono ?_)); (case refine_1 => first | exact b9.out | exact b8.out | exact b7.out | exact b6.out | exact b5.out | exact b0.out); rintro e w8 ⟨rfl, hb⟩; have b8 := Lib.hid hb; clear hb))
          all_goals
            go_wp2_with fail
            go_meet
            exact ⟨rfl, b8⟩
        case rest =>
          obtain ⟨rfl, BX⟩ := hcut
          clear s0 s1 s2 s3 s4 b0 HC1 HC2 HC3 HC4 HC5 HC6 HC7a HC7y HSS
          have HE := Lib.hid (show SkTwo w wc w.heap.size p (fun r => p + (1 + r)) S q LA nL R cp S from HD.out.1.later BX.out)
          have HF := Lib.hid HD.out.2
          clear BX HD
          go_wp2_with fail
          go_loopw [16] (fun i wr => ∃ r : Nat, r ≤ 4 ∧ i = .int .i64 r ∧ Hid (SkTwo w wr w.heap.size p (fun r => p + (1 + r)) S q LA nL R cp S)) (fun i _ => 4 - (intOf i).toNat)
          case atStart => exact ⟨0, Nat.zero_le _, rfl, HE.out⟩
          case round =>
            obtain ⟨r, hr4, rfl, HG⟩ := hrel
            by_cases hrl : r < 4
            · have hw2 := HG.out.rf.w2
              have n4 := HG.out.rf.n4
              have hS : ∀ W, Below wr.heap.size wr W → (W.cell? ⟨q, 1, none⟩ = some (.slice (some ⟨LA, 0, none⟩) 4 nL) ∧ W.cell? ⟨LA, r, none⟩ = some (.slice (some ⟨R r, 0, none⟩) S.width (cp r))) := fun W hW =>
                ⟨(HG.out.later hW).cell 1, (HG.out.later hW).rf.cellh hrl⟩
              have hC1 : ∀ W, Below wr.heap.size wr W → Calls Tryd.prog 26 #[.pointer (some ⟨p, 0, none⟩), .int .i64 r] W fun e w' => ∃ A c, e = .returned (.slice A S.width c) ∧ (Kd.int .i64).C w' A S.width (S.rowL r) ∧ S.width ≤ c ∧ Below wr.heap.size wr w' := fun W hW =>
                (Row_st (HG.out.later hW).st r hrl).mono fun e w' ⟨A, c, he, hC, hc, _, hb⟩ => ⟨A, c, he, hC, hc, hW.trans (hb.mono hW.size)⟩
              have hC2 : ∀ A c W, (Kd.int .i64).C W A S.width (S.rowL r) → S.width ≤ c → Below wr.heap.size wr W → Calls Tryd.prog 25 #[.slice A S.width c, .slice (some ⟨R r, 0, none⟩) S.width (cp r)] W fun e w' => e = .returned (.bool true) ∧ Below wr.heap.size wr w' := fun A c W hC hc hW => by
                have hl := S.rowL_len r
                have h1 := row_C (HG.out.later hW).rf hrl
                have h2 := HG.out.rf.cw r hrl
                have := ints_any A (some ⟨R r, 0, none⟩) c (cp r) (S.rowL r) (S.rowL r) W (by rw [hl]; exact hC) (by rw [hl]; exact hc) (by rw [hl]; exact h1) (by rw [hl]; exact h2) (by rw [hl]; omega)
                rw [hl] at this
                exact this.mono fun e w' ⟨he, m, hm⟩ => ⟨by rw [he]; simp, by subst hm; exact hW.trans ((Drawn0.below ⟨m, rfl⟩).mono hW.size)⟩
              obtain ⟨s0, s1⟩ := hS wr (Below.refl _ _)
              have HSS := Lib.hid hS
              have HC1 := Lib.hid hC1
              have HC2 := Lib.hid hC2
              clear hS hC1 hC2
              have i3 : (0 : Int) ≤ (r : Int) := by omega
              have i4 : (r : Int) < 4 := by omega
              have i5 : (4 : Int) ≤ (nL : Int) := by omega
              have b0 : Hid (Below wr.heap.size wr wr.drew) := Drawn0.below ⟨1, rfl⟩
              go_wp2_with fail
              go_region_held3 (fun w' => w'.cell? ⟨q, 1, none⟩ = some (.slice (some ⟨LA, 0, none⟩) 4 nL) ∧ w'.cell? ⟨LA, r, none⟩ = some (.slice (some ⟨R r, 0, none⟩) S.width (cp r)))
                (first | exact ⟨s0, s1⟩ | exact HSS.out _ b0.out | exact HSS.out _ b5.out | exact HSS.out _ b6.out)
                (first
                | (go_at_call 26; ((with_reducible refine (HC1.out _ ?_).mono ?_)); (case refine_1 => exact b0.out); rintro e w5 ⟨A5, c5, rfl, hC, hc, hb⟩; have b5 := Lib.hid hb; have C5 := Lib.hid hC; have D5 := Lib.hid hc; clear hb hC hc)
                | (go_at_call 25; ((with_reducible refine (HC2.out _ _ _ C5.out D5.out b5.out).mono ?_)); rintro e w6 ⟨rfl, hb⟩; have b6 := Lib.hid hb; clear hb))
              all_goals
                go_wp2_with fail
                go_roundw
                case rel => exact ⟨r + 1, by omega, by go_num, HG.out.later b6.out⟩
                case measure => simp [intOf]; omega
            · go_wp2_with fail
              go_roundw
              case rel => exact ⟨k + 1, by omega, by go_num, S, LA, nL, R, cp, HG.out, HF.out.1, HF.out.2.1, by have := HF.out.2.2.1; omega, by have := HF.out.2.2.2; omega⟩
              case measure => simp [intOf]; omega
    · go_wp2_with fail
      refine (works_below HH.out h0.out HD.out.1.st.bel HD.out.1.st.hb).mono ?_
      rintro e w6 ⟨rfl, b6⟩
      have B6 := Lib.hid b6
      clear b6
      go_wp2_with fail
      go_ret
      exact ⟨rfl, B6.out⟩
end Go.Proofs.YtpjdaglblckgfaaDoor
namespace Go.Proofs.YtpjdaglblckgfaaDoor
set_option linter.unusedVariables false
open Go.RowKit Go.Proofs.YtpjdaglblckgfaaDoorW.PrintWords

theorem does_law (A : Option Addr) (c : Nat) (t o : Int) (ss : List ByteArray) (a y : ByteArray) (w : World) (hr : Kd.string.C w A ss.length ss) (hka : a.size ≤ maxLen) (hky : y.size ≤ maxLen) (hg : HG w) :
    Calls Tryd.prog 6 #[.int .i64 t, .int .i64 o, .slice A ss.length c, .string a, .string y] w fun e w' => e = .returned (.bool true) ∧ Below w.heap.size w w' := by
  by_cases hout : 60 < ss.length ∨ shortB ss = false ∨ shortB [a, y] = false ∨ (40 < t ∧ t ≤ 4096)
  · exact does_out A c t o ss a y w hr hg hout
  · have hs1 : shortB ss = true := by
      cases h : shortB ss
      · exact absurd (Or.inr (Or.inl h)) hout
      · rfl
    have hs2 : shortB [a, y] = true := by
      cases h : shortB [a, y]
      · exact absurd (Or.inr (Or.inr (Or.inl h))) hout
      · rfl
    have hl : ss.length ≤ 60 := by
      by_cases h : 60 < ss.length
      · exact absurd (Or.inl h) hout
      · omega
    have ht : ¬ (40 < t ∧ t ≤ 4096) := fun h => hout (.inr (.inr (.inr h)))
    by_cases hbad : t < 1 ∨ 4096 < t ∨ o < 0 ∨ 1099511627776 < o
    · exact does_bad A c t o ss a y w hr hg hl hs1 hs2 ht hbad
    · obtain ⟨n, rfl⟩ := Int.eq_ofNat_of_zero_le (show 0 ≤ t by omega)
      exact does_good A c n o ss a y w hr hg hka hky hl hs1 hs2 (by omega) (by omega) (by omega) (by omega)
end Go.Proofs.YtpjdaglblckgfaaDoor
