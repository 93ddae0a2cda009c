/- The example with which each statement ends: it works. -/
import Derived.Test.YtpjdaglblckgfaaDoorSkSt
namespace Go.Proofs.YtpjdaglblckgfaaDoor
set_option linter.unusedVariables false
open Go.RowKit Go.Proofs.YtpjdaglblckgfaaDoorW.PrintWords

abbrev sA : ByteArray := ⟨#[97]⟩
abbrev sB : ByteArray := ⟨#[98]⟩
abbrev sC : ByteArray := ⟨#[99]⟩

set_option maxHeartbeats 2000000 in
theorem works_any (w : World) (hg : HG w) :
    Calls Tryd.prog 10 #[] w fun e w' => e = .returned (.bool true) ∧ Below w.heap.size w w' := by
  have HH := Lib.hid hg
  clear hg
  have hs : ∀ x : UInt8, (⟨#[x]⟩ : ByteArray).size ≤ maxLen := fun x => by show 1 ≤ maxLen; decide
  have H1 := Lib.hid hs
  clear hs
  go_enter Tryd.func10, Tryd.ntmps10
  go_wp2_with fail
  refine (New_ok 64 0 w (by omega) (by omega) (by omega) (by omega)).mono ?_
  rintro e w1 ⟨rfl, i1, b1, hz1⟩
  clear hz1
  have I1 := Lib.hid (St.new (Below.refl w.heap.size w) (Nat.le_refl _) i1 b1)
  clear i1 b1
  have h0 : 0 < w.heap.size := by
    rcases Nat.eq_zero_or_pos w.heap.size with h0 | h
    · exact absurd (World.block_lt_of_cell? w _ HH.out) (by omega)
    · exact h
  generalize hp : w.heap.size = p at *
  have HP := Lib.hid hp
  clear hp
  go_wp2_with fail
  refine (New_bad 0 0 w1 (by omega)).mono ?_
  rintro e w2 ⟨op, at_, rfl, hw2⟩
  have NE := Lib.hid (sk_ne I1.out.sk (Nat.le_refl _))
  have E2 := Lib.hid (heap_alloc_new w1 (faultO op at_ 2 .nilIface))
  have I2 := Lib.hid (I1.out.later ((Below.refl _ _).alloc (Nat.le_refl _) (faultO op at_ 2 .nilIface)))
  rw [← hw2] at E2 I2
  clear hw2
  generalize w1.heap.size = eb at *
  clear I1
  go_wp2_with fail
  refine (Add_st I2.out sA (H1.out _) rfl (by decide)).mono ?_
  rintro e w3 ⟨rfl, i3, c3⟩
  have I3 := Lib.hid i3
  have E3 := Lib.hid (err_chg E2.out NE.out c3)
  clear i3 c3 I2 E2
  go_wp2_with fail
  refine (Add_st I3.out sA (H1.out _) rfl (by decide)).mono ?_
  rintro e w4 ⟨rfl, i4, c4⟩
  have I4 := Lib.hid i4
  have E4 := Lib.hid (err_chg E3.out NE.out c4)
  clear i4 c4 I3 E3
  go_wp2_with fail
  refine (Add_st I4.out sB (H1.out _) rfl (by decide)).mono ?_
  rintro e w5 ⟨rfl, i5, c5⟩
  have I5 := Lib.hid i5
  have E5 := Lib.hid (err_chg E4.out NE.out c5)
  clear i5 c5 I4 E4
  have hS : (((Sk.new 64 0).add sA).add sA).add sB = (Sk.new 64 0).adds [sA, sA, sB] := rfl
  rw [hS] at I5
  clear hS
  obtain ⟨q1, q2⟩ := works_least sA sB sC (by kernel_rfl)
  have q3 : ofI ((Sk.new 64 0).adds [sA, sA, sB]) sC < ofI ((Sk.new 64 0).adds [sA, sA, sB]) sA := by decide +kernel
  generalize hSS : (Sk.new 64 0).adds [sA, sA, sB] = S at *
  have ST : Hid (S.total = 3 ∧ S.aged = 0 ∧ S.width = 64) := by subst hSS; exact ⟨rfl, rfl, rfl⟩
  clear hSS
  go_wp2_with fail
  refine (Of_st I5.out sA (H1.out _)).mono ?_
  rintro e w6 ⟨rfl, i6, n6, hn6⟩
  have I6 := Lib.hid i6
  have E6 := Lib.hid E5.out
  rw [← World.heap_drewN w5 n6, ← hn6] at E6
  clear hn6 i6 I5 E5
  have hage : ofI S.age sA = ofI S sA / 2 := age_least S _ (I6.out.sk.bd 0 _ (by omega) (by have := atI_bd 0 (hashI sA) S.width (by have := I6.out.sk.w1; omega); omega)).2
  have HA := Lib.hid hage
  clear hage
  have d1 : decide (2 ≤ ofI S sA) = true := by simpa using q1
  have d2 : decide (ofI S sA ≤ 3) = true := by simpa using q2
  have d3 : decide (ofI S sC < ofI S sA) = true := by simpa using q3
  go_wp2_with fail
  refine (More_st I6.out sA sC (H1.out _) (H1.out _)).mono ?_
  rintro e w7 ⟨rfl, i7, n7, hn7⟩
  have I7 := Lib.hid i7
  have E7 := Lib.hid E6.out
  rw [← World.heap_drewN w6 n7, ← hn7] at E7
  clear hn7 i7 I6 E6
  go_wp2_with fail
  refine (Age_st I7.out (by have := ST.out.2.1; omega)).mono ?_
  rintro e w8 ⟨rfl, i8, c8⟩
  have I8 := Lib.hid i8
  have E8 := Lib.hid (err_chg E7.out NE.out c8)
  clear i8 c8 I7 E7
  have HOf := Lib.hid (of_code (faultV eb) [(op, at_, 2)] w8 (.new E8.out (by decide)) (hg_chg I8.out HH.out h0))
  go_wp2_with fail
  refine HOf.out.mono ?_
  rintro e w9 ⟨rfl, b9⟩
  have I9 := Lib.hid (I8.out.later b9)
  have c2 : codeOf [(op, at_, 2)] = 2 := rfl
  rw [c2]
  clear b9 I8 E8 HOf c2
  go_wp2_with fail
  refine (Of_st I9.out sA (H1.out _)).mono ?_
  rintro e w10 ⟨rfl, i10, n10, hn10⟩
  rw [HA.out]
  have I10 := Lib.hid i10
  clear i10 hn10 I9
  go_wp2_with fail
  refine (Total_st I10.out).mono ?_
  rintro e w11 ⟨rfl, rfl⟩
  have t1 : S.age.total = 1 := by show S.total / 2 = 1; rw [ST.out.1]; rfl
  rw [t1]
  clear t1
  go_wp2_with fail
  refine (Aged_st I10.out).mono ?_
  rintro e w12 ⟨rfl, rfl⟩
  have t1 : S.age.aged = 1 := by show S.aged + 1 = 1; rw [ST.out.2.1]; rfl
  rw [t1]
  clear t1
  go_wp2_with fail
  refine (Row_st I10.out 3 (by omega)).mono ?_
  rintro e w13 ⟨A, c, rfl, _hC, _hc, i13, _hb⟩
  have t1 : S.age.width = 64 := ST.out.2.2
  have I13 := Lib.hid i13
  rw [t1]
  clear t1 i13 _hC _hc _hb I10
  go_wp2_with fail
  refine (Row_out p 4 _ (by omega)).mono ?_
  rintro e w14 ⟨rfl, rfl⟩
  go_wp2_with fail
  go_ret
  exact ⟨rfl, by rw [HP.out]; exact I13.out.bel⟩
end Go.Proofs.YtpjdaglblckgfaaDoor
