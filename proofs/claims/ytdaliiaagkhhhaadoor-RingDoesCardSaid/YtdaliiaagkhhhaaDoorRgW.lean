/- The example with which each statement ends: it works. -/
import Derived.Test.YtdaliiaagkhhhaaDoorRgV
namespace Go.Proofs.YtdaliiaagkhhhaaDoor
set_option linter.unusedVariables false
open Go.RowKit Go.Proofs.YtdaliiaagkhhhaaDoorW.PrintWords

theorem RSt.new {w0 w w' : World} {base n : Nat} (hb : Below base w0 w) (hs : base ≤ w.heap.size) (h1 : IsRg w' w.heap.size n (.slice none 0 0) []) (h2 : Below w.heap.size w w') (hn : n ≤ 64) : RSt w0 w' base w.heap.size n (.slice none 0 0) [] :=
  ⟨h1, .nil, hb.trans (h2.mono hs), Nat.le_trans hs h2.size, hs, hn⟩
theorem New_st {w0 w : World} {base : Nat} (hb : Below base w0 w) (hs : base ≤ w.heap.size) (n : Nat) (z : Int) (hz : z = n) (h1 : 1 ≤ n) (h2 : n ≤ 64) :
    Calls Tryd.prog 8 #[.int .i64 z] w fun e w' => e = .returned (.tuple #[.pointer (some ⟨w.heap.size, 0, none⟩), .nilIface]) ∧ RSt w0 w' base w.heap.size n (.slice none 0 0) [] ∧ Below w.heap.size w w' := by
  subst hz
  exact (New_ok n w (by omega) (by omega)).mono fun e w' ⟨he, h3, h4, h5⟩ => ⟨he, RSt.new hb hs h3 h4 h2, h4⟩
theorem hg_pos {w : World} (h : HG w) : 0 < w.heap.size := by
  rcases Nat.eq_zero_or_pos w.heap.size with h0 | h0
  · exact absurd (World.block_lt_of_cell? w _ h) (by omega)
  · exact h0
theorem ErrIs.code {w : World} {v : Value} {l : List (ByteArray × Int × Int)} (h : ErrIs w v l) : (v = .nilIface ∧ codeOf l = 0) ∨ (∃ b, v = faultV b ∧ codeOf l ≠ 0) := by
  induction h with
  | nil => exact .inl ⟨rfl, rfl⟩
  | @new b op at_ c hb hc => exact .inr ⟨b, rfl, by simp [codeOf, hc]⟩
  | @wrap b op at_ u l hb hu hl ih =>
    refine .inr ⟨b, rfl, ?_⟩
    rcases ih with ⟨h1, h2⟩ | ⟨b', h1, h2⟩
    · subst h1
      exact absurd (by cases hu; rfl) hl
    · simpa [codeOf] using h2
theorem ErrIs.none {w : World} {v : Value} {l : List (ByteArray × Int × Int)} (h : ErrIs w v l) (hc : codeOf l = 0) : v = .nilIface := by
  rcases h.code with ⟨h1, _⟩ | ⟨b, _, h2⟩
  · exact h1
  · exact absurd hc h2
theorem ErrIs.some {w : World} {v : Value} {l : List (ByteArray × Int × Int)} (h : ErrIs w v l) (hc : codeOf l ≠ 0) : ∃ b, v = faultV b := by
  rcases h.code with ⟨_, h1⟩ | ⟨b, h1, _⟩
  · exact absurd h1 hc
  · exact ⟨b, h1⟩
theorem hk_len : sK.size ≤ maxLen := by show 1 ≤ maxLen; decide
theorem RSt.hg {w0 w : World} {base p each : Nat} {v : Value} {pts : List Pt} (h : RSt w0 w base p each v pts) (hg : HG w0) (h0 : 0 < base) : HG w := hg.below' h.bel h0

set_option maxHeartbeats 2000000 in
theorem works_any (w : World) (hg : HG w) :
    Calls Tryd.prog 7 #[] w fun e w' => e = .returned (.bool true) ∧ Below w.heap.size w w' := by
  have HH := Lib.hid hg
  have h0 := hg_pos hg
  have HK := Lib.hid hk_len
  clear hg
  go_enter Tryd.func7, Tryd.ntmps7
  go_wp2_with fail
  refine (New_st (Below.refl w.heap.size w) (Nat.le_refl _) 8 8 rfl (by omega) (by omega)).mono ?_
  rintro e w1 ⟨rfl, i1, b1⟩
  have I1 := Lib.hid i1
  clear i1 b1
  generalize hp : w.heap.size = p at *
  have HP := Lib.hid hp
  clear hp
  go_wp2_with fail
  refine (New_bad 0 w1 (by omega)).mono ?_
  rintro e w2 ⟨op, at_, rfl, hw2⟩
  have b2 : Below w1.heap.size w1 w2 := by rw [hw2]; exact bel_alloc _ _
  have E2 : Hid (ErrIs w2 (faultV w1.heap.size) [(op, at_, 2)]) := by rw [hw2]; exact .new (heap_alloc_new _ _) (by decide)
  have I2 := Lib.hid (I1.out.later b2)
  clear hw2 b2 I1
  generalize w1.heap.size = eb at *
  go_wp2_with fail
  refine (Owner_any p _ _ _ sK w2 I2.out.rg I2.out.ris HK.out (by decide)).mono ?_
  rintro e w3 ⟨rfl, b3⟩
  have I3 := Lib.hid (I2.out.later b3)
  have E3 := Lib.hid (E2.out.later b3)
  have hw0 : ownerN [] (hashI sK) = 0 := wk_0
  rw [hw0]
  clear b3 I2 E2 hw0
  go_wp2_with fail
  refine (Add_st I3.out 3 (by decide)).mono ?_
  rintro e w4 ⟨ev, v4, l, rfl, i4, c4, e4, hcd⟩
  rw [show addR 8 [] 3 = Q3_8 from wk_1.1] at i4
  rw [show addC [] 3 = 0 from wk_1.2] at hcd
  obtain rfl := e4.none hcd
  have I4 := Lib.hid i4
  have E4 := Lib.hid (E3.out.ring I3.out.rg c4)
  clear i4 c4 e4 hcd I3 E3
  go_wp2_with fail
  refine (Add_st I4.out 3 (by decide)).mono ?_
  rintro e w5 ⟨ev, v5, l5, rfl, i5, c5, e5, hcd⟩
  rw [wk_2.1] at i5
  rw [wk_2.2] at hcd
  obtain ⟨eb5, rfl⟩ := e5.some (by rw [hcd]; decide)
  have I5 := Lib.hid i5
  have E5 := Lib.hid (E4.out.ring I4.out.rg c5)
  have F5 := Lib.hid (And.intro e5 hcd)
  clear i5 c5 e5 hcd I4 E4
  go_wp2_with fail
  refine (Add_st I5.out 4 (by decide)).mono ?_
  rintro e w6 ⟨ev, v6, l6, rfl, i6, c6, e6, hcd⟩
  rw [wk_3.1] at i6
  rw [wk_3.2] at hcd
  obtain rfl := e6.none hcd
  have I6 := Lib.hid i6
  have E6 := Lib.hid (E5.out.ring I5.out.rg c6)
  have F6 := Lib.hid (And.intro (F5.out.1.ring I5.out.rg c6) F5.out.2)
  clear i6 c6 e6 hcd I5 E5 F5
  have HOf := Lib.hid (of_code (faultV eb) [(op, at_, 2)] w6 E6.out (I6.out.hg HH.out h0))
  go_wp2_with fail
  refine HOf.out.mono ?_
  rintro e w7 ⟨rfl, b7⟩
  have I7 := Lib.hid (I6.out.later b7)
  have F7 := Lib.hid (And.intro (F6.out.1.later b7) F6.out.2)
  rw [show codeOf [(op, at_, 2)] = 2 from rfl]
  clear b7 I6 E6 F6 HOf
  have HOf := Lib.hid (of_code (faultV eb5) l5 w7 F7.out.1 (I7.out.hg HH.out h0))
  go_wp2_with fail
  refine HOf.out.mono ?_
  rintro e w8 ⟨rfl, b8⟩
  have I8 := Lib.hid (I7.out.later b8)
  rw [F7.out.2]
  clear b8 I7 F7 HOf
  go_wp2_with fail
  refine (Owners_any p _ _ _ sK 5 w8 I8.out.rg I8.out.ris HK.out (by decide)).mono ?_
  rintro e w9 ⟨u, rfl, hr, b9⟩
  obtain ⟨A9, c9, rfl, hc9, hC9⟩ := Kd.R_reads hr
  have I9 := Lib.hid (I8.out.later b9)
  rw [wk_4]
  clear b9 I8 hC9 hr hc9
  go_wp2_with fail
  refine (Nodes_any p _ _ _ w9 I9.out.rg).mono ?_
  rintro e w10 ⟨u, rfl, hr, b10⟩
  rw [wk_5] at hr
  obtain ⟨A10, c10, rfl, hc10, hC10⟩ := Kd.R_reads hr
  have I10 := Lib.hid (I9.out.later b10)
  have C10 := Lib.hid (And.intro hc10 hC10)
  clear b10 I9 hC10 hr hc10
  go_wp2_with fail
  refine (ints_any A10 _ c10 2 [3, 4] [3, 4] _ (Kd.C_below C10.out.2 (bel_alloc _ _)) C10.out.1 (C_lit w10 [3, 4] _ (by decide)) (by decide) (by decide)).mono ?_
  rintro e w11 ⟨rfl, n11, hn11⟩
  have I11 : Hid (RSt w w11 p p 8 v6 Q4_8) := by rw [hn11]; exact (I10.out.later (bel_alloc _ _)).drewN n11
  rw [show decide (([3, 4] : List Int) = [3, 4]) = true from rfl]
  clear hn11 I10 C10
  have HSM : Hid (∀ s ∈ [sK], s.size ≤ maxLen) := fun s hs => by rw [List.mem_singleton.1 hs]; exact HK.out
  go_wp2_with fail
  have I11a := Lib.hid (I11.out.later (bel_alloc w11 (.cells #[.string sK] 9)))
  refine (Share_any p _ _ _ 3 _ 1 [sK] _ I11a.out.rg I11a.out.ris (C_lit w11 [sK] 9 (by decide)) HSM.out (by decide) (by decide)).mono ?_
  rintro e w12 ⟨rfl, b12⟩
  have I12 := Lib.hid (I11a.out.later b12)
  rw [wk_6.1]
  clear b12 I11 I11a
  go_wp2_with fail
  have I12a := Lib.hid (I12.out.later (bel_alloc w12 (.cells #[.string sK] 9)))
  refine (Share_any p _ _ _ 4 _ 1 [sK] _ I12a.out.rg I12a.out.ris (C_lit w12 [sK] 9 (by decide)) HSM.out (by decide) (by decide)).mono ?_
  rintro e w13 ⟨rfl, b13⟩
  have I13 := Lib.hid (I12a.out.later b13)
  rw [wk_6.2]
  clear b13 I12 I12a
  go_wp2_with fail
  refine (at_any 1 2 _).mono ?_
  rintro e w14 ⟨rfl, rfl⟩
  rw [wk_7]
  go_wp2_with fail
  refine (refat_any 1 2 _).mono ?_
  rintro e w14 ⟨rfl, n14, hn14⟩
  have I14 : Hid (RSt w w14 p p 8 v6 Q4_8) := by rw [hn14]; exact I13.out.drewN n14
  clear hn14 I13
  go_wp2_with fail
  refine (Rem_st I14.out 9 (by decide)).mono ?_
  rintro e w15 ⟨ev, v15, l15, rfl, i15, c15, e15, hcd⟩
  rw [wk_8.1] at hcd
  have I15 := Lib.hid i15
  have F15 := Lib.hid (And.intro e15 hcd)
  obtain ⟨eb15, rfl⟩ := e15.some (by rw [hcd]; decide)
  clear i15 c15 e15 hcd I14
  have HOf := Lib.hid (of_code (faultV eb15) l15 w15 F15.out.1 (I15.out.hg HH.out h0))
  go_wp2_with fail
  refine HOf.out.mono ?_
  rintro e w16 ⟨rfl, b16⟩
  have I16 := Lib.hid (I15.out.later b16)
  rw [F15.out.2]
  clear b16 I15 F15 HOf
  go_wp2_with fail
  go_ret
  exact ⟨rfl, by rw [HP.out]; exact I16.out.bel⟩
end Go.Proofs.YtdaliiaagkhhhaaDoor
