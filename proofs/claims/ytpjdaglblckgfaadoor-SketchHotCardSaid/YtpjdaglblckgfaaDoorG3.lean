/- A sketch that a law made, and what a law does with it. The example with which each statement ends: it works. The law SketchLeast: what its call comes to. The law SketchAges: what its call comes to. The law SketchMore: what its call comes to. -/
import Derived.Test.YtpjdaglblckgfaaDoorSk4
import Derived.Test.YtpjdaglblckgfaaDoorSkLaw
namespace Go.Proofs.YtpjdaglblckgfaaDoor
set_option linter.unusedVariables false
open Go.RowKit Go.Proofs.YtpjdaglblckgfaaDoorW.PrintWords

/-- The sketch at p is the call's own (all blocks below the base are as they were). -/
structure St (w0 w : World) (base p : Nat) (B : Nat → Nat) (S : Sk) : Prop where
  sk : IsSk w p B S
  bel : Below base w0 w
  hb : base ≤ w.heap.size
  hp : base ≤ p
  hB : ∀ r, r < 4 → base ≤ B r
  t0 : 0 ≤ S.total
  t1 : S.total ≤ 1000000000
  a0 : 0 ≤ S.aged
  a1 : S.aged ≤ 1000000000
theorem St.later {w0 w w' : World} {base p : Nat} {B : Nat → Nat} {S : Sk} (h : St w0 w base p B S) (hb : Below w.heap.size w w') : St w0 w' base p B S :=
  ⟨h.sk.later hb, h.bel.trans (hb.mono h.hb), Nat.le_trans h.hb hb.size, h.hp, h.hB, h.t0, h.t1, h.a0, h.a1⟩
theorem St.drewN {w0 w : World} {base p : Nat} {B : Nat → Nat} {S : Sk} (h : St w0 w base p B S) (n : Nat) : St w0 (w.drewN n) base p B S := h.later ⟨rfl, rfl, rfl, Nat.le_refl _, fun _ _ => rfl⟩
theorem St.chg {w0 w w' : World} {base p : Nat} {B : Nat → Nat} {S S' : Sk} (h : St w0 w base p B S) (hc : Chg (skM p B) w w') (hs : IsSk w' p B S') (t0 : 0 ≤ S'.total) (t1 : S'.total ≤ 1000000000) (a0 : 0 ≤ S'.aged) (a1 : S'.aged ≤ 1000000000) : St w0 w' base p B S' :=
  ⟨hs, h.bel.chg h.hb hc (fun k hk => by
    rintro (rfl | ⟨r, hr, rfl⟩)
    · have := h.hp; omega
    · have := h.hB r hr; omega), Nat.le_trans h.hb hc.size, h.hp, h.hB, t0, t1, a0, a1⟩
/-- What is untouched by the sketch's own blocks. -/
theorem St.new {w0 w w' : World} {base n : Nat} {limit : Int} (hb : Below base w0 w) (hs : base ≤ w.heap.size) (h1 : IsSk w' w.heap.size (fun r => w.heap.size + (1 + r)) (Sk.new n limit)) (h2 : Below w.heap.size w w') : St w0 w' base w.heap.size (fun r => w.heap.size + (1 + r)) (Sk.new n limit) :=
  ⟨h1, hb.trans (h2.mono hs), Nat.le_trans hs h2.size, hs, fun r _ => by omega, by simp [Sk.new], by simp [Sk.new], by simp [Sk.new], by simp [Sk.new]⟩

theorem Add_st {w0 w : World} {base p : Nat} {B : Nat → Nat} {S : Sk} (h : St w0 w base p B S) (s : ByteArray) (hs : s.size ≤ maxLen) (hl : S.limit = 0) (ht : S.total < 1000000000) :
    Calls Tryd.prog 12 #[.pointer (some ⟨p, 0, none⟩), .string s] w fun e w' => e = .returned (.tuple #[]) ∧ St w0 w' base p B (S.add s) ∧ Chg (skM p B) w w' := by
  have := h.t0
  have := h.a0
  have := h.a1
  refine (Add_any p B S s w h.sk hs (by omega) (by omega) (by omega) (by omega)).mono fun e w' ⟨he, h1, h2⟩ => ⟨he, h.chg h2 h1 ?_ ?_ ?_ ?_, h2⟩ <;> rw [add_plain _ _ hl]
  · show 0 ≤ S.total + 1; omega
  · show S.total + 1 ≤ 1000000000; omega
  · exact h.a0
  · exact h.a1
theorem Age_st {w0 w : World} {base p : Nat} {B : Nat → Nat} {S : Sk} (h : St w0 w base p B S) (ha : S.aged < 1000000000) :
    Calls Tryd.prog 16 #[.pointer (some ⟨p, 0, none⟩)] w fun e w' => e = .returned (.tuple #[]) ∧ St w0 w' base p B S.age ∧ Chg (skM p B) w w' := by
  have := h.t0
  have := h.t1
  have := h.a0
  refine (Age_any p B S w h.sk (by omega) (by omega) (by omega) (by omega)).mono fun e w' ⟨he, h1, h2⟩ => ⟨he, h.chg h2 h1 ?_ ?_ ?_ ?_, h2⟩
  · show 0 ≤ S.total / 2; omega
  · show S.total / 2 ≤ 1000000000; omega
  · show 0 ≤ S.aged + 1; omega
  · show S.aged + 1 ≤ 1000000000; omega
theorem Of_st {w0 w : World} {base p : Nat} {B : Nat → Nat} {S : Sk} (h : St w0 w base p B S) (s : ByteArray) (hs : s.size ≤ maxLen) :
    Calls Tryd.prog 13 #[.pointer (some ⟨p, 0, none⟩), .string s] w fun e w' => e = .returned (.int .i64 (ofI S s)) ∧ St w0 w' base p B S ∧ ∃ n, w' = w.drewN n :=
  (Of_any p B S s w h.sk hs).mono fun e w' ⟨he, n, hn⟩ => ⟨he, by subst hn; exact h.drewN n, n, hn⟩
theorem More_st {w0 w : World} {base p : Nat} {B : Nat → Nat} {S : Sk} (h : St w0 w base p B S) (s t : ByteArray) (hs : s.size ≤ maxLen) (ht : t.size ≤ maxLen) :
    Calls Tryd.prog 24 #[.pointer (some ⟨p, 0, none⟩), .string s, .string t] w fun e w' => e = .returned (.bool (decide (ofI S t < ofI S s))) ∧ St w0 w' base p B S ∧ ∃ n, w' = w.drewN n :=
  (More_any p B S s t w h.sk hs ht).mono fun e w' ⟨he, n, hn⟩ => ⟨he, by subst hn; exact h.drewN n, n, hn⟩
theorem Total_st {w0 w : World} {base p : Nat} {B : Nat → Nat} {S : Sk} (h : St w0 w base p B S) :
    Calls Tryd.prog 14 #[.pointer (some ⟨p, 0, none⟩)] w fun e w' => e = .returned (.int .i64 S.total) ∧ w = w' := Total_any p B S w h.sk
theorem Aged_st {w0 w : World} {base p : Nat} {B : Nat → Nat} {S : Sk} (h : St w0 w base p B S) :
    Calls Tryd.prog 15 #[.pointer (some ⟨p, 0, none⟩)] w fun e w' => e = .returned (.int .i64 S.aged) ∧ w = w' := Aged_any p B S w h.sk
theorem Row_st {w0 w : World} {base p : Nat} {B : Nat → Nat} {S : Sk} (h : St w0 w base p B S) (r : Nat) (hr : r < 4) :
    Calls Tryd.prog 26 #[.pointer (some ⟨p, 0, none⟩), .int .i64 r] w fun e w' => ∃ A c, e = .returned (.slice A S.width c) ∧ (Kd.int .i64).C w' A S.width (S.rowL r) ∧ S.width ≤ c ∧ St w0 w' base p B S ∧ Below w.heap.size w w' := by
  refine (Row_any p B S r hr w h.sk).mono fun e w' ⟨v, he, h1, h2⟩ => ?_
  obtain ⟨A, c, hv, hc, hC⟩ := Kd.R_reads h1
  rw [Sk.rowL_len] at hv hC hc
  exact ⟨A, c, by rw [he, hv], hC, hc, h.later h2, h2⟩
/-- A new error stays, whatever is done with the sketch. -/
theorem err_chg {w w' : World} {p : Nat} {B : Nat → Nat} {b : Nat} {o : Obj} (h : w.heap[b]? = some o) (hb : ¬ skM p B b) (hc : Chg (skM p B) w w') : w'.heap[b]? = some o :=
  (hc.block b (lt_of_block h) hb).trans h
theorem sk_ne {w : World} {p : Nat} {B : Nat → Nat} {S : Sk} (h : IsSk w p B S) {b : Nat} (hb : w.heap.size ≤ b) : ¬ skM p B b := by
  rintro (rfl | ⟨r, hr, rfl⟩)
  · have := h.head.lt; omega
  · have := (h.row r hr).lt; omega
theorem hg_chg {w0 w : World} {base p : Nat} {B : Nat → Nat} {S : Sk} (h : St w0 w base p B S) (hg : HG w0) (h0 : 0 < base) : HG w := hg.below' h.bel h0
end Go.Proofs.YtpjdaglblckgfaaDoor
namespace Go.Proofs.YtpjdaglblckgfaaDoor
set_option linter.unusedVariables false
open Go.RowKit Go.Proofs.YtpjdaglblckgfaaDoorW.PrintWords

abbrev sA : ByteArray := ⟨#[97]⟩
abbrev sB : ByteArray := ⟨#[98]⟩
abbrev sC : ByteArray := ⟨#[99]⟩

set_option maxHeartbeats 2000000 in
theorem works_any (w : World) (hg : HG w) :
    Calls Tryd.prog 10 #[] w fun e w' => e = .returned (.bool true) ∧ Below w.heap.size w w' := by
  have HH := Lib.hid hg
  clear hg
  have hs : ∀ x : UInt8, (⟨#[x]⟩ : ByteArray).size ≤ maxLen := fun x => by show 1 ≤ maxLen; decide
  have H1 := Lib.hid hs
  clear hs
  go_enter Tryd.func10, Tryd.ntmps10
  go_wp2_with fail
  refine (New_ok 64 0 w (by omega) (by omega) (by omega) (by omega)).mono ?_
  rintro e w1 ⟨rfl, i1, b1, hz1⟩
  clear hz1
  have I1 := Lib.hid (St.new (Below.refl w.heap.size w) (Nat.le_refl _) i1 b1)
  clear i1 b1
  have h0 : 0 < w.heap.size := by
    rcases Nat.eq_zero_or_pos w.heap.size with h0 | h
    · exact absurd (World.block_lt_of_cell? w _ HH.out) (by omega)
    · exact h
  generalize hp : w.heap.size = p at *
  have HP := Lib.hid hp
  clear hp
  go_wp2_with fail
  refine (New_bad 0 0 w1 (by omega)).mono ?_
  rintro e w2 ⟨op, at_, rfl, hw2⟩
  have NE := Lib.hid (sk_ne I1.out.sk (Nat.le_refl _))
  have E2 := Lib.hid (heap_alloc_new w1 (faultO op at_ 2 .nilIface))
  have I2 := Lib.hid (I1.out.later ((Below.refl _ _).alloc (Nat.le_refl _) (faultO op at_ 2 .nilIface)))
  rw [← hw2] at E2 I2
  clear hw2
  generalize w1.heap.size = eb at *
  clear I1
  go_wp2_with fail
  refine (Add_st I2.out sA (H1.out _) rfl (by decide)).mono ?_
  rintro e w3 ⟨rfl, i3, c3⟩
  have I3 := Lib.hid i3
  have E3 := Lib.hid (err_chg E2.out NE.out c3)
  clear i3 c3 I2 E2
  go_wp2_with fail
  refine (Add_st I3.out sA (H1.out _) rfl (by decide)).mono ?_
  rintro e w4 ⟨rfl, i4, c4⟩
  have I4 := Lib.hid i4
  have E4 := Lib.hid (err_chg E3.out NE.out c4)
  clear i4 c4 I3 E3
  go_wp2_with fail
  refine (Add_st I4.out sB (H1.out _) rfl (by decide)).mono ?_
  rintro e w5 ⟨rfl, i5, c5⟩
  have I5 := Lib.hid i5
  have E5 := Lib.hid (err_chg E4.out NE.out c5)
  clear i5 c5 I4 E4
  have hS : (((Sk.new 64 0).add sA).add sA).add sB = (Sk.new 64 0).adds [sA, sA, sB] := rfl
  rw [hS] at I5
  clear hS
  obtain ⟨q1, q2⟩ := works_least sA sB sC (by kernel_rfl)
  have q3 : ofI ((Sk.new 64 0).adds [sA, sA, sB]) sC < ofI ((Sk.new 64 0).adds [sA, sA, sB]) sA := by decide +kernel
  generalize hSS : (Sk.new 64 0).adds [sA, sA, sB] = S at *
  have ST : Hid (S.total = 3 ∧ S.aged = 0 ∧ S.width = 64) := by subst hSS; exact ⟨rfl, rfl, rfl⟩
  clear hSS
  go_wp2_with fail
  refine (Of_st I5.out sA (H1.out _)).mono ?_
  rintro e w6 ⟨rfl, i6, n6, hn6⟩
  have I6 := Lib.hid i6
  have E6 := Lib.hid E5.out
  rw [← World.heap_drewN w5 n6, ← hn6] at E6
  clear hn6 i6 I5 E5
  have hage : ofI S.age sA = ofI S sA / 2 := age_least S _ (I6.out.sk.bd 0 _ (by omega) (by have := atI_bd 0 (hashI sA) S.width (by have := I6.out.sk.w1; omega); omega)).2
  have HA := Lib.hid hage
  clear hage
  have d1 : decide (2 ≤ ofI S sA) = true := by simpa using q1
  have d2 : decide (ofI S sA ≤ 3) = true := by simpa using q2
  have d3 : decide (ofI S sC < ofI S sA) = true := by simpa using q3
  go_wp2_with fail
  refine (More_st I6.out sA sC (H1.out _) (H1.out _)).mono ?_
  rintro e w7 ⟨rfl, i7, n7, hn7⟩
  have I7 := Lib.hid i7
  have E7 := Lib.hid E6.out
  rw [← World.heap_drewN w6 n7, ← hn7] at E7
  clear hn7 i7 I6 E6
  go_wp2_with fail
  refine (Age_st I7.out (by have := ST.out.2.1; omega)).mono ?_
  rintro e w8 ⟨rfl, i8, c8⟩
  have I8 := Lib.hid i8
  have E8 := Lib.hid (err_chg E7.out NE.out c8)
  clear i8 c8 I7 E7
  have HOf := Lib.hid (of_code (faultV eb) [(op, at_, 2)] w8 (.new E8.out (by decide)) (hg_chg I8.out HH.out h0))
  go_wp2_with fail
  refine HOf.out.mono ?_
  rintro e w9 ⟨rfl, b9⟩
  have I9 := Lib.hid (I8.out.later b9)
  have c2 : codeOf [(op, at_, 2)] = 2 := rfl
  rw [c2]
  clear b9 I8 E8 HOf c2
  go_wp2_with fail
  refine (Of_st I9.out sA (H1.out _)).mono ?_
  rintro e w10 ⟨rfl, i10, n10, hn10⟩
  rw [HA.out]
  have I10 := Lib.hid i10
  clear i10 hn10 I9
  go_wp2_with fail
  refine (Total_st I10.out).mono ?_
  rintro e w11 ⟨rfl, rfl⟩
  have t1 : S.age.total = 1 := by show S.total / 2 = 1; rw [ST.out.1]; rfl
  rw [t1]
  clear t1
  go_wp2_with fail
  refine (Aged_st I10.out).mono ?_
  rintro e w12 ⟨rfl, rfl⟩
  have t1 : S.age.aged = 1 := by show S.aged + 1 = 1; rw [ST.out.2.1]; rfl
  rw [t1]
  clear t1
  go_wp2_with fail
  refine (Row_st I10.out 3 (by omega)).mono ?_
  rintro e w13 ⟨A, c, rfl, _hC, _hc, i13, _hb⟩
  have t1 : S.age.width = 64 := ST.out.2.2
  have I13 := Lib.hid i13
  rw [t1]
  clear t1 i13 _hC _hc _hb I10
  go_wp2_with fail
  refine (Row_out p 4 _ (by omega)).mono ?_
  rintro e w14 ⟨rfl, rfl⟩
  go_wp2_with fail
  go_ret
  exact ⟨rfl, by rw [HP.out]; exact I13.out.bel⟩
end Go.Proofs.YtpjdaglblckgfaaDoor
namespace Go.Proofs.YtpjdaglblckgfaaDoor
set_option linter.unusedVariables false
open Go.RowKit Go.Proofs.YtpjdaglblckgfaaDoorW.PrintWords

theorem C_one (w : World) (s : ByteArray) (t : TypeId) : Kd.string.C (w.alloc (.cells #[.string s] t)) (some ⟨w.heap.size, 0, none⟩) 1 [s] := by
  refine ⟨rfl, by omega, fun _ => ⟨_, rfl, fun j p hj => ?_⟩⟩
  have hj' : j = 0 := by
    rcases j with _ | j
    · rfl
    · simp at hj
  subst hj'
  have : s = p := by simpa using hj
  subst this
  refine ⟨[.string s], rfl, rfl, fun i u hu => ?_⟩
  rcases i with _ | i
  · have : Value.string s = u := by simpa using hu
    subst this
    simp [Addr.add, Kd.string, Kd.scalar]
  · simp at hu
theorem short_mem {ss : List ByteArray} (h : shortB ss = true) {k : Nat} (hk : k < ss.length) : (sget ss k).size ≤ maxLen := by
  have h2 : ss.length ≤ 400 ∧ ∀ s ∈ ss, s.size ≤ 60 := of_decide_eq_true h
  have := h2.2 (sget ss k) (by rw [sget_eq hk]; exact List.getElem_mem hk)
  have : 60 ≤ maxLen := by decide
  omega
theorem short_len {ss : List ByteArray} (h : shortB ss = true) : ss.length ≤ 400 := by
  have h2 : ss.length ≤ 400 ∧ ∀ s ∈ ss, s.size ≤ 60 := of_decide_eq_true h
  exact h2.1
theorem New_st {w0 w : World} {base : Nat} (hb : Below base w0 w) (hs : base ≤ w.heap.size) (n : Nat) (z : Int) (hz : z = n) (h1 : 1 ≤ n) (h2 : n ≤ 4096) :
    Calls Tryd.prog 11 #[.int .i64 z, .int .i64 0] w fun e w' => e = .returned (.tuple #[.pointer (some ⟨w.heap.size, 0, none⟩), .nilIface]) ∧ St w0 w' base w.heap.size (fun r => w.heap.size + (1 + r)) (Sk.new n 0) := by
  subst hz
  exact (New_ok n 0 w h1 h2 (by omega) (by omega)).mono fun e w' ⟨he, h1, h2, h3⟩ => ⟨he, St.new hb hs h1 h2⟩
theorem works_below {w0 w : World} {base : Nat} (hg : HG w0) (h0 : 0 < base) (hb : Below base w0 w) (hs : base ≤ w.heap.size) :
    Calls Tryd.prog 10 #[] w fun e w' => e = .returned (.bool true) ∧ Below base w0 w' :=
  (works_any w (hg.below' hb h0)).mono fun e w' ⟨he, h⟩ => ⟨he, hb.trans (h.mono hs)⟩
theorem hg_pos {w : World} (h : HG w) : 0 < w.heap.size := by
  rcases Nat.eq_zero_or_pos w.heap.size with h0 | h0
  · exact absurd (World.block_lt_of_cell? w _ h) (by omega)
  · exact h0

set_option maxHeartbeats 2000000 in
theorem least_law (A : Option Addr) (c wd : Nat) (ss : List ByteArray) (key : ByteArray) (w : World) (hr : Kd.string.C w A ss.length ss) (hk : key.size ≤ maxLen) (hwd : wd ≤ 65535) (hg : HG w) :
    Calls Tryd.prog 3 #[.int .u16 wd, .slice A ss.length c, .string key] w fun e w' => e = .returned (.bool true) ∧ Below w.heap.size w w' := by
  have HR := Lib.hid hr
  have HH := Lib.hid hg
  have HK := Lib.hid hk
  have h0 := Lib.hid (hg_pos hg)
  clear hr hg hk
  by_cases hs1 : shortB ss = true
  · by_cases hs2 : shortB [key] = true
    · go_enter Tryd.func3, Tryd.ntmps3
      go_wp2_with fail
      refine (short_any A c ss _ HR.out).mono ?_
      rintro e w' ⟨rfl, rfl⟩
      go_wp2_with fail
      refine (short_any _ 1 [key] _ (C_one _ _ _)).mono ?_
      rintro e w' ⟨rfl, hw⟩
      subst hw
      have B1 := Lib.hid ((Below.refl w.heap.size w).alloc (Nat.le_refl _) (.cells #[.string key] 9))
      generalize w.alloc (.cells #[.string key] 9) = w1 at *
      have hb1 := Lib.hid B1.out.size
      go_wp2_with fail
      refine (New_st B1.out hb1.out (1 + wd % 100) _ (by omega) (by omega) (by omega)).mono ?_
      rintro e w2 ⟨rfl, i2⟩
      have I2 := Lib.hid i2
      clear i2 B1
      generalize w1.heap.size = p at *
      have hn1 : 1 + wd % 100 ≤ 4096 := by omega
      generalize 1 + wd % 100 = n at *
      go_wp2_with fail
      go_loopw [9, 10] (fun v i wr => ∃ k : Nat, k ≤ ss.length ∧ i = .int .i64 k ∧ v = .int .i64 (cnt key (ss.take k)) ∧ Hid (St w wr w.heap.size p (fun r => p + (1 + r)) ((Sk.new n 0).adds (ss.take k)))) (fun _ i _ => ss.length - (intOf i).toNat)
      case atStart => exact ⟨0, Nat.zero_le _, rfl, rfl, I2.out⟩
      case round =>
        obtain ⟨k, hk, rfl, rfl, HD⟩ := hrel
        by_cases hlt : k < ss.length
        · obtain ⟨ad, hA, hc⟩ := at_str HR.out hlt
          subst hA
          have hc1 : wr.cell? (ad.add k) = some (.string (sget ss k)) := (HD.out.bel.cell (World.block_lt_of_cell? w _ hc)).trans hc
          have hf := adds_fields (Sk.new n 0) rfl (ss.take k)
          have htk : (ss.take k).length ≤ k := List.length_take_le _ _
          have hAdd := Lib.hid (Add_st HD.out (sget ss k) (short_mem hs1 hlt) hf.1 (by rw [hf.2.2.2]; have := short_len hs1; simp [Sk.new]; omega))
          have hts := take_s hlt
          have HC := Lib.hid (cnt_snoc key (ss.take k) (sget ss k))
          have hss := short_len hs1
          have hcl : cnt key (ss.take k) ≤ 400 := by have := cnt_le key (ss.take k); omega
          have HT := Lib.hid hts
          clear hf htk hts
          by_cases e1 : ((sget ss k).toList == key.toList) = true
          · have HE := Lib.hid e1
            go_wp2_with fail
            refine hAdd.out.mono ?_
            rintro e w3 ⟨rfl, i3, c3⟩
            have I3 := Lib.hid i3
            have hc2 : w3.cell? (ad.add k) = some (.string (sget ss k)) := (I3.out.bel.cell (World.block_lt_of_cell? w _ hc)).trans hc
            clear i3 c3
            go_wp2_with fail
            go_roundw
            case rel => exact ⟨k + 1, by omega, by go_num, by rw [HT.out, HC.out, if_pos HE.out]; go_num, by rw [HT.out, adds_snoc]; exact I3.out⟩
            case measure => simp [intOf]; omega
          · have e2 : ((sget ss k).toList == key.toList) = false := by simpa using e1
            have HE := Lib.hid e1
            clear e1
            go_wp2_with fail
            refine hAdd.out.mono ?_
            rintro e w3 ⟨rfl, i3, c3⟩
            have I3 := Lib.hid i3
            have hc2 : w3.cell? (ad.add k) = some (.string (sget ss k)) := (I3.out.bel.cell (World.block_lt_of_cell? w _ hc)).trans hc
            clear i3 c3
            go_wp2_with fail
            go_roundw
            case rel => exact ⟨k + 1, by omega, by go_num, by rw [HT.out, HC.out, if_neg HE.out]; rfl, by rw [HT.out, adds_snoc]; exact I3.out⟩
            case measure => simp [intOf]; omega
        · have hT : ss.take k = ss := List.take_of_length_le (by omega)
          rw [hT] at HD ⊢
          have hf := Lib.hid (adds_fields (Sk.new n 0) rfl ss)
          obtain ⟨q1, q2⟩ := adds_least n key ss
          clear hT
          generalize hS : (Sk.new n 0).adds ss = S at *
          clear hS
          have ht : S.total = ss.length := by rw [hf.out.2.2.2]; simp [Sk.new]
          have ha : S.aged = 0 := hf.out.2.2.1
          have hcl : cnt key ss ≤ 400 := by have := cnt_le key ss; have := short_len hs1; omega
          have HOf := Lib.hid (Of_st HD.out key HK.out)
          have HT := Lib.hid ht
          have HA := Lib.hid ha
          clear ht ha
          have d2 : decide (ofI S key ≤ (ss.length : Int)) = true := by simpa using q2
          by_cases hn : 255 < cnt key ss
          · have d1 : decide (255 ≤ ofI S key) = true := by simp; omega
            go_wp2_with fail
            refine HOf.out.mono ?_
            rintro e w3 ⟨rfl, i3, n3, hn3⟩
            have I3 := Lib.hid i3
            clear i3 hn3
            go_wp2_with fail
            refine (Of_st I3.out key HK.out).mono ?_
            rintro e w4 ⟨rfl, i4, n4, hn4⟩
            have I4 := Lib.hid i4
            clear i4 hn4
            go_wp2_with fail
            refine (Total_st I4.out).mono ?_
            rintro e w5 ⟨rfl, rfl⟩
            rw [HT.out]
            go_wp2_with fail
            refine (Aged_st I4.out).mono ?_
            rintro e w5 ⟨rfl, rfl⟩
            rw [HA.out]
            go_wp2_with fail
            refine (works_below HH.out h0.out I4.out.bel I4.out.hb).mono ?_
            rintro e w6 ⟨rfl, b6⟩
            have B6 := Lib.hid b6
            clear b6
            go_wp2_with fail
            go_ret
            exact ⟨rfl, B6.out⟩
          · have d1 : decide ((cnt key ss : Int) ≤ ofI S key) = true := by simp; omega
            go_wp2_with fail
            refine HOf.out.mono ?_
            rintro e w3 ⟨rfl, i3, n3, hn3⟩
            have I3 := Lib.hid i3
            clear i3 hn3
            go_wp2_with fail
            refine (Of_st I3.out key HK.out).mono ?_
            rintro e w4 ⟨rfl, i4, n4, hn4⟩
            have I4 := Lib.hid i4
            clear i4 hn4
            go_wp2_with fail
            refine (Total_st I4.out).mono ?_
            rintro e w5 ⟨rfl, rfl⟩
            rw [HT.out]
            go_wp2_with fail
            refine (Aged_st I4.out).mono ?_
            rintro e w5 ⟨rfl, rfl⟩
            rw [HA.out]
            go_wp2_with fail
            refine (works_below HH.out h0.out I4.out.bel I4.out.hb).mono ?_
            rintro e w6 ⟨rfl, b6⟩
            have B6 := Lib.hid b6
            clear b6
            go_wp2_with fail
            go_ret
            exact ⟨rfl, B6.out⟩
    · have hs2' : shortB [key] = false := by simpa using hs2
      go_enter Tryd.func3, Tryd.ntmps3
      go_wp2_with fail
      refine (short_any A c ss _ HR.out).mono ?_
      rintro e w' ⟨rfl, rfl⟩
      go_wp2_with fail
      refine (short_any _ 1 [key] _ (C_one _ _ _)).mono ?_
      rintro e w' ⟨rfl, hw⟩
      subst hw
      have B1 := Lib.hid ((Below.refl w.heap.size w).alloc (Nat.le_refl _) (.cells #[.string key] 9))
      generalize w.alloc (.cells #[.string key] 9) = w1 at *
      go_wp2_with fail
      refine (works_below HH.out h0.out B1.out B1.out.size).mono ?_
      rintro e w6 ⟨rfl, b6⟩
      have B6 := Lib.hid b6
      clear b6
      go_wp2_with fail
      go_ret
      exact ⟨rfl, B6.out⟩
  · have hs1' : shortB ss = false := by simpa using hs1
    go_enter Tryd.func3, Tryd.ntmps3
    go_wp2_with fail
    refine (short_any A c ss _ HR.out).mono ?_
    rintro e w' ⟨rfl, rfl⟩
    go_wp2_with fail
    refine (works_below HH.out h0.out (Below.refl _ _) (Nat.le_refl _)).mono ?_
    rintro e w6 ⟨rfl, b6⟩
    have B6 := Lib.hid b6
    clear b6
    go_wp2_with fail
    go_ret
    exact ⟨rfl, B6.out⟩
end Go.Proofs.YtpjdaglblckgfaaDoor
namespace Go.Proofs.YtpjdaglblckgfaaDoor
set_option linter.unusedVariables false
open Go.RowKit Go.Proofs.YtpjdaglblckgfaaDoorW.PrintWords

def Sk.ages (S : Sk) : Nat → Sk
  | 0 => S
  | n + 1 => (S.ages n).age
theorem ages_aged (S : Sk) (n : Nat) : (S.ages n).aged = S.aged + n := by
  induction n with
  | zero => simp [Sk.ages]
  | succ n ih =>
    show (S.ages n).aged + 1 = _
    rw [ih]
    omega
theorem ofI_nonneg {w : World} {p : Nat} {B : Nat → Nat} {S : Sk} (h : IsSk w p B S) (s : ByteArray) : 0 ≤ ofI S s :=
  least_ge S _ 0 (by omega) 4 fun r hr => (h.bd r _ hr (by have := atI_bd r (hashI s) S.width (by have := h.w1; omega); omega)).1
theorem ofI_age {w : World} {p : Nat} {B : Nat → Nat} {S : Sk} (h : IsSk w p B S) (s : ByteArray) : ofI S.age s = ofI S s / 2 :=
  age_least S _ (h.bd 0 _ (by omega) (by have := atI_bd 0 (hashI s) S.width (by have := h.w1; omega); omega)).2
theorem half_pow (x : Int) (j : Nat) (h : x ≤ (255 / 2 ^ j : Nat)) : x / 2 ≤ (255 / 2 ^ (j + 1) : Nat) := by
  have : 255 / 2 ^ (j + 1) = 255 / 2 ^ j / 2 := by rw [Nat.pow_succ, Nat.div_div_eq_div_mul]
  rw [this]
  omega

set_option maxHeartbeats 2000000 in
theorem ages_law (A : Option Addr) (c wd : Nat) (ss : List ByteArray) (key : ByteArray) (w : World) (hr : Kd.string.C w A ss.length ss) (hk : key.size ≤ maxLen) (hwd : wd ≤ 65535) (hg : HG w) :
    Calls Tryd.prog 4 #[.int .u16 wd, .slice A ss.length c, .string key] w fun e w' => e = .returned (.bool true) ∧ Below w.heap.size w w' := by
  have HR := Lib.hid hr
  have HH := Lib.hid hg
  have HK := Lib.hid hk
  have h0 := Lib.hid (hg_pos hg)
  clear hr hg hk
  by_cases hs1 : shortB ss = true
  · by_cases hs2 : shortB [key] = true
    · go_enter Tryd.func4, Tryd.ntmps4
      go_wp2_with fail
      refine (short_any A c ss _ HR.out).mono ?_
      rintro e w' ⟨rfl, rfl⟩
      go_wp2_with fail
      refine (short_any _ 1 [key] _ (C_one _ _ _)).mono ?_
      rintro e w' ⟨rfl, hw⟩
      subst hw
      have B1 := Lib.hid ((Below.refl w.heap.size w).alloc (Nat.le_refl _) (.cells #[.string key] 9))
      generalize w.alloc (.cells #[.string key] 9) = w1 at *
      have hb1 := Lib.hid B1.out.size
      go_wp2_with fail
      refine (New_st B1.out hb1.out (1 + wd % 100) _ (by omega) (by omega) (by omega)).mono ?_
      rintro e w2 ⟨rfl, i2⟩
      have I2 := Lib.hid i2
      clear i2 B1
      generalize w1.heap.size = p at *
      have hn1 : 1 + wd % 100 ≤ 4096 := by omega
      generalize 1 + wd % 100 = n at *
      go_wp2_with fail
      go_loopw [9] (fun i wr => ∃ k : Nat, k ≤ ss.length ∧ i = .int .i64 k ∧ Hid (St w wr w.heap.size p (fun r => p + (1 + r)) ((Sk.new n 0).adds (ss.take k)))) (fun i _ => ss.length - (intOf i).toNat)
      case atStart => exact ⟨0, Nat.zero_le _, rfl, I2.out⟩
      case round =>
        obtain ⟨k, hk, rfl, HD⟩ := hrel
        by_cases hlt : k < ss.length
        · obtain ⟨ad, hA, hc⟩ := at_str HR.out hlt
          subst hA
          have hc1 : wr.cell? (ad.add k) = some (.string (sget ss k)) := (HD.out.bel.cell (World.block_lt_of_cell? w _ hc)).trans hc
          have hf := adds_fields (Sk.new n 0) rfl (ss.take k)
          have htk : (ss.take k).length ≤ k := List.length_take_le _ _
          have hAdd := Lib.hid (Add_st HD.out (sget ss k) (short_mem hs1 hlt) hf.1 (by rw [hf.2.2.2]; have := short_len hs1; simp [Sk.new]; omega))
          have hss := short_len hs1
          have HT := Lib.hid (take_s hlt)
          clear hf htk
          go_wp2_with fail
          refine hAdd.out.mono ?_
          rintro e w3 ⟨rfl, i3, c3⟩
          have I3 := Lib.hid i3
          clear i3 c3
          go_wp2_with fail
          go_roundw
          case rel => exact ⟨k + 1, by omega, by go_num, by rw [HT.out, adds_snoc]; exact I3.out⟩
          case measure => simp [intOf]; omega
        · have hT : ss.take k = ss := List.take_of_length_le (by omega)
          rw [hT] at HD
          have hf := Lib.hid (adds_fields (Sk.new n 0) rfl ss)
          clear hT
          generalize hS : (Sk.new n 0).adds ss = S at *
          clear hS
          go_wp2_with fail
          go_loopw [10] (fun i wx => ∃ j : Nat, j ≤ 8 ∧ i = .int .i64 j ∧ Hid (St w wx w.heap.size p (fun r => p + (1 + r)) (S.ages j) ∧ ofI (S.ages j) key ≤ (255 / 2 ^ j : Nat))) (fun i _ => 8 - (intOf i).toNat)
          case atStart => exact ⟨0, Nat.zero_le _, rfl, HD.out, least_cap S _ 4⟩
          case round =>
            obtain ⟨j, hj, rfl, HE⟩ := hrel
            by_cases hjl : j < 8
            · have h5 := Lib.hid (ages_aged S j)
              have h6 := Lib.hid (ofI_age HE.out.1.sk key)
              have h7 := ofI_nonneg HE.out.1.sk key
              have h7b : ofI (S.ages j) key ≤ 255 := least_cap _ _ 4
              have h8 : S.aged = 0 := hf.out.2.2.1
              have H8 := Lib.hid h8
              clear h8
              go_wp2_with fail
              refine (Of_st HE.out.1 key HK.out).mono ?_
              rintro e w3 ⟨rfl, i3, n3, hn3⟩
              have I3 := Lib.hid i3
              clear i3 hn3
              go_wp2_with fail
              refine (Age_st I3.out (by rw [h5.out, H8.out]; omega)).mono ?_
              rintro e w4 ⟨rfl, i4, c4⟩
              have I4 := Lib.hid i4
              clear i4 c4
              go_wp2_with fail
              refine (Of_st I4.out key HK.out).mono ?_
              rintro e w5 ⟨rfl, i5, n5, hn5⟩
              rw [h6.out]
              have I5 := Lib.hid i5
              clear i5 hn5
              go_wp2_with fail
              refine (Aged_st I5.out).mono ?_
              rintro e w6 ⟨rfl, rfl⟩
              have ha : (S.ages j).age.aged = (j : Int) + 1 := by
                show (S.ages j).aged + 1 = _
                rw [h5.out, H8.out]
                omega
              rw [ha]
              clear ha
              go_wp2_with fail
              go_roundw
              case rel => exact ⟨j + 1, by omega, by go_num, I5.out, by show ofI (S.ages j).age key ≤ _; rw [h6.out]; exact half_pow _ _ HE.out.2⟩
              case measure => simp [intOf]; omega
            · obtain rfl : j = 8 := by omega
              have h7 := ofI_nonneg HE.out.1.sk key
              have h9 : ofI (S.ages 8) key = 0 := by
                have := HE.out.2
                simp at this
                omega
              have H9 := Lib.hid h9
              clear h9 h7
              go_wp2_with fail
              refine (Of_st HE.out.1 key HK.out).mono ?_
              rintro e w3 ⟨rfl, i3, n3, hn3⟩
              rw [H9.out]
              have I3 := Lib.hid i3
              clear i3 hn3
              go_wp2_with fail
              refine (works_below HH.out h0.out I3.out.bel I3.out.hb).mono ?_
              rintro e w6 ⟨rfl, b6⟩
              have B6 := Lib.hid b6
              clear b6
              go_wp2_with fail
              go_ret
              exact ⟨rfl, B6.out⟩
    · have hs2' : shortB [key] = false := by simpa using hs2
      go_enter Tryd.func4, Tryd.ntmps4
      go_wp2_with fail
      refine (short_any A c ss _ HR.out).mono ?_
      rintro e w' ⟨rfl, rfl⟩
      go_wp2_with fail
      refine (short_any _ 1 [key] _ (C_one _ _ _)).mono ?_
      rintro e w' ⟨rfl, hw⟩
      subst hw
      have B1 := Lib.hid ((Below.refl w.heap.size w).alloc (Nat.le_refl _) (.cells #[.string key] 9))
      generalize w.alloc (.cells #[.string key] 9) = w1 at *
      go_wp2_with fail
      refine (works_below HH.out h0.out B1.out B1.out.size).mono ?_
      rintro e w6 ⟨rfl, b6⟩
      have B6 := Lib.hid b6
      clear b6
      go_wp2_with fail
      go_ret
      exact ⟨rfl, B6.out⟩
  · have hs1' : shortB ss = false := by simpa using hs1
    go_enter Tryd.func4, Tryd.ntmps4
    go_wp2_with fail
    refine (short_any A c ss _ HR.out).mono ?_
    rintro e w' ⟨rfl, rfl⟩
    go_wp2_with fail
    refine (works_below HH.out h0.out (Below.refl _ _) (Nat.le_refl _)).mono ?_
    rintro e w6 ⟨rfl, b6⟩
    have B6 := Lib.hid b6
    clear b6
    go_wp2_with fail
    go_ret
    exact ⟨rfl, B6.out⟩
end Go.Proofs.YtpjdaglblckgfaaDoor
namespace Go.Proofs.YtpjdaglblckgfaaDoor
set_option linter.unusedVariables false
open Go.RowKit Go.Proofs.YtpjdaglblckgfaaDoorW.PrintWords

theorem C_two (w : World) (s s2 : ByteArray) (t : TypeId) : Kd.string.C (w.alloc (.cells #[.string s, .string s2] t)) (some ⟨w.heap.size, 0, none⟩) 2 [s, s2] := by
  refine ⟨rfl, by omega, fun _ => ⟨_, rfl, fun j p hj => ?_⟩⟩
  rcases j with _ | _ | j
  · have : s = p := by simpa using hj
    subst this
    refine ⟨[.string s], rfl, rfl, fun i u hu => ?_⟩
    rcases i with _ | i
    · have : Value.string s = u := by simpa using hu
      subst this
      simp [Addr.add, Kd.string, Kd.scalar]
    · simp at hu
  · have : s2 = p := by simpa using hj
    subst this
    refine ⟨[.string s2], rfl, rfl, fun i u hu => ?_⟩
    rcases i with _ | i
    · have : Value.string s2 = u := by simpa using hu
      subst this
      simp [Addr.add, Kd.string, Kd.scalar]
    · simp at hu
  · simp at hj

set_option maxHeartbeats 2000000 in
theorem more_law (A : Option Addr) (c wd : Nat) (ss : List ByteArray) (key ask : ByteArray) (w : World) (hr : Kd.string.C w A ss.length ss) (hk : key.size ≤ maxLen) (hq : ask.size ≤ maxLen) (hwd : wd ≤ 65535) (hg : HG w) :
    Calls Tryd.prog 5 #[.int .u16 wd, .slice A ss.length c, .string key, .string ask] w fun e w' => e = .returned (.bool true) ∧ Below w.heap.size w w' := by
  have HR := Lib.hid hr
  have HH := Lib.hid hg
  have HK := Lib.hid hk
  have HQ := Lib.hid hq
  have h0 := Lib.hid (hg_pos hg)
  clear hr hg hk hq
  by_cases hs1 : shortB ss = true
  · by_cases hs2 : shortB [key, ask] = true
    · go_enter Tryd.func5, Tryd.ntmps5
      go_wp2_with fail
      refine (short_any A c ss _ HR.out).mono ?_
      rintro e w' ⟨rfl, rfl⟩
      go_wp2_with fail
      refine (short_any _ 2 [key, ask] _ (C_two _ _ _ _)).mono ?_
      rintro e w' ⟨rfl, hw⟩
      subst hw
      have B1 := Lib.hid ((Below.refl w.heap.size w).alloc (Nat.le_refl _) (.cells #[.string key, .string ask] 9))
      generalize w.alloc (.cells #[.string key, .string ask] 9) = w1 at *
      have hb1 := Lib.hid B1.out.size
      go_wp2_with fail
      refine (New_st B1.out hb1.out (1 + wd % 100) _ (by omega) (by omega) (by omega)).mono ?_
      rintro e w2 ⟨rfl, i2⟩
      have I2 := Lib.hid i2
      clear i2 B1
      generalize w1.heap.size = p at *
      have hn1 : 1 + wd % 100 ≤ 4096 := by omega
      generalize 1 + wd % 100 = n at *
      go_wp2_with fail
      go_loopw [11] (fun i wr => ∃ k : Nat, k ≤ ss.length ∧ i = .int .i64 k ∧ Hid (St w wr w.heap.size p (fun r => p + (1 + r)) ((Sk.new n 0).adds (ss.take k)))) (fun i _ => ss.length - (intOf i).toNat)
      case atStart => exact ⟨0, Nat.zero_le _, rfl, I2.out⟩
      case round =>
        obtain ⟨k, hk, rfl, HD⟩ := hrel
        by_cases hlt : k < ss.length
        · obtain ⟨ad, hA, hc⟩ := at_str HR.out hlt
          subst hA
          have hc1 : wr.cell? (ad.add k) = some (.string (sget ss k)) := (HD.out.bel.cell (World.block_lt_of_cell? w _ hc)).trans hc
          have hf := adds_fields (Sk.new n 0) rfl (ss.take k)
          have htk : (ss.take k).length ≤ k := List.length_take_le _ _
          have hAdd := Lib.hid (Add_st HD.out (sget ss k) (short_mem hs1 hlt) hf.1 (by rw [hf.2.2.2]; have := short_len hs1; simp [Sk.new]; omega))
          have hss := short_len hs1
          have HT := Lib.hid (take_s hlt)
          clear hf htk
          go_wp2_with fail
          refine hAdd.out.mono ?_
          rintro e w3 ⟨rfl, i3, c3⟩
          have I3 := Lib.hid i3
          clear i3 c3
          go_wp2_with fail
          go_roundw
          case rel => exact ⟨k + 1, by omega, by go_num, by rw [HT.out, adds_snoc]; exact I3.out⟩
          case measure => simp [intOf]; omega
        · have hT : ss.take k = ss := List.take_of_length_le (by omega)
          rw [hT] at HD
          have hf := Lib.hid (adds_fields (Sk.new n 0) rfl ss)
          have hss := short_len hs1
          clear hT
          generalize hS : (Sk.new n 0).adds ss = S at *
          clear hS
          have hadd := Lib.hid (add_plain S key hf.out.1)
          have m1 : ofI S ask ≤ ofI (S.add key) ask := by rw [hadd.out]; exact bump_mono S (hashI key) (hashI ask)
          have m2 : ofI (S.add key) ask ≤ ofI S ask + 1 := by rw [hadd.out]; exact bump_up S (hashI key) (hashI ask)
          have m3 := least_cap S (hashI key) 4
          have m4 : ofI S key ≤ 255 := m3
          have m5 := ofI_nonneg HD.out.sk key
          have m6 := ofI_nonneg HD.out.sk ask
          have m8 : ofI S ask ≤ 255 := least_cap S (hashI ask) 4
          clear m3
          have g1 : decide (ofI S ask ≤ ofI (S.add key) ask) = true := by simpa using m1
          have g2 : decide (ofI (S.add key) ask ≤ ofI S ask + 1) = true := by simpa using m2
          clear m1 m2
          by_cases hl : ofI S key < 255
          · have m7 : ofI (S.add key) key = ofI S key + 1 := by rw [hadd.out]; exact bump_self S (hashI key) hl
            have g3 : (ofI (S.add key) key == ofI S key + 1) = true := by simpa using m7
            have G := Lib.hid m7
            clear m7
            go_wp2_with fail
            refine (Of_st HD.out key HK.out).mono ?_
            rintro e w3 ⟨rfl, i3, n3, hn3⟩
            have I3 := Lib.hid i3
            clear i3 hn3
            go_wp2_with fail
            refine (Of_st I3.out ask HQ.out).mono ?_
            rintro e w4 ⟨rfl, i4, n4, hn4⟩
            have I4 := Lib.hid i4
            clear i4 hn4 I3
            go_wp2_with fail
            refine (Add_st I4.out key HK.out hf.out.1 (by rw [hf.out.2.2.2]; simp [Sk.new]; omega)).mono ?_
            rintro e w5 ⟨rfl, i5, c5⟩
            have I5 := Lib.hid i5
            clear i5 c5 I4
            go_wp2_with fail
            refine (Of_st I5.out key HK.out).mono ?_
            rintro e w6 ⟨rfl, i6, n6, hn6⟩
            have I6 := Lib.hid i6
            clear i6 hn6 I5
            go_wp2_with fail
            refine (Of_st I6.out ask HQ.out).mono ?_
            rintro e w7 ⟨rfl, i7, n7, hn7⟩
            have I7 := Lib.hid i7
            clear i7 hn7 I6
            go_wp2_with fail
            refine (Of_st I7.out ask HQ.out).mono ?_
            rintro e w8 ⟨rfl, i8, n8, hn8⟩
            have I8 := Lib.hid i8
            clear i8 hn8 I7
            go_wp2_with fail
            refine (works_below HH.out h0.out I8.out.bel I8.out.hb).mono ?_
            rintro e w9 ⟨rfl, b9⟩
            have B9 := Lib.hid b9
            clear b9
            go_wp2_with fail
            go_ret
            exact ⟨rfl, B9.out⟩
          · have m7 : ofI (S.add key) key = ofI S key := by
              have h1 : ofI S key ≤ ofI (S.add key) key := by rw [hadd.out]; exact bump_mono S (hashI key) (hashI key)
              have h2 : ofI (S.add key) key ≤ 255 := least_cap _ _ 4
              omega
            have g3 : (ofI (S.add key) key == ofI S key + 1) = false := by simp; omega
            have g4 : (ofI S key == 255) = true := by simp; omega
            have g5 : (ofI (S.add key) key == ofI S key) = true := by simpa using m7
            have G := Lib.hid m7
            clear m7
            go_wp2_with fail
            refine (Of_st HD.out key HK.out).mono ?_
            rintro e w3 ⟨rfl, i3, n3, hn3⟩
            have I3 := Lib.hid i3
            clear i3 hn3
            go_wp2_with fail
            refine (Of_st I3.out ask HQ.out).mono ?_
            rintro e w4 ⟨rfl, i4, n4, hn4⟩
            have I4 := Lib.hid i4
            clear i4 hn4 I3
            go_wp2_with fail
            refine (Add_st I4.out key HK.out hf.out.1 (by rw [hf.out.2.2.2]; simp [Sk.new]; omega)).mono ?_
            rintro e w5 ⟨rfl, i5, c5⟩
            have I5 := Lib.hid i5
            clear i5 c5 I4
            go_wp2_with fail
            refine (Of_st I5.out key HK.out).mono ?_
            rintro e w6 ⟨rfl, i6, n6, hn6⟩
            have I6 := Lib.hid i6
            clear i6 hn6 I5
            go_wp2_with fail
            refine (Of_st I6.out ask HQ.out).mono ?_
            rintro e w7 ⟨rfl, i7, n7, hn7⟩
            have I7 := Lib.hid i7
            clear i7 hn7 I6
            go_wp2_with fail
            refine (Of_st I7.out ask HQ.out).mono ?_
            rintro e w8 ⟨rfl, i8, n8, hn8⟩
            have I8 := Lib.hid i8
            clear i8 hn8 I7
            go_wp2_with fail
            refine (works_below HH.out h0.out I8.out.bel I8.out.hb).mono ?_
            rintro e w9 ⟨rfl, b9⟩
            have B9 := Lib.hid b9
            clear b9
            go_wp2_with fail
            go_ret
            exact ⟨rfl, B9.out⟩
    · have hs2' : shortB [key, ask] = false := by simpa using hs2
      go_enter Tryd.func5, Tryd.ntmps5
      go_wp2_with fail
      refine (short_any A c ss _ HR.out).mono ?_
      rintro e w' ⟨rfl, rfl⟩
      go_wp2_with fail
      refine (short_any _ 2 [key, ask] _ (C_two _ _ _ _)).mono ?_
      rintro e w' ⟨rfl, hw⟩
      subst hw
      have B1 := Lib.hid ((Below.refl w.heap.size w).alloc (Nat.le_refl _) (.cells #[.string key, .string ask] 9))
      generalize w.alloc (.cells #[.string key, .string ask] 9) = w1 at *
      go_wp2_with fail
      refine (works_below HH.out h0.out B1.out B1.out.size).mono ?_
      rintro e w6 ⟨rfl, b6⟩
      have B6 := Lib.hid b6
      clear b6
      go_wp2_with fail
      go_ret
      exact ⟨rfl, B6.out⟩
  · have hs1' : shortB ss = false := by simpa using hs1
    go_enter Tryd.func5, Tryd.ntmps5
    go_wp2_with fail
    refine (short_any A c ss _ HR.out).mono ?_
    rintro e w' ⟨rfl, rfl⟩
    go_wp2_with fail
    refine (works_below HH.out h0.out (Below.refl _ _) (Nat.le_refl _)).mono ?_
    rintro e w6 ⟨rfl, b6⟩
    have B6 := Lib.hid b6
    clear b6
    go_wp2_with fail
    go_ret
    exact ⟨rfl, B6.out⟩
end Go.Proofs.YtpjdaglblckgfaaDoor
