/- The law PlanOne: what its call comes to. -/
import Derived.Test.YtndgjhhhggkdmaaDoorG6
import Derived.IntWalk
namespace Go.Proofs.YtndgjhhhggkdmaaDoor
set_option linter.unusedVariables false
open Go.RowKit Go.Proofs.YtndgjhhhggkdmaaDoorW.PrintWords

theorem R_empty (W : World) (base : Nat) (hb : base ≤ W.heap.size) : (Kd.int .i64).R 3 (W.alloc (.cells #[] 3)) base (fun _ => True) (.slice (some ⟨W.heap.size, 0, none⟩) 0 0) [] :=
  Kd.R_of_own (own_lit W base 3 .i64 [] hb (Nat.zero_le _)) (fun _ _ => trivial)

set_option maxHeartbeats 4000000 in
set_option maxRecDepth 100000 in
theorem one_law (ev nd : Nat) (A : Option Addr) (c : Nat) (l : List Int) (KA : Option Addr) (kc : Nat) (ks : List ByteArray) (w : World) (hC : (Kd.int .i64).C w A l.length l) (hc : l.length ≤ c) (hK : Kd.string.C w KA ks.length ks) (hkc : ks.length ≤ kc) (hev : ev ≤ 255) (hnd : nd ≤ 255) (hg : HG w) :
    Calls Tryd.prog 5 #[.int .u8 ev, .slice A l.length c, .int .u8 nd, .slice KA ks.length kc] w fun e w' => e = .returned (.bool true) ∧ Below w.heap.size w w' := by
  have HC := Lib.hid hC
  have HKS := Lib.hid hK
  have HH := Lib.hid hg
  have h0 := Lib.hid (hg_pos hg)
  have hshort := short_any KA kc ks w hK hkc
  by_cases hgd : l.length ≤ 20 ∧ shortB ks = true
  · obtain ⟨g1, g3⟩ := hgd
    have HS2 := Lib.hid g3
    have hkl := short_len g3
    have HSS := Lib.hid (show ∀ s ∈ ks, s.size ≤ maxLen from fun s hs => by obtain ⟨i, hi, rfl⟩ := List.getElem_of_mem hs; rw [← sget_eq hi]; exact short_mem HS2.out hi)
    rw [g3] at hshort
    have HSH := Lib.hid hshort
    have hda : decide (20 < (l.length : Int)) = false := decide_eq_false (by omega)
    clear hC hK hshort hg g3
    go_enter Tryd.func5, Tryd.ntmps5
    go_wp2_with fail
    refine HSH.out.mono ?_
    rintro e wa ⟨rfl, na, hna⟩
    have Ba : Hid (Below w.heap.size w wa) := by rw [hna]; exact Drawn0.below ⟨_, rfl⟩
    clear hna HSH
    go_wp2_with fail
    have hez : 1 + (ev : Int) % 8 = ((1 + ev % 8 : Nat) : Int) := by omega
    rw [hez]
    have he1 : 1 ≤ 1 + ev % 8 := by omega
    have he8 : 1 + ev % 8 ≤ 8 := by omega
    have hn1 : 1 ≤ 1 + (nd : Int) % 16 ∧ 1 + (nd : Int) % 16 ≤ 16 := by omega
    clear hez
    generalize 1 + ev % 8 = each at *
    generalize 1 + (nd : Int) % 16 = n at *
    obtain ⟨hn1, hn2⟩ := hn1
    have hl20 := adds_small he8 l g1
    have happ := addsC_append each l [n] []
    have hsnoc := adds_snoc each [] l n
    by_cases hca : addsC each [] l = 0
    · rw [if_pos hca] at happ
      refine (On_ok (w0 := w) (base := w.heap.size) Ba.out Ba.out.size _ each rfl he1 (by omega) A c l (Kd.C_below HC.out Ba.out) (by omega) hca).mono ?_
      rintro e w1 ⟨p, v, rfl, i1, b1⟩
      have I1 := Lib.hid i1
      have C0 := Lib.hid (Kd.C_below HC.out i1.bel)
      have G1 := Lib.hid (adds_good (by omega : each ≤ 9) l (Good.nil each))
      have HCA := Lib.hid hca
      have hcb0 : addsC each [] (l ++ [n]) = addC (adds each [] l) n := addsC_snoc each [] l n hca
      clear i1 b1 Ba hca happ
      generalize hP : adds each [] l = P at *
      have HP := Lib.hid hP
      clear hP
      have HSN := Lib.hid hsnoc
      have HCB := Lib.hid hcb0
      clear hsnoc hcb0
      by_cases hcb : addC P n = 0
      · have HZ := Lib.hid hcb
        clear hcb
        go_wp2_with (first
          | (at_builtin; refine Kd.R_append_row (Value.int .i64) (0 : Int) (w0 := w1) w1.heap.size rfl (.tmp 43) (.tmp 44) 22 3 (.int .i64 0) 8 rfl Tryd.underlying22 info_int rfl (by omega) _ [] l A l.length c (fun _ => True) rfl rfl (fun _ _ => trivial) (R_empty w1 _ (Nat.le_refl _)) (Kd.C_below C0.out (bel_alloc _ _)) (bel_alloc _ _) (by simp) (by simp; omega) ?_; intro v5 w5 ho5 hb5 hg5 hat5; rw [List.nil_append] at ho5; have HO5 := Lib.hid ho5; have HB5 := Lib.hid hb5; clear ho5 hb5 hg5 hat5)
          | (at_builtin; refine Kd.R_append (Kd.int .i64) (w0 := w1) w1.heap.size rfl (.tmp 45) (.tmp 47) 22 3 (.int .i64 0) 8 rfl Tryd.underlying22 info_int rfl (by decide) (by omega) _ l n [.int .i64 n] (fun _ => True) (fun _ => False) rfl rfl rfl (fun _ hk => hk.elim) (fun _ _ => trivial) HO5.out HB5.out HB5.out.size (by omega) ?_; intro v6 w6 ho6 hb6 hg6 hat6; generalize hl2 : l ++ [n] = l2 at ho6; have HL2 := Lib.hid hl2; clear hl2; obtain ⟨A6, c6, rfl, hc6, hC6⟩ := Kd.R_reads ho6; have HB6 := Lib.hid hb6; have HC6 := Lib.hid hC6; clear ho6 hb6 hg6 hat6 hC6))
        refine (On_ok (w0 := w) (base := w.heap.size) (I1.out.bel.trans (HB6.out.mono I1.out.hb)) (Nat.le_trans I1.out.hb HB6.out.size) _ each rfl he1 (by omega) A6 c6 l2 HC6.out (by rw [← HL2.out]; simp; omega) (by rw [← HL2.out, HCB.out, HZ.out])).mono ?_
        rintro e w2 ⟨p2, v2, rfl, i2, b2⟩
        rw [← HL2.out, HSN.out] at i2
        have I2 := Lib.hid i2
        have J2 := Lib.hid ((I1.out.later HB6.out).later b2)
        have G2 := Lib.hid (G1.out.addR (by omega : each ≤ 9) n)
        have hq20 := addR_len each P n
        have hmv := share_moves (move_one G1.out.ok (by omega : 0 < each) HZ.out) ks
        clear i2 b2 I1 HB6 HC6 HB5 HO5 hc6 HSN C0
        generalize addR each P n = Q at *
        have HMV := Lib.hid hmv
        clear hmv
        go_wp2_with fail
        have K2 := Lib.hid (Kd.C_below HKS.out I2.out.bel)
        refine (Moves_any p p2 each each v v2 P Q KA kc ks w2 J2.out.rg J2.out.ris I2.out.rg I2.out.ris K2.out HSS.out (by omega) (by omega) (by omega)).mono ?_
        rintro e w3 ⟨u3, rfl, hr3, hb3⟩
        obtain ⟨mA, mc, rfl, hmc, hmC⟩ := Kd.R_reads hr3
        have I3 := Lib.hid (I2.out.later hb3)
        have J3 := Lib.hid (J2.out.later hb3)
        have K3 := Lib.hid (Kd.C_below K2.out hb3)
        have M3 := Lib.hid hmC
        clear hr3 hb3 hmC I2 J2 K2
        go_wp2_with fail
        refine (Moves_any p2 p each each v2 v Q P KA kc ks w3 I3.out.rg I3.out.ris J3.out.rg J3.out.ris K3.out HSS.out (by omega) (by omega) (by omega)).mono ?_
        rintro e w4 ⟨u4, rfl, hr4, hb4⟩
        obtain ⟨nA, nc, rfl, hnc, hnC⟩ := Kd.R_reads hr4
        have I4 := Lib.hid (I3.out.later hb4)
        have J4 := Lib.hid (J3.out.later hb4)
        have K4 := Lib.hid (Kd.C_below K3.out hb4)
        have M4 := Lib.hid (Kd.C_below M3.out hb4)
        have N4 := Lib.hid hnC
        obtain ⟨e1, e2, e3⟩ := HMV.out
        have hget : ∀ i, i < (movesN P Q ks).length → (mvget (movesN P Q ks) i).to_ = n ∧ (mvget (movesN Q P ks) i).from_ = n ∧ (mvget (movesN P Q ks) i).from_ = (mvget (movesN Q P ks) i).to_ ∧ (mvget (movesN P Q ks) i).key = (mvget (movesN Q P ks) i).key := fun i hi => by
          rw [mvget_eq hi, mvget_eq (show i < (movesN Q P ks).length by omega)]
          exact e3 i hi (by omega)
        have hml := moves_len P Q ks
        have hshr := Share_any p2 each v2 Q n KA kc ks w4 I4.out.rg I4.out.ris K4.out HSS.out (by omega) (by omega)
        rw [e1] at hshr
        rw [e2] at N4 hnc ⊢
        clear hr4 hb4 hnC I3 J3 K3 M3 e1 e2 e3 HMV
        generalize hTot : (movesN P Q ks).length = tot at *
        have HTOT := Lib.hid hTot
        have HGET := Lib.hid hget
        have HSHR := Lib.hid hshr
        clear hTot hshr hget
        go_wp2_with fail
        refine HSHR.out.mono ?_
        rintro e w7 ⟨rfl, hb7⟩
        have I7 := Lib.hid (I4.out.later hb7)
        have M7 := Lib.hid (Kd.C_below M4.out hb7)
        have N7 := Lib.hid (Kd.C_below N4.out hb7)
        clear hb7 HSHR I4 J4 K4 M4 N4
        go_wp2_with fail
        go_loopw [17] (fun i wr => ∃ k : Nat, k ≤ tot ∧ i = .int .i64 k ∧ Hid (Below w7.heap.size w7 wr)) (fun i _ => tot - (intOf i).toNat)
        case atStart => exact ⟨0, Nat.zero_le _, rfl, Below.refl _ _⟩
        case round =>
          obtain ⟨k, hk, rfl, HE⟩ := hrel
          by_cases hlt : k < tot
          · obtain ⟨ad, hA, a0, a1, a2⟩ := at_mv M7.out hlt
            subst hA
            obtain ⟨bd, hA, b0, b1, b2⟩ := at_mv N7.out hlt
            subst hA
            obtain ⟨t1, t2, t3, t4⟩ := HGET.out k hlt
            rw [t1] at a2
            rw [t2] at b1
            rw [t3] at a1
            rw [t4] at a0
            have r0 := (HE.out.cell (World.block_lt_of_cell? w7 _ a0)).trans a0
            have r1 := (HE.out.cell (World.block_lt_of_cell? w7 _ a1)).trans a1
            have r2 := (HE.out.cell (World.block_lt_of_cell? w7 _ a2)).trans a2
            have s0 := (HE.out.cell (World.block_lt_of_cell? w7 _ b0)).trans b0
            have s1 := (HE.out.cell (World.block_lt_of_cell? w7 _ b1)).trans b1
            have s2 := (HE.out.cell (World.block_lt_of_cell? w7 _ b2)).trans b2
            generalize (mvget (movesN Q P ks) k).key = ky at *
            generalize (mvget (movesN Q P ks) k).to_ = ty at *
            clear a0 a1 a2 b0 b1 b2 t1 t2 t3 t4
            have q0 : (0 : Int) ≤ (k : Int) := by omega
            have q1 : (k : Int) < (tot : Int) := by omega
            have q2 : (tot : Int) ≤ (mc : Int) := by omega
            have q3 : (tot : Int) ≤ (nc : Int) := by omega
            go_wp2_with fail
            go_quiet (fail)
            go_wp2_with fail
            go_roundw
            case rel => exact ⟨k + 1, by omega, by go_num, by first | exact HE.out | exact HE.out.trans ((Drawn0.below ⟨_, rfl⟩).mono HE.out.size)⟩
            case measure => simp [intOf]; omega
          · obtain rfl : k = tot := by omega
            have BE := Lib.hid ((I7.out.later HE.out).bel)
            go_wp2_with fail
            refine (works_below HH.out h0.out BE.out BE.out.size).mono ?_
            rintro e w12 ⟨rfl, hb12⟩
            have HB12 := Lib.hid hb12
            clear hb12
            go_wp2_with fail
            go_ret
            exact ⟨rfl, HB12.out⟩
      · have HZ := Lib.hid hcb
        clear hcb
        go_wp2_with (first
          | (at_builtin; refine Kd.R_append_row (Value.int .i64) (0 : Int) (w0 := w1) w1.heap.size rfl (.tmp 43) (.tmp 44) 22 3 (.int .i64 0) 8 rfl Tryd.underlying22 info_int rfl (by omega) _ [] l A l.length c (fun _ => True) rfl rfl (fun _ _ => trivial) (R_empty w1 _ (Nat.le_refl _)) (Kd.C_below C0.out (bel_alloc _ _)) (bel_alloc _ _) (by simp) (by simp; omega) ?_; intro v5 w5 ho5 hb5 hg5 hat5; rw [List.nil_append] at ho5; have HO5 := Lib.hid ho5; have HB5 := Lib.hid hb5; clear ho5 hb5 hg5 hat5)
          | (at_builtin; refine Kd.R_append (Kd.int .i64) (w0 := w1) w1.heap.size rfl (.tmp 45) (.tmp 47) 22 3 (.int .i64 0) 8 rfl Tryd.underlying22 info_int rfl (by decide) (by omega) _ l n [.int .i64 n] (fun _ => True) (fun _ => False) rfl rfl rfl (fun _ hk => hk.elim) (fun _ _ => trivial) HO5.out HB5.out HB5.out.size (by omega) ?_; intro v6 w6 ho6 hb6 hg6 hat6; generalize hl2 : l ++ [n] = l2 at ho6; have HL2 := Lib.hid hl2; clear hl2; obtain ⟨A6, c6, rfl, hc6, hC6⟩ := Kd.R_reads ho6; have HB6 := Lib.hid hb6; have HC6 := Lib.hid hC6; clear ho6 hb6 hg6 hat6 hC6))
        refine (On_no w6 _ each rfl he1 (by omega) A6 c6 l2 HC6.out (by rw [← HL2.out]; simp; omega) (by rw [← HL2.out, HCB.out]; exact HZ.out)).mono ?_
        rintro e w2 ⟨eb, lst, rfl, -, -, b2⟩
        have BE := Lib.hid (((I1.out.later HB6.out).later b2).bel)
        clear b2 I1 HB6 HC6 HB5 HO5 hc6 HSN C0
        go_wp2_with fail
        refine (works_below HH.out h0.out BE.out BE.out.size).mono ?_
        rintro e w12 ⟨rfl, hb12⟩
        have HB12 := Lib.hid hb12
        clear hb12
        go_wp2_with fail
        go_ret
        exact ⟨rfl, HB12.out⟩
    · rw [if_neg hca] at happ
      refine (On_no wa _ each rfl he1 (by omega) A c l (Kd.C_below HC.out Ba.out) (by omega) hca).mono ?_
      rintro e w1 ⟨eb1, lst1, rfl, -, -, b1⟩
      have B1 := Lib.hid (Ba.out.trans (b1.mono Ba.out.size))
      have C0 := Lib.hid (Kd.C_below HC.out B1.out)
      have HCB := Lib.hid happ
      have HZ := Lib.hid hca
      clear b1 Ba hca happ hsnoc
      go_wp2_with (first
        | (at_builtin; refine Kd.R_append_row (Value.int .i64) (0 : Int) (w0 := w1) w1.heap.size rfl (.tmp 43) (.tmp 44) 22 3 (.int .i64 0) 8 rfl Tryd.underlying22 info_int rfl (by omega) _ [] l A l.length c (fun _ => True) rfl rfl (fun _ _ => trivial) (R_empty w1 _ (Nat.le_refl _)) (Kd.C_below C0.out (bel_alloc _ _)) (bel_alloc _ _) (by simp) (by simp; omega) ?_; intro v5 w5 ho5 hb5 hg5 hat5; rw [List.nil_append] at ho5; have HO5 := Lib.hid ho5; have HB5 := Lib.hid hb5; clear ho5 hb5 hg5 hat5)
        | (at_builtin; refine Kd.R_append (Kd.int .i64) (w0 := w1) w1.heap.size rfl (.tmp 45) (.tmp 47) 22 3 (.int .i64 0) 8 rfl Tryd.underlying22 info_int rfl (by decide) (by omega) _ l n [.int .i64 n] (fun _ => True) (fun _ => False) rfl rfl rfl (fun _ hk => hk.elim) (fun _ _ => trivial) HO5.out HB5.out HB5.out.size (by omega) ?_; intro v6 w6 ho6 hb6 hg6 hat6; generalize hl2 : l ++ [n] = l2 at ho6; have HL2 := Lib.hid hl2; clear hl2; obtain ⟨A6, c6, rfl, hc6, hC6⟩ := Kd.R_reads ho6; have HB6 := Lib.hid hb6; have HC6 := Lib.hid hC6; clear ho6 hb6 hg6 hat6 hC6))
      refine (On_no w6 _ each rfl he1 (by omega) A6 c6 l2 HC6.out (by rw [← HL2.out]; simp; omega) (by rw [← HL2.out, HCB.out]; exact HZ.out)).mono ?_
      rintro e w2 ⟨eb, lst, rfl, -, -, b2⟩
      have b6 := B1.out.trans (HB6.out.mono B1.out.size)
      have BE := Lib.hid (b6.trans (b2.mono b6.size))
      clear b2 b6 B1 HB6 HC6 HB5 HO5 hc6 C0
      go_wp2_with fail
      refine (works_below HH.out h0.out BE.out BE.out.size).mono ?_
      rintro e w12 ⟨rfl, hb12⟩
      have HB12 := Lib.hid hb12
      clear hb12
      go_wp2_with fail
      go_ret
      exact ⟨rfl, HB12.out⟩
  · have HSH := Lib.hid hshort
    have hd : decide (20 < (l.length : Int)) = true ∨ (decide (20 < (l.length : Int)) = false ∧ shortB ks = false) := by
      by_cases h1 : 20 < l.length
      · exact .inl (decide_eq_true (by omega))
      · refine .inr ⟨decide_eq_false (by omega), ?_⟩
        cases hq : shortB ks with
        | false => rfl
        | true => exact absurd ⟨by omega, hq⟩ hgd
    clear hC hK hshort hgd hg
    rcases hd with d1 | ⟨d1, d5⟩
    · go_enter Tryd.func5, Tryd.ntmps5
      go_wp2_with fail
      have BE := Lib.hid (Below.refl w.heap.size w)
      refine (works_below HH.out h0.out BE.out BE.out.size).mono ?_
      rintro e w12 ⟨rfl, hb12⟩
      have HB12 := Lib.hid hb12
      clear hb12
      go_wp2_with fail
      go_ret
      exact ⟨rfl, HB12.out⟩
    · go_enter Tryd.func5, Tryd.ntmps5
      go_wp2_with fail
      rw [d5] at HSH
      refine HSH.out.mono ?_
      rintro e wa ⟨rfl, na, hna⟩
      have BE : Hid (Below w.heap.size w wa) := by rw [hna]; exact Drawn0.below ⟨_, rfl⟩
      clear hna
      go_wp2_with fail
      refine (works_below HH.out h0.out BE.out BE.out.size).mono ?_
      rintro e w12 ⟨rfl, hb12⟩
      have HB12 := Lib.hid hb12
      clear hb12
      go_wp2_with fail
      go_ret
      exact ⟨rfl, HB12.out⟩
end Go.Proofs.YtndgjhhhggkdmaaDoor
