/- The law RingDoes: what its call comes to. -/
import Derived.Test.YtdaliiaagkhhhaaDoorRgK
import Derived.Deep.RegionWith
import Derived.Deep.RegionHeld3
import Derived.Deep.DrawnRows
import Derived.Deep.DeepCutAuto
namespace Go.Proofs.YtdaliiaagkhhhaaDoor
set_option linter.unusedVariables false
open Go.RowKit Go.Proofs.YtdaliiaagkhhhaaDoorW.PrintWords
attribute [local go_sem ↓] Go.wp_at_zero Go.wp_at_succ

set_option maxHeartbeats 4000000 in
set_option maxRecDepth 100000 in
theorem does_law (z : Int) (A : Option Addr) (c : Nat) (ops : List Op) (KA : Option Addr) (kc : Nat) (ks : List ByteArray) (most : Int) (w : World) (hr : kOp.C w A ops.length ops) (hks : Kd.string.C w KA ks.length ks) (hkc : ks.length ≤ kc) (hg : HG w) :
    Calls Tryd.prog 3 #[.int .i64 z, .slice A ops.length c, .slice KA ks.length kc, .int .i64 most] w fun e w' => e = .returned (.bool true) ∧ Below w.heap.size w w' := by
  have HR := Lib.hid hr
  have HKS := Lib.hid hks
  have HH := Lib.hid hg
  have h0 := Lib.hid (hg_pos hg)
  have hsh := short_any KA kc ks w HKS.out hkc
  have HSH := Lib.hid hsh
  clear hr hg hks hsh
  by_cases hs1 : ops.length ≤ 25 ∧ shortB ks = true ∧ ¬ (9 < z ∧ z ≤ 64)
  · obtain ⟨hs1, hs2, hs3⟩ := hs1
    have HS2 := Lib.hid hs2
    have hkl := short_len hs2
    rw [hs2] at HSH
    clear hs2
    have hz : decide (9 < z) = false ∨ (decide (9 < z) = true ∧ decide (z ≤ 64) = false) := by
      by_cases h : 9 < z
      · exact .inr ⟨decide_eq_true h, decide_eq_false (by omega)⟩
      · exact .inl (decide_eq_false h)
    by_cases hzz : 1 ≤ z ∧ z ≤ 64
    · obtain ⟨hz1, hz2⟩ := hzz
      have hz9 : z ≤ 9 := by omega
      have hzd : ¬ 9 < z := by omega
      obtain ⟨each, hee⟩ := Int.eq_ofNat_of_zero_le (show 0 ≤ z by omega)
      subst hee
      have hd9 : decide (9 < (each : Int)) = false := decide_eq_false hzd
      have he1 : 1 ≤ each := by omega
      have he9 : each ≤ 9 := by omega
      clear hz hs3 hz1 hz2 hz9 hzd
      go_enter Tryd.func3, Tryd.ntmps3
      go_wp2_with fail
      refine HSH.out.mono ?_
      rintro e wa ⟨rfl, na, hna⟩
      have Ba : Hid (Below w.heap.size w wa) := by rw [hna]; exact Drawn0.below ⟨_, rfl⟩
      clear hna HSH
      go_wp2_with fail
      refine (New_st Ba.out Ba.out.size each _ rfl (by omega) (by omega)).mono ?_
      rintro e w1 ⟨rfl, i1, b1⟩
      have I1 := Lib.hid i1
      have hbp := Ba.out.size
      clear i1 b1 Ba
      generalize wa.heap.size = p at *
      generalize hB : w.heap.size = B at *
      have HB := Lib.hid hB
      clear hB
      have hn1 : (if (each : Int) < 1 ∨ 64 < (each : Int) then (0 : Int) else each) = each := if_neg (by omega)
      have hn2 : (if (each : Int) < 1 ∨ 64 < (each : Int) then (2 : Int) else 0) = 0 := if_neg (by omega)
      have hnew := refNew_any (each : Int) w1
      rw [hn1, hn2] at hnew
      have HNEW := Lib.hid hnew
      clear hn1 hn2 hnew
      go_wp2_with fail
      refine HNEW.out.mono ?_
      rintro e w2 ⟨xv, rfl, hxr, hxb⟩
      obtain ⟨xA, xc, hxv⟩ := Kd.R_slice hxr
      subst hxv
      have I2 := Lib.hid (I1.out.later hxb)
      have X2 := Lib.hid (Kd.R_lower hxr I1.out.hb)
      clear hxr hxb HNEW I1
      have HBo : Hid (Both w (w2.alloc (.cells #[.int .i64 each, .slice xA 0 xc] 33)) B p each (.slice none 0 0) [] w2.heap.size (.slice xA 0 xc) []) :=
        ⟨I2.out.later (bel_alloc _ _), Good.nil each, heap_alloc_new _ _, Kd.R_below X2.out (bel_alloc _ _), I2.out.hb⟩
      have hq := I2.out.hb
      clear I2 X2
      generalize hW3 : w2.alloc (.cells #[.int .i64 each, .slice xA 0 xc] 33) = w3 at *
      go_wp2_with fail
      clear hW3
      generalize w2.heap.size = q at *
      have HOf := Lib.hid (of_code .nilIface [] w3 .nil (HBo.out.st.hg HH.out h0.out))
      refine HOf.out.mono ?_
      rintro e w4 ⟨rfl, b4⟩
      have I4 := Lib.hid (HBo.out.later b4)
      rw [show codeOf [] = 0 from rfl]
      clear b4 HOf HBo
      go_wp2_with fail
      go_loopw [13] (fun i wr => ∃ k : Nat, k ≤ ops.length ∧ i = .int .i64 k ∧ Hid (∃ v P xv, Both w wr B p each v P q xv (nodesN P 17) ∧ P.length ≤ k * 9)) (fun i _ => ops.length - (intOf i).toNat)
      case atStart => exact ⟨0, Nat.zero_le _, rfl, _, _, _, I4.out, by simp⟩
      case round =>
        obtain ⟨k, hk, rfl, HD⟩ := hrel
        obtain ⟨v, P, xv, HD⟩ : ∃ v P xv, Hid (Both w wr B p each v P q xv (nodesN P 17) ∧ P.length ≤ k * 9) := by
          obtain ⟨v, P, xv, h⟩ := HD.out
          exact ⟨v, P, xv, h⟩
        obtain ⟨xA2, xc2, hxv⟩ := Kd.R_slice HD.out.1.row
        subst hxv
        have hPl : P.length ≤ 1000 := by have := HD.out.2; omega
        have hNl := nodes_len P 17
        by_cases hlt : k < ops.length
        · obtain ⟨ad, hA, hc0, hc1⟩ := at_op HR.out hlt
          subst hA
          have hd0 : wr.cell? (ad.add (k * 2)) = some (.int .i64 (oget ops k).kind) := (HD.out.1.st.bel.cell (by rw [← HB.out]; exact World.block_lt_of_cell? w _ hc0)).trans hc0
          have hd1 : wr.cell? ⟨(ad.add (k * 2)).block, (ad.add (k * 2)).off + 1, none⟩ = some (.int .i64 (oget ops k).node) := (HD.out.1.st.bel.cell (by rw [← HB.out]; exact World.block_lt_of_cell? w _ hc1)).trans hc1
          have hopn : ∀ W, Below B w W → W.cell? ⟨(ad.add (k * 2)).block, (ad.add (k * 2)).off + 1, none⟩ = some (.int .i64 (oget ops k).node) := fun W hW => (hW.cell (by rw [← HB.out]; exact World.block_lt_of_cell? w _ hc1)).trans hc1
          have HOPN := Lib.hid hopn
          clear hopn hc0 hc1
          have x0 := HD.out.1.cell0
          have x1 := HD.out.1.cell1
          by_cases hq0 : (oget ops k).kind = 0
          · have hqt : ((oget ops k).kind == 0) = true := by simpa using hq0
            have hcall := refAdd_any each xA2 xc2 (nodesN P 17) (oget ops k).node B wr.drew (Kd.R_drewN HD.out.1.row 1) HD.out.1.st.hb (by omega)
            rw [(link_code HD.out.1.good.ok _).1, ← link_add HD.out.1.good.ok (by omega : 0 < each)] at hcall
            have HCALL := Lib.hid hcall
            clear hcall hq0
            generalize (oget ops k).node = nd at *
            go_wp2_with fail
            go_region_with (go_at_call 11; refine HCALL.out.mono ?_; rintro e w5 ⟨A5, n5, c5, rfl, hr5, hb5⟩; have R5 := Lib.hid hr5; have b5 := Lib.hid (show Below wr.heap.size wr w5 from ⟨hb5.os, hb5.tape, hb5.output, hb5.size, hb5.block⟩); have I5 := Lib.hid (HD.out.1.later b5.out); have y0 := I5.out.cell0; have y1 := I5.out.cell1; have g0 := I5.out.fro 0; have g1 := I5.out.fro 1; clear hr5 hb5)
            all_goals
              have I6 := Lib.hid (HD.out.1.setx R5.out b5.out)
              clear y0 y1 g0 g1 I5 x0 x1 hd0 hd1
              generalize (w5.setCell ⟨q, 0, none⟩ (.int .i64 each)).setCell ⟨q, 1, none⟩ (.slice A5 n5 c5) = w6 at *
              have hd1 := HOPN.out w6 I6.out.st.bel
              go_wp2_with fail
              refine (Add_st I6.out.st nd (by omega)).mono ?_
              rintro e w7 ⟨ev7, v7, l7, rfl, i7, ch7, e7, hcd⟩
              have I7 := Lib.hid (I6.out.ring ch7 i7 (HD.out.1.good.addR he9 nd))
              have HOf := Lib.hid (of_code ev7 l7 w7 e7 (i7.hg HH.out h0.out))
              rw [hcd] at HOf
              clear i7 ch7 e7 hcd I6 hd1
              go_wp2_with fail
              refine HOf.out.mono ?_
              rintro e w8 ⟨rfl, b8⟩
              have I8 := Lib.hid (I7.out.later b8)
              clear b8 HOf I7
              go_wp2_with fail
              have hPl2 := addR_len each P nd
              generalize hM : addR each P nd = M at *
              clear hM
              obtain ⟨A5', c5', he5, hc5, -⟩ := Kd.R_reads I8.out.row
              injection he5 with e1 e2 e3
              subst e2
              subst e3
              clear e1
              have hMl := nodes_len M 17
              have HN := Lib.hid (Nodes_any p _ _ _ w8.drew (show IsRg w8.drew p _ _ _ from (I8.out.drewN 1).st.rg))
              have y8 := I8.out.cell1
              go_region_with (first
                | (go_at_call 16; refine HN.out.mono ?_; rintro e w9 ⟨u9, rfl, hr9, hb9⟩; obtain ⟨A9, c9, rfl, hc9, hC9⟩ := Kd.R_reads hr9; have b9 := Lib.hid (show Below w8.heap.size w8 w9 from ⟨hb9.os, hb9.tape, hb9.output, hb9.size, hb9.block⟩); have I9 := Lib.hid (I8.out.later b9.out); have y9 := I9.out.cell1; have C9 := Lib.hid hC9; clear hr9 hb9 hC9)
                | (go_at_call 15; obtain ⟨A6', c6', he6, hc6, hC6⟩ := Kd.R_reads I9.out.row; (injection he6 with f1 f2 f3); subst f1; subst f3; refine (ints_any A9 _ c9 _ (nodesN M 17) (nodesN M 17) w9 C9.out hc9 hC6 hc6 (by omega)).mono ?_; rintro e w10 ⟨rfl, n10, hn10⟩; have I10 : Hid (Both w w10 B p each v7 M q _ (nodesN M 17)) := (by { rw [hn10]; exact I9.out.drewN n10 }); rw [show decide (nodesN M 17 = nodesN M 17) = true from decide_eq_true rfl]; clear hC6 hn10 f2))
              all_goals
                go_wp2_with fail
                go_roundw
                case rel => exact ⟨k + 1, by omega, by go_num, v7, M, _, I10.out, by have := HD.out.2; omega⟩
                case measure => simp [intOf]; omega
          · have hqt : ((oget ops k).kind == 0) = false := by simpa using hq0
            have hcall := refRem_any each xA2 xc2 (nodesN P 17) (oget ops k).node B wr.drew (Kd.R_drewN HD.out.1.row 1) HD.out.1.st.hb (by omega)
            rw [(link_code HD.out.1.good.ok _).2, ← link_rem P] at hcall
            have HCALL := Lib.hid hcall
            clear hcall hq0
            generalize (oget ops k).node = nd at *
            go_wp2_with fail
            go_region_with (go_at_call 13; refine HCALL.out.mono ?_; rintro e w5 ⟨A5, n5, c5, rfl, hr5, hb5⟩; have R5 := Lib.hid hr5; have b5 := Lib.hid (show Below wr.heap.size wr w5 from ⟨hb5.os, hb5.tape, hb5.output, hb5.size, hb5.block⟩); have I5 := Lib.hid (HD.out.1.later b5.out); have y0 := I5.out.cell0; have y1 := I5.out.cell1; have g0 := I5.out.fro 0; have g1 := I5.out.fro 1; clear hr5 hb5)
            all_goals
              have I6 := Lib.hid (HD.out.1.setx R5.out b5.out)
              clear y0 y1 g0 g1 I5 x0 x1 hd0 hd1
              generalize (w5.setCell ⟨q, 0, none⟩ (.int .i64 each)).setCell ⟨q, 1, none⟩ (.slice A5 n5 c5) = w6 at *
              have hd1 := HOPN.out w6 I6.out.st.bel
              go_wp2_with fail
              refine (Rem_st I6.out.st nd (by omega)).mono ?_
              rintro e w7 ⟨ev7, v7, l7, rfl, i7, ch7, e7, hcd⟩
              have I7 := Lib.hid (I6.out.ring ch7 i7 (HD.out.1.good.drop nd))
              have HOf := Lib.hid (of_code ev7 l7 w7 e7 (i7.hg HH.out h0.out))
              rw [hcd] at HOf
              clear i7 ch7 e7 hcd I6 hd1
              go_wp2_with fail
              refine HOf.out.mono ?_
              rintro e w8 ⟨rfl, b8⟩
              have I8 := Lib.hid (I7.out.later b8)
              clear b8 HOf I7
              go_wp2_with fail
              have hPl2 := dropN_len P nd
              generalize hM : dropN P nd = M at *
              clear hM
              obtain ⟨A5', c5', he5, hc5, -⟩ := Kd.R_reads I8.out.row
              injection he5 with e1 e2 e3
              subst e2
              subst e3
              clear e1
              have hMl := nodes_len M 17
              have HN := Lib.hid (Nodes_any p _ _ _ w8.drew (show IsRg w8.drew p _ _ _ from (I8.out.drewN 1).st.rg))
              have y8 := I8.out.cell1
              go_region_with (first
                | (go_at_call 16; refine HN.out.mono ?_; rintro e w9 ⟨u9, rfl, hr9, hb9⟩; obtain ⟨A9, c9, rfl, hc9, hC9⟩ := Kd.R_reads hr9; have b9 := Lib.hid (show Below w8.heap.size w8 w9 from ⟨hb9.os, hb9.tape, hb9.output, hb9.size, hb9.block⟩); have I9 := Lib.hid (I8.out.later b9.out); have y9 := I9.out.cell1; have C9 := Lib.hid hC9; clear hr9 hb9 hC9)
                | (go_at_call 15; obtain ⟨A6', c6', he6, hc6, hC6⟩ := Kd.R_reads I9.out.row; (injection he6 with f1 f2 f3); subst f1; subst f3; refine (ints_any A9 _ c9 _ (nodesN M 17) (nodesN M 17) w9 C9.out hc9 hC6 hc6 (by omega)).mono ?_; rintro e w10 ⟨rfl, n10, hn10⟩; have I10 : Hid (Both w w10 B p each v7 M q _ (nodesN M 17)) := (by { rw [hn10]; exact I9.out.drewN n10 }); rw [show decide (nodesN M 17 = nodesN M 17) = true from decide_eq_true rfl]; clear hC6 hn10 f2))
              all_goals
                go_wp2_with fail
                go_roundw
                case rel => exact ⟨k + 1, by omega, by go_num, v7, M, _, I10.out, by have := HD.out.2; omega⟩
                case measure => simp [intOf]; omega
        · have hkz : True := trivial
          clear hkz hk
          have he64 : each ≤ 64 := by omega
          go_wp2_with fail
          go_loopw [16, 17] (fun sh i wr => ∃ j : Nat, j ≤ ks.length ∧ i = .int .i64 j ∧ sh = .int .i64 (shareN P 3 (ks.take j)) ∧ Hid (Both w wr B p each v P q (.slice xA2 (nodesN P 17).length xc2) (nodesN P 17))) (fun _ i _ => ks.length - (intOf i).toNat)
          case atStart => exact ⟨0, Nat.zero_le _, rfl, rfl, HD.out.1⟩
          case round =>
            obtain ⟨j, hj, rfl, rfl, HE⟩ := hrel
            obtain ⟨sb0, sb1⟩ := share_bd P 3 (ks.take j)
            have stl : (ks.take j).length ≤ j := List.length_take_le _ _
            by_cases hlt2 : j < ks.length
            · obtain ⟨ad, hA, hc0⟩ := at_str HKS.out hlt2
              subst hA
              have hkb := hashI_bd (sget ks j)
              have hkm := short_mem HS2.out hlt2
              have hS : ∀ W, Below wr.heap.size wr W → W.cell? (ad.add j) = some (.string (sget ks j)) ∧ W.cell? ⟨q, 0, none⟩ = some (.int .i64 each) ∧ W.cell? ⟨q, 1, none⟩ = some (.slice xA2 (nodesN P 17).length xc2) := fun W hW =>
                ⟨((HE.out.later hW).st.bel.cell (by rw [← HB.out]; exact World.block_lt_of_cell? w _ hc0)).trans hc0, (HE.out.later hW).cell0, (HE.out.later hW).cell1⟩
              have hown := owners_ref HE.out.good (by omega : 0 < each) he9 hkb.1 hkb.2 most
              have hown1 := owners_ref HE.out.good (by omega : 0 < each) he9 hkb.1 hkb.2 1
              have hC1 : ∀ W, Below wr.heap.size wr W → Calls Tryd.prog 17 #[.pointer (some ⟨p, 0, none⟩), .string (sget ks j)] W fun e w' => e = .returned (.int .i64 (ownerN P (hashI (sget ks j)))) ∧ Below wr.heap.size wr w' := fun W hW =>
                (Owner_any p _ _ _ (sget ks j) W (HE.out.later hW).st.rg HE.out.st.ris hkm (by omega)).mono fun e w' ⟨he, hb⟩ => ⟨he, hW.trans (hb.mono hW.size)⟩
              have hC2 : ∀ W, Below wr.heap.size wr W → Calls Tryd.prog 18 #[.agg #[.int .i64 each, .slice xA2 (nodesN P 17).length xc2], .string (sget ks j)] W fun e w' => e = .returned (.int .i64 (ownerN P (hashI (sget ks j)))) ∧ Below wr.heap.size wr w' := fun W hW => by
                obtain ⟨A', c', he, hcc, hC⟩ := Kd.R_reads (HE.out.later hW).row
                injection he with e1 e2 e3
                subst e1
                subst e3
                have := refowner_any each he64 xA2 xc2 (nodesN P 17) (by omega) (sget ks j) hkm W hC hcc
                rw [← hown1] at this
                exact this.mono fun e w' ⟨he, hb⟩ => ⟨he, hW.trans (hb.mono hW.size)⟩
              have hC3 : ∀ W, Below wr.heap.size wr W → Calls Tryd.prog 19 #[.pointer (some ⟨p, 0, none⟩), .string (sget ks j), .int .i64 most] W fun e w' => ∃ A' c', e = .returned (.slice A' (ownersN P (hashI (sget ks j)) most).length c') ∧ (ownersN P (hashI (sget ks j)) most).length ≤ c' ∧ (Kd.int .i64).C w' A' (ownersN P (hashI (sget ks j)) most).length (ownersN P (hashI (sget ks j)) most) ∧ Below wr.heap.size wr w' ∧ Below W.heap.size W w' := fun W hW =>
                (Owners_any p _ _ _ (sget ks j) most W (HE.out.later hW).st.rg HE.out.st.ris hkm (by omega)).mono fun e w' ⟨u, he, hr, hb⟩ => by
                  obtain ⟨A', c', rfl, hcc, hC⟩ := Kd.R_reads hr
                  exact ⟨A', c', he, hcc, hC, hW.trans (hb.mono hW.size), hb⟩
              have hC4 : ∀ W, Below wr.heap.size wr W → Calls Tryd.prog 20 #[.agg #[.int .i64 each, .slice xA2 (nodesN P 17).length xc2], .string (sget ks j), .int .i64 most] W fun e w' => ∃ A' c', e = .returned (.slice A' (ownersN P (hashI (sget ks j)) most).length c') ∧ (ownersN P (hashI (sget ks j)) most).length ≤ c' ∧ (Kd.int .i64).C w' A' (ownersN P (hashI (sget ks j)) most).length (ownersN P (hashI (sget ks j)) most) ∧ Below wr.heap.size wr w' ∧ Below W.heap.size W w' := fun W hW => by
                obtain ⟨A', c', he, hcc, hC⟩ := Kd.R_reads (HE.out.later hW).row
                injection he with e1 e2 e3
                subst e1
                subst e3
                have := refowners_any each he64 xA2 xc2 (nodesN P 17) (by omega) (sget ks j) hkm most W hC hcc
                rw [← hown] at this
                refine this.mono fun e w' ⟨u, he, hr, hb⟩ => ?_
                obtain ⟨A', c', rfl, hcc, hC⟩ := Kd.R_reads hr
                exact ⟨A', c', he, hcc, hC, hW.trans (hb.mono hW.size), hb⟩
              have ho18 : (ownersN P (hashI (sget ks j)) most).length ≤ 17 := by rw [owners_len HE.out.good.ok]; omega
              obtain ⟨key, hkey⟩ : ∃ key, key = sget ks j := ⟨_, rfl⟩
              rw [← hkey] at hS hC1 hC2 hC3 hC4 ho18
              have HKEY := Lib.hid hkey
              clear hkey
              generalize ownersN P (hashI key) most = OW at *
              obtain ⟨s0, s1, s2⟩ := hS wr (Below.refl _ _)
              have HSS := Lib.hid hS
              have HC1 := Lib.hid hC1
              have HC2 := Lib.hid hC2
              have HC3 := Lib.hid hC3
              have HC4 := Lib.hid hC4
              clear hS hC1 hC2 hC3 hC4 hown hown1 hkb hkm hc0
              go_wp2_with fail
              have b0 : Hid (Below wr.heap.size wr wr.drew) := Drawn0.below ⟨1, rfl⟩
              go_cut [162] (fun cc wx => cc = .bool false ∧ Hid (Below wr.heap.size wr wx))
              case first =>
                go_region_held3 (fun w' => w'.cell? (ad.add j) = some (.string key) ∧ w'.cell? ⟨q, 0, none⟩ = some (.int .i64 each) ∧ w'.cell? ⟨q, 1, none⟩ = some (.slice xA2 (nodesN P 17).length xc2))
                  (first | exact ⟨s0, s1, s2⟩ | exact HSS.out _ b0.out | exact HSS.out _ b9.out | exact HSS.out _ b8.out | exact HSS.out _ b7.out | exact HSS.out _ b6.out | exact HSS.out _ b5.out)
                (first
                | (go_at_call 17; ((with_reducible refine (HC1.out _ ?_).mono ?_)); (case refine_1 => first | exact b8.out | exact b7.out | exact b6.out | exact b5.out | exact b0.out); rintro e w5 ⟨rfl, hb⟩; have b5 := Lib.hid hb; clear hb)
                | (go_at_call 18; ((with_reducible refine (HC2.out _ ?_).mono ?_)); (case refine_1 => first | exact b8.out | exact b7.out | exact b6.out | exact b5.out | exact b0.out); rintro e w6 ⟨rfl, hb⟩; have b6 := Lib.hid hb; clear hb)
                | (go_at_call 19; ((with_reducible refine (HC3.out _ ?_).mono ?_)); (case refine_1 => first | exact b8.out | exact b7.out | exact b6.out | exact b5.out | exact b0.out); rintro e w7 ⟨A7, c7, rfl, hc7, hC7, hb, hbb⟩; have b7 := Lib.hid hb; have C7 := Lib.hid hC7; have d7 := Lib.hid hbb; clear hb hC7 hbb)
                | (go_at_call 20; ((with_reducible refine (HC4.out _ ?_).mono ?_)); (case refine_1 => first | exact b8.out | exact b7.out | exact b6.out | exact b5.out | exact b0.out); rintro e w8 ⟨A8, c8, rfl, hc8, hC8, hb, hbb⟩; have b8 := Lib.hid hb; have C8 := Lib.hid hC8; have d8 := Lib.hid hbb; clear hb hC8 hbb)
                | (go_at_call 15; refine (ints_any A7 A8 c7 c8 OW OW _ (by first | exact C7.out | exact Kd.C_below C7.out d8.out) hc7 (by first | exact C8.out | exact Kd.C_below C8.out d7.out) hc8 (by omega)).mono ?_; rintro e w9 ⟨rfl, n9, hn9⟩; have b9 := Lib.hid (show Below wr.heap.size wr w9 from (by { rw [hn9]; first | exact b8.out.trans ((Drawn0.below ⟨n9, rfl⟩).mono b8.out.size) | exact b7.out.trans ((Drawn0.below ⟨n9, rfl⟩).mono b7.out.size) })); rw [show decide (OW = OW) = true from decide_eq_true rfl]; clear hn9))
                all_goals
                  go_wp2_with fail
                  go_meet
                  exact ⟨rfl, b9⟩
              case rest =>
                obtain ⟨rfl, BX⟩ := hcut
                obtain ⟨s0, s1, s2⟩ := HSS.out _ BX.out
                have b0 : Hid (Below wr.heap.size wr wc.drew) := Lib.hid (BX.out.trans ((Drawn0.below ⟨1, rfl⟩).mono BX.out.size))
                have hsn := share_snoc P 3 (ks.take j) (sget ks j)
                rw [← take_s hlt2, ← HKEY.out] at hsn
                have HC2' := HC2.out
                generalize ownerN P (hashI key) = ow at *
                have HC5 := Lib.hid HC2'
                have HSN := Lib.hid hsn
                clear hsn HC2' HC2 HC1 HC3 HC4
                have hd3 : (ow == 3) = true ∧ ow = 3 ∨ (ow == 3) = false ∧ ow ≠ 3 := by
                  by_cases h : ow = 3
                  · exact .inl ⟨by simp [h], h⟩
                  · exact .inr ⟨by simpa using h, h⟩
                have hs1' : (shareN P 3 (ks.take j)) ≤ 1000 := by omega
                rcases hd3 with ⟨hd3, ho3⟩ | ⟨hd3, ho3⟩
                all_goals
                  have HO3 := Lib.hid ho3
                  clear ho3
                  go_wp2_with fail
                  go_region_held3 (fun w' => w'.cell? (ad.add j) = some (.string key) ∧ w'.cell? ⟨q, 0, none⟩ = some (.int .i64 each) ∧ w'.cell? ⟨q, 1, none⟩ = some (.slice xA2 (nodesN P 17).length xc2)) (first | exact ⟨s0, s1, s2⟩ | exact HSS.out _ b0.out | exact HSS.out _ b6.out)
                    ((go_at_call 18; ((with_reducible refine (HC5.out _ ?_).mono ?_)); (case refine_1 => exact b0.out); rintro e w6 ⟨rfl, hb⟩; have b6 := Lib.hid hb; clear hb))
                  all_goals
                    go_wp2_with fail
                    go_roundw
                    case rel => exact ⟨j + 1, by omega, by go_num, by rw [HSN.out]; first | rw [if_pos HO3.out] | (rw [if_neg HO3.out]; go_num), HE.out.later b6.out⟩
                    case measure => simp [intOf]; omega
            · obtain rfl : j = ks.length := by omega
              have htk : ks.take ks.length = ks := List.take_length
              have hks2 : Kd.string.C wr KA ks.length ks := Kd.C_below HKS.out (by rw [HB.out]; exact HE.out.st.bel)
              have hshare := Share_any p _ _ _ 3 KA kc ks wr HE.out.st.rg HE.out.st.ris hks2 (fun s hs => by obtain ⟨i, hi, rfl⟩ := List.getElem_of_mem hs; rw [← sget_eq hi]; exact short_mem HS2.out hi) (by omega) (by omega)
              rw [← htk] at hshare
              simp only [List.take_length] at hshare
              have HSHARE := Lib.hid hshare
              rw [htk] at sb0 sb1
              rw [htk]
              clear hshare hks2 htk
              generalize shareN P 3 ks = sh at *
              go_wp2_with fail
              refine HSHARE.out.mono ?_
              rintro e w5 ⟨rfl, hb5⟩
              have I5 := Lib.hid (HE.out.later hb5)
              clear hb5 HSHARE
              go_wp2_with fail
              refine (works_below HH.out h0.out I5.out.st.bel I5.out.st.hb).mono ?_
              rintro e w9 ⟨rfl, hb9⟩
              have HB9 := Lib.hid hb9
              clear hb9
              go_wp2_with fail
              go_ret
              exact ⟨rfl, by rw [HB.out]; exact HB9.out⟩
    · have HBAD := Lib.hid (show z < 1 ∨ 64 < z by omega)
      have hn1 : (if z < 1 ∨ 64 < z then (0 : Int) else z) = 0 := if_pos HBAD.out
      have hn2 : (if z < 1 ∨ 64 < z then (2 : Int) else 0) = 2 := if_pos HBAD.out
      have hnew := refNew_any z
      rw [hn1, hn2] at hnew
      have HNEW := Lib.hid hnew
      clear hn1 hn2 hnew hs3 hzz
      rcases hz with hd9 | ⟨hd9, hd64⟩
      all_goals
        go_enter Tryd.func3, Tryd.ntmps3
        go_wp2_with fail
        refine HSH.out.mono ?_
        rintro e wa ⟨rfl, na, hna⟩
        have Ba : Hid (Below w.heap.size w wa) := by rw [hna]; exact Drawn0.below ⟨_, rfl⟩
        clear hna HSH
        go_wp2_with fail
        refine (New_bad z wa HBAD.out).mono ?_
        rintro e w1 ⟨op, at_, rfl, hw1⟩
        have E1 := Lib.hid (show ErrIs w1 (faultV wa.heap.size) [(op, at_, 2)] by rw [hw1]; exact ErrIs.new_alloc _ op at_ 2 (by decide))
        have B1 := Lib.hid (show Below w.heap.size w w1 by rw [hw1]; exact Ba.out.trans ((bel_alloc _ _).mono Ba.out.size))
        clear hw1 Ba
        generalize wa.heap.size = eb at *
        go_wp2_with fail
        refine (HNEW.out w1).mono ?_
        rintro e w2 ⟨xv, rfl, hxr, hxb⟩
        obtain ⟨xA, xc, hxv⟩ := Kd.R_slice hxr
        subst hxv
        have E3 := Lib.hid ((E1.out.later hxb).later (bel_alloc w2 (.cells #[.int .i64 0, .slice xA 0 xc] 33)))
        have B3 := Lib.hid ((B1.out.trans (hxb.mono B1.out.size)).trans ((bel_alloc w2 (.cells #[.int .i64 0, .slice xA 0 xc] 33)).mono (Nat.le_trans B1.out.size hxb.size)))
        clear hxr hxb E1 B1 HNEW
        go_wp2_with fail
        have HOf := Lib.hid (of_code _ _ _ E3.out (HH.out.below' B3.out h0.out))
        rw [show codeOf [(op, at_, 2)] = 2 from rfl] at HOf
        generalize w2.alloc (.cells #[.int .i64 0, .slice xA 0 xc] 33) = w3 at *
        refine HOf.out.mono ?_
        rintro e w4 ⟨rfl, b4⟩
        have B4 := Lib.hid (B3.out.trans (b4.mono B3.out.size))
        clear b4 HOf E3 B3
        go_wp2_with fail
        go_loopw [13] (fun i wr => i = .int .i64 0 ∧ Hid (Below w.heap.size w wr)) (fun i _ => 0)
        case atStart => exact ⟨rfl, B4⟩
        case round =>
          obtain ⟨rfl, B5⟩ := hrel
          go_wp2_with fail
          all_goals
            go_loopw [16, 17] (fun sh i wr => i = .int .i64 0 ∧ sh = .int .i64 0 ∧ Hid (Below w.heap.size w wr)) (fun _ i _ => 0)
            case atStart => exact ⟨rfl, rfl, B5⟩
            case round =>
              obtain ⟨rfl, rfl, B6⟩ := hrel
              go_wp2_with fail
              all_goals
                refine (works_below HH.out h0.out B6.out B6.out.size).mono ?_
                rintro e w9 ⟨rfl, hb9⟩
                have HB9 := Lib.hid hb9
                clear hb9
                go_wp2_with fail
                go_ret
                exact ⟨rfl, HB9.out⟩
  · have hd : decide (25 < (ops.length : Int)) = true ∨ (decide (25 < (ops.length : Int)) = false ∧ shortB ks = false) ∨ (decide (25 < (ops.length : Int)) = false ∧ shortB ks = true ∧ decide (9 < z) = true ∧ decide (z ≤ 64) = true) := by
      by_cases h : 25 < ops.length
      · exact .inl (decide_eq_true (by omega))
      · refine .inr ?_
        cases hq : shortB ks with
        | false => exact .inl ⟨decide_eq_false (by omega), rfl⟩
        | true =>
          have hz : 9 < z ∧ z ≤ 64 := Classical.byContradiction fun hn => hs1 ⟨by omega, hq, hn⟩
          exact .inr ⟨decide_eq_false (by omega), rfl, decide_eq_true hz.1, decide_eq_true hz.2⟩
    clear hs1
    rcases hd with hd1 | ⟨hd1, hd2⟩ | ⟨hd1, hd2, hd3, hd4⟩
    · go_enter Tryd.func3, Tryd.ntmps3
      go_wp2_with fail
      refine (works_below HH.out h0.out (Below.refl _ _) (Nat.le_refl _)).mono ?_
      rintro e w9 ⟨rfl, hb9⟩
      have HB := Lib.hid hb9
      clear hb9
      go_wp2_with fail
      go_ret
      exact ⟨rfl, HB.out⟩
    all_goals
      rw [hd2] at HSH
      go_enter Tryd.func3, Tryd.ntmps3
      go_wp2_with fail
      refine HSH.out.mono ?_
      rintro e wa ⟨rfl, na, hna⟩
      have Ba : Hid (Below w.heap.size w wa) := by rw [hna]; exact Drawn0.below ⟨_, rfl⟩
      clear hna
      go_wp2_with fail
      refine (works_below HH.out h0.out Ba.out Ba.out.size).mono ?_
      rintro e w9 ⟨rfl, hb9⟩
      have HB := Lib.hid hb9
      clear hb9
      go_wp2_with fail
      go_ret
      exact ⟨rfl, HB.out⟩
end Go.Proofs.YtdaliiaagkhhhaaDoor
