/- The law PlanDoes: what its call comes to. The law PlanDoes, at every input. -/
import Derived.Test.YtndgjhhhggkdmaaDoorG6
import Derived.IntWalk
namespace Go.Proofs.YtndgjhhhggkdmaaDoor
set_option linter.unusedVariables false
open Go.RowKit Go.Proofs.YtndgjhhhggkdmaaDoorW.PrintWords
attribute [local go_sem ↓] Go.wp_at_zero Go.wp_at_succ

set_option maxHeartbeats 4000000 in
set_option maxRecDepth 100000 in
theorem does_main (each : Nat) (h1 : 1 ≤ each) (h2 : each ≤ 8) (aA : Option Addr) (ac : Nat) (a : List Int) (bA : Option Addr) (bc : Nat) (b : List Int) (KA : Option Addr) (kc : Nat) (ks : List ByteArray) (key : ByteArray) (w : World) (ha : (Kd.int .i64).C w aA a.length a) (hac : a.length ≤ ac) (hb : (Kd.int .i64).C w bA b.length b) (hbc : b.length ≤ bc) (hks : Kd.string.C w KA ks.length ks) (hkc : ks.length ≤ kc) (hal : a.length ≤ 20) (hbl : b.length ≤ 20) (hsh : shortB ks = true) (hkey : key.size ≤ 100) (hg : HG w) :
    Calls Tryd.prog 3 #[.int .i64 each, .slice aA a.length ac, .slice bA b.length bc, .slice KA ks.length kc, .string key] w fun e w' => e = .returned (.bool true) ∧ Below w.heap.size w w' := by
  have HA := Lib.hid ha
  have HBB := Lib.hid hb
  have HKS := Lib.hid hks
  have HH := Lib.hid hg
  have h0 := Lib.hid (hg_pos hg)
  have hkl := short_len hsh
  have HS2 := Lib.hid hsh
  have hss : ∀ s ∈ ks, s.size ≤ maxLen := fun s hs => by obtain ⟨i, hi, rfl⟩ := List.getElem_of_mem hs; rw [← sget_eq hi]; exact short_mem HS2.out hi
  have HSS := Lib.hid hss
  have hkm : key.size ≤ maxLen := Nat.le_trans hkey (by decide)
  have hshort := short_any KA kc ks w HKS.out hkc
  rw [hsh] at hshort
  have HSH := Lib.hid hshort
  have hd8 : decide (8 < (each : Int)) = false := decide_eq_false (by omega)
  have hda : decide (20 < (a.length : Int)) = false := decide_eq_false (by omega)
  have hdb : decide (20 < (b.length : Int)) = false := decide_eq_false (by omega)
  have hdk : decide (100 < (key.size : Int)) = false := decide_eq_false (by omega)
  have ha2 := adds_small h2 a hal
  have hb2 := adds_small h2 b hbl
  clear ha hb hks hg hsh hss hshort
  go_enter Tryd.func3, Tryd.ntmps3
  go_wp2_with fail
  refine HSH.out.mono ?_
  rintro e wa ⟨rfl, na, hna⟩
  have Ba : Hid (Below w.heap.size w wa) := by rw [hna]; exact Drawn0.below ⟨_, rfl⟩
  clear hna HSH
  generalize hB : w.heap.size = B at *
  have HB := Lib.hid hB
  clear hB
  go_wp2_with fail
  by_cases hca : addsC each [] a = 0
  · refine (On_ok (w0 := w) (base := B) Ba.out (by rw [← HB.out]; exact Ba.out.size) _ each rfl h1 (by omega) aA ac a (Kd.C_below HA.out (by rw [HB.out]; exact Ba.out)) (by omega) hca).mono ?_
    rintro e w1 ⟨p, v, rfl, i1, b1⟩
    have I1 := Lib.hid i1
    have HCA := Lib.hid hca
    clear i1 b1 Ba
    go_wp2_with fail
    refine (refOn_any each h1 (by omega) aA ac a w1 (Kd.C_below HA.out (by rw [HB.out]; exact I1.out.bel)) (by omega)).mono ?_
    rintro e w2 ⟨u, L, rfl, hr, hb1, hL⟩
    rw [hca]
    obtain ⟨xA, xc, rfl, htwo⟩ := Two.new I1.out (Kd.R_lower hr I1.out.hb) hb1 (hL hca) (adds_good (by omega) a (Good.nil each)) (by omega) h2 ha2
    have T1 := Lib.hid htwo
    clear hr hb1 hL htwo hca I1
    generalize hP : adds each [] a = P at *
    have HP := Lib.hid hP
    clear hP
    generalize hW3 : w2.alloc (.cells #[.int .i64 each, .slice xA (nodesN P 17).length xc] 32) = w3 at *
    go_wp2_with fail
    clear hW3
    generalize w2.heap.size = q at *
    have HOf := Lib.hid (of_code .nilIface [] w3 .nil (HH.out.below' T1.out.st.bel h0.out))
    refine HOf.out.mono ?_
    rintro e w4 ⟨rfl, b4⟩
    rw [show codeOf [] = 0 from rfl]
    have T4 := Lib.hid (T1.out.later b4)
    have K4 := Lib.hid (Kd.C_below HKS.out (by rw [HB.out]; exact T4.out.st.bel))
    clear b4 HOf T1
    go_wp2_with fail
    refine (T4.out.spread (kc := kc) K4.out HSS.out (by omega)).mono ?_
    rintro e w5 ⟨rfl, b5⟩
    have T5 := Lib.hid (T4.out.later b5)
    have K5 := Lib.hid (Kd.C_below K4.out b5)
    have x0 := T5.out.cell0
    have x1 := T5.out.cell1
    clear b5 T4 K4
    have HSPR := Lib.hid (T5.out.refspread K5.out HSS.out (by omega) hkc)
    go_wp2_with fail
    refine HSPR.out.mono ?_
    rintro e w6 ⟨rfl, b6⟩
    have T6 := Lib.hid (T5.out.later b6)
    have K6 := Lib.hid (Kd.C_below K5.out b6)
    have G6 := Lib.hid (Kd.C_below HBB.out (by rw [HB.out]; exact T6.out.st.bel))
    generalize leastN (loadN P ks) = lv at *
    generalize mostN (loadN P ks) = mv at *
    have hld : ∀ W, Below w6.heap.size w6 W → _ := fun W hW => T6.out.load (kc := kc) K6.out HSS.out (by omega) hW
    have hrld : ∀ W, Below w6.heap.size w6 W → _ := fun W hW => T6.out.refload K6.out HSS.out (by omega) hkc hW
    have hpt : ∀ W, Below w6.heap.size w6 W → _ := fun W hW => T6.out.path G6.out hbc (by omega) key hkm hW
    have hrpt : ∀ W, Below w6.heap.size w6 W → _ := fun W hW => T6.out.refpath G6.out hbc (by omega) key hkm hW
    have hX : ∀ W, Below w6.heap.size w6 W → W.cell? ⟨q, 0, none⟩ = some (.int .i64 each) ∧ W.cell? ⟨q, 1, none⟩ = some (.slice xA (nodesN P 17).length xc) := fun W hW => ⟨(T6.out.later hW).cell0, (T6.out.later hW).cell1⟩
    have hll := load_len P ks
    have hpl := path_len T6.out.good.ok (hashI key) b
    generalize loadN P ks = LD at *
    generalize pathN P (hashI key) b = PT at *
    have HLD := Lib.hid hld
    have HRLD := Lib.hid hrld
    have HPT := Lib.hid hpt
    have HRPT := Lib.hid hrpt
    obtain ⟨s0, s1⟩ := hX w6 (Below.refl _ _)
    have HX := Lib.hid hX
    have b0 : Hid (Below w6.heap.size w6 w6.drew) := Drawn0.below ⟨1, rfl⟩
    clear b6 T5 K5 x0 x1 HSPR hld hrld hpt hrpt hX
    go_wp2_with fail
    go_cut [122] (fun cc wx => cc = .bool false ∧ Hid (Below w6.heap.size w6 wx))
    case first =>
      go_region_held3 (fun w' => w'.cell? ⟨q, 0, none⟩ = some (.int .i64 each) ∧ w'.cell? ⟨q, 1, none⟩ = some (.slice xA (nodesN P 17).length xc)) (first | exact ⟨s0, s1⟩ | exact HX.out _ b0.out | exact HX.out _ b6.out | exact HX.out _ b5.out | exact HX.out _ b4.out | exact HX.out _ b3.out | exact HX.out _ b2.out | exact HX.out _ b1.out)
        (first
        | (go_at_call 14; ((with_reducible refine (HLD.out _ ?_).mono ?_)); (case refine_1 => first | exact b6.out | exact b5.out | exact b4.out | exact b3.out | exact b2.out | exact b1.out | exact b0.out); rintro e y1 ⟨A1, c1, rfl, hc1, hC1, hb, hbb⟩; have b1 := Lib.hid hb; have C1 := Lib.hid hC1; have d1 := Lib.hid hbb; clear hb hC1 hbb)
        | (go_at_call 15; ((with_reducible refine (HRLD.out _ ?_).mono ?_)); (case refine_1 => first | exact b6.out | exact b5.out | exact b4.out | exact b3.out | exact b2.out | exact b1.out | exact b0.out); rintro e y2 ⟨A2, c2, rfl, hc2, hC2, hb, hbb⟩; have b2 := Lib.hid hb; have C2 := Lib.hid hC2; have d2 := Lib.hid hbb; clear hb hC2 hbb)
        | (go_at_call 13; first
          | (((with_reducible refine (ints_any A1 A2 c1 c2 LD LD _ ?_ hc1 ?_ hc2 ?_).mono ?_)); (case refine_1 => first | exact C1.out | exact Kd.C_below C1.out d2.out); (case refine_2 => first | exact C2.out | exact Kd.C_below C2.out d1.out); (case refine_3 => omega); rintro e y3 ⟨rfl, n3, hn3⟩; have b3 := Lib.hid (show Below w6.heap.size w6 y3 from (by { rw [hn3]; first | exact b2.out.trans ((Drawn0.below ⟨n3, rfl⟩).mono b2.out.size) | exact b1.out.trans ((Drawn0.below ⟨n3, rfl⟩).mono b1.out.size) })); rw [show decide (LD = LD) = true from decide_eq_true rfl]; clear hn3)
          | (((with_reducible refine (ints_any A4 A5 c4 c5 PT PT _ ?_ hc4 ?_ hc5 ?_).mono ?_)); (case refine_1 => first | exact C4.out | exact Kd.C_below C4.out d5.out); (case refine_2 => first | exact C5.out | exact Kd.C_below C5.out d4.out); (case refine_3 => omega); rintro e y6 ⟨rfl, n6, hn6⟩; have b6 := Lib.hid (show Below w6.heap.size w6 y6 from (by { rw [hn6]; first | exact b5.out.trans ((Drawn0.below ⟨n6, rfl⟩).mono b5.out.size) | exact b4.out.trans ((Drawn0.below ⟨n6, rfl⟩).mono b4.out.size) })); rw [show decide (PT = PT) = true from decide_eq_true rfl]; clear hn6))
        | (go_at_call 16; ((with_reducible refine (HPT.out _ ?_).mono ?_)); (case refine_1 => first | exact b6.out | exact b5.out | exact b4.out | exact b3.out | exact b2.out | exact b1.out | exact b0.out); rintro e y4 ⟨A4, c4, rfl, hc4, hC4, hb, hbb⟩; have b4 := Lib.hid hb; have C4 := Lib.hid hC4; have d4 := Lib.hid hbb; clear hb hC4 hbb)
        | (go_at_call 17; ((with_reducible refine (HRPT.out _ ?_).mono ?_)); (case refine_1 => first | exact b6.out | exact b5.out | exact b4.out | exact b3.out | exact b2.out | exact b1.out | exact b0.out); rintro e y5 ⟨A5, c5, rfl, hc5, hC5, hb, hbb⟩; have b5 := Lib.hid hb; have C5 := Lib.hid hC5; have d5 := Lib.hid hbb; clear hb hC5 hbb))
      all_goals
        go_wp2_with fail
        go_meet
        exact ⟨rfl, b6⟩
    case rest =>
      obtain ⟨rfl, BX⟩ := hcut
      have TX := Lib.hid (T6.out.later BX.out)
      have KX := Lib.hid (Kd.C_below K6.out BX.out)
      have GX := Lib.hid (Kd.C_below G6.out BX.out)
      clear T6 K6 G6 BX HLD HRLD HPT HRPT HX s0 s1 b0 hll hpl
      go_wp2_with fail
      by_cases hcb : addsC each [] b = 0
      · refine (On_ok (w0 := w) (base := B) TX.out.st.bel TX.out.st.hb _ each rfl h1 (by omega) bA bc b GX.out (by omega) hcb).mono ?_
        rintro e w7 ⟨p2, v2, rfl, i7, b7⟩
        have I7 := Lib.hid i7
        have T7 := Lib.hid (TX.out.later b7)
        have K7 := Lib.hid (Kd.C_below KX.out b7)
        have G7 := Lib.hid (Kd.C_below GX.out b7)
        clear i7 b7 TX KX GX
        go_wp2_with fail
        refine (refOn_any each h1 (by omega) bA bc b w7 G7.out (by omega)).mono ?_
        rintro e w8 ⟨u, L, rfl, hr, hb1, hL⟩
        rw [hcb]
        obtain ⟨yA, yc, rfl, htwo⟩ := Two.new I7.out (Kd.R_lower hr I7.out.hb) hb1 (hL hcb) (adds_good (by omega) b (Good.nil each)) (by omega) h2 hb2
        have U8 := Lib.hid htwo
        have T8 := Lib.hid ((T7.out.later hb1).later (bel_alloc w8 (.cells #[.int .i64 each, .slice yA (nodesN (adds each [] b) 17).length yc] 32)))
        have K8 := Lib.hid (Kd.C_below (Kd.C_below K7.out hb1) (bel_alloc w8 (.cells #[.int .i64 each, .slice yA (nodesN (adds each [] b) 17).length yc] 32)))
        clear hr hb1 hL htwo hcb I7 T7 K7 G7
        generalize hQ : adds each [] b = Q at *
        have HQ := Lib.hid hQ
        clear hQ
        generalize hW9 : w8.alloc (.cells #[.int .i64 each, .slice yA (nodesN Q 17).length yc] 32) = w9 at *
        go_wp2_with fail
        clear hW9
        generalize w8.heap.size = q2 at *
        have HOf := Lib.hid (of_code .nilIface [] w9 .nil (HH.out.below' T8.out.st.bel h0.out))
        refine HOf.out.mono ?_
        rintro e w10 ⟨rfl, b10⟩
        rw [show codeOf [] = 0 from rfl]
        have T10 := Lib.hid (T8.out.later b10)
        have U10 := Lib.hid (U8.out.later b10)
        have K10 := Lib.hid (Kd.C_below K8.out b10)
        clear b10 HOf T8 U8 K8
        go_wp2_with fail
        refine (Moves_any p p2 each each v v2 P Q KA kc ks w10 T10.out.st.rg T10.out.st.ris U10.out.st.rg U10.out.st.ris K10.out HSS.out (Nat.le_trans T10.out.hl (by decide)) (Nat.le_trans U10.out.hl (by decide)) (by omega)).mono ?_
        rintro e w11 ⟨u11, rfl, hr11, hb11⟩
        obtain ⟨mA, mc, rfl, hmc, hmC⟩ := Kd.R_reads hr11
        have T11 := Lib.hid (T10.out.later hb11)
        have U11 := Lib.hid (U10.out.later hb11)
        have K11 := Lib.hid (Kd.C_below K10.out hb11)
        have M11 := Lib.hid hmC
        have hml := moves_len P Q ks
        generalize hTot : (movesN P Q ks).length = tot at *
        have HTOT := Lib.hid hTot
        clear hTot
        clear hr11 hb11 hmC T10 U10 K10
        go_wp2_with fail
        go_loopw [24, 25] (fun m i wr => ∃ j : Nat, j ≤ ks.length ∧ i = .int .i64 j ∧ m = .int .i64 ((movesN P Q (ks.take j)).length : Nat) ∧ Hid (Below w11.heap.size w11 wr)) (fun _ i _ => ks.length - (intOf i).toNat)
        case atStart => exact ⟨0, Nat.zero_le _, rfl, rfl, Below.refl _ _⟩
        case round =>
          obtain ⟨j, hj, rfl, rfl, HE⟩ := hrel
          have hml2 := moves_len P Q (ks.take j)
          have stl : (ks.take j).length ≤ j := List.length_take_le _ _
          by_cases hlt : j < ks.length
          · obtain ⟨ad, hA, hc0⟩ := at_str K11.out hlt
            subst hA
            have hkm2 := short_mem HS2.out hlt
            have hX : ∀ W, Below wr.heap.size wr W → W.cell? (ad.add j) = some (.string (sget ks j)) ∧ W.cell? ⟨q, 0, none⟩ = some (.int .i64 each) ∧ W.cell? ⟨q, 1, none⟩ = some (.slice xA (nodesN P 17).length xc) ∧ W.cell? ⟨q2, 0, none⟩ = some (.int .i64 each) ∧ W.cell? ⟨q2, 1, none⟩ = some (.slice yA (nodesN Q 17).length yc) := fun W hW => by
              have hw := HE.out.trans (hW.mono HE.out.size)
              exact ⟨(hw.cell (World.block_lt_of_cell? w11 _ hc0)).trans hc0, (T11.out.later hw).cell0, (T11.out.later hw).cell1, (U11.out.later hw).cell0, (U11.out.later hw).cell1⟩
            have ho1 : ∀ W, Below wr.heap.size wr W → _ := fun W hW => (T11.out.later HE.out).owner (sget ks j) hkm2 hW
            have ho2 : ∀ W, Below wr.heap.size wr W → _ := fun W hW => (U11.out.later HE.out).owner (sget ks j) hkm2 hW
            have hsn := moves_snoc P Q (ks.take j) (sget ks j)
            have hma := moves_at P Q ks j hlt
            obtain ⟨ky, hky⟩ : ∃ ky, ky = sget ks j := ⟨_, rfl⟩
            rw [← take_s hlt] at hsn
            rw [← hky] at hX ho1 ho2 hsn hma
            have HKY := Lib.hid hky
            generalize ownerN P (hashI ky) = oa at *
            generalize ownerN Q (hashI ky) = ob at *
            have HO1 := Lib.hid ho1
            have HO2 := Lib.hid ho2
            have HSN := Lib.hid hsn
            have HMA := Lib.hid hma
            obtain ⟨s0, s1, s2, s3, s4⟩ := hX wr (Below.refl _ _)
            have HX := Lib.hid hX
            have b0 : Hid (Below wr.heap.size wr wr.drew) := Drawn0.below ⟨1, rfl⟩
            clear hky hc0 hX ho1 ho2 hsn hma
            go_wp2_with fail
            go_cut [26, 27] (fun x y wx => x = .int .i64 oa ∧ y = .int .i64 ob ∧ Hid (Below wr.heap.size wr wx))
            case first =>
              go_region_held3 (fun w' => w'.cell? (ad.add j) = some (.string ky) ∧ w'.cell? ⟨q, 0, none⟩ = some (.int .i64 each) ∧ w'.cell? ⟨q, 1, none⟩ = some (.slice xA (nodesN P 17).length xc) ∧ w'.cell? ⟨q2, 0, none⟩ = some (.int .i64 each) ∧ w'.cell? ⟨q2, 1, none⟩ = some (.slice yA (nodesN Q 17).length yc)) (first | exact ⟨s0, s1, s2, s3, s4⟩ | exact HX.out _ b0.out | exact HX.out _ b1.out | exact HX.out _ b2.out)
                ((go_at_call 19; first
                  | (((with_reducible refine (HO1.out _ ?_).mono ?_)); (case refine_1 => first | exact b2.out | exact b0.out); rintro e y1 ⟨rfl, hb⟩; have b1 := Lib.hid hb; clear hb)
                  | (((with_reducible refine (HO2.out _ ?_).mono ?_)); (case refine_1 => first | exact b1.out | exact b0.out); rintro e y2 ⟨rfl, hb⟩; have b2 := Lib.hid hb; clear hb)))
              all_goals
                go_wp2_with fail
                go_meet
                first | exact ⟨rfl, rfl, Lib.hid (Hid.out ‹_›)⟩ | exact ⟨rfl, rfl, b1⟩ | exact ⟨rfl, rfl, b2⟩
            case rest =>
              obtain ⟨rfl, rfl, BX⟩ := hcut
              have BY := Lib.hid (HE.out.trans (BX.out.mono HE.out.size))
              obtain ⟨z0, _, _, _, _⟩ := HX.out _ BX.out
              have hdab : (oa = ob ∧ (oa == ob) = true) ∨ (oa ≠ ob ∧ (oa == ob) = false) := by
                by_cases h : oa = ob
                · exact .inl ⟨h, by simp [h]⟩
                · exact .inr ⟨h, by simpa using h⟩
              rcases hdab with ⟨hab, hab1⟩ | ⟨hab, hab1⟩
              · have HAB := Lib.hid hab
                clear hab HO1 HO2 s0 s1 s2 s3 s4
                go_wp2_with fail
                go_roundw
                case rel => exact ⟨j + 1, by omega, by go_num, by rw [HSN.out, if_pos HAB.out], BY.out⟩
                case measure => simp [intOf]; omega
              · obtain ⟨hm1, hm2⟩ := HMA.out hab
                rw [HTOT.out] at hm1
                obtain ⟨md, hMA, m0, m1, m2⟩ := at_mv M11.out hm1
                subst hMA
                rw [hm2] at m0 m1 m2
                have r0 := (BY.out.cell (World.block_lt_of_cell? w11 _ m0)).trans m0
                have r1 := (BY.out.cell (World.block_lt_of_cell? w11 _ m1)).trans m1
                have r2 := (BY.out.cell (World.block_lt_of_cell? w11 _ m2)).trans m2
                dsimp only at r0 r1 r2
                have HAB := Lib.hid hab
                have hsn2 := HSN.out
                rw [if_neg hab] at hsn2
                have hlen : (movesN P Q (ks.take (j + 1))).length = (movesN P Q (ks.take j)).length + 1 := by rw [hsn2]; simp
                have HLEN := Lib.hid hlen
                clear hlen hsn2 hm2 m0 m1 m2 HMA HSN HO1 HO2 s0 s1 s2 s3 s4 hab
                generalize (movesN P Q (ks.take j)).length = mj at *
                have q0 : (0 : Int) ≤ (mj : Int) := by omega
                have q1 : (mj : Int) < (tot : Int) := by omega
                have q2' : (tot : Int) ≤ (mc : Int) := by omega
                have q3 : (0 : Int) ≤ (j : Int) := by omega
                have q4 : (j : Int) < (ks.length : Int) := by omega
                have q5 : (ks.length : Int) ≤ (kc : Int) := by omega
                have q6 : decide (tot ≤ mj) = false := decide_eq_false (by omega)
                have hw1 : IntKind.i64.wrap ((mj : Int) + 1) = (mj : Int) + 1 := IntWalk.i64_in _ (by omega)
                go_wp2_with fail
                go_quiet (fail)
                go_wp2_with fail
                go_roundw
                case rel => exact ⟨j + 1, by omega, by go_num, by rw [HLEN.out]; go_num, by first | exact BY.out | exact BY.out.trans ((Drawn0.below ⟨_, rfl⟩).mono BY.out.size)⟩
                case measure => simp [intOf]; omega
          · obtain rfl : j = ks.length := by omega
            rw [List.take_length, HTOT.out]
            go_wp2_with fail
            refine (works_below HH.out h0.out (T11.out.later HE.out).st.bel (T11.out.later HE.out).st.hb).mono ?_
            rintro e w12 ⟨rfl, hb12⟩
            have HB12 := Lib.hid hb12
            clear hb12
            go_wp2_with fail
            go_ret
            exact ⟨rfl, by rw [HB.out]; exact HB12.out⟩
      · refine (On_no wc _ each rfl h1 (by omega) bA bc b GX.out (by omega) hcb).mono ?_
        rintro e w7 ⟨eb, lst, rfl, e1, hcd, b1⟩
        have E1 := Lib.hid e1
        have CD := Lib.hid hcd
        have B1 := Lib.hid (TX.out.st.bel.trans (b1.mono TX.out.st.hb))
        have S1 := Lib.hid (show B ≤ w7.heap.size from Nat.le_trans TX.out.st.hb b1.size)
        have G7 := Lib.hid (Kd.C_below GX.out b1)
        clear e1 hcd b1 TX GX KX
        go_wp2_with fail
        refine (refOn_any each h1 (by omega) bA bc b w7 G7.out (by omega)).mono ?_
        rintro e w8 ⟨u, L, rfl, hr, hb1, -⟩
        obtain ⟨yA, yc, rfl⟩ := Kd.R_slice hr
        have E2 := Lib.hid ((E1.out.later hb1).later (bel_alloc w8 (.cells #[.int .i64 each, .slice yA L.length yc] 32)))
        have B2 := Lib.hid ((B1.out.trans (hb1.mono S1.out)).trans ((bel_alloc w8 (.cells #[.int .i64 each, .slice yA L.length yc] 32)).mono (Nat.le_trans S1.out hb1.size)))
        have S2 := Lib.hid (show B ≤ (w8.alloc (.cells #[.int .i64 each, .slice yA L.length yc] 32)).heap.size from Nat.le_trans (Nat.le_trans S1.out hb1.size) (bel_alloc _ _).size)
        clear hr hb1 E1 B1 S1 G7
        generalize hca2 : addsC each [] b = ca at *
        have HCAb := Lib.hid hca2
        have hcz : (ca != 0) = true := by simpa using hcb
        have hcz2 : (ca == 0) = false := by simpa using hcb
        clear hcb hca2
        generalize hW9 : w8.alloc (.cells #[.int .i64 each, .slice yA L.length yc] 32) = w9 at *
        go_wp2_with fail
        clear hW9
        generalize w8.heap.size = q2 at *
        have HOf := Lib.hid (of_code _ lst w9 E2.out (HH.out.below' B2.out h0.out))
        rw [CD.out] at HOf
        refine HOf.out.mono ?_
        rintro e w10 ⟨rfl, b4⟩
        have B4 := Lib.hid (B2.out.trans (b4.mono S2.out))
        have S4 := Lib.hid (Nat.le_trans S2.out b4.size)
        clear b4 HOf B2 S2 E2
        go_wp2_with fail
        refine (works_below HH.out h0.out B4.out S4.out).mono ?_
        rintro e w12 ⟨rfl, hb12⟩
        have HB12 := Lib.hid hb12
        clear hb12
        go_wp2_with fail
        go_ret
        exact ⟨rfl, by rw [HB.out]; exact HB12.out⟩
  · refine (On_no wa _ each rfl h1 (by omega) aA ac a (Kd.C_below HA.out (by rw [HB.out]; exact Ba.out)) (by omega) hca).mono ?_
    rintro e w1 ⟨eb, lst, rfl, e1, hcd, b1⟩
    have E1 := Lib.hid e1
    have CD := Lib.hid hcd
    have B1 := Lib.hid ((show Below B w wa from Ba.out).trans (b1.mono (by rw [← HB.out]; exact Ba.out.size)))
    have S1 := Lib.hid (show B ≤ w1.heap.size from Nat.le_trans (by rw [← HB.out]; exact Ba.out.size) b1.size)
    clear e1 hcd b1 Ba
    go_wp2_with fail
    refine (refOn_any each h1 (by omega) aA ac a w1 (Kd.C_below HA.out (by rw [HB.out]; exact B1.out)) (by omega)).mono ?_
    rintro e w2 ⟨u, L, rfl, hr, hb1, -⟩
    obtain ⟨xA, xc, rfl⟩ := Kd.R_slice hr
    have E2 := Lib.hid ((E1.out.later hb1).later (bel_alloc w2 (.cells #[.int .i64 each, .slice xA L.length xc] 32)))
    have B2 := Lib.hid ((B1.out.trans (hb1.mono S1.out)).trans ((bel_alloc w2 (.cells #[.int .i64 each, .slice xA L.length xc] 32)).mono (Nat.le_trans S1.out hb1.size)))
    have S2 := Lib.hid (show B ≤ (w2.alloc (.cells #[.int .i64 each, .slice xA L.length xc] 32)).heap.size from Nat.le_trans (Nat.le_trans S1.out hb1.size) (bel_alloc _ _).size)
    clear hr hb1 E1 B1 S1
    generalize hca2 : addsC each [] a = ca at *
    have HCA := Lib.hid hca2
    have hcz : (ca != 0) = true := by simpa using hca
    have hcz2 : (ca == 0) = false := by simpa using hca
    have HCN := Lib.hid hca
    clear hca hca2
    generalize hW3 : w2.alloc (.cells #[.int .i64 each, .slice xA L.length xc] 32) = w3 at *
    go_wp2_with fail
    clear hW3
    generalize w2.heap.size = q at *
    have HOf := Lib.hid (of_code _ lst w3 E2.out (HH.out.below' B2.out h0.out))
    rw [CD.out] at HOf
    refine HOf.out.mono ?_
    rintro e w4 ⟨rfl, b4⟩
    have B4 := Lib.hid (B2.out.trans (b4.mono S2.out))
    have S4 := Lib.hid (Nat.le_trans S2.out b4.size)
    clear b4 HOf B2 S2 E2
    go_wp2_with fail
    refine (works_below HH.out h0.out B4.out S4.out).mono ?_
    rintro e w12 ⟨rfl, hb12⟩
    have HB12 := Lib.hid hb12
    clear hb12
    go_wp2_with fail
    go_ret
    exact ⟨rfl, by rw [HB.out]; exact HB12.out⟩
end Go.Proofs.YtndgjhhhggkdmaaDoor
namespace Go.Proofs.YtndgjhhhggkdmaaDoor
set_option linter.unusedVariables false
open Go.RowKit Go.Proofs.YtndgjhhhggkdmaaDoorW.PrintWords

set_option maxHeartbeats 1000000 in
theorem refOn_bad (z : Int) (hz : z < 1 ∨ 64 < z) (A : Option Addr) (c : Nat) (l : List Int) (w : World) :
    Calls Tryd.prog 9 #[.int .i64 z, .slice A l.length c] w fun e w' => ∃ u L, e = .returned (.tuple #[.agg #[.int .i64 0, u], .int .i64 2]) ∧ (Kd.int .i64).R 3 w' w.heap.size (fun _ => True) u L ∧ Below w.heap.size w w' := by
  have hn1 : (if z < 1 ∨ 64 < z then (0 : Int) else z) = 0 := if_pos hz
  have hn2 : (if z < 1 ∨ 64 < z then (2 : Int) else 0) = 2 := if_pos hz
  have hnew := refNew_any z
  rw [hn1, hn2] at hnew
  have HNEW := Lib.hid hnew
  clear hn1 hn2 hnew hz
  go_enter Tryd.func9, Tryd.ntmps9
  go_wp2_with fail
  refine (HNEW.out _).mono ?_
  rintro e w2 ⟨xv, rfl, hxr, hxb⟩
  obtain ⟨xA, xc, hxv⟩ := Kd.R_slice hxr
  subst hxv
  have H0 : Hid (OnRel w (w2.alloc (.cells #[.int .i64 0, .slice xA 0 xc] 32)) w2.heap.size 0 (.slice xA 0 xc) []) := by
    have hs : w.heap.size < w2.heap.size := by have := hxb.size; simp at this; omega
    refine ⟨(Below.heap_alloc _ _ _ hs).trans ((hxb.block _ (by simp)).trans (heap_alloc_new _ _)), heap_alloc_new _ _, Kd.R_below (Kd.R_lower hxr (by simp)) (bel_alloc _ _), ?_, hs⟩
    exact ((bel_alloc w _).trans (hxb.mono (by simp))).trans ((bel_alloc w2 _).mono (by omega))
  clear hxr hxb HNEW
  generalize hW3 : w2.alloc (.cells #[.int .i64 0, .slice xA 0 xc] 32) = w3 at *
  go_wp2_with fail
  clear hW3
  generalize w2.heap.size = q at *
  go_loopw [7, 8] (fun d i wr => d = .int .i64 2 ∧ i = .int .i64 0 ∧ Hid (OnRel w wr q 0 (.slice xA 0 xc) [])) (fun _ _ _ => 0)
  case atStart => exact ⟨rfl, rfl, H0⟩
  case round =>
    obtain ⟨rfl, rfl, HD⟩ := hrel
    have e0 : wr.cell? ⟨w.heap.size, 0, none⟩ = some (.int .i64 0) := cell_row HD.out.b4 0
    have e1 : wr.cell? ⟨w.heap.size, 1, none⟩ = some (.slice none 0 0) := cell_row HD.out.b4 1
    have f0 : wr.frozen? ⟨w.heap.size, 0, none⟩ = false := by simp [World.frozen?, HD.out.b4]
    have f1 : wr.frozen? ⟨w.heap.size, 1, none⟩ = false := by simp [World.frozen?, HD.out.b4]
    have x0 := HD.out.cell0
    have x1 := HD.out.cell1
    go_wp2_with fail
    all_goals
      refine bodyPost_ret (results_ct rfl _ _ w.heap.size 32 #[.int .i64 0, .slice xA 0 xc] (0, 0) _ rfl HD.out.fin.1 Tryd.underlying32 rfl (by kernel_rfl)) rfl ?_
      exact ⟨_, _, rfl, HD.out.fin.2.1, HD.out.fin.2.2⟩

set_option maxHeartbeats 4000000 in
set_option maxRecDepth 100000 in
theorem does_law (z : Int) (aA : Option Addr) (ac : Nat) (a : List Int) (bA : Option Addr) (bc : Nat) (b : List Int) (KA : Option Addr) (kc : Nat) (ks : List ByteArray) (key : ByteArray) (w : World) (ha : (Kd.int .i64).C w aA a.length a) (hac : a.length ≤ ac) (hb : (Kd.int .i64).C w bA b.length b) (hbc : b.length ≤ bc) (hks : Kd.string.C w KA ks.length ks) (hkc : ks.length ≤ kc) (hkm : key.size ≤ maxLen) (hg : HG w) :
    Calls Tryd.prog 3 #[.int .i64 z, .slice aA a.length ac, .slice bA b.length bc, .slice KA ks.length kc, .string key] w fun e w' => e = .returned (.bool true) ∧ Below w.heap.size w w' := by
  have HH := Lib.hid hg
  have h0 := Lib.hid (hg_pos hg)
  have hshort := short_any KA kc ks w hks hkc
  by_cases hgd : ¬ (8 < z ∧ z ≤ 64) ∧ a.length ≤ 20 ∧ b.length ≤ 20 ∧ shortB ks = true ∧ key.size ≤ 100
  · obtain ⟨g1, g2, g3, g4, g5⟩ := hgd
    by_cases hz : 1 ≤ z ∧ z ≤ 64
    · obtain ⟨n, rfl⟩ := Int.eq_ofNat_of_zero_le (show 0 ≤ z by omega)
      exact does_main n (by omega) (by omega) aA ac a bA bc b KA kc ks key w ha hac hb hbc hks hkc g2 g3 g4 g5 hg
    · have HZ := Lib.hid (show z < 1 ∨ 64 < z by omega)
      rw [g4] at hshort
      have HSH := Lib.hid hshort
      have hd : decide (8 < z) = false ∨ (decide (8 < z) = true ∧ decide (z ≤ 64) = false) := by
        by_cases h : 8 < z
        · exact .inr ⟨decide_eq_true h, decide_eq_false (by omega)⟩
        · exact .inl (decide_eq_false h)
      have hda : decide (20 < (a.length : Int)) = false := decide_eq_false (by omega)
      have hdb : decide (20 < (b.length : Int)) = false := decide_eq_false (by omega)
      have hdk : decide (100 < (key.size : Int)) = false := decide_eq_false (by omega)
      have g2' : a.length ≤ 20 := g2
      clear ha hb hks hshort g1 hz g4 hg
      rcases hd with hd1 | ⟨hd1, hd2⟩
      all_goals
        go_enter Tryd.func3, Tryd.ntmps3
        go_wp2_with fail
        refine HSH.out.mono ?_
        rintro e wa ⟨rfl, na, hna⟩
        have Ba : Hid (Below w.heap.size w wa) := by rw [hna]; exact Drawn0.below ⟨_, rfl⟩
        clear hna HSH
        go_wp2_with fail
        refine (On_bad z HZ.out aA ac a wa).mono ?_
        rintro e w1 ⟨eb, lst, rfl, e1, hcd, b1⟩
        have E1 := Lib.hid e1
        have CD := Lib.hid hcd
        have B1 := Lib.hid (Ba.out.trans (b1.mono Ba.out.size))
        clear e1 hcd b1 Ba
        go_wp2_with fail
        refine (refOn_bad z HZ.out aA ac a w1).mono ?_
        rintro e w2 ⟨u, L, rfl, hr, hb1⟩
        obtain ⟨xA, xc, rfl⟩ := Kd.R_slice hr
        have E2 := Lib.hid ((E1.out.later hb1).later (bel_alloc w2 (.cells #[.int .i64 0, .slice xA L.length xc] 32)))
        have B2 := Lib.hid ((B1.out.trans (hb1.mono B1.out.size)).trans ((bel_alloc w2 (.cells #[.int .i64 0, .slice xA L.length xc] 32)).mono (Nat.le_trans B1.out.size hb1.size)))
        clear hr hb1 E1 B1
        generalize hW3 : w2.alloc (.cells #[.int .i64 0, .slice xA L.length xc] 32) = w3 at *
        go_wp2_with fail
        clear hW3
        have HOf := Lib.hid (of_code _ lst w3 E2.out (HH.out.below' B2.out h0.out))
        rw [CD.out] at HOf
        refine HOf.out.mono ?_
        rintro e w4 ⟨rfl, b4⟩
        have B4 := Lib.hid (B2.out.trans (b4.mono B2.out.size))
        clear b4 HOf B2 E2
        go_wp2_with fail
        refine (works_below HH.out h0.out B4.out B4.out.size).mono ?_
        rintro e w12 ⟨rfl, hb12⟩
        have HB12 := Lib.hid hb12
        clear hb12
        go_wp2_with fail
        go_ret
        exact ⟨rfl, HB12.out⟩
  · have HSH := Lib.hid hshort
    have hd : (decide (8 < z) = true ∧ decide (z ≤ 64) = true) ∨ ((decide (8 < z) = false ∨ decide (8 < z) = true ∧ decide (z ≤ 64) = false) ∧
        ((decide (20 < (a.length : Int)) = true) ∨ (decide (20 < (a.length : Int)) = false ∧ decide (20 < (b.length : Int)) = true) ∨
          (decide (20 < (a.length : Int)) = false ∧ decide (20 < (b.length : Int)) = false ∧ (shortB ks = false ∨ (shortB ks = true ∧ decide (100 < (key.size : Int)) = true))))) := by
      by_cases h8 : 8 < z ∧ z ≤ 64
      · exact .inl ⟨decide_eq_true h8.1, decide_eq_true h8.2⟩
      · refine .inr ⟨?_, ?_⟩
        · by_cases h : 8 < z
          · exact .inr ⟨decide_eq_true h, decide_eq_false (fun e => h8 ⟨h, e⟩)⟩
          · exact .inl (decide_eq_false h)
        · by_cases ha2 : 20 < a.length
          · exact .inl (decide_eq_true (by omega))
          · by_cases hb2 : 20 < b.length
            · exact .inr (.inl ⟨decide_eq_false (by omega), decide_eq_true (by omega)⟩)
            · refine .inr (.inr ⟨decide_eq_false (by omega), decide_eq_false (by omega), ?_⟩)
              cases hq : shortB ks with
              | false => exact .inl rfl
              | true =>
                refine .inr ⟨rfl, decide_eq_true ?_⟩
                by_cases hk : key.size ≤ 100
                · exact absurd ⟨h8, by omega, by omega, hq, hk⟩ hgd
                · omega
    clear ha hb hks hshort hgd hg
    rcases hd with ⟨d1, d2⟩ | ⟨d1 | ⟨d1, d2⟩, d3 | ⟨d3, d4⟩ | ⟨d3, d4, d5 | ⟨d5, d6⟩⟩⟩
    all_goals
      go_enter Tryd.func3, Tryd.ntmps3
      go_wp2_with fail
      first
      | (refine (works_below HH.out h0.out (Below.refl _ _) (Nat.le_refl _)).mono ?_
         rintro e w9 ⟨rfl, hb9⟩
         have HB := Lib.hid hb9
         clear hb9
         go_wp2_with fail
         go_ret
         exact ⟨rfl, HB.out⟩)
      | (rw [d5] at HSH
         refine HSH.out.mono ?_
         rintro e wa ⟨rfl, na, hna⟩
         have Ba : Hid (Below w.heap.size w wa) := by rw [hna]; exact Drawn0.below ⟨_, rfl⟩
         clear hna
         go_wp2_with fail
         refine (works_below HH.out h0.out Ba.out Ba.out.size).mono ?_
         rintro e w9 ⟨rfl, hb9⟩
         have HB := Lib.hid hb9
         clear hb9
         go_wp2_with fail
         go_ret
         exact ⟨rfl, HB.out⟩)
end Go.Proofs.YtndgjhhhggkdmaaDoor
