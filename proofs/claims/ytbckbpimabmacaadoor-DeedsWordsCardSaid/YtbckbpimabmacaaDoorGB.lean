/- DeedsReads: any text's deeds, any line's deed. -/
import Derived.Test.YtbckbpimabmacaaDoorG9
namespace Go.Proofs.YtbckbpimabmacaaDoor
set_option linter.unusedVariables false
set_option linter.unusedSimpArgs false
open Go.RowKit Go.Proofs.YtbckbpimabmacaaDoorW.PrintWords
attribute [local go_sem ↓] Go.wp_at_zero Go.wp_at_succ
attribute [local go_sem] bsV_get bsV_size bsV_toList

theorem works_later {w : World} (hg : HG w) (hm : MX w) (W : World) (hW : Below w.heap.size w W) : Calls Tryd.prog 7 #[] W fun e w' => e = .returned (.bool true) ∧ Below w.heap.size w w' :=
  (works_any W (hg_later hg hW) (hm.later hW)).mono fun e w' ⟨he, hb⟩ => ⟨he, hW.trans (hb.mono hW.size)⟩
set_option maxHeartbeats 4000000 in
set_option maxRecDepth 100000 in
theorem reads_law (s ln : Bs) (w : World) (hg : HG w) (hm : MX w) : Calls Tryd.prog 4 #[.string (bsV s), .string (bsV ln)] w fun e w' => e = .returned (.bool true) ∧ Below w.heap.size w w' := by
  have HW := Lib.hid (works_later hg hm)
  have HH := Lib.hid hg
  have HM := Lib.hid hm
  clear hg hm
  by_cases hgd : s.length ≤ 3000 ∧ ln.length ≤ 1000
  · obtain ⟨hs, hn⟩ := hgd
    have d1 : ¬ (3000 : Int) < (s.length : Int) := by omega
    have d2 : ¬ (1000 : Int) < (ln.length : Int) := by omega
    have hok := readS_ok (s := s) (by omega)
    have hlo : (readS s).1.length ≤ 3001 := by have := hok.2; omega
    have hok := hok.1
    have hrd := fun W (hW : MX W) => read_any s W (by omega) hW
    have hrr := fun W => refRead_any s W (by omega)
    have hde : ∀ W, MX W → Calls Tryd.prog 24 #[.string (bsV ln)] W (DP (deedS ln) W) := fun W hW => (deed_any ln W (by omega) hW).mono fun e w' h => dp_deed h
    have hdr := fun W => refDeed_any ln W (by omega)
    have hdk : okS ((deedS ln).getD zD) := by
      cases h : deedS ln with
      | none => exact ⟨⟨by decide, by decide, by decide, by decide, by decide, by decide, by decide⟩, by decide, by decide, by decide⟩
      | some d => exact oks_of h (by omega)
    unfold ReadPost at hrd
    unfold RReadPost at hrr
    unfold DP at hde hdr
    unfold dC at hde hdr
    generalize readS s = r at hok hlo hrd hrr
    obtain ⟨L, cd, pos⟩ := r
    dsimp only at hok hlo hrd hrr
    generalize (deedS ln).getD zD = dd at hde hdr hdk
    generalize (deedS ln).isSome = db at hde hdr
    have HRD := Lib.hid hrd
    have HRR := Lib.hid hrr
    have HDE := Lib.hid hde
    have HDR := Lib.hid hdr
    have HOK := Lib.hid hok
    have HDK := Lib.hid hdk
    clear hrd hrr hde hdr hok hdk hs hn
    go_enter Tryd.func4, Tryd.ntmps4
    go_wp2_with fail
    refine (HRD.out w HM.out).mono ?_
    rintro e w1 ⟨A, c, ev, rfl, hR, hE, hb⟩
    obtain ⟨_, hc, hC⟩ := Kd.R_reads' hR
    have HB1 := Lib.hid hb
    have HE1 := Lib.hid hE
    have HC1 := Lib.hid hC
    clear hb hE hC hR HRD
    go_wp2_with fail
    refine (HRR.out w1).mono ?_
    rintro e w2 ⟨B, k, rfl, hR, hb⟩
    obtain ⟨_, hk, hC⟩ := Kd.R_reads' hR
    have HB2 := Lib.hid (HB1.out.trans (hb.mono HB1.out.size))
    have HE2 := Lib.hid (HE1.out.later hb)
    have HC2 := Lib.hid (Kd.C_below HC1.out hb)
    have HD2 := Lib.hid hC
    clear hb hC hR HRR HB1 HE1 HC1
    go_wp2_with fail
    refine (where_any ev cd pos w2 HE2.out (hg_later HH.out HB2.out)).mono ?_
    rintro e w3 ⟨⟨x, rfl, hx⟩, hb⟩
    have HB3 := Lib.hid (HB2.out.trans (hb.mono HB2.out.size))
    have HE3 := Lib.hid (HE2.out.later hb)
    have HC3 := Lib.hid (Kd.C_below HC2.out hb)
    have HD3 := Lib.hid (Kd.C_below HD2.out hb)
    clear hb HB2 HE2 HC2 HD2
    have HSA := Lib.hid (show ∀ W, Below w3.heap.size w3 W → Calls Tryd.prog 22 #[.slice A L.length c, .slice B L.length k] W fun e w' => e = .returned (.bool true) ∧ Below w3.heap.size w3 w' from fun W hW =>
      (refSameAll_any L L A B c k W (kE_C (Kd.C_below HC3.out hW)) (kE_C (Kd.C_below HD3.out hW)) hc hk HOK.out HOK.out (by omega) (by omega)).mono fun e w' ⟨he, hb⟩ => ⟨by rw [he, sameAll_refl], hW.trans (hb.mono hW.size)⟩)
    have HOF := Lib.hid (show ∀ W, Below w3.heap.size w3 W → Calls Tryd.prog 23 #[ev] W fun e w' => e = .returned (.int .i64 cd) ∧ Below w3.heap.size w3 w' from fun W hW =>
      (of_one ev cd pos W (HE3.out.later hW) (hg_later HH.out (HB3.out.trans (hW.mono HB3.out.size)))).mono fun e w' ⟨he, hb⟩ => ⟨he, hW.trans (hb.mono hW.size)⟩)
    have hxx : decide (cd ≠ 0) = false ∨ (decide (cd ≠ 0) = true ∧ x = pos) := by
      by_cases h : cd = 0
      · exact .inl (by simp [h])
      · exact .inr ⟨by simp [h], hx h⟩
    clear hx
    generalize decide (cd ≠ 0) = ob at hxx
    rcases hxx with rfl | ⟨rfl, rfl⟩
    all_goals
      go_wp2_with fail
      refine (HSA.out _ (Below.refl _ _)).mono ?_
      rintro e w4 ⟨rfl, hb⟩
      have HB4 := Lib.hid hb
      clear hb
      go_wp2_with fail
      refine (HOF.out _ HB4.out).mono ?_
      rintro e w5 ⟨rfl, hb⟩
      have HB5 := Lib.hid (HB3.out.trans (hb.mono HB3.out.size))
      clear hb HB4 HSA HOF HB3 HE3 HC3 HD3
      go_wp2_with fail
      refine (HDE.out w5 (HM.out.later HB5.out)).mono ?_
      rintro e w6 ⟨A1, A2, c1, c2, rfl, hM, hb⟩
      have HB6 := Lib.hid (HB5.out.trans (hb.mono HB5.out.size))
      have HD6 := Lib.hid (kE_DM (d := dd) (A1 := A1) (A2 := A2) (c1 := c1) (c2 := c2) hM HDK.out)
      have HB7 := Lib.hid (HB6.out.trans ((bel_alloc w6 (.cells #[.int .i64 dd.kind, .int .i64 dd.node, .string (bsV dd.key), .slice A1 dd.value.length c1, .int .i64 dd.n, .int .i64 dd.at_, .int .u8 dd.by_, .int .u8 dd.draw, .slice A2 dd.keep.length c2] 45)).mono HB6.out.size))
      have HX7 := Lib.hid (heap_alloc_new w6 (.cells #[.int .i64 dd.kind, .int .i64 dd.node, .string (bsV dd.key), .slice A1 dd.value.length c1, .int .i64 dd.n, .int .i64 dd.at_, .int .u8 dd.by_, .int .u8 dd.draw, .slice A2 dd.keep.length c2] 45))
      have HD7 := Lib.hid (HD6.out.later (bel_alloc w6 (.cells #[.int .i64 dd.kind, .int .i64 dd.node, .string (bsV dd.key), .slice A1 dd.value.length c1, .int .i64 dd.n, .int .i64 dd.at_, .int .u8 dd.by_, .int .u8 dd.draw, .slice A2 dd.keep.length c2] 45)))
      clear hb hM HB5 HDE HB6 HD6
      go_wp2_with fail
      generalize w6.alloc (.cells #[.int .i64 dd.kind, .int .i64 dd.node, .string (bsV dd.key), .slice A1 dd.value.length c1, .int .i64 dd.n, .int .i64 dd.at_, .int .u8 dd.by_, .int .u8 dd.draw, .slice A2 dd.keep.length c2] 45) = w6b at *
      refine (HDR.out w6b).mono ?_
      rintro e w7 ⟨B1, B2, k1, k2, rfl, hM, hb⟩
      have HX7b := Lib.hid ((hb.block _ (Array.getElem?_eq_some_iff.1 HX7.out).1).trans HX7.out)
      have HX8 := Lib.hid ((Below.heap_alloc w7 (.cells #[.int .i64 dd.kind, .int .i64 dd.node, .string (bsV dd.key), .slice B1 dd.value.length k1, .int .i64 dd.n, .int .i64 dd.at_, .int .u8 dd.by_, .int .u8 dd.draw, .slice B2 dd.keep.length k2] 45) w6.heap.size (Array.getElem?_eq_some_iff.1 HX7b.out).1).trans HX7b.out)
      have HB8 := Lib.hid ((HB7.out.trans (hb.mono HB7.out.size)).trans ((bel_alloc w7 (.cells #[.int .i64 dd.kind, .int .i64 dd.node, .string (bsV dd.key), .slice B1 dd.value.length k1, .int .i64 dd.n, .int .i64 dd.at_, .int .u8 dd.by_, .int .u8 dd.draw, .slice B2 dd.keep.length k2] 45)).mono (HB7.out.trans (hb.mono HB7.out.size)).size))
      have HY8 := Lib.hid (heap_alloc_new w7 (.cells #[.int .i64 dd.kind, .int .i64 dd.node, .string (bsV dd.key), .slice B1 dd.value.length k1, .int .i64 dd.n, .int .i64 dd.at_, .int .u8 dd.by_, .int .u8 dd.draw, .slice B2 dd.keep.length k2] 45))
      have HD8 := Lib.hid ((HD7.out.later hb).later (bel_alloc w7 (.cells #[.int .i64 dd.kind, .int .i64 dd.node, .string (bsV dd.key), .slice B1 dd.value.length k1, .int .i64 dd.n, .int .i64 dd.at_, .int .u8 dd.by_, .int .u8 dd.draw, .slice B2 dd.keep.length k2] 45)))
      have HE8 := Lib.hid ((kE_DM (d := dd) (A1 := B1) (A2 := B2) (c1 := k1) (c2 := k2) hM HDK.out).later (bel_alloc w7 (.cells #[.int .i64 dd.kind, .int .i64 dd.node, .string (bsV dd.key), .slice B1 dd.value.length k1, .int .i64 dd.n, .int .i64 dd.at_, .int .u8 dd.by_, .int .u8 dd.draw, .slice B2 dd.keep.length k2] 45)))
      clear hb hM HB7 HDR HX7 HX7b HD7
      go_upto_region 10 with (fail)
      generalize w7.alloc (.cells #[.int .i64 dd.kind, .int .i64 dd.node, .string (bsV dd.key), .slice B1 dd.value.length k1, .int .i64 dd.n, .int .i64 dd.at_, .int .u8 dd.by_, .int .u8 dd.draw, .slice B2 dd.keep.length k2] 45) = w8 at *
      have p0 : w8.cell? ⟨w6.heap.size, 0, none⟩ = some (.int .i64 dd.kind) := cell_of_row w8 _ 0 _ _ (0, 0) HX8.out
      have p1 : w8.cell? ⟨w6.heap.size, 1, none⟩ = some (.int .i64 dd.node) := cell_of_row w8 _ 1 _ _ (0, 0) HX8.out
      have p2 : w8.cell? ⟨w6.heap.size, 2, none⟩ = some (.string (bsV dd.key)) := cell_of_row w8 _ 2 _ _ (0, 0) HX8.out
      have p3 : w8.cell? ⟨w6.heap.size, 3, none⟩ = some (.slice A1 dd.value.length c1) := cell_of_row w8 _ 3 _ _ (0, 0) HX8.out
      have p4 : w8.cell? ⟨w6.heap.size, 4, none⟩ = some (.int .i64 dd.n) := cell_of_row w8 _ 4 _ _ (0, 0) HX8.out
      have p5 : w8.cell? ⟨w6.heap.size, 5, none⟩ = some (.int .i64 dd.at_) := cell_of_row w8 _ 5 _ _ (0, 0) HX8.out
      have p6 : w8.cell? ⟨w6.heap.size, 6, none⟩ = some (.int .u8 dd.by_) := cell_of_row w8 _ 6 _ _ (0, 0) HX8.out
      have p7 : w8.cell? ⟨w6.heap.size, 7, none⟩ = some (.int .u8 dd.draw) := cell_of_row w8 _ 7 _ _ (0, 0) HX8.out
      have p8 : w8.cell? ⟨w6.heap.size, 8, none⟩ = some (.slice A2 dd.keep.length c2) := cell_of_row w8 _ 8 _ _ (0, 0) HX8.out
      have q0 : w8.cell? ⟨w7.heap.size, 0, none⟩ = some (.int .i64 dd.kind) := cell_of_row w8 _ 0 _ _ (0, 0) HY8.out
      have q1 : w8.cell? ⟨w7.heap.size, 1, none⟩ = some (.int .i64 dd.node) := cell_of_row w8 _ 1 _ _ (0, 0) HY8.out
      have q2 : w8.cell? ⟨w7.heap.size, 2, none⟩ = some (.string (bsV dd.key)) := cell_of_row w8 _ 2 _ _ (0, 0) HY8.out
      have q3 : w8.cell? ⟨w7.heap.size, 3, none⟩ = some (.slice B1 dd.value.length k1) := cell_of_row w8 _ 3 _ _ (0, 0) HY8.out
      have q4 : w8.cell? ⟨w7.heap.size, 4, none⟩ = some (.int .i64 dd.n) := cell_of_row w8 _ 4 _ _ (0, 0) HY8.out
      have q5 : w8.cell? ⟨w7.heap.size, 5, none⟩ = some (.int .i64 dd.at_) := cell_of_row w8 _ 5 _ _ (0, 0) HY8.out
      have q6 : w8.cell? ⟨w7.heap.size, 6, none⟩ = some (.int .u8 dd.by_) := cell_of_row w8 _ 6 _ _ (0, 0) HY8.out
      have q7 : w8.cell? ⟨w7.heap.size, 7, none⟩ = some (.int .u8 dd.draw) := cell_of_row w8 _ 7 _ _ (0, 0) HY8.out
      have q8 : w8.cell? ⟨w7.heap.size, 8, none⟩ = some (.slice B2 dd.keep.length k2) := cell_of_row w8 _ 8 _ _ (0, 0) HY8.out
      have hbb : (db == db) = true := by simp
      go_wp2_with fail
      refine (show Calls Tryd.prog 26 #[.agg #[.int .i64 dd.kind, .int .i64 dd.node, .string (bsV dd.key), .slice A1 dd.value.length c1, .int .i64 dd.n, .int .i64 dd.at_, .int .u8 dd.by_, .int .u8 dd.draw, .slice A2 dd.keep.length c2], .agg #[.int .i64 dd.kind, .int .i64 dd.node, .string (bsV dd.key), .slice B1 dd.value.length k1, .int .i64 dd.n, .int .i64 dd.at_, .int .u8 dd.by_, .int .u8 dd.draw, .slice B2 dd.keep.length k2]] w8 _ from refSame_any dd dd A1 A2 B1 B2 c1 c2 k1 k2 w8 HD8.out HE8.out).mono ?_
      rintro e w9 ⟨rfl, hb⟩
      rw [same_refl]
      have HB9 := Lib.hid (HB8.out.trans (hb.mono HB8.out.size))
      clear hb HB8 HD8 HE8
      go_wp2_with fail
      refine (HW.out _ HB9.out).mono ?_
      rintro e w10 ⟨rfl, hb⟩
      have HB10 := Lib.hid hb
      clear hb
      go_wp2_with fail
      go_ret
      exact ⟨rfl, HB10.out⟩
  · have hdd : (3000 : Int) < (s.length : Int) ∨ (¬ (3000 : Int) < (s.length : Int) ∧ (1000 : Int) < (ln.length : Int)) := by omega
    clear hgd
    rcases hdd with d1 | ⟨d1, d2⟩
    all_goals
      go_enter Tryd.func4, Tryd.ntmps4
      go_wp2_with fail
      refine (HW.out _ (Below.refl _ _)).mono ?_
      rintro e w9 ⟨rfl, hb9⟩
      have HB9 := Lib.hid hb9
      clear hb9
      go_wp2_with fail
      go_ret
      exact ⟨rfl, HB9.out⟩
end Go.Proofs.YtbckbpimabmacaaDoor
