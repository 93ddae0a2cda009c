/- ReportReads: any text's events, any line's event. -/
import Derived.Test.YtgfljpchdiapeaaDoorGB
import Derived.Test.YtgfljpchdiapeaaDoorH3
namespace Go.Proofs.YtgfljpchdiapeaaDoor
set_option linter.unusedVariables false
set_option linter.unusedSimpArgs false
open Go.RowKit Go.Proofs.YtgfljpchdiapeaaDoorW.PrintWords
attribute [local go_sem ↓] Go.wp_at_zero Go.wp_at_succ
attribute [local go_sem] bsV_get bsV_size bsV_toList
set_option maxHeartbeats 4000000 in
set_option maxRecDepth 100000 in
theorem reads_law (s ln : Bs) (w : World) (hg : HG w) (hm : MX w) : Calls Tryd.prog 4 #[.string (bsV s), .string (bsV ln)] w fun e w' => e = .returned (.bool true) ∧ Below w.heap.size w w' := by
  have HW := Lib.hid (works_later hg hm)
  have HH := Lib.hid hg
  have HM := Lib.hid hm
  clear hg hm
  by_cases hgd : s.length ≤ 3000 ∧ ln.length ≤ 1000
  · obtain ⟨hs, hn⟩ := hgd
    have d1 : ¬ (3000 : Int) < (s.length : Int) := by omega
    have d2 : ¬ (1000 : Int) < (ln.length : Int) := by omega
    have hok := readSE_ok (s := s) (by omega)
    have hlo : (readSE s).1.length ≤ 3001 := by have := hok.2; omega
    have hok := hok.1
    have hrd := fun W (hW : MX W) => readE_any s W (by omega) hW
    have hrr := fun W => refReadE_any s W (by omega)
    have hde := fun W (hW : MX W) => event_any ln W (by omega) hW
    have hdr := fun W => refEvent_any ln W (by omega)
    have hdk := evD_ok (s := ln) (by omega)
    unfold ReadPostE at hrd
    unfold RRead at hrr
    unfold EvPost at hde
    unfold RefEv at hdr
    unfold eC at hde hdr
    generalize readSE s = r at hok hlo hrd hrr
    obtain ⟨L, cd, pos⟩ := r
    dsimp only at hok hlo hrd hrr
    generalize evD ln = ev at hde hdr hdk
    generalize (eventS ln).isSome = db at hde hdr
    have HRD := Lib.hid hrd
    have HRR := Lib.hid hrr
    have HDE := Lib.hid hde
    have HDR := Lib.hid hdr
    have HOK := Lib.hid hok
    have HDK := Lib.hid hdk
    clear hrd hrr hde hdr hok hdk hs hn
    go_enter Tryd.func4, Tryd.ntmps4
    go_wp2_with fail
    refine (HRD.out w HM.out).mono ?_
    rintro e w1 ⟨A, c, er, rfl, hR, hE, hb⟩
    obtain ⟨_, hc, hC⟩ := Kd.R_reads' hR
    have HB1 := Lib.hid hb
    have HE1 := Lib.hid hE
    have HC1 := Lib.hid hC
    clear hb hE hC hR HRD
    go_wp2_with fail
    refine (HRR.out w1).mono ?_
    rintro e w2 ⟨B, k, rfl, hk, hC, hb⟩
    have HB2 := Lib.hid (HB1.out.trans (hb.mono HB1.out.size))
    have HE2 := Lib.hid (HE1.out.later hb)
    have HC2 := Lib.hid (Kd.C_below HC1.out hb)
    have HD2 := Lib.hid hC
    clear hb hC HRR HB1 HE1 HC1
    go_wp2_with fail
    refine (where_any er cd pos w2 HE2.out (hg_later HH.out HB2.out)).mono ?_
    rintro e w3 ⟨⟨x, rfl, hx⟩, hb⟩
    have HB3 := Lib.hid (HB2.out.trans (hb.mono HB2.out.size))
    have HE3 := Lib.hid (HE2.out.later hb)
    have HC3 := Lib.hid (Kd.C_below HC2.out hb)
    have HD3 := Lib.hid (Kd.C_below HD2.out hb)
    clear hb HB2 HE2 HC2 HD2
    have HSA := Lib.hid (show ∀ W, Below w3.heap.size w3 W → Calls Tryd.prog 18 #[.slice A L.length c, .slice B L.length k] W fun e w' => e = .returned (.bool true) ∧ Below w3.heap.size w3 w' from fun W hW =>
      (refSameAllE_any L L A B c k W (Kd.C_below HC3.out hW) (Kd.C_below HD3.out hW) hc hk HOK.out HOK.out (by omega) (by omega)).mono fun e w' ⟨he, hb⟩ => ⟨by rw [he, sameAllE_refl], hW.trans (hb.mono hW.size)⟩)
    have HOF := Lib.hid (show ∀ W, Below w3.heap.size w3 W → Calls Tryd.prog 19 #[er] W fun e w' => e = .returned (.int .i64 cd) ∧ Below w3.heap.size w3 w' from fun W hW =>
      (of_one er cd pos W (HE3.out.later hW) (hg_later HH.out (HB3.out.trans (hW.mono HB3.out.size)))).mono fun e w' ⟨he, hb⟩ => ⟨he, hW.trans (hb.mono hW.size)⟩)
    have hxx : decide (cd ≠ 0) = false ∨ (decide (cd ≠ 0) = true ∧ x = pos) := by
      by_cases h : cd = 0
      · exact .inl (by simp [h])
      · exact .inr ⟨by simp [h], hx h⟩
    clear hx
    generalize decide (cd ≠ 0) = ob at hxx
    rcases hxx with rfl | ⟨rfl, rfl⟩
    all_goals
      go_wp2_with fail
      refine (HSA.out _ (Below.refl _ _)).mono ?_
      rintro e w4 ⟨rfl, hb⟩
      have HB4 := Lib.hid hb
      clear hb
      go_wp2_with fail
      refine (HOF.out _ HB4.out).mono ?_
      rintro e w5 ⟨rfl, hb⟩
      have HB5 := Lib.hid (HB3.out.trans (hb.mono HB3.out.size))
      clear hb HB4 HSA HOF HB3 HE3 HC3 HD3
      go_wp2_with fail
      refine (HDE.out w5 (HM.out.later HB5.out)).mono ?_
      rintro e w6 ⟨A1, c1, rfl, hM, hb⟩
      have hcv := (Kd.R_reads' hM).2.1
      have hCv := (Kd.R_reads' hM).2.2
      rw [bI_len] at hCv
      have HB6 := Lib.hid (HB5.out.trans (hb.mono HB5.out.size))
      have HD6 := Lib.hid (show EM w6 ev A1 c1 from ⟨hcv, hCv, HDK.out.1, HDK.out.2.1, HDK.out.2.2⟩)
      have HB7 := Lib.hid (HB6.out.trans ((bel_alloc w6 (.cells #[.int .i64 ev.kind, .int .i64 ev.node, .string (bsV ev.key), .int .i64 ev.ver, .int .i64 ev.asof, .int .i64 ev.ends, .slice A1 ev.value.length c1, .bool ev.found] 30)).mono HB6.out.size))
      have HX7 := Lib.hid (heap_alloc_new w6 (.cells #[.int .i64 ev.kind, .int .i64 ev.node, .string (bsV ev.key), .int .i64 ev.ver, .int .i64 ev.asof, .int .i64 ev.ends, .slice A1 ev.value.length c1, .bool ev.found] 30))
      have HD7 := Lib.hid (HD6.out.later (bel_alloc w6 (.cells #[.int .i64 ev.kind, .int .i64 ev.node, .string (bsV ev.key), .int .i64 ev.ver, .int .i64 ev.asof, .int .i64 ev.ends, .slice A1 ev.value.length c1, .bool ev.found] 30)))
      clear hb hM HB5 HDE HB6 HD6 hcv hCv
      go_wp2_with fail
      generalize w6.alloc (.cells #[.int .i64 ev.kind, .int .i64 ev.node, .string (bsV ev.key), .int .i64 ev.ver, .int .i64 ev.asof, .int .i64 ev.ends, .slice A1 ev.value.length c1, .bool ev.found] 30) = w6b at *
      refine (HDR.out w6b).mono ?_
      rintro e w7 ⟨B1, k1, rfl, hM, hb⟩
      have hcv := (Kd.R_reads' hM).2.1
      have hCv := (Kd.R_reads' hM).2.2
      rw [bI_len] at hCv
      have HX7b := Lib.hid ((hb.block _ (Array.getElem?_eq_some_iff.1 HX7.out).1).trans HX7.out)
      have HX8 := Lib.hid ((Below.heap_alloc w7 (.cells #[.int .i64 ev.kind, .int .i64 ev.node, .string (bsV ev.key), .int .i64 ev.ver, .int .i64 ev.asof, .int .i64 ev.ends, .slice B1 ev.value.length k1, .bool ev.found] 30) w6.heap.size (Array.getElem?_eq_some_iff.1 HX7b.out).1).trans HX7b.out)
      have HB8 := Lib.hid ((HB7.out.trans (hb.mono HB7.out.size)).trans ((bel_alloc w7 (.cells #[.int .i64 ev.kind, .int .i64 ev.node, .string (bsV ev.key), .int .i64 ev.ver, .int .i64 ev.asof, .int .i64 ev.ends, .slice B1 ev.value.length k1, .bool ev.found] 30)).mono (HB7.out.trans (hb.mono HB7.out.size)).size))
      have HY8 := Lib.hid (heap_alloc_new w7 (.cells #[.int .i64 ev.kind, .int .i64 ev.node, .string (bsV ev.key), .int .i64 ev.ver, .int .i64 ev.asof, .int .i64 ev.ends, .slice B1 ev.value.length k1, .bool ev.found] 30))
      have HD8 := Lib.hid ((HD7.out.later hb).later (bel_alloc w7 (.cells #[.int .i64 ev.kind, .int .i64 ev.node, .string (bsV ev.key), .int .i64 ev.ver, .int .i64 ev.asof, .int .i64 ev.ends, .slice B1 ev.value.length k1, .bool ev.found] 30)))
      have HE8 := Lib.hid ((show EM w7 ev B1 k1 from ⟨hcv, hCv, HDK.out.1, HDK.out.2.1, HDK.out.2.2⟩).later (bel_alloc w7 (.cells #[.int .i64 ev.kind, .int .i64 ev.node, .string (bsV ev.key), .int .i64 ev.ver, .int .i64 ev.asof, .int .i64 ev.ends, .slice B1 ev.value.length k1, .bool ev.found] 30)))
      clear hb hM HB7 HDR HX7 HX7b HD7 hcv hCv
      go_upto_region 10 with (fail)
      generalize w7.alloc (.cells #[.int .i64 ev.kind, .int .i64 ev.node, .string (bsV ev.key), .int .i64 ev.ver, .int .i64 ev.asof, .int .i64 ev.ends, .slice B1 ev.value.length k1, .bool ev.found] 30) = w8 at *
      have p0 : w8.cell? ⟨w6.heap.size, 0, none⟩ = some (.int .i64 ev.kind) := cell_of_row w8 _ 0 _ _ (0, 0) HX8.out
      have p1 : w8.cell? ⟨w6.heap.size, 1, none⟩ = some (.int .i64 ev.node) := cell_of_row w8 _ 1 _ _ (0, 0) HX8.out
      have p2 : w8.cell? ⟨w6.heap.size, 2, none⟩ = some (.string (bsV ev.key)) := cell_of_row w8 _ 2 _ _ (0, 0) HX8.out
      have p3 : w8.cell? ⟨w6.heap.size, 3, none⟩ = some (.int .i64 ev.ver) := cell_of_row w8 _ 3 _ _ (0, 0) HX8.out
      have p4 : w8.cell? ⟨w6.heap.size, 4, none⟩ = some (.int .i64 ev.asof) := cell_of_row w8 _ 4 _ _ (0, 0) HX8.out
      have p5 : w8.cell? ⟨w6.heap.size, 5, none⟩ = some (.int .i64 ev.ends) := cell_of_row w8 _ 5 _ _ (0, 0) HX8.out
      have p6 : w8.cell? ⟨w6.heap.size, 6, none⟩ = some (.slice A1 ev.value.length c1) := cell_of_row w8 _ 6 _ _ (0, 0) HX8.out
      have p7 : w8.cell? ⟨w6.heap.size, 7, none⟩ = some (.bool ev.found) := cell_of_row w8 _ 7 _ _ (0, 0) HX8.out
      have HA1 := Lib.hid (bel_alloc w8 (.cells #[.int .i64 ev.kind, .int .i64 ev.node, .string (bsV ev.key), .int .i64 ev.ver, .int .i64 ev.asof, .int .i64 ev.ends, .slice A1 ev.value.length c1, .bool ev.found] 30))
      have HY9 := Lib.hid ((HA1.out.block _ (Array.getElem?_eq_some_iff.1 HY8.out).1).trans HY8.out)
      have HL1 := Lib.hid (lit_kV HD8.out)
      have HL2 := Lib.hid (lit_kV (HE8.out.later HA1.out))
      unfold eC at HL1 HL2
      have hbb : (db == db) = true := by simp
      obtain ⟨w9, hw9⟩ : ∃ w9, w9 = w8.alloc (.cells #[.int .i64 ev.kind, .int .i64 ev.node, .string (bsV ev.key), .int .i64 ev.ver, .int .i64 ev.asof, .int .i64 ev.ends, .slice A1 ev.value.length c1, .bool ev.found] 30) := ⟨_, rfl⟩
      rw [← hw9] at HA1 HY9 HL1 HL2
      rw [show w9.heap.size = w8.heap.size + 1 by rw [hw9]; simp] at HL2
      have HW9 := Lib.hid hw9
      have q0 : w9.cell? ⟨w7.heap.size, 0, none⟩ = some (.int .i64 ev.kind) := cell_of_row w9 _ 0 _ _ (0, 0) HY9.out
      have q1 : w9.cell? ⟨w7.heap.size, 1, none⟩ = some (.int .i64 ev.node) := cell_of_row w9 _ 1 _ _ (0, 0) HY9.out
      have q2 : w9.cell? ⟨w7.heap.size, 2, none⟩ = some (.string (bsV ev.key)) := cell_of_row w9 _ 2 _ _ (0, 0) HY9.out
      have q3 : w9.cell? ⟨w7.heap.size, 3, none⟩ = some (.int .i64 ev.ver) := cell_of_row w9 _ 3 _ _ (0, 0) HY9.out
      have q4 : w9.cell? ⟨w7.heap.size, 4, none⟩ = some (.int .i64 ev.asof) := cell_of_row w9 _ 4 _ _ (0, 0) HY9.out
      have q5 : w9.cell? ⟨w7.heap.size, 5, none⟩ = some (.int .i64 ev.ends) := cell_of_row w9 _ 5 _ _ (0, 0) HY9.out
      have q6 : w9.cell? ⟨w7.heap.size, 6, none⟩ = some (.slice B1 ev.value.length k1) := cell_of_row w9 _ 6 _ _ (0, 0) HY9.out
      have q7 : w9.cell? ⟨w7.heap.size, 7, none⟩ = some (.bool ev.found) := cell_of_row w9 _ 7 _ _ (0, 0) HY9.out
      rw [hw9] at q0 q1 q2 q3 q4 q5 q6 q7
      clear hw9
      go_wp2_with fail
      rw [← HW9.out]
      have HA2 := Lib.hid (bel_alloc w9 (.cells #[.int .i64 ev.kind, .int .i64 ev.node, .string (bsV ev.key), .int .i64 ev.ver, .int .i64 ev.asof, .int .i64 ev.ends, .slice B1 ev.value.length k1, .bool ev.found] 30))
      have HL1b := Lib.hid (Kd.C_below HL1.out HA2.out)
      refine (show Calls Tryd.prog 18 #[.slice (some ⟨w8.heap.size, 0, none⟩) 1 1, .slice (some ⟨w8.heap.size + 1, 0, none⟩) 1 1] (w9.alloc (.cells #[.int .i64 ev.kind, .int .i64 ev.node, .string (bsV ev.key), .int .i64 ev.ver, .int .i64 ev.asof, .int .i64 ev.ends, .slice B1 ev.value.length k1, .bool ev.found] 30)) _ from refSameAllE_any [ev] [ev] _ _ 1 1 _ HL1b.out HL2.out (by simp) (by simp) (fun d hd => by rw [List.mem_singleton.1 hd]; exact HDK.out) (fun d hd => by rw [List.mem_singleton.1 hd]; exact HDK.out) (by simp) (by simp)).mono ?_
      rintro e wz ⟨rfl, hb⟩
      rw [sameAllE_refl]
      have HBz := Lib.hid ((HB8.out.trans ((HA1.out.trans (HA2.out.mono HA1.out.size)).mono HB8.out.size)).trans (hb.mono (HB8.out.trans ((HA1.out.trans (HA2.out.mono HA1.out.size)).mono HB8.out.size)).size))
      clear hb
      go_wp2_with fail
      refine (HW.out _ HBz.out).mono ?_
      rintro e w10 ⟨rfl, hb⟩
      have HB10 := Lib.hid hb
      clear hb
      go_wp2_with fail
      go_ret
      exact ⟨rfl, HB10.out⟩
  · have hdd : (3000 : Int) < (s.length : Int) ∨ (¬ (3000 : Int) < (s.length : Int) ∧ (1000 : Int) < (ln.length : Int)) := by omega
    clear hgd
    rcases hdd with d1 | ⟨d1, d2⟩
    all_goals
      go_enter Tryd.func4, Tryd.ntmps4
      go_wp2_with fail
      refine (HW.out _ (Below.refl _ _)).mono ?_
      rintro e w9 ⟨rfl, hb9⟩
      have HB9 := Lib.hid hb9
      clear hb9
      go_wp2_with fail
      go_ret
      exact ⟨rfl, HB9.out⟩
end Go.Proofs.YtgfljpchdiapeaaDoor
