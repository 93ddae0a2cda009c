/- ReportBack: events as a text are read as they were; a line that is an event's is that event's line. -/
import Derived.Test.YtgfljpchdiapeaaDoorGB
import Derived.Test.YtgfljpchdiapeaaDoorH4
namespace Go.Proofs.YtgfljpchdiapeaaDoor
set_option linter.unusedVariables false
set_option linter.unusedSimpArgs false
open Go.RowKit Go.Proofs.YtgfljpchdiapeaaDoorW.PrintWords
attribute [local go_sem ↓] Go.wp_at_zero Go.wp_at_succ
attribute [local go_sem] bsV_get bsV_size bsV_toList
set_option maxHeartbeats 4000000 in
set_option maxRecDepth 100000 in
theorem back_law (L : List Ev) (A : Option Addr) (c : Nat) (ln : Bs) (w : World) (hC : kV.C w A L.length L) (hc : L.length ≤ c) (hok : ∀ d ∈ L, okE d) (hg : HG w) (hm : MX w) : Calls Tryd.prog 5 #[.slice A L.length c, .string (bsV ln)] w fun e w' => e = .returned (.bool true) ∧ Below w.heap.size w w' := by
  have HW := Lib.hid (works_later hg hm)
  have HM := Lib.hid hm
  have HC := Lib.hid hC
  have HOK := Lib.hid hok
  have HLI := Lib.hid (light_any L A c w hC hc)
  clear hg hm hC hok
  go_enter Tryd.func5, Tryd.ntmps5
  go_wp2_with fail
  refine HLI.out.mono ?_
  rintro e w1 ⟨r, rfl, hr, hb⟩
  have HB1 := Lib.hid hb
  have HR := Lib.hid hr
  clear hb hr HLI
  by_cases hr0 : r ≤ 0
  · have d0 : ¬ (0 : Int) < r := by omega
    by_cases hln : ln.length ≤ 1000
    · have d1 : ¬ (1000 : Int) < (ln.length : Int) := by omega
      have HSZ := Lib.hid (HR.out hr0)
      have hde := fun W (hW : MX W) => event_any ln W (by omega) hW
      have hdk := evD_ok (s := ln) (by omega)
      have hdl : (eventS ln).isSome = true → lineE (evD ln) = ln := fun h => by
        cases h2 : eventS ln with
        | none => rw [h2] at h; cases h
        | some d =>
          have e1 : evD ln = d := by rw [evD, h2]; rfl
          rw [e1]
          exact (lineE_of h2).1
      unfold EvPost at hde
      unfold eC at hde
      generalize evD ln = ev at hde hdk hdl
      generalize (eventS ln).isSome = db at hde hdl
      have HDE := Lib.hid hde
      have HDK := Lib.hid hdk
      have HDL := Lib.hid hdl
      clear hde hdk hdl HR hln
      go_wp2_with fail
      refine (HDE.out w1 (HM.out.later HB1.out)).mono ?_
      rintro e w2 ⟨A1, c1, rfl, hM, hb⟩
      have hcv := (Kd.R_reads' hM).2.1
      have hCv := (Kd.R_reads' hM).2.2
      rw [bI_len] at hCv
      have HB2 := Lib.hid (HB1.out.trans (hb.mono HB1.out.size))
      have HD2 := Lib.hid (show EM w2 ev A1 c1 from ⟨hcv, hCv, HDK.out.1, HDK.out.2.1, HDK.out.2.2⟩)
      have HB3 := Lib.hid (HB2.out.trans ((bel_alloc w2 (.cells #[.int .i64 ev.kind, .int .i64 ev.node, .string (bsV ev.key), .int .i64 ev.ver, .int .i64 ev.asof, .int .i64 ev.ends, .slice A1 ev.value.length c1, .bool ev.found] 30)).mono HB2.out.size))
      have HX3 := Lib.hid (heap_alloc_new w2 (.cells #[.int .i64 ev.kind, .int .i64 ev.node, .string (bsV ev.key), .int .i64 ev.ver, .int .i64 ev.asof, .int .i64 ev.ends, .slice A1 ev.value.length c1, .bool ev.found] 30))
      have HD3 := Lib.hid (HD2.out.later (bel_alloc w2 (.cells #[.int .i64 ev.kind, .int .i64 ev.node, .string (bsV ev.key), .int .i64 ev.ver, .int .i64 ev.asof, .int .i64 ev.ends, .slice A1 ev.value.length c1, .bool ev.found] 30)))
      clear hb hM HB1 HDE HB2 HD2 hcv hCv
      go_upto_region 4 with (fail)
      generalize w2.alloc (.cells #[.int .i64 ev.kind, .int .i64 ev.node, .string (bsV ev.key), .int .i64 ev.ver, .int .i64 ev.asof, .int .i64 ev.ends, .slice A1 ev.value.length c1, .bool ev.found] 30) = w3 at *
      go_cut [31] (fun bx wx => bx = .bool false ∧ Hid (Below w.heap.size w wx))
      case first =>
        have p0 : w3.cell? ⟨w2.heap.size, 0, none⟩ = some (.int .i64 ev.kind) := cell_of_row w3 _ 0 _ _ (0, 0) HX3.out
        have p1 : w3.cell? ⟨w2.heap.size, 1, none⟩ = some (.int .i64 ev.node) := cell_of_row w3 _ 1 _ _ (0, 0) HX3.out
        have p2 : w3.cell? ⟨w2.heap.size, 2, none⟩ = some (.string (bsV ev.key)) := cell_of_row w3 _ 2 _ _ (0, 0) HX3.out
        have p3 : w3.cell? ⟨w2.heap.size, 3, none⟩ = some (.int .i64 ev.ver) := cell_of_row w3 _ 3 _ _ (0, 0) HX3.out
        have p4 : w3.cell? ⟨w2.heap.size, 4, none⟩ = some (.int .i64 ev.asof) := cell_of_row w3 _ 4 _ _ (0, 0) HX3.out
        have p5 : w3.cell? ⟨w2.heap.size, 5, none⟩ = some (.int .i64 ev.ends) := cell_of_row w3 _ 5 _ _ (0, 0) HX3.out
        have p6 : w3.cell? ⟨w2.heap.size, 6, none⟩ = some (.slice A1 ev.value.length c1) := cell_of_row w3 _ 6 _ _ (0, 0) HX3.out
        have p7 : w3.cell? ⟨w2.heap.size, 7, none⟩ = some (.bool ev.found) := cell_of_row w3 _ 7 _ _ (0, 0) HX3.out
        cases db with
        | true =>
          have hbb : (ln == ln) = true := by simp
          have hLN := HDL.out rfl
          go_wp2_with fail
          refine (show Calls Tryd.prog 9 #[.agg #[.int .i64 ev.kind, .int .i64 ev.node, .string (bsV ev.key), .int .i64 ev.ver, .int .i64 ev.asof, .int .i64 ev.ends, .slice A1 ev.value.length c1, .bool ev.found]] w3 _ from repLine_any ev A1 c1 w3 HD3.out).mono ?_
          rintro e w4 ⟨rfl, hb4⟩
          rw [hLN]
          have HB4 := Lib.hid (HB3.out.trans (hb4.mono HB3.out.size))
          clear hb4
          go_wp2_with fail
          go_meet
          exact ⟨by first | rfl | (simp [*]; done), HB4.out⟩
        | false =>
          go_wp2_with fail
          go_meet
          exact ⟨by first | rfl | (simp [*]; done), HB3.out⟩
      case rest =>
        obtain ⟨rfl, HX⟩ := hcut
        obtain ⟨w4, rfl⟩ : ∃ w4 : World, w4 = wc := ⟨_, rfl⟩
        clear HB3 HX3 HD3 HDK HDL
        go_wp2_with fail
        go_loopw [7] (fun iv wr => ∃ i : Nat, i ≤ L.length ∧ iv = .int .i64 i ∧ Hid ((∀ j (h : j < L.length), j < i → 1 ≤ L[j].kind ∧ L[j].kind ≤ 4) ∧ Below w.heap.size w wr)) (fun iv _ => L.length - (intOf iv).toNat)
        case atStart => exact ⟨0, Nat.zero_le _, rfl, fun j h hj => absurd hj (Nat.not_lt_zero _), HX.out⟩
        case round =>
          obtain ⟨i, hi, rfl, HI⟩ := hrel
          by_cases hlt : i < L.length
          · have i1 : (0 : Int) ≤ (i : Int) := by omega
            have i2 : (i : Int) < (L.length : Int) := by omega
            have i4 : i < c := by omega
            have hl80 := HSZ.out.1
            have hwi : IntKind.i64.wrap ((i : Int) + 1) = (i : Int) + 1 := by rw [IntKind.wrap_i64]; omega
            obtain ⟨d, hd⟩ : ∃ d, L[i] = d := ⟨_, rfl⟩
            have HKD := Lib.hid hd
            have hsz := HSZ.out.2 d (by rw [← hd]; exact List.getElem_mem hlt)
            have hks : okV d := ⟨HOK.out d (by rw [← hd]; exact List.getElem_mem hlt), by omega, by omega⟩
            obtain ⟨ad, A1, c1, rfl, hDA, q0, q1, q2, q3, q4, q5, q6, q7⟩ := event_at (Kd.C_below HC.out HI.out.2) hlt hd hks
            have HBW := Lib.hid HI.out.2
            have HIJ := Lib.hid HI.out.1
            clear hDA hd HI hsz hks q1 q2 q3 q4 q5 q6 q7
            have hkc : (1 ≤ d.kind ∧ d.kind ≤ 4) ∨ d.kind < 1 ∨ (¬ d.kind < 1 ∧ 4 < d.kind) := by omega
            rcases hkc with hk | hk | ⟨hk, hk4⟩
            · have h1 : ¬ d.kind < 1 := by omega
              have h4 : ¬ (4 : Int) < d.kind := by omega
              have HK := Lib.hid hk
              clear hk
              go_wp2_with fail
              go_roundw
              case rel => exact ⟨i + 1, by omega, by go_num, fun j h hj => (by
                  rcases Nat.eq_or_lt_of_le (Nat.le_of_lt_succ hj) with e | e
                  · subst e; rw [HKD.out]; exact HK.out
                  · exact HIJ.out j h e), HBW.out⟩
              case measure => simp [intOf]; omega
            all_goals
              go_wp2_with fail
              refine (HW.out _ HBW.out).mono ?_
              rintro e w6 ⟨rfl, hb6⟩
              have HB6 := Lib.hid hb6
              clear hb6
              go_wp2_with fail
              go_ret
              exact ⟨rfl, HB6.out⟩
          · have hi3 : ¬ (i : Int) < (L.length : Int) := by omega
            have HKS := Lib.hid (show ∀ d ∈ L, okE d ∧ 1 ≤ d.kind ∧ d.kind ≤ 4 from fun d hd => by
              obtain ⟨j, hj, rfl⟩ := List.getElem_of_mem hd
              exact ⟨HOK.out _ hd, HI.out.1 j hj (by omega)⟩)
            have HOS := Lib.hid (show ∀ d ∈ L, okV d from fun d hd => ⟨HOK.out d hd, by have := HSZ.out.2 d hd; omega, by have := HSZ.out.2 d hd; omega⟩)
            have HTL := Lib.hid (show (textE L).length ≤ 640040 from Nat.le_trans (textE_small L fun d hd => lineE_small (HOK.out d hd) (HSZ.out.2 d hd).1 (HSZ.out.2 d hd).2) (by have := HSZ.out.1; omega))
            have hread := fun W (hW : MX W) => readE_any (textE L) W (by have := HTL.out; omega) hW
            unfold ReadPostE at hread
            rw [read_textE HKS.out] at hread
            have hnt : textE (L.map normE) = textE L := normE_text L
            have hns := normE_sameAll L
            have hrw : (splitS 10 (textE L)).length = L.length + 1 := by rw [rows_textE L (fun d hd => (HKS.out d hd).2)]; simp
            have hno : ∀ d ∈ L.map normE, okV d := fun d hd => by
              obtain ⟨x, hx, rfl⟩ := List.mem_map.1 hd
              exact normE_ok (HOS.out x hx)
            have hnl : (L.map normE).length = L.length := List.length_map ..
            generalize L.map normE = M at hread hnt hns hno hnl
            dsimp only at hread
            have hrows := fun W => rows_any (textE L) (by have := HTL.out; omega) W
            rw [hrw] at hrows
            have HRO := Lib.hid hrows
            have HRD := Lib.hid hread
            have HNT := Lib.hid hnt
            have HNS := Lib.hid hns
            have HNO := Lib.hid hno
            have HNL := Lib.hid hnl
            have HB5 := Lib.hid HI.out.2
            have HTX := Lib.hid (fun W (hW : Below w.heap.size w W) => repText_any L A c W (Kd.C_below HC.out hW) hc HOS.out (by have := HTL.out; omega) (by have := HSZ.out.1; omega))
            have HLL := Lib.hid HSZ.out.1
            clear hread hnt hns hno hnl HI hrw hrows
            generalize textE L = tx at HRD HNT HTX HTL HRO
            have htt : (tx == tx) = true := by simp
            have hll : (((L.length + 1 : Nat) : Int) == (L.length : Int) + 1) = true := by simp
            have hwl : IntKind.i64.wrap ((L.length : Int) + 1) = (L.length : Int) + 1 := by have := HLL.out; rw [IntKind.wrap_i64]; omega
            go_wp2_with fail
            refine (HTX.out wr HB5.out).mono ?_
            rintro e w5 ⟨rfl, hb5⟩
            have HB6 := Lib.hid (HB5.out.trans (hb5.mono HB5.out.size))
            clear hb5
            go_wp2_with fail
            refine (HRD.out w5 (HM.out.later HB6.out)).mono ?_
            rintro e w6 ⟨B, k, er, rfl, hR, hE, hb6⟩
            have hk := (Kd.R_reads' hR).2.1
            have HCM := Lib.hid (Kd.R_reads' hR).2.2
            have HB7 := Lib.hid (HB6.out.trans (hb6.mono HB6.out.size))
            obtain ⟨_, rfl⟩ | ⟨hz, _⟩ := hE
            · clear hR hb6 HRD
              go_wp2_with fail
              refine (refSameAllE_any L M A B c k w6 (Kd.C_below HC.out HB7.out) HCM.out hc hk HOS.out HNO.out (by have := HSZ.out.1; omega) (by have := HSZ.out.1; have := HNL.out; omega)).mono ?_
              rintro e w8 ⟨rfl, hb8⟩
              rw [HNS.out]
              have HB9 := Lib.hid (HB7.out.trans (hb8.mono HB7.out.size))
              have HCO := Lib.hid (Kd.C_below HCM.out hb8)
              clear hb8
              go_wp2_with fail
              refine (repText_any M B k w8 HCO.out hk HNO.out (by rw [HNT.out]; have := HTL.out; omega) (by have := HSZ.out.1; have := HNL.out; omega)).mono ?_
              rintro e w9 ⟨rfl, hb9⟩
              rw [HNT.out]
              have HBA := Lib.hid (HB9.out.trans (hb9.mono HB9.out.size))
              clear hb9
              go_wp2_with fail
              refine (HRO.out w9).mono ?_
              rintro e wa ⟨A4, c4, rfl, _, _, hba⟩
              have HBC := Lib.hid (HBA.out.trans (hba.mono HBA.out.size))
              clear hba
              go_wp2_with fail
              refine (HW.out _ HBC.out).mono ?_
              rintro e wA ⟨rfl, hbB⟩
              have HBB := Lib.hid hbB
              clear hbB
              go_wp2_with fail
              go_ret
              exact ⟨rfl, HBB.out⟩
            · exact absurd rfl hz
    · have d1 : (1000 : Int) < (ln.length : Int) := by omega
      go_wp2_with fail
      refine (HW.out _ HB1.out).mono ?_
      rintro e w6 ⟨rfl, hb6⟩
      have HB6 := Lib.hid hb6
      clear hb6
      go_wp2_with fail
      go_ret
      exact ⟨rfl, HB6.out⟩
  · have d0 : (0 : Int) < r := by omega
    go_wp2_with fail
    refine (HW.out _ HB1.out).mono ?_
    rintro e w6 ⟨rfl, hb6⟩
    have HB6 := Lib.hid hb6
    clear hb6
    go_wp2_with fail
    go_ret
    exact ⟨rfl, HB6.out⟩
end Go.Proofs.YtgfljpchdiapeaaDoor
