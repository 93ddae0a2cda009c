/- The law FloorsChecks, at every input. -/
import Derived.Test.YtmoiochblmdgfaaDoorG4
namespace Go.Proofs.YtmoiochblmdgfaaDoor
set_option linter.unusedVariables false
set_option linter.unusedSimpArgs false
open Go.RowKit Go.Proofs.YtmoiochblmdgfaaDoorW.PrintWords
attribute [local go_sem ↓] Go.wp_at_zero Go.wp_at_succ

theorem works_below {w w1 : World} (hg : HG w) (hb : Below w.heap.size w w1) : Calls Tryd.prog 7 #[] w1 fun e w' => e = .returned (.bool true) ∧ Below w.heap.size w w' :=
  (works_any w1 (hg.below' hb (hg_pos hg))).mono fun e w' ⟨he, h⟩ => ⟨he, hb.trans (h.mono hb.size)⟩

set_option maxHeartbeats 8000000 in
set_option maxRecDepth 100000 in
theorem checks_law (low : Int) (A : Option Addr) (c : Nat) (L : List Fl) (lb : Int) (B : Option Addr) (d : Nat) (M : List Fl) (h asof : Int) (w : World) (hc : L.length ≤ c) (hC : kF.C w A L.length L) (hd : M.length ≤ d) (hD : kF.C w B M.length M) (hg : HG w) :
    Calls Tryd.prog 3 #[.agg #[.int .i64 low, .slice A L.length c], .agg #[.int .i64 lb, .slice B M.length d], .int .u64 h, .int .i64 asof] w fun e w' => e = .returned (.bool true) ∧ Below w.heap.size w w' := by
  have HW := Lib.hid (fun W hW => works_below (w1 := W) hg hW)
  have h0 := Lib.hid (hg_pos hg)
  have HH := Lib.hid hg
  have HC := Lib.hid hC
  have HD := Lib.hid hD
  clear hg hC hD
  by_cases hgd : L.length ≤ 100 ∧ M.length ≤ 100
  · obtain ⟨g1, g2⟩ := hgd
    have d1 : decide (100 < (L.length : Int)) = false := decide_eq_false (by omega)
    have d2 : decide (100 < (M.length : Int)) = false := decide_eq_false (by omega)
    obtain ⟨ck, hck⟩ : ∃ ck, ck = chk low L := ⟨_, rfl⟩
    have HCKE := Lib.hid hck
    have HOK := Lib.hid (fun e : ck = 0 => chk_ok (hck.symm.trans e))
    clear hck
    go_enter Tryd.func3, Tryd.ntmps3
    go_wp2_with fail
    have hk1 : ((w.alloc (.cells #[.int .i64 low, .slice A L.length c] 24)).alloc (.cells #[.int .i64 lb, .slice B M.length d] 24)).heap[w.heap.size]? = some (.cells #[.int .i64 low, .slice A L.length c] 24 (0, 0)) :=
      (Below.heap_alloc _ _ _ (by simp)).trans (heap_alloc_new _ _)
    have hk2 : ((w.alloc (.cells #[.int .i64 low, .slice A L.length c] 24)).alloc (.cells #[.int .i64 lb, .slice B M.length d] 24)).heap[w.heap.size + 1]? = some (.cells #[.int .i64 lb, .slice B M.length d] 24 (0, 0)) := by
      have := heap_alloc_new (w.alloc (.cells #[.int .i64 low, .slice A L.length c] 24)) (.cells #[.int .i64 lb, .slice B M.length d] 24)
      rw [show (w.alloc (.cells #[.int .i64 low, .slice A L.length c] 24)).heap.size = w.heap.size + 1 by simp] at this
      exact this
    have hbw : Below w.heap.size w ((w.alloc (.cells #[.int .i64 low, .slice A L.length c] 24)).alloc (.cells #[.int .i64 lb, .slice B M.length d] 24)) := (bel_alloc w _).trans ((bel_alloc _ _).mono (by simp))
    have hsz : ((w.alloc (.cells #[.int .i64 low, .slice A L.length c] 24)).alloc (.cells #[.int .i64 lb, .slice B M.length d] 24)).heap.size = w.heap.size + 2 := by simp
    have HK1 := Lib.hid hk1
    have HK2 := Lib.hid hk2
    have HBW := Lib.hid hbw
    have HSZ := Lib.hid hsz
    clear hk1 hk2 hbw hsz
    generalize (w.alloc (.cells #[.int .i64 low, .slice A L.length c] 24)).alloc (.cells #[.int .i64 lb, .slice B M.length d] 24) = wb at *
    have hcA : ∀ W, Below wb.heap.size wb W → kF.C W A L.length L := fun W hW => Kd.C_below HC.out (HBW.out.trans (hW.mono HBW.out.size))
    have hcB : ∀ W, Below wb.heap.size wb W → kF.C W B M.length M := fun W hW => Kd.C_below HD.out (HBW.out.trans (hW.mono HBW.out.size))
    have hHG : ∀ W, Below wb.heap.size wb W → HG W := fun W hW => HG.below' HH.out (HBW.out.trans (hW.mono HBW.out.size)) h0.out
    have HRC := Lib.hid (show ∀ W, Below wb.heap.size wb W → Calls Tryd.prog 8 #[.agg #[.int .i64 low, .slice A L.length c]] W fun e w' => e = .returned (.int .i64 ck) ∧ Below wb.heap.size wb w' from fun W hW => by
      rw [HCKE.out]
      exact (refCheck_any low A c L W (hcA W hW) hc (by omega)).mono fun e w' ⟨he, hb⟩ => ⟨he, hW.trans (hb.mono hW.size)⟩)
    have HCK := Lib.hid (show ∀ W, Below wb.heap.size wb W → Calls Tryd.prog 10 #[.agg #[.int .i64 low, .slice A L.length c]] W fun e w' => ∃ ev l, e = .returned ev ∧ Hid (ErrIs w' ev l ∧ codeOf l = ck ∧ HG w') ∧ Below wb.heap.size wb w' from fun W hW => by
      refine (Check_any low A c L W (hcA W hW) hc (by omega)).mono ?_
      rintro e w' ⟨ev, l, he, h1, h2, h3⟩
      exact ⟨ev, l, he, ⟨h1, h2.trans HCKE.out.symm, hHG _ (hW.trans (h3.mono hW.size))⟩, hW.trans (h3.mono hW.size)⟩)
    have HTO := Lib.hid (show ∀ W ev l, Below wb.heap.size wb W → Hid (ErrIs W ev l ∧ codeOf l = ck ∧ HG W) → Calls Tryd.prog 9 #[ev] W fun e w' => e = .returned (.int .i64 ck) ∧ Below wb.heap.size wb w' from fun W ev l hW h => by
      have h1 := of_code ev l W h.out.1 h.out.2.2
      rw [h.out.2.1] at h1
      exact h1.mono fun e w' ⟨he, hb⟩ => ⟨he, hW.trans (hb.mono hW.size)⟩)
    obtain ⟨sm, hsm⟩ : ∃ sm, sm = decide (low = lb ∧ L = M) := ⟨_, rfl⟩
    have HSA := Lib.hid (show ∀ W, Below wb.heap.size wb W → Calls Tryd.prog 11 #[.agg #[.int .i64 low, .slice A L.length c], .agg #[.int .i64 lb, .slice B M.length d]] W fun e w' => e = .returned (.bool sm) ∧ Below wb.heap.size wb w' from fun W hW => by
      rw [hsm]
      exact (same_any low A c L W (hcA W hW) hc (by omega) lb B d M (hcB W hW) hd).mono fun e w' ⟨he, hb⟩ => ⟨he, hW.trans (hb.mono hW.size)⟩)
    have HSR := Lib.hid (show ∀ W, Below wb.heap.size wb W → Calls Tryd.prog 12 #[.agg #[.int .i64 low, .slice A L.length c], .agg #[.int .i64 lb, .slice B M.length d]] W fun e w' => e = .returned (.bool sm) ∧ Below wb.heap.size wb w' from fun W hW => by
      rw [hsm]
      exact (refSame_any low A c L W (hcA W hW) hc (by omega) lb B d M (hcB W hW) hd).mono fun e w' ⟨he, hb⟩ => ⟨he, hW.trans (hb.mono hW.size)⟩)
    have HCO := Lib.hid (show ∀ W, Below wb.heap.size wb W → Calls Tryd.prog 13 #[.agg #[.int .i64 low, .slice A L.length c]] W fun e w' => ∃ A' c', e = .returned (.agg #[.int .i64 low, .slice A' L.length c']) ∧ L.length ≤ c' ∧ kF.C w' A' L.length L ∧ Below wb.heap.size wb w' from fun W hW => by
      refine (Copy_any low A c L W (hcA W hW) (by omega)).mono ?_
      intro e w' h
      obtain ⟨A', c', he, h1, h2, h3, h4⟩ := h.reads
      exact ⟨A', c', he, h1, h2, hW.trans (h4.mono hW.size)⟩)
    have HSC := Lib.hid (show ∀ W A' c', Below wb.heap.size wb W → L.length ≤ c' → kF.C W A' L.length L → Calls Tryd.prog 12 #[.agg #[.int .i64 low, .slice A' L.length c'], .agg #[.int .i64 low, .slice A L.length c]] W fun e w' => e = .returned (.bool true) ∧ Below wb.heap.size wb w' from fun W A' c' hW h1 h2 =>
      (refSame_any low A' c' L W h2 h1 (by omega) low A c L (hcA W hW) hc).mono fun e w' ⟨he, hb⟩ => ⟨he.trans (by rw [decide_eq_true (show low = low ∧ L = L from ⟨rfl, rfl⟩)]), hW.trans (hb.mono hW.size)⟩)
    obtain ⟨fo, hfo⟩ : ∃ fo, fo = fOf low L h := ⟨_, rfl⟩
    have HOF := Lib.hid (show ck = 0 → ∀ W, Below wb.heap.size wb W → Calls Tryd.prog 14 #[.agg #[.int .i64 low, .slice A L.length c], .int .u64 h] W fun e w' => e = .returned (.int .i64 fo) ∧ Below wb.heap.size wb w' from fun hz W hW => by
      obtain ⟨o1, o2, o3⟩ := HOK.out hz
      rw [hfo]
      exact (Of_any low A c L h W (hcA W hW) hc (by omega) o2 (fun x hx => (o1.2.2 x hx).1)).mono fun e w' ⟨he, hb⟩ => ⟨he, hW.trans (hb.mono hW.size)⟩)
    have HRO := Lib.hid (show ∀ W, Below wb.heap.size wb W → Calls Tryd.prog 15 #[.agg #[.int .i64 low, .slice A L.length c], .int .u64 h] W fun e w' => e = .returned (.int .i64 fo) ∧ Below wb.heap.size wb w' from fun W hW => by
      rw [hfo]
      exact (refOf_any low A c L W (hcA W hW) hc (by omega) h).mono fun e w' ⟨he, hb⟩ => ⟨he, hW.trans (hb.mono hW.size)⟩)
    have HDE := Lib.hid (show ck = 0 → ∀ W, Below wb.heap.size wb W → Calls Tryd.prog 16 #[.agg #[.int .i64 low, .slice A L.length c], .int .u64 h, .int .i64 asof] W fun e w' => e = .returned (.bool (decide (asof < fo))) ∧ Below wb.heap.size wb w' from fun hz W hW => by
      obtain ⟨o1, o2, o3⟩ := HOK.out hz
      rw [hfo]
      exact (Dead_any low A c L h asof W (hcA W hW) hc (by omega) o2 (fun x hx => (o1.2.2 x hx).1)).mono fun e w' ⟨he, hb⟩ => ⟨he, hW.trans (hb.mono hW.size)⟩)
    have HWK := Lib.hid (show ∀ W, Below wb.heap.size wb W → Calls Tryd.prog 7 #[] W fun e w' => e = .returned (.bool true) ∧ Below wb.heap.size wb w' from fun W hW =>
      (works_any W (hHG W hW)).mono fun e w' ⟨he, hb⟩ => ⟨he, hW.trans (hb.mono hW.size)⟩)
    have HX := Lib.hid (show ∀ W, Below wb.heap.size wb W → W.cell? ⟨w.heap.size, 0, none⟩ = some (.int .i64 low) ∧ W.cell? ⟨w.heap.size, 1, none⟩ = some (.slice A L.length c) ∧ W.cell? ⟨w.heap.size + 1, 0, none⟩ = some (.int .i64 lb) ∧ W.cell? ⟨w.heap.size + 1, 1, none⟩ = some (.slice B M.length d) from fun W hW => by
      have e1 := (hW.block _ (by rw [HSZ.out]; omega)).trans HK1.out
      have e2 := (hW.block _ (by rw [HSZ.out]; omega)).trans HK2.out
      exact ⟨cell_of_row W _ 0 _ _ (0, 0) e1, cell_of_row W _ 1 _ _ (0, 0) e1, cell_of_row W _ 0 _ _ (0, 0) e2, cell_of_row W _ 1 _ _ (0, 0) e2⟩)
    have HBL := Lib.hid (show ∀ W, Below wb.heap.size wb W → Below w.heap.size w W from fun W hW => HBW.out.trans (hW.mono HBW.out.size))
    clear hcA hcB hHG hsm hfo HK1 HK2 HCKE
    refine (HRC.out wb (Below.refl _ _)).mono ?_
    rintro e w2 ⟨rfl, hb2⟩
    have z0 : Hid (Below wb.heap.size wb w2.drew) := hb2.trans ((Drawn0.below ⟨1, rfl⟩).mono hb2.size)
    obtain ⟨s0, s1, s2, s3⟩ := HX.out _ hb2
    clear hb2 HRC
    go_wp2_with fail
    go_cut [43] (fun cc wx => cc = .bool false ∧ Hid (Below wb.heap.size wb wx))
    case first =>
      go_region_held3 (fun w' => w'.cell? ⟨w.heap.size, 0, none⟩ = some (.int .i64 low) ∧ w'.cell? ⟨w.heap.size, 1, none⟩ = some (.slice A L.length c) ∧ w'.cell? ⟨w.heap.size + 1, 0, none⟩ = some (.int .i64 lb) ∧ w'.cell? ⟨w.heap.size + 1, 1, none⟩ = some (.slice B M.length d))
        (first | exact ⟨s0, s1, s2, s3⟩ | exact HX.out _ z0.out | exact HX.out _ z1.out | exact HX.out _ z2.out | exact HX.out _ z3.out | exact HX.out _ z4.out | exact HX.out _ z5.out | exact HX.out _ z6.out)
        (first
        | (go_at_call 10; ((with_reducible refine (HCK.out _ z0.out).mono ?_)); rintro e y1 ⟨ev, el, rfl, hE, hb⟩; have z1 := Lib.hid hb; clear hb)
        | (go_at_call 9; ((with_reducible refine (HTO.out _ _ el z1.out hE).mono ?_)); rintro e y2 ⟨rfl, hb⟩; have z2 := Lib.hid hb; clear hb)
        | (go_at_call 11; ((with_reducible refine (HSA.out _ ?_).mono ?_)); (case refine_1 => first | exact z2.out | exact z4.out); rintro e y3 ⟨rfl, hb⟩; have z3 := Lib.hid hb; clear hb)
        | (go_at_call 12; first
          | (((with_reducible refine (HSC.out _ A5 c5 ?_ hc5 C5.out).mono ?_)); (case refine_1 => exact z5.out); rintro e y6 ⟨rfl, hb⟩; have z6 := Lib.hid hb; clear hb)
          | (((with_reducible refine (HSR.out _ ?_).mono ?_)); (case refine_1 => first | exact z3.out | exact z2.out); rintro e y4 ⟨rfl, hb⟩; have z4 := Lib.hid hb; clear hb))
        | (go_at_call 13; ((with_reducible refine (HCO.out _ ?_).mono ?_)); (case refine_1 => first | exact z4.out | exact z3.out); rintro e y5 ⟨A5, c5, rfl, hc5, hC5, hb⟩; have z5 := Lib.hid hb; have C5 := Lib.hid hC5; clear hb hC5))
      all_goals
        go_wp2_with fail
        go_meet
        exact ⟨rfl, z6⟩
    case rest =>
      obtain ⟨rfl, BX⟩ := hcut
      obtain ⟨s0, s1, s2, s3⟩ := HX.out _ BX.out
      by_cases hz : ck = 0
      · have hcb : (ck != 0) = false := by simpa using hz
        have HOF0 := Lib.hid (HOF.out hz)
        have HDE0 := Lib.hid (HDE.out hz)
        have z0 : Hid (Below wb.heap.size wb wc.drew) := BX.out.trans ((Drawn0.below ⟨1, rfl⟩).mono BX.out.size)
        clear hz HOF HDE BX
        go_wp2_with fail
        go_region_held3 (fun w' => w'.cell? ⟨w.heap.size, 0, none⟩ = some (.int .i64 low) ∧ w'.cell? ⟨w.heap.size, 1, none⟩ = some (.slice A L.length c) ∧ w'.cell? ⟨w.heap.size + 1, 0, none⟩ = some (.int .i64 lb) ∧ w'.cell? ⟨w.heap.size + 1, 1, none⟩ = some (.slice B M.length d))
          (first | exact ⟨s0, s1, s2, s3⟩ | exact HX.out _ z0.out | exact HX.out _ z1.out | exact HX.out _ z2.out | exact HX.out _ z3.out | exact HX.out _ z4.out | exact HX.out _ z5.out)
          (first
          | (go_at_call 14; ((with_reducible refine (HOF0.out _ ?_).mono ?_)); (case refine_1 => first | exact z2.out | exact z0.out); rintro e y1 ⟨rfl, hb⟩; have z1 := Lib.hid hb; clear hb)
          | (go_at_call 16; ((with_reducible refine (HDE0.out _ ?_).mono ?_)); (case refine_1 => first | exact z4.out | exact z2.out); rintro e y3 ⟨rfl, hb⟩; have z3 := Lib.hid hb; clear hb)
          | (go_at_call 15; first
            | (((with_reducible refine (HRO.out _ z3.out).mono ?_)); rintro e y4 ⟨rfl, hb⟩; have z4 := Lib.hid hb; clear hb)
            | (((with_reducible refine (HRO.out _ z1.out).mono ?_)); rintro e y2 ⟨rfl, hb⟩; have z2 := Lib.hid hb; clear hb)
            | (((with_reducible refine (HRO.out _ z0.out).mono ?_)); rintro e y2 ⟨rfl, hb⟩; have z2 := Lib.hid hb; clear hb)
            | (((with_reducible refine (HRO.out _ z2.out).mono ?_)); rintro e y4 ⟨rfl, hb⟩; have z4 := Lib.hid hb; clear hb))
          | (go_at_call 7; ((with_reducible refine (HWK.out _ ?_).mono ?_)); (case refine_1 => first | exact z4.out | exact z3.out); rintro e y5 ⟨rfl, hb⟩; have z5 := Lib.hid hb; clear hb))
        all_goals
          go_wp2_with fail
          go_ret
          exact ⟨rfl, HBL.out _ z5.out⟩
      · have hcb : (ck != 0) = true := by simpa using hz
        have HB := Lib.hid (HBL.out _ BX.out)
        clear hz
        go_wp2_with fail
        refine (HW.out _ HB.out).mono ?_
        rintro e w9 ⟨rfl, hb9⟩
        have HB9 := Lib.hid hb9
        clear hb9
        go_wp2_with fail
        go_ret
        exact ⟨rfl, HB9.out⟩
  · have hd : decide (100 < (L.length : Int)) = true ∨ (decide (100 < (L.length : Int)) = false ∧ decide (100 < (M.length : Int)) = true) := by
      by_cases h1 : 100 < L.length
      · exact .inl (decide_eq_true (by omega))
      · exact .inr ⟨decide_eq_false (by omega), decide_eq_true (by omega)⟩
    clear hgd
    rcases hd with d1 | ⟨d1, d2⟩
    all_goals
      go_enter Tryd.func3, Tryd.ntmps3
      go_wp2_with fail
      refine (HW.out _ ((bel_alloc w _).trans ((bel_alloc _ _).mono (by simp)))).mono ?_
      rintro e w9 ⟨rfl, hb9⟩
      have HB := Lib.hid hb9
      clear hb9
      go_wp2_with fail
      go_ret
      exact ⟨rfl, HB.out⟩
end Go.Proofs.YtmoiochblmdgfaaDoor
