/- The law FloorsChecks, at every input. Floors: what holds of raised, lifted, released floors. The law FloorsDoes, at every input. -/
import Derived.Test.YtmoiochblmdgfaaDoorG4
namespace Go.Proofs.YtmoiochblmdgfaaDoor
set_option linter.unusedVariables false
set_option linter.unusedSimpArgs false
open Go.RowKit Go.Proofs.YtmoiochblmdgfaaDoorW.PrintWords
attribute [local go_sem ↓] Go.wp_at_zero Go.wp_at_succ

theorem works_below {w w1 : World} (hg : HG w) (hb : Below w.heap.size w w1) : Calls Tryd.prog 7 #[] w1 fun e w' => e = .returned (.bool true) ∧ Below w.heap.size w w' :=
  (works_any w1 (hg.below' hb (hg_pos hg))).mono fun e w' ⟨he, h⟩ => ⟨he, hb.trans (h.mono hb.size)⟩

set_option maxHeartbeats 8000000 in
set_option maxRecDepth 100000 in
theorem checks_law (low : Int) (A : Option Addr) (c : Nat) (L : List Fl) (lb : Int) (B : Option Addr) (d : Nat) (M : List Fl) (h asof : Int) (w : World) (hc : L.length ≤ c) (hC : kF.C w A L.length L) (hd : M.length ≤ d) (hD : kF.C w B M.length M) (hg : HG w) :
    Calls Tryd.prog 3 #[.agg #[.int .i64 low, .slice A L.length c], .agg #[.int .i64 lb, .slice B M.length d], .int .u64 h, .int .i64 asof] w fun e w' => e = .returned (.bool true) ∧ Below w.heap.size w w' := by
  have HW := Lib.hid (fun W hW => works_below (w1 := W) hg hW)
  have h0 := Lib.hid (hg_pos hg)
  have HH := Lib.hid hg
  have HC := Lib.hid hC
  have HD := Lib.hid hD
  clear hg hC hD
  by_cases hgd : L.length ≤ 100 ∧ M.length ≤ 100
  · obtain ⟨g1, g2⟩ := hgd
    have d1 : decide (100 < (L.length : Int)) = false := decide_eq_false (by omega)
    have d2 : decide (100 < (M.length : Int)) = false := decide_eq_false (by omega)
    obtain ⟨ck, hck⟩ : ∃ ck, ck = chk low L := ⟨_, rfl⟩
    have HCKE := Lib.hid hck
    have HOK := Lib.hid (fun e : ck = 0 => chk_ok (hck.symm.trans e))
    clear hck
    go_enter Tryd.func3, Tryd.ntmps3
    go_wp2_with fail
    have hk1 : ((w.alloc (.cells #[.int .i64 low, .slice A L.length c] 24)).alloc (.cells #[.int .i64 lb, .slice B M.length d] 24)).heap[w.heap.size]? = some (.cells #[.int .i64 low, .slice A L.length c] 24 (0, 0)) :=
      (Below.heap_alloc _ _ _ (by simp)).trans (heap_alloc_new _ _)
    have hk2 : ((w.alloc (.cells #[.int .i64 low, .slice A L.length c] 24)).alloc (.cells #[.int .i64 lb, .slice B M.length d] 24)).heap[w.heap.size + 1]? = some (.cells #[.int .i64 lb, .slice B M.length d] 24 (0, 0)) := by
      have := heap_alloc_new (w.alloc (.cells #[.int .i64 low, .slice A L.length c] 24)) (.cells #[.int .i64 lb, .slice B M.length d] 24)
      rw [show (w.alloc (.cells #[.int .i64 low, .slice A L.length c] 24)).heap.size = w.heap.size + 1 by simp] at this
      exact this
    have hbw : Below w.heap.size w ((w.alloc (.cells #[.int .i64 low, .slice A L.length c] 24)).alloc (.cells #[.int .i64 lb, .slice B M.length d] 24)) := (bel_alloc w _).trans ((bel_alloc _ _).mono (by simp))
    have hsz : ((w.alloc (.cells #[.int .i64 low, .slice A L.length c] 24)).alloc (.cells #[.int .i64 lb, .slice B M.length d] 24)).heap.size = w.heap.size + 2 := by simp
    have HK1 := Lib.hid hk1
    have HK2 := Lib.hid hk2
    have HBW := Lib.hid hbw
    have HSZ := Lib.hid hsz
    clear hk1 hk2 hbw hsz
    generalize (w.alloc (.cells #[.int .i64 low, .slice A L.length c] 24)).alloc (.cells #[.int .i64 lb, .slice B M.length d] 24) = wb at *
    have hcA : ∀ W, Below wb.heap.size wb W → kF.C W A L.length L := fun W hW => Kd.C_below HC.out (HBW.out.trans (hW.mono HBW.out.size))
    have hcB : ∀ W, Below wb.heap.size wb W → kF.C W B M.length M := fun W hW => Kd.C_below HD.out (HBW.out.trans (hW.mono HBW.out.size))
    have hHG : ∀ W, Below wb.heap.size wb W → HG W := fun W hW => HG.below' HH.out (HBW.out.trans (hW.mono HBW.out.size)) h0.out
    have HRC := Lib.hid (show ∀ W, Below wb.heap.size wb W → Calls Tryd.prog 8 #[.agg #[.int .i64 low, .slice A L.length c]] W fun e w' => e = .returned (.int .i64 ck) ∧ Below wb.heap.size wb w' from fun W hW => by
      rw [HCKE.out]
      exact (refCheck_any low A c L W (hcA W hW) hc (by omega)).mono fun e w' ⟨he, hb⟩ => ⟨he, hW.trans (hb.mono hW.size)⟩)
    have HCK := Lib.hid (show ∀ W, Below wb.heap.size wb W → Calls Tryd.prog 10 #[.agg #[.int .i64 low, .slice A L.length c]] W fun e w' => ∃ ev l, e = .returned ev ∧ Hid (ErrIs w' ev l ∧ codeOf l = ck ∧ HG w') ∧ Below wb.heap.size wb w' from fun W hW => by
      refine (Check_any low A c L W (hcA W hW) hc (by omega)).mono ?_
      rintro e w' ⟨ev, l, he, h1, h2, h3⟩
      exact ⟨ev, l, he, ⟨h1, h2.trans HCKE.out.symm, hHG _ (hW.trans (h3.mono hW.size))⟩, hW.trans (h3.mono hW.size)⟩)
    have HTO := Lib.hid (show ∀ W ev l, Below wb.heap.size wb W → Hid (ErrIs W ev l ∧ codeOf l = ck ∧ HG W) → Calls Tryd.prog 9 #[ev] W fun e w' => e = .returned (.int .i64 ck) ∧ Below wb.heap.size wb w' from fun W ev l hW h => by
      have h1 := of_code ev l W h.out.1 h.out.2.2
      rw [h.out.2.1] at h1
      exact h1.mono fun e w' ⟨he, hb⟩ => ⟨he, hW.trans (hb.mono hW.size)⟩)
    obtain ⟨sm, hsm⟩ : ∃ sm, sm = decide (low = lb ∧ L = M) := ⟨_, rfl⟩
    have HSA := Lib.hid (show ∀ W, Below wb.heap.size wb W → Calls Tryd.prog 11 #[.agg #[.int .i64 low, .slice A L.length c], .agg #[.int .i64 lb, .slice B M.length d]] W fun e w' => e = .returned (.bool sm) ∧ Below wb.heap.size wb w' from fun W hW => by
      rw [hsm]
      exact (same_any low A c L W (hcA W hW) hc (by omega) lb B d M (hcB W hW) hd).mono fun e w' ⟨he, hb⟩ => ⟨he, hW.trans (hb.mono hW.size)⟩)
    have HSR := Lib.hid (show ∀ W, Below wb.heap.size wb W → Calls Tryd.prog 12 #[.agg #[.int .i64 low, .slice A L.length c], .agg #[.int .i64 lb, .slice B M.length d]] W fun e w' => e = .returned (.bool sm) ∧ Below wb.heap.size wb w' from fun W hW => by
      rw [hsm]
      exact (refSame_any low A c L W (hcA W hW) hc (by omega) lb B d M (hcB W hW) hd).mono fun e w' ⟨he, hb⟩ => ⟨he, hW.trans (hb.mono hW.size)⟩)
    have HCO := Lib.hid (show ∀ W, Below wb.heap.size wb W → Calls Tryd.prog 13 #[.agg #[.int .i64 low, .slice A L.length c]] W fun e w' => ∃ A' c', e = .returned (.agg #[.int .i64 low, .slice A' L.length c']) ∧ L.length ≤ c' ∧ kF.C w' A' L.length L ∧ Below wb.heap.size wb w' from fun W hW => by
      refine (Copy_any low A c L W (hcA W hW) (by omega)).mono ?_
      intro e w' h
      obtain ⟨A', c', he, h1, h2, h3, h4⟩ := h.reads
      exact ⟨A', c', he, h1, h2, hW.trans (h4.mono hW.size)⟩)
    have HSC := Lib.hid (show ∀ W A' c', Below wb.heap.size wb W → L.length ≤ c' → kF.C W A' L.length L → Calls Tryd.prog 12 #[.agg #[.int .i64 low, .slice A' L.length c'], .agg #[.int .i64 low, .slice A L.length c]] W fun e w' => e = .returned (.bool true) ∧ Below wb.heap.size wb w' from fun W A' c' hW h1 h2 =>
      (refSame_any low A' c' L W h2 h1 (by omega) low A c L (hcA W hW) hc).mono fun e w' ⟨he, hb⟩ => ⟨he.trans (by rw [decide_eq_true (show low = low ∧ L = L from ⟨rfl, rfl⟩)]), hW.trans (hb.mono hW.size)⟩)
    obtain ⟨fo, hfo⟩ : ∃ fo, fo = fOf low L h := ⟨_, rfl⟩
    have HOF := Lib.hid (show ck = 0 → ∀ W, Below wb.heap.size wb W → Calls Tryd.prog 14 #[.agg #[.int .i64 low, .slice A L.length c], .int .u64 h] W fun e w' => e = .returned (.int .i64 fo) ∧ Below wb.heap.size wb w' from fun hz W hW => by
      obtain ⟨o1, o2, o3⟩ := HOK.out hz
      rw [hfo]
      exact (Of_any low A c L h W (hcA W hW) hc (by omega) o2 (fun x hx => (o1.2.2 x hx).1)).mono fun e w' ⟨he, hb⟩ => ⟨he, hW.trans (hb.mono hW.size)⟩)
    have HRO := Lib.hid (show ∀ W, Below wb.heap.size wb W → Calls Tryd.prog 15 #[.agg #[.int .i64 low, .slice A L.length c], .int .u64 h] W fun e w' => e = .returned (.int .i64 fo) ∧ Below wb.heap.size wb w' from fun W hW => by
      rw [hfo]
      exact (refOf_any low A c L W (hcA W hW) hc (by omega) h).mono fun e w' ⟨he, hb⟩ => ⟨he, hW.trans (hb.mono hW.size)⟩)
    have HDE := Lib.hid (show ck = 0 → ∀ W, Below wb.heap.size wb W → Calls Tryd.prog 16 #[.agg #[.int .i64 low, .slice A L.length c], .int .u64 h, .int .i64 asof] W fun e w' => e = .returned (.bool (decide (asof < fo))) ∧ Below wb.heap.size wb w' from fun hz W hW => by
      obtain ⟨o1, o2, o3⟩ := HOK.out hz
      rw [hfo]
      exact (Dead_any low A c L h asof W (hcA W hW) hc (by omega) o2 (fun x hx => (o1.2.2 x hx).1)).mono fun e w' ⟨he, hb⟩ => ⟨he, hW.trans (hb.mono hW.size)⟩)
    have HWK := Lib.hid (show ∀ W, Below wb.heap.size wb W → Calls Tryd.prog 7 #[] W fun e w' => e = .returned (.bool true) ∧ Below wb.heap.size wb w' from fun W hW =>
      (works_any W (hHG W hW)).mono fun e w' ⟨he, hb⟩ => ⟨he, hW.trans (hb.mono hW.size)⟩)
    have HX := Lib.hid (show ∀ W, Below wb.heap.size wb W → W.cell? ⟨w.heap.size, 0, none⟩ = some (.int .i64 low) ∧ W.cell? ⟨w.heap.size, 1, none⟩ = some (.slice A L.length c) ∧ W.cell? ⟨w.heap.size + 1, 0, none⟩ = some (.int .i64 lb) ∧ W.cell? ⟨w.heap.size + 1, 1, none⟩ = some (.slice B M.length d) from fun W hW => by
      have e1 := (hW.block _ (by rw [HSZ.out]; omega)).trans HK1.out
      have e2 := (hW.block _ (by rw [HSZ.out]; omega)).trans HK2.out
      exact ⟨cell_of_row W _ 0 _ _ (0, 0) e1, cell_of_row W _ 1 _ _ (0, 0) e1, cell_of_row W _ 0 _ _ (0, 0) e2, cell_of_row W _ 1 _ _ (0, 0) e2⟩)
    have HBL := Lib.hid (show ∀ W, Below wb.heap.size wb W → Below w.heap.size w W from fun W hW => HBW.out.trans (hW.mono HBW.out.size))
    clear hcA hcB hHG hsm hfo HK1 HK2 HCKE
    refine (HRC.out wb (Below.refl _ _)).mono ?_
    rintro e w2 ⟨rfl, hb2⟩
    have z0 : Hid (Below wb.heap.size wb w2.drew) := hb2.trans ((Drawn0.below ⟨1, rfl⟩).mono hb2.size)
    obtain ⟨s0, s1, s2, s3⟩ := HX.out _ hb2
    clear hb2 HRC
    go_wp2_with fail
    go_cut [43] (fun cc wx => cc = .bool false ∧ Hid (Below wb.heap.size wb wx))
    case first =>
      go_region_held3 (fun w' => w'.cell? ⟨w.heap.size, 0, none⟩ = some (.int .i64 low) ∧ w'.cell? ⟨w.heap.size, 1, none⟩ = some (.slice A L.length c) ∧ w'.cell? ⟨w.heap.size + 1, 0, none⟩ = some (.int .i64 lb) ∧ w'.cell? ⟨w.heap.size + 1, 1, none⟩ = some (.slice B M.length d))
        (first | exact ⟨s0, s1, s2, s3⟩ | exact HX.out _ z0.out | exact HX.out _ z1.out | exact HX.out _ z2.out | exact HX.out _ z3.out | exact HX.out _ z4.out | exact HX.out _ z5.out | exact HX.out _ z6.out)
        (first
        | (go_at_call 10; ((with_reducible refine (HCK.out _ z0.out).mono ?_)); rintro e y1 ⟨ev, el, rfl, hE, hb⟩; have z1 := Lib.hid hb; clear hb)
        | (go_at_call 9; ((with_reducible refine (HTO.out _ _ el z1.out hE).mono ?_)); rintro e y2 ⟨rfl, hb⟩; have z2 := Lib.hid hb; clear hb)
        | (go_at_call 11; ((with_reducible refine (HSA.out _ ?_).mono ?_)); (case refine_1 => first | exact z2.out | exact z4.out); rintro e y3 ⟨rfl, hb⟩; have z3 := Lib.hid hb; clear hb)
        | (go_at_call 12; first
          | (((with_reducible refine (HSC.out _ A5 c5 ?_ hc5 C5.out).mono ?_)); (case refine_1 => exact z5.out); rintro e y6 ⟨rfl, hb⟩; have z6 := Lib.hid hb; clear hb)
          | (((with_reducible refine (HSR.out _ ?_).mono ?_)); (case refine_1 => first | exact z3.out | exact z2.out); rintro e y4 ⟨rfl, hb⟩; have z4 := Lib.hid hb; clear hb))
        | (go_at_call 13; ((with_reducible refine (HCO.out _ ?_).mono ?_)); (case refine_1 => first | exact z4.out | exact z3.out); rintro e y5 ⟨A5, c5, rfl, hc5, hC5, hb⟩; have z5 := Lib.hid hb; have C5 := Lib.hid hC5; clear hb hC5))
      all_goals
        go_wp2_with fail
        go_meet
        exact ⟨rfl, z6⟩
    case rest =>
      obtain ⟨rfl, BX⟩ := hcut
      obtain ⟨s0, s1, s2, s3⟩ := HX.out _ BX.out
      by_cases hz : ck = 0
      · have hcb : (ck != 0) = false := by simpa using hz
        have HOF0 := Lib.hid (HOF.out hz)
        have HDE0 := Lib.hid (HDE.out hz)
        have z0 : Hid (Below wb.heap.size wb wc.drew) := BX.out.trans ((Drawn0.below ⟨1, rfl⟩).mono BX.out.size)
        clear hz HOF HDE BX
        go_wp2_with fail
        go_region_held3 (fun w' => w'.cell? ⟨w.heap.size, 0, none⟩ = some (.int .i64 low) ∧ w'.cell? ⟨w.heap.size, 1, none⟩ = some (.slice A L.length c) ∧ w'.cell? ⟨w.heap.size + 1, 0, none⟩ = some (.int .i64 lb) ∧ w'.cell? ⟨w.heap.size + 1, 1, none⟩ = some (.slice B M.length d))
          (first | exact ⟨s0, s1, s2, s3⟩ | exact HX.out _ z0.out | exact HX.out _ z1.out | exact HX.out _ z2.out | exact HX.out _ z3.out | exact HX.out _ z4.out | exact HX.out _ z5.out)
          (first
          | (go_at_call 14; ((with_reducible refine (HOF0.out _ ?_).mono ?_)); (case refine_1 => first | exact z2.out | exact z0.out); rintro e y1 ⟨rfl, hb⟩; have z1 := Lib.hid hb; clear hb)
          | (go_at_call 16; ((with_reducible refine (HDE0.out _ ?_).mono ?_)); (case refine_1 => first | exact z4.out | exact z2.out); rintro e y3 ⟨rfl, hb⟩; have z3 := Lib.hid hb; clear hb)
          | (go_at_call 15; first
            | (((with_reducible refine (HRO.out _ z3.out).mono ?_)); rintro e y4 ⟨rfl, hb⟩; have z4 := Lib.hid hb; clear hb)
            | (((with_reducible refine (HRO.out _ z1.out).mono ?_)); rintro e y2 ⟨rfl, hb⟩; have z2 := Lib.hid hb; clear hb)
            | (((with_reducible refine (HRO.out _ z0.out).mono ?_)); rintro e y2 ⟨rfl, hb⟩; have z2 := Lib.hid hb; clear hb)
            | (((with_reducible refine (HRO.out _ z2.out).mono ?_)); rintro e y4 ⟨rfl, hb⟩; have z4 := Lib.hid hb; clear hb))
          | (go_at_call 7; ((with_reducible refine (HWK.out _ ?_).mono ?_)); (case refine_1 => first | exact z4.out | exact z3.out); rintro e y5 ⟨rfl, hb⟩; have z5 := Lib.hid hb; clear hb))
        all_goals
          go_wp2_with fail
          go_ret
          exact ⟨rfl, HBL.out _ z5.out⟩
      · have hcb : (ck != 0) = true := by simpa using hz
        have HB := Lib.hid (HBL.out _ BX.out)
        clear hz
        go_wp2_with fail
        refine (HW.out _ HB.out).mono ?_
        rintro e w9 ⟨rfl, hb9⟩
        have HB9 := Lib.hid hb9
        clear hb9
        go_wp2_with fail
        go_ret
        exact ⟨rfl, HB9.out⟩
  · have hd : decide (100 < (L.length : Int)) = true ∨ (decide (100 < (L.length : Int)) = false ∧ decide (100 < (M.length : Int)) = true) := by
      by_cases h1 : 100 < L.length
      · exact .inl (decide_eq_true (by omega))
      · exact .inr ⟨decide_eq_false (by omega), decide_eq_true (by omega)⟩
    clear hgd
    rcases hd with d1 | ⟨d1, d2⟩
    all_goals
      go_enter Tryd.func3, Tryd.ntmps3
      go_wp2_with fail
      refine (HW.out _ ((bel_alloc w _).trans ((bel_alloc _ _).mono (by simp)))).mono ?_
      rintro e w9 ⟨rfl, hb9⟩
      have HB := Lib.hid hb9
      clear hb9
      go_wp2_with fail
      go_ret
      exact ⟨rfl, HB.out⟩
end Go.Proofs.YtmoiochblmdgfaaDoor
namespace Go.Proofs.YtmoiochblmdgfaaDoor
set_option linter.unusedVariables false
open Go.RowKit Go.Proofs.YtmoiochblmdgfaaDoorW.PrintWords

theorem fOf_cons (low : Int) (x : Fl) (r : List Fl) (h : Int) : fOf low (x :: r) h = if x.f0 = h then x.f1 else fOf low r h := rfl
theorem put_nil (h n : Int) : putL [] h n = [⟨h, n⟩] := rfl
theorem ris_put {h n : Int} : ∀ {L : List Fl}, Ris L → Ris (putL L h n)
  | [], _ => by rw [put_nil]; exact List.pairwise_singleton _ _
  | x :: r, hR => by
    obtain ⟨h1, h2⟩ := List.pairwise_cons.1 hR
    rw [put_cons]
    split
    · refine List.Pairwise.cons (fun y hy => ?_) (ris_put h2)
      rcases put_mem hy with h3 | rfl
      · exact h1 y h3
      · assumption
    · split
      · rename_i e1 e2
        exact List.Pairwise.cons (fun y hy => by have := h1 y hy; show h < y.f0; omega) h2
      · rename_i e1 e2
        refine List.Pairwise.cons (fun y hy => ?_) hR
        rcases List.mem_cons.1 hy with rfl | hy
        · show h < y.f0; omega
        · have := h1 y hy
          show h < y.f0
          omega
theorem ris_lift {up : Int} {L : List Fl} (h : Ris L) : Ris (liftL up L) := List.Pairwise.filter _ h
theorem ris_rel {h : Int} {L : List Fl} (hR : Ris L) : Ris (relL L h) := List.Pairwise.filter _ hR
theorem fOf_put (low h n h' : Int) : ∀ (L : List Fl), Ris L → fOf low (putL L h n) h' = if h = h' then n else fOf low L h'
  | [], _ => rfl
  | x :: r, hR => by
    obtain ⟨h1, h2⟩ := List.pairwise_cons.1 hR
    rw [put_cons, fOf_cons]
    by_cases e : x.f0 < h
    · rw [if_pos e, fOf_cons, fOf_put low h n h' r h2]
      by_cases e2 : x.f0 = h'
      · rw [if_pos e2, if_pos e2, if_neg (by omega)]
      · rw [if_neg e2, if_neg e2]
    · rw [if_neg e]
      by_cases e2 : x.f0 = h
      · rw [if_pos e2, fOf_cons]
        dsimp only
        by_cases e3 : h = h'
        · rw [if_pos e3, if_pos e3]
        · rw [if_neg e3, if_neg e3, if_neg (by omega)]
      · rw [if_neg e2, fOf_cons]
        dsimp only
        by_cases e3 : h = h'
        · rw [if_pos e3, if_pos e3]
        · rw [if_neg e3, if_neg e3, fOf_cons]
theorem fOf_lift {low up : Int} (hu : low ≤ up) (h : Int) : ∀ (L : List Fl), fOf low L h ≤ fOf up (liftL up L) h
  | [] => hu
  | x :: r => by
    have ih := fOf_lift hu h r
    have hg : up ≤ fOf up (liftL up r) h := fOf_ge (fun y hy => of_decide_eq_true (List.mem_filter.1 hy).2) h
    rw [liftL_cons, fOf_cons]
    by_cases e : up < x.f1
    · rw [if_pos e, fOf_cons]
      by_cases e2 : x.f0 = h
      · rw [if_pos e2, if_pos e2]
        exact Int.le_refl _
      · rw [if_neg e2, if_neg e2]
        exact ih
    · rw [if_neg e]
      by_cases e2 : x.f0 = h
      · rw [if_pos e2]
        omega
      · rw [if_neg e2]
        exact ih
theorem up_ge {low : Int} (n : Int) : low ≤ upP low n := by unfold upP; omega
theorem trim_ok (k : Nat) (h : Int) : ∀ (n : Nat) (low : Int) (L : List Fl), BL low L → Ris L → L.length ≤ n + k →
    BL (trimF n k low L).1 (trimF n k low L).2 ∧ Ris (trimF n k low L).2 ∧ (trimF n k low L).2.length ≤ k ∧ fOf low L h ≤ fOf (trimF n k low L).1 (trimF n k low L).2 h
  | 0, low, L, h1, h2, h3 => ⟨h1, h2, by simpa [trimF] using h3, Int.le_refl _⟩
  | n + 1, low, L, h1, h2, h3 => by
    rw [trimF]
    by_cases e : k < L.length
    · rw [if_pos e]
      have h4 := lift_lt h1 (by omega)
      obtain ⟨i1, i2, i3, i4⟩ := trim_ok k h n (upP low (minL L)) (liftL (upP low (minL L)) L) (BL_lift h1 _) (ris_lift h2) (by omega)
      exact ⟨i1, i2, i3, Int.le_trans (fOf_lift (up_ge _) h L) i4⟩
    · rw [if_neg e]
      exact ⟨h1, h2, by dsimp only; omega, Int.le_refl _⟩
/-- Floors that may be. -/
def OKF (low : Int) (L : List Fl) : Prop := BL low L ∧ Ris L ∧ L.length ≤ 12
theorem OKF.chk {low : Int} {L : List Fl} (h : OKF low L) : chk low L = 0 := chk_mk h.1 h.2.1 h.2.2
theorem okf_of {low : Int} {L : List Fl} (h : chk low L = 0) : OKF low L := chk_ok h
theorem kOf_le (limit : Int) : kOf limit ≤ 12 := by unfold kOf; omega
theorem raise_ok {low : Int} {L : List Fl} (hk : OKF low L) (h at_ limit ask : Int) :
    OKF (raiseP low L h at_ limit).1 (raiseP low L h at_ limit).2 ∧ ((raiseP low L h at_ limit).2.length ≤ L.length ∨ (raiseP low L h at_ limit).2.length ≤ kOf limit) ∧
      fOf low L ask ≤ fOf (raiseP low L h at_ limit).1 (raiseP low L h at_ limit).2 ask ∧ min at_ 1099511627776 ≤ fOf (raiseP low L h at_ limit).1 (raiseP low L h at_ limit).2 h := by
  obtain ⟨h1, h2, h3⟩ := hk
  unfold raiseP
  by_cases e : min at_ 1099511627776 ≤ fOf low L h
  · rw [if_pos e]
    exact ⟨⟨h1, h2, h3⟩, .inl (Nat.le_refl _), Int.le_refl _, e⟩
  · rw [if_neg e]
    have hg := fOf_ge (fun y hy => (h1.2.2 y hy).1) h
    have hb := BL_put h1 (h := h) (n := min at_ 1099511627776) (by omega) (by omega)
    have hl := put_len L h (min at_ 1099511627776)
    have hr : Ris (putL L h (min at_ 1099511627776)) := ris_put h2
    obtain ⟨i1, i2, i3, i4⟩ := trim_ok (kOf limit) ask (L.length + 1) low _ hb hr (by omega)
    obtain ⟨_, _, _, j4⟩ := trim_ok (kOf limit) h (L.length + 1) low _ hb hr (by omega)
    rw [fOf_put low h _ ask L h2] at i4
    rw [fOf_put low h _ h L h2, if_pos rfl] at j4
    refine ⟨⟨i1, i2, Nat.le_trans i3 (kOf_le _)⟩, .inr i3, ?_, j4⟩
    by_cases e2 : h = ask
    · subst e2
      rw [if_pos rfl] at i4
      omega
    · rw [if_neg e2] at i4
      exact i4
theorem lift_ok {low : Int} {L : List Fl} (hk : OKF low L) (n : Int) : OKF (upP low n) (liftL (upP low n) L) :=
  ⟨BL_lift hk.1 n, ris_lift hk.2.1, Nat.le_trans (List.length_filter_le _ _) hk.2.2⟩
theorem rel_ok {low : Int} {L : List Fl} (hk : OKF low L) (h : Int) : OKF low (relL L h) :=
  ⟨⟨hk.1.1, hk.1.2.1, fun x hx => hk.1.2.2 x (List.mem_filter.1 hx).1⟩, ris_rel hk.2.1, Nat.le_trans (List.length_filter_le _ _) hk.2.2⟩
end Go.Proofs.YtmoiochblmdgfaaDoor
namespace Go.Proofs.YtmoiochblmdgfaaDoor
set_option linter.unusedVariables false
set_option linter.unusedSimpArgs false
open Go.RowKit Go.Proofs.YtmoiochblmdgfaaDoorW.PrintWords
attribute [local go_sem ↓] Go.wp_at_zero Go.wp_at_succ

/-- Floors in a cell of their own. -/
structure FB (W : World) (b : Nat) (low : Int) (A : Option Addr) (c : Nat) (L : List Fl) : Prop where
  blk : W.heap[b]? = some (.cells #[.int .i64 low, .slice A L.length c] 24 (0, 0))
  cap : L.length ≤ c
  rd : kF.C W A L.length L
theorem FB.lt {W : World} {b : Nat} {low : Int} {A : Option Addr} {c : Nat} {L : List Fl} (h : FB W b low A c L) : b < W.heap.size := (Array.getElem?_eq_some_iff.1 h.blk).1
theorem FB.later {W W' : World} {b : Nat} {low : Int} {A : Option Addr} {c : Nat} {L : List Fl} (h : FB W b low A c L) (hb : Below W.heap.size W W') : FB W' b low A c L :=
  ⟨(hb.block b h.lt).trans h.blk, h.cap, Kd.C_below h.rd hb⟩
theorem FB.cells {W : World} {b : Nat} {low : Int} {A : Option Addr} {c : Nat} {L : List Fl} (h : FB W b low A c L) : W.cell? ⟨b, 0, none⟩ = some (.int .i64 low) ∧ W.cell? ⟨b, 1, none⟩ = some (.slice A L.length c) :=
  ⟨cell_of_row W _ 0 _ _ (0, 0) h.blk, cell_of_row W _ 1 _ _ (0, 0) h.blk⟩
theorem FB.box {W : World} {low : Int} {A : Option Addr} {c : Nat} {L : List Fl} (hc : L.length ≤ c) (hC : kF.C W A L.length L) : FB (W.alloc (.cells #[.int .i64 low, .slice A L.length c] 24)) W.heap.size low A c L :=
  ⟨heap_alloc_new _ _, hc, Kd.C_below hC (bel_alloc _ _)⟩
section
variable {W : World} {b : Nat} {low : Int} {A : Option Addr} {c : Nat} {L : List Fl} (h : FB W b low A c L) (hL : L.length < 900)
include h hL
theorem FB.refCheck : Calls Tryd.prog 8 #[.agg #[.int .i64 low, .slice A L.length c]] W fun e w' => e = .returned (.int .i64 (chk low L)) ∧ Below W.heap.size W w' := refCheck_any low A c L W h.rd h.cap (by omega)
theorem FB.refLift (n : Int) (h1 : low ≤ 1099511627776) : Calls Tryd.prog 21 #[.agg #[.int .i64 low, .slice A L.length c], .int .i64 n] W (FlRd W (upP low n) (liftL (upP low n) L)) := by
  refine (refLift_any low A c L W h.rd h.cap (by omega) n h1).mono ?_
  rintro e w' ⟨v, he, hr, hb⟩
  obtain ⟨A', c', rfl, h2, h3⟩ := Kd.R_reads hr
  exact ⟨A', c', he, h2, h3, hb⟩
theorem FB.lift (n : Int) : Calls Tryd.prog 18 #[.agg #[.int .i64 low, .slice A L.length c], .int .i64 n] W (FlRd W (upP low n) (liftL (upP low n) L)) := by
  refine (lift_any low A c L W h.rd h.cap (by omega) n).mono ?_
  rintro e w' ⟨v, he, hr, hb⟩
  obtain ⟨A', c', rfl, h2, h3⟩ := Kd.R_reads hr
  exact ⟨A', c', he, h2, h3, hb⟩
theorem FB.refRel (k : Int) : Calls Tryd.prog 22 #[.agg #[.int .i64 low, .slice A L.length c], .int .u64 k] W (FlRd W low (relL L k)) := by
  refine (refRel_any low A c L W h.rd h.cap (by omega) k).mono ?_
  rintro e w' ⟨v, he, hr, hb⟩
  obtain ⟨A', c', rfl, h2, h3⟩ := Kd.R_reads hr
  exact ⟨A', c', he, h2, h3, hb⟩
theorem FB.rel (hR : Ris L) (k : Int) : Calls Tryd.prog 19 #[.agg #[.int .i64 low, .slice A L.length c], .int .u64 k] W (FlRd W low (relL L k)) := by
  have h1 := Rel_any low A c L k W h.rd (by omega) hR
  rw [del_rel k L hR] at h1
  exact h1.mono fun e w' hp => hp.rd
theorem FB.raise (hR : Ris L) (hB : BL low L) (k at_ limit : Int) : Calls Tryd.prog 17 #[.agg #[.int .i64 low, .slice A L.length c], .int .u64 k, .int .i64 at_, .int .i64 limit] W (FlRd W (raiseP low L k at_ limit).1 (raiseP low L k at_ limit).2) :=
  (Raise_any low A c L k at_ limit W h.rd h.cap hL hR hB).mono fun e w' hp => hp.rd
theorem FB.refRaise (hR : Ris L) (hB : BL low L) (k at_ limit : Int) : Calls Tryd.prog 20 #[.agg #[.int .i64 low, .slice A L.length c], .int .u64 k, .int .i64 at_, .int .i64 limit] W (FlRd W (raiseP low L k at_ limit).1 (raiseP low L k at_ limit).2) :=
  refRaise_any low A c L k at_ limit W h.rd h.cap hL hR hB
theorem FB.of (hR : Ris L) (hB : BL low L) (k : Int) : Calls Tryd.prog 14 #[.agg #[.int .i64 low, .slice A L.length c], .int .u64 k] W fun e w' => e = .returned (.int .i64 (fOf low L k)) ∧ Below W.heap.size W w' :=
  Of_any low A c L k W h.rd h.cap (by omega) hR (fun x hx => (hB.2.2 x hx).1)
end

theorem refCheck_f2 (low : Int) (L : List Fl) : PR.butteryref16_Check.f (2 * L.length + 5) low L = some (chk low L) := by
  rcases Nat.lt_or_ge L.length 1000 with hL | hL
  · exact refCheck_f low L hL
  · unfold PR.butteryref16_Check.f chk
    by_cases h1 : low < 0
    · rw [if_pos h1, if_pos (.inl h1), PR.butteryref16_Check.j0, if_pos rfl]
    · rw [if_neg h1, PR.butteryref16_Check.j0]
      by_cases h2 : low > 1099511627776
      · rw [if_pos (by simpa using h2), if_pos (.inr h2)]
      · rw [if_neg (by simpa using h2), if_neg (show ¬ (low < 0 ∨ 1099511627776 < low) from fun h => h.elim h1 h2), if_pos (show (L.length : Int) > 12 by omega), if_pos (show 12 < L.length by omega)]
theorem refCheck_all (low : Int) (A : Option Addr) (c : Nat) (L : List Fl) (w : World) (hC : kF.C w A L.length L) (hc : L.length ≤ c) : Calls Tryd.prog 8 #[.agg #[.int .i64 low, .slice A L.length c]] w fun e w' => e = .returned (.int .i64 (chk low L)) ∧ Below w.heap.size w w' :=
  PR.butteryref16_Check.calls _ low A c L _ w hC hc (refCheck_f2 low L)

set_option maxHeartbeats 8000000 in
set_option maxRecDepth 100000 in
theorem does_law (low : Int) (A : Option Addr) (c : Nat) (L : List Fl) (h at_ limit : Int) (w : World) (hc : L.length ≤ c) (hC : kF.C w A L.length L) (hg : HG w) :
    Calls Tryd.prog 4 #[.agg #[.int .i64 low, .slice A L.length c], .int .u64 h, .int .i64 at_, .int .i64 limit] w fun e w' => e = .returned (.bool true) ∧ Below w.heap.size w w' := by
  have HW := Lib.hid (fun W hW => works_below (w1 := W) hg hW)
  have h0 := Lib.hid (hg_pos hg)
  have HH := Lib.hid hg
  have HC := Lib.hid hC
  have F0 := Lib.hid (FB.box (low := low) hc hC)
  have B0 := Lib.hid (bel_alloc w (.cells #[.int .i64 low, .slice A L.length c] 24))
  have HRC := Lib.hid (refCheck_all low A c L _ F0.out.rd hc)
  obtain ⟨c0, c1⟩ := F0.out.cells
  have hsz : (w.alloc (.cells #[.int .i64 low, .slice A L.length c] 24)).heap.size = w.heap.size + 1 := by simp
  have HSZ := Lib.hid hsz
  clear hg hC hsz
  go_enter Tryd.func4, Tryd.ntmps4
  go_wp2_with fail
  generalize w.alloc (.cells #[.int .i64 low, .slice A L.length c] 24) = w1 at *
  refine HRC.out.mono ?_
  rintro e w2 ⟨rfl, hb2⟩
  have F2 := Lib.hid (F0.out.later hb2)
  have B2 := Lib.hid (B0.out.trans (hb2.mono B0.out.size))
  have hlt2 : w.heap.size < w2.heap.size := F2.out.lt
  obtain ⟨d0, d1⟩ := F2.out.cells
  clear hb2 HRC c0 c1 F0 B0 HSZ
  by_cases hk : chk low L = 0
  · have hcb : (chk low L != 0) = false := by simpa using hk
    have HOK := Lib.hid (okf_of hk)
    have hl12 := HOK.out.2.2
    clear hk
    have K3 := Lib.hid (heap_alloc_new w2 (.cells #[.int .i64 low, .slice none 0 0] 24))
    have F3 := Lib.hid (F2.out.later (bel_alloc w2 (.cells #[.int .i64 low, .slice none 0 0] 24)))
    have B3 := Lib.hid (B2.out.trans ((bel_alloc w2 (.cells #[.int .i64 low, .slice none 0 0] 24)).mono B2.out.size))
    have L3 := Lib.hid (show w2.heap.size < (w2.alloc (.cells #[.int .i64 low, .slice none 0 0] 24)).heap.size by simp)
    go_wp2_with (at_builtin; refine Kd.R_append_rows kF (Rr := kF.K (w2.alloc (.cells #[.int .i64 low, .slice none 0 0] 24))) (w0 := w2.alloc (.cells #[.int .i64 low, .slice none 0 0] 24)) (w2.alloc (.cells #[.int .i64 low, .slice none 0 0] 24)).heap.size rfl (.tmp 21) (.tmp 23) 22 43 (.agg #[.int .u64 0, .int .i64 0]) 16 rfl Tryd.underlying22 info_fl rfl (by decide) (by decide) (.slice none 0 0) [] L A L.length c (fun _ => True) (fun _ => False) rfl rfl (Kd.R_nil kF _ _ _ _) F3.out.rd (fun x cs h => by rw [PR.k43_open h]; exact PR.k43_mkM _ _ _ x) (fun _ hk => hk.elim) (fun _ _ => trivial) (Below.refl _ _) (Nat.le_refl _) (by simp; omega) ?_; intro v4 w4 ho hb hg hat; rw [List.nil_append] at ho; obtain ⟨A4, c4, hv4, hc4, hC4⟩ := Kd.R_reads ho; subst hv4; have K4 := Lib.hid ((hb.block _ L3.out).trans K3.out); have F4 := Lib.hid (F3.out.later hb); have B4 := Lib.hid (B3.out.trans (hb.mono B3.out.size)); have R4 := Lib.hid ho; obtain ⟨t0, t1⟩ := F4.out.cells; have s1 : w4.cell? ⟨w2.heap.size, 1, none⟩ = some (.slice none 0 0) := cell_of_row w4 _ 1 _ _ (0, 0) K4.out; have s2 : w4.frozen? ⟨w2.heap.size, 1, none⟩ = false := (by simp [World.frozen?, K4.out]); clear ho hb hg hat hC4 hc4)
    have hq : w.heap.size ≠ w2.heap.size := by omega
    have F5 := Lib.hid (show FB (w4.setCell ⟨w2.heap.size, 1, none⟩ (.slice A4 L.length c4)) w.heap.size low A c L from
      ⟨(Below.heap_setCell w4 ⟨w2.heap.size, 1, none⟩ _ w.heap.size hq).trans F4.out.blk, F4.out.cap, Kd.C_below HC.out (B4.out.setCell (p := ⟨w2.heap.size, 1, none⟩) (Nat.le_of_lt hlt2) _)⟩)
    have O5 := Lib.hid (show FB (w4.setCell ⟨w2.heap.size, 1, none⟩ (.slice A4 L.length c4)) w2.heap.size low A4 c4 L by
      obtain ⟨h1, h2, h3⟩ := Kd.R_reads' (Kd.R_set R4.out K4.out (by decide) 1 (.slice A4 L.length c4))
      exact ⟨set_b K4.out _, h2, h3⟩)
    have B5 := Lib.hid (B4.out.setCell (p := ⟨w2.heap.size, 1, none⟩) (Nat.le_of_lt hlt2) (.slice A4 L.length c4))
    clear s1 s2 t0 t1 K3 F3 B3 L3 K4 F4 B4 R4
    generalize w4.setCell ⟨w2.heap.size, 1, none⟩ (.slice A4 L.length c4) = w5 at *
    clear d0 d1 hcb F2 B2
    have hlow : low ≤ 1099511627776 := HOK.out.1.2.1
    have ok1 := Lib.hid (raise_ok HOK.out h at_ limit 0).1
    have ok2 := Lib.hid (lift_ok HOK.out at_)
    have ok3 := Lib.hid (rel_ok HOK.out h)
    have ck1 := Lib.hid ok1.out.chk
    have ck2 := Lib.hid ok2.out.chk
    have ck3 := Lib.hid ok3.out.chk
    have ck0 := Lib.hid HOK.out.chk
    have hra := fun W b A' c' (hF : FB W b low A' c' L) => hF.raise (by omega) HOK.out.2.1 HOK.out.1 h at_ limit
    have hrr := fun W b A' c' (hF : FB W b low A' c' L) => hF.refRaise (by omega) HOK.out.2.1 HOK.out.1 h at_ limit
    have hli := fun W b A' c' (hF : FB W b low A' c' L) => hF.lift (by omega) at_
    have hrl := fun W b A' c' (hF : FB W b low A' c' L) => hF.refLift (by omega) at_ hlow
    have hre := fun W b A' c' (hF : FB W b low A' c' L) => hF.rel (by omega) HOK.out.2.1 h
    have hrE := fun W b A' c' (hF : FB W b low A' c' L) => hF.refRel (by omega) h
    generalize hP : raiseP low L h at_ limit = P at *
    obtain ⟨l1, M1⟩ := P
    dsimp only at ok1 ck1 hra hrr
    generalize upP low at_ = l2 at *
    generalize liftL l2 L = M2 at *
    generalize relL L h = M3 at *
    have HRA := Lib.hid hra
    have HRR := Lib.hid hrr
    have HLI := Lib.hid hli
    have HRL := Lib.hid hrl
    have HRE := Lib.hid hre
    have HRE2 := Lib.hid hrE
    have m1 := ok1.out.2.2
    have m2 := ok2.out.2.2
    have m3 := ok3.out.2.2
    clear hra hrr hli hrl hre hrE hP
    refine (HRA.out _ _ _ _ F5.out).mono ?_
    rintro e w6 ⟨A6, c6, rfl, hc6, hC6, hb6⟩
    have F6 := Lib.hid ((F5.out.later hb6).later (bel_alloc w6 (.cells #[.int .i64 l1, .slice A6 M1.length c6] 24)))
    have O6 := Lib.hid ((O5.out.later hb6).later (bel_alloc w6 (.cells #[.int .i64 l1, .slice A6 M1.length c6] 24)))
    have P6 := Lib.hid (FB.box (low := l1) hc6 hC6)
    have B6 := Lib.hid ((B5.out.trans (hb6.mono B5.out.size)).trans ((bel_alloc w6 (.cells #[.int .i64 l1, .slice A6 M1.length c6] 24)).mono (Nat.le_trans B5.out.size hb6.size)))
    obtain ⟨t0, t1⟩ := (F5.out.later hb6).cells
    have hlt6 : w.heap.size < w6.heap.size := (F5.out.later hb6).lt
    clear hC6 hb6 F5 O5 B5 HRA
    go_wp2_with fail
    generalize w6.alloc (.cells #[.int .i64 l1, .slice A6 M1.length c6] 24) = w7 at *
    generalize w6.heap.size = q6 at *
    clear t0 t1
    refine (HLI.out _ _ _ _ F6.out).mono ?_
    rintro e w8 ⟨A8, c8, rfl, hc8, hC8, hb8⟩
    have F8 := Lib.hid ((F6.out.later hb8).later (bel_alloc w8 (.cells #[.int .i64 l2, .slice A8 M2.length c8] 24)))
    have O8 := Lib.hid ((O6.out.later hb8).later (bel_alloc w8 (.cells #[.int .i64 l2, .slice A8 M2.length c8] 24)))
    have P8 := Lib.hid ((P6.out.later hb8).later (bel_alloc w8 (.cells #[.int .i64 l2, .slice A8 M2.length c8] 24)))
    have Q8 := Lib.hid (FB.box (low := l2) hc8 hC8)
    have B8 := Lib.hid ((B6.out.trans (hb8.mono B6.out.size)).trans ((bel_alloc w8 (.cells #[.int .i64 l2, .slice A8 M2.length c8] 24)).mono (Nat.le_trans B6.out.size hb8.size)))
    obtain ⟨t0, t1⟩ := (F6.out.later hb8).cells
    have hlt8 : w.heap.size < w8.heap.size := (F6.out.later hb8).lt
    clear hC8 hb8 F6 O6 B6 P6 HLI
    go_wp2_with fail
    generalize w8.alloc (.cells #[.int .i64 l2, .slice A8 M2.length c8] 24) = w9 at *
    generalize w8.heap.size = q8 at *
    clear t0 t1
    refine (HRE.out _ _ _ _ F8.out).mono ?_
    rintro e w10 ⟨A10, c10, rfl, hc10, hC10, hb10⟩
    have F10 := Lib.hid ((F8.out.later hb10).later (bel_alloc w10 (.cells #[.int .i64 low, .slice A10 M3.length c10] 24)))
    have O10 := Lib.hid ((O8.out.later hb10).later (bel_alloc w10 (.cells #[.int .i64 low, .slice A10 M3.length c10] 24)))
    have P10 := Lib.hid ((P8.out.later hb10).later (bel_alloc w10 (.cells #[.int .i64 low, .slice A10 M3.length c10] 24)))
    have Q10 := Lib.hid ((Q8.out.later hb10).later (bel_alloc w10 (.cells #[.int .i64 low, .slice A10 M3.length c10] 24)))
    have S10 := Lib.hid (FB.box (low := low) hc10 hC10)
    have B10 := Lib.hid ((B8.out.trans (hb10.mono B8.out.size)).trans ((bel_alloc w10 (.cells #[.int .i64 low, .slice A10 M3.length c10] 24)).mono (Nat.le_trans B8.out.size hb10.size)))
    clear hC10 hb10 F8 O8 B8 P8 Q8 HRE
    go_wp2_with fail
    generalize w10.alloc (.cells #[.int .i64 low, .slice A10 M3.length c10] 24) = w11 at *
    generalize w10.heap.size = q10 at *
    generalize w2.heap.size = q2 at *
    have hE : ∀ W (B : Nat → Prop), Below w11.heap.size w11 W → True := fun _ _ _ => trivial
    have H1 := Lib.hid (show ∀ W, Below w11.heap.size w11 W → Calls Tryd.prog 20 #[.agg #[.int .i64 low, .slice A4 L.length c4], .int .u64 h, .int .i64 at_, .int .i64 limit] W fun e w' => ∃ A' c', e = .returned (.agg #[.int .i64 l1, .slice A' M1.length c']) ∧ M1.length ≤ c' ∧ kF.C w' A' M1.length M1 ∧ Below w11.heap.size w11 w' from fun W hW =>
      (HRR.out W _ _ _ (O10.out.later hW)).mono fun e w' ⟨A', c', h1, h2, h3, h4⟩ => ⟨A', c', h1, h2, h3, hW.trans (h4.mono hW.size)⟩)
    have H2 := Lib.hid (show ∀ W, Below w11.heap.size w11 W → Calls Tryd.prog 21 #[.agg #[.int .i64 low, .slice A4 L.length c4], .int .i64 at_] W fun e w' => ∃ A' c', e = .returned (.agg #[.int .i64 l2, .slice A' M2.length c']) ∧ M2.length ≤ c' ∧ kF.C w' A' M2.length M2 ∧ Below w11.heap.size w11 w' from fun W hW =>
      (HRL.out W _ _ _ (O10.out.later hW)).mono fun e w' ⟨A', c', h1, h2, h3, h4⟩ => ⟨A', c', h1, h2, h3, hW.trans (h4.mono hW.size)⟩)
    have H3 := Lib.hid (show ∀ W, Below w11.heap.size w11 W → Calls Tryd.prog 22 #[.agg #[.int .i64 low, .slice A4 L.length c4], .int .u64 h] W fun e w' => ∃ A' c', e = .returned (.agg #[.int .i64 low, .slice A' M3.length c']) ∧ M3.length ≤ c' ∧ kF.C w' A' M3.length M3 ∧ Below w11.heap.size w11 w' from fun W hW =>
      (HRE2.out W _ _ _ (O10.out.later hW)).mono fun e w' ⟨A', c', h1, h2, h3, h4⟩ => ⟨A', c', h1, h2, h3, hW.trans (h4.mono hW.size)⟩)
    have hsame : ∀ W b lo (M : List Fl) A1 c1 A2 c2, FB w11 b lo A1 c1 M → Below w11.heap.size w11 W → M.length ≤ 12 → M.length ≤ c2 → kF.C W A2 M.length M → Calls Tryd.prog 12 #[.agg #[.int .i64 lo, .slice A1 M.length c1], .agg #[.int .i64 lo, .slice A2 M.length c2]] W fun e w' => e = .returned (.bool true) ∧ Below w11.heap.size w11 w' := fun W b lo M A1 c1 A2 c2 hF hW hM h2 h3 =>
      (refSame_any lo A1 c1 M W (hF.later hW).rd hF.cap (by omega) lo A2 c2 M h3 h2).mono fun e w' ⟨he, hb⟩ => ⟨he.trans (by rw [decide_eq_true (show lo = lo ∧ M = M from ⟨rfl, rfl⟩)]), hW.trans (hb.mono hW.size)⟩
    have H4 := Lib.hid (fun W A2 c2 hW h2 h3 => hsame W q6 l1 M1 A6 c6 A2 c2 P10.out hW m1 h2 h3)
    have H5 := Lib.hid (fun W A2 c2 hW h2 h3 => hsame W q8 l2 M2 A8 c8 A2 c2 Q10.out hW m2 h2 h3)
    have H6 := Lib.hid (fun W A2 c2 hW h2 h3 => hsame W q10 low M3 A10 c10 A2 c2 S10.out hW m3 h2 h3)
    have H7 := Lib.hid (fun W hW => hsame W w.heap.size low L A c A4 c4 F10.out hW hl12 O10.out.cap (O10.out.later hW).rd)
    have H8 := Lib.hid (fun W (hW : Below w11.heap.size w11 W) => (P10.out.later hW).refCheck (by omega))
    have H9 := Lib.hid (fun W (hW : Below w11.heap.size w11 W) => (Q10.out.later hW).refCheck (by omega))
    have HA := Lib.hid (fun W (hW : Below w11.heap.size w11 W) => (S10.out.later hW).refCheck (by omega))
    have HX := Lib.hid (show ∀ W, Below w11.heap.size w11 W → W.cell? ⟨q2, 0, none⟩ = some (.int .i64 low) ∧ W.cell? ⟨q2, 1, none⟩ = some (.slice A4 L.length c4) ∧ W.cell? ⟨q6, 0, none⟩ = some (.int .i64 l1) ∧ W.cell? ⟨q6, 1, none⟩ = some (.slice A6 M1.length c6) ∧ W.cell? ⟨q8, 0, none⟩ = some (.int .i64 l2) ∧ W.cell? ⟨q8, 1, none⟩ = some (.slice A8 M2.length c8) ∧ W.cell? ⟨q10, 0, none⟩ = some (.int .i64 low) ∧ W.cell? ⟨q10, 1, none⟩ = some (.slice A10 M3.length c10) from fun W hW =>
      ⟨(O10.out.later hW).cells.1, (O10.out.later hW).cells.2, (P10.out.later hW).cells.1, (P10.out.later hW).cells.2, (Q10.out.later hW).cells.1, (Q10.out.later hW).cells.2, (S10.out.later hW).cells.1, (S10.out.later hW).cells.2⟩)
    have HXF := Lib.hid (show ∀ W, Below w11.heap.size w11 W → W.cell? ⟨w.heap.size, 0, none⟩ = some (.int .i64 low) ∧ W.cell? ⟨w.heap.size, 1, none⟩ = some (.slice A L.length c) from fun W hW => (F10.out.later hW).cells)
    have z0 : Hid (Below w11.heap.size w11 w11.drew) := Drawn0.below ⟨1, rfl⟩
    obtain ⟨s0, s1, s2, s3, s4, s5, s6, s7⟩ := HX.out _ (Below.refl _ _)
    clear hE hsame HRR HRL HRE2
    go_cut [60] (fun cc wx => cc = .bool false ∧ Hid (Below w11.heap.size w11 wx))
    case first =>
      go_region_held3 (fun w' => w'.cell? ⟨q2, 0, none⟩ = some (.int .i64 low) ∧ w'.cell? ⟨q2, 1, none⟩ = some (.slice A4 L.length c4) ∧ w'.cell? ⟨q6, 0, none⟩ = some (.int .i64 l1) ∧ w'.cell? ⟨q6, 1, none⟩ = some (.slice A6 M1.length c6) ∧ w'.cell? ⟨q8, 0, none⟩ = some (.int .i64 l2) ∧ w'.cell? ⟨q8, 1, none⟩ = some (.slice A8 M2.length c8) ∧ w'.cell? ⟨q10, 0, none⟩ = some (.int .i64 low) ∧ w'.cell? ⟨q10, 1, none⟩ = some (.slice A10 M3.length c10))
        (first | exact ⟨s0, s1, s2, s3, s4, s5, s6, s7⟩ | exact HX.out _ z0.out | exact HX.out _ z1.out | exact HX.out _ z2.out | exact HX.out _ z3.out | exact HX.out _ z4.out | exact HX.out _ z5.out | exact HX.out _ z6.out)
        (first
        | (go_at_call 20; ((with_reducible refine (H1.out _ z0.out).mono ?_)); rintro e y1 ⟨B1, d1, rfl, hd1, hD1, hb⟩; have z1 := Lib.hid hb; have D1 := Lib.hid hD1; clear hb hD1)
        | (go_at_call 21; ((with_reducible refine (H2.out _ z2.out).mono ?_)); rintro e y3 ⟨B3, d3, rfl, hd3, hD3, hb⟩; have z3 := Lib.hid hb; have D3 := Lib.hid hD3; clear hb hD3)
        | (go_at_call 22; ((with_reducible refine (H3.out _ z4.out).mono ?_)); rintro e y5 ⟨B5, d5, rfl, hd5, hD5, hb⟩; have z5 := Lib.hid hb; have D5 := Lib.hid hD5; clear hb hD5)
        | (go_at_call 12; first
          | (((with_reducible refine (H6.out _ B5 d5 z5.out hd5 D5.out).mono ?_)); rintro e y6 ⟨rfl, hb⟩; have z6 := Lib.hid hb; clear hb)
          | (((with_reducible refine (H5.out _ B3 d3 z3.out hd3 D3.out).mono ?_)); rintro e y4 ⟨rfl, hb⟩; have z4 := Lib.hid hb; clear hb)
          | (((with_reducible refine (H4.out _ B1 d1 z1.out hd1 D1.out).mono ?_)); rintro e y2 ⟨rfl, hb⟩; have z2 := Lib.hid hb; clear hb)))
      all_goals
        go_wp2_with fail
        go_meet
        exact ⟨rfl, z6⟩
    case rest =>
      obtain ⟨rfl, BX⟩ := hcut
      obtain ⟨wd, rfl⟩ : ∃ wd : World, wd = wc := ⟨_, rfl⟩
      obtain ⟨s0, s1, s2, s3, s4, s5, s6, s7⟩ := HX.out _ BX.out
      go_wp2_with fail
      refine (H8.out _ BX.out).mono ?_
      rintro e w12 ⟨rfl, hb⟩
      rw [ck1.out]
      have z1 := Lib.hid (BX.out.trans (hb.mono BX.out.size))
      clear s0 s1 s2 s3 s4 s5 s6 s7 hb
      obtain ⟨s0, s1, s2, s3, s4, s5, s6, s7⟩ := HX.out _ z1.out
      go_wp2_with fail
      refine (H9.out _ z1.out).mono ?_
      rintro e w13 ⟨rfl, hb⟩
      rw [ck2.out]
      have z2 := Lib.hid (z1.out.trans (hb.mono z1.out.size))
      clear s0 s1 s2 s3 s4 s5 s6 s7 hb
      obtain ⟨s0, s1, s2, s3, s4, s5, s6, s7⟩ := HX.out _ z2.out
      go_wp2_with fail
      refine (HA.out _ z2.out).mono ?_
      rintro e w14 ⟨rfl, hb⟩
      rw [ck3.out]
      have z3 := Lib.hid (z2.out.trans (hb.mono z2.out.size))
      clear s0 s1 s2 s3 s4 s5 s6 s7 hb
      obtain ⟨s0, s1, s2, s3, s4, s5, s6, s7⟩ := HX.out _ z3.out
      obtain ⟨s8, s9⟩ := HXF.out _ z3.out
      go_wp2_with fail
      refine (H7.out _ z3.out).mono ?_
      rintro e w15 ⟨rfl, hb⟩
      have z4 := Lib.hid hb
      clear s0 s1 s2 s3 s4 s5 s6 s7 s8 s9 hb
      go_wp2_with fail
      refine (HW.out _ (B10.out.trans (z4.out.mono B10.out.size))).mono ?_
      rintro e w16 ⟨rfl, hb⟩
      have z5 := Lib.hid hb
      clear hb
      go_wp2_with fail
      go_ret
      exact ⟨rfl, z5.out⟩
  · have hcb : (chk low L != 0) = true := by simpa using hk
    clear hk
    go_wp2_with fail
    refine (HW.out _ B2.out).mono ?_
    rintro e w9 ⟨rfl, hb9⟩
    have HB9 := Lib.hid hb9
    clear hb9
    go_wp2_with fail
    go_ret
    exact ⟨rfl, HB9.out⟩
end Go.Proofs.YtmoiochblmdgfaaDoor
