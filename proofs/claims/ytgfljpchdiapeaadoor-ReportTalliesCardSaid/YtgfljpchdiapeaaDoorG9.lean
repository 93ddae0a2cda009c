/- report.fill: writes. -/
import Derived.Test.YtgfljpchdiapeaaDoorG8
namespace Go.Proofs.YtgfljpchdiapeaaDoor
set_option linter.unusedVariables false
set_option linter.unusedSimpArgs false
open Go.RowKit Go.Proofs.YtgfljpchdiapeaaDoorW.PrintWords Go.Proofs.YtgfljpchdiapeaaDoorW.PrintLast
attribute [local go_sem ↓] Go.wp_at_zero Go.wp_at_succ
attribute [local go_sem] bsV_get bsV_size bsV_toList
set_option maxHeartbeats 8000000 in
set_option maxRecDepth 100000 in
theorem fill_write (a b c : Bs) (A : Option Addr) (c0 : Nat) (w : World) (hC : Kd.string.C w A [a, b, c].length ([a, b, c].map bsV)) (hc : 3 ≤ c0) (hl : ∀ z ∈ [a, b, c], z.length < 100000000) (Av : Option Addr) (cv B0 : Nat) (hRv : Kd.R (Kd.int .u8) 5 w B0 (fun _ => True) (.slice Av 0 cv) []) (hB0 : B0 ≤ w.heap.size) : Calls Tryd.prog 46 #[.agg #[.int .i64 3, .int .i64 0, .string ⟨#[]⟩, .int .i64 0, .int .i64 0, .int .i64 0, .slice Av 0 cv, .bool true], .slice A 3 c0] w (FPost (writeR [a, b, c]) B0 w) := by
  have HC := Lib.hid hC
  have HRV := Lib.hid hRv
  have HB0 := Lib.hid hB0
  clear hRv hB0
  have HLa := Lib.hid (hl a (by simp))
  have HLb := Lib.hid (hl b (by simp))
  have HLc := Lib.hid (hl c (by simp))
  clear hC hl
  obtain ⟨ad, rfl, _⟩ := str_at HC.out (i := 0) (by simp)
  have HLC := Lib.hid (show ∀ W, Below w.heap.size w W → W.cell? ad = some (.string (bsV a)) ∧ W.cell? ⟨ad.block, ad.off + 1, none⟩ = some (.string (bsV b)) ∧ W.cell? ⟨ad.block, ad.off + 2, none⟩ = some (.string (bsV c)) from fun W hW => by
    refine ⟨?_, ?_, ?_⟩
    · obtain ⟨ad', e, h⟩ := str_at HC.out (i := 0) (by simp)
      injection e with e
      subst e
      exact (hW.cell (World.block_lt_of_cell? w _ h)).trans h
    · obtain ⟨ad', e, h⟩ := str_at HC.out (i := 1) (by simp)
      injection e with e
      subst e
      exact (hW.cell (World.block_lt_of_cell? w _ h)).trans h
    · obtain ⟨ad', e, h⟩ := str_at HC.out (i := 2) (by simp)
      injection e with e
      subst e
      exact (hW.cell (World.block_lt_of_cell? w _ h)).trans h)
  have HW := Lib.hid (fun W => wordsE_any ⟨3, 0, [], 0, 0, 0, [], true⟩ Av cv W ⟨Nat.zero_le _, Kd.C_of_reads (d := (0 : Int)) ⟨rfl, by decide, fun h => absurd h (by decide)⟩, ⟨⟨by decide, by decide⟩, ⟨by decide, by decide⟩, ⟨by decide, by decide⟩, ⟨by decide, by decide⟩, ⟨by decide, by decide⟩⟩, by decide, by decide⟩)
  have HF0 := Lib.hid (fs_start w #[.int .i64 3, .int .i64 0, .string ⟨#[]⟩, .int .i64 0, .int .i64 0, .int .i64 0, .slice Av 0 cv, .bool true])
  unfold eC at HW
  go_enter Tryd.func46, Tryd.ntmps46
  go_upto_region 2 with (fail)
  have e0 : ((w.alloc (.cells #[.int .i64 3, .int .i64 0, .string ⟨#[]⟩, .int .i64 0, .int .i64 0, .int .i64 0, .slice Av 0 cv, .bool true] 30)).alloc (.cells zC 30)).alloc (.cells #[.bool true] 4) = ((w.alloc (.cells #[.int .i64 3, .int .i64 0, .string ⟨#[]⟩, .int .i64 0, .int .i64 0, .int .i64 0, .slice Av 0 cv, .bool true] 30)).alloc (.cells #[.int .i64 0, .int .i64 0, .string ⟨#[]⟩, .int .i64 0, .int .i64 0, .int .i64 0, .slice none 0 0, .bool false] 30)).alloc (.cells #[.bool true] 4) := rfl
  rw [e0] at HF0
  clear e0
  generalize ((w.alloc (.cells #[.int .i64 3, .int .i64 0, .string ⟨#[]⟩, .int .i64 0, .int .i64 0, .int .i64 0, .slice Av 0 cv, .bool true] 30)).alloc (.cells #[.int .i64 0, .int .i64 0, .string ⟨#[]⟩, .int .i64 0, .int .i64 0, .int .i64 0, .slice none 0 0, .bool false] 30)).alloc (.cells #[.bool true] 4) = w1 at *
  have k0 : w1.cell? ⟨w.heap.size, 0, none⟩ = some (.int .i64 3) := HF0.out.cell 0
  have k1 : w1.cell? ⟨w.heap.size, 1, none⟩ = some (.int .i64 0) := HF0.out.cell 1
  have k2 : w1.cell? ⟨w.heap.size, 2, none⟩ = some (.string ⟨#[]⟩) := HF0.out.cell 2
  have k3 : w1.cell? ⟨w.heap.size, 3, none⟩ = some (.int .i64 0) := HF0.out.cell 3
  have k4 : w1.cell? ⟨w.heap.size, 4, none⟩ = some (.int .i64 0) := HF0.out.cell 4
  have k5 : w1.cell? ⟨w.heap.size, 5, none⟩ = some (.int .i64 0) := HF0.out.cell 5
  have k6 : w1.cell? ⟨w.heap.size, 6, none⟩ = some (.slice Av 0 cv) := HF0.out.cell 6
  have k7 : w1.cell? ⟨w.heap.size, 7, none⟩ = some (.bool true) := HF0.out.cell 7
  go_wp2_with fail
  refine (HW.out w1).mono ?_
  rintro x w2 ⟨rfl, hb⟩
  have HF1 := Lib.hid (HF0.out.later hb)
  clear hb HF0 HW k0 k1 k2 k3 k4 k5 k6 k7
  rw [show wordE ⟨3, 0, [], 0, 0, 0, [], true⟩ = [119, 114, 105, 116, 101] from rfl]
  go_wp2_with fail
  have HF101 := Lib.hid (HF1.out.later (Drawn0.below ⟨1, rfl⟩ : Below w2.heap.size w2 w2.drew))
  refine wp_region_held_drew (S := (fun w' => w'.cell? ad = some (.string (bsV a)) ∧ w'.cell? ⟨ad.block, ad.off + 1, none⟩ = some (.string (bsV b)) ∧ w'.cell? ⟨ad.block, ad.off + 2, none⟩ = some (.string (bsV c)))) (by kernel_rfl) ?_ (fun hHeld => ?_)
  · exact HLC.out _ HF101.out.bel
  generalize w2.drew = d2 at *
  refine wpAnyH_take (i := 0) (oi := ⟨some 74, _, _, _, _, _⟩) (v := ?_) rfl (by kernel_rfl) (by kernel_rfl) (by kernel_rfl) (fun _ _ _ h => h) (Or.inl ⟨by rfl, ?_⟩) (by assumption) ?_
  rotate_left
  · intro WW hSw
    try dsimp only at hSw
    go_simp
    try with_reducible rfl
  try simp only [Act.put, pA, pB, pC]
  refine wpAnyH_take (i := 1) (oi := ⟨some 75, _, _, _, _, _⟩) (v := ?_) rfl (by kernel_rfl) (by kernel_rfl) (by kernel_rfl) (fun _ _ _ h => h) (Or.inl ⟨by rfl, ?_⟩) (by assumption) ?_
  rotate_left
  · intro WW hSw
    try dsimp only at hSw
    go_simp
    try with_reducible rfl
  try simp only [Act.put, pA, pB, pC]
  refine wpAnyH_take (i := 2) (oi := ⟨some 76, _, _, _, _, _⟩) (v := ?_) rfl (by kernel_rfl) (by kernel_rfl) (by kernel_rfl) (fun _ _ _ h => h) (Or.inl ⟨by rfl, ?_⟩) (by assumption) ?_
  rotate_left
  · intro WW hSw
    try dsimp only at hSw
    go_simp
    try with_reducible rfl
  try simp only [Act.put, pA, pB, pC]
  refine wpAnyH_take (i := 3) (oi := ⟨some 77, _, _, _, _, _⟩) (v := ?_) rfl (by kernel_rfl) (by kernel_rfl) (by kernel_rfl) (fun _ _ _ h => h) (Or.inl ⟨by rfl, ?_⟩) (by assumption) ?_
  rotate_left
  · intro WW hSw
    try dsimp only at hSw
    go_simp
    try with_reducible rfl
  try simp only [Act.put, pA, pB, pC]
  refine wpAnyH_take (i := 5) (oi := ⟨some 79, _, _, _, _, _⟩) (v := ?_) rfl (by kernel_rfl) (by kernel_rfl) (by kernel_rfl) (fun _ _ _ h => h) (Or.inl ⟨by rfl, ?_⟩) (by assumption) ?_
  rotate_left
  · intro WW hSw
    try dsimp only at hSw
    go_simp
    try with_reducible rfl
  try simp only [Act.put, pA, pB, pC]
  refine wpAnyH_take (i := 6) (oi := ⟨some 80, _, _, _, _, _⟩) (v := ?_) rfl (by kernel_rfl) (by kernel_rfl) (by kernel_rfl) (fun _ _ _ h => h) (Or.inl ⟨by rfl, ?_⟩) (by assumption) ?_
  rotate_left
  · intro WW hSw
    try dsimp only at hSw
    go_simp
    try with_reducible rfl
  try simp only [Act.put, pA, pB, pC]
  refine wpAnyH_take (i := 7) (oi := ⟨some 81, _, _, _, _, _⟩) (v := ?_) rfl (by kernel_rfl) (by kernel_rfl) (by kernel_rfl) (fun _ _ _ h => h) (Or.inl ⟨by rfl, ?_⟩) (by assumption) ?_
  rotate_left
  · intro WW hSw
    try dsimp only at hSw
    go_simp
    try with_reducible rfl
  try simp only [Act.put, pA, pB, pC]
  refine wpAnyH_take (i := 8) (oi := ⟨some 82, _, _, _, _, _⟩) (v := ?_) rfl (by kernel_rfl) (by kernel_rfl) (by kernel_rfl) (fun _ _ _ h => h) (Or.inl ⟨by rfl, ?_⟩) (by assumption) ?_
  rotate_left
  · intro WW hSw
    try dsimp only at hSw
    go_simp
    try with_reducible rfl
  try simp only [Act.put, pA, pB, pC]
  refine wpAnyH_take (i := 11) (oi := ⟨some 85, _, _, _, _, _⟩) (v := ?_) rfl (by kernel_rfl) (by kernel_rfl) (by kernel_rfl) (fun _ _ _ h => h) (Or.inl ⟨by rfl, ?_⟩) (by assumption) ?_
  rotate_left
  · intro WW hSw
    try dsimp only at hSw
    go_simp
    try with_reducible rfl
  try simp only [Act.put, pA, pB, pC]
  refine wpAnyH_take (i := 12) (oi := ⟨some 86, _, _, _, _, _⟩) (v := ?_) rfl (by kernel_rfl) (by kernel_rfl) (by kernel_rfl) (fun _ _ _ h => h) (Or.inl ⟨by rfl, ?_⟩) (by assumption) ?_
  rotate_left
  · intro WW hSw
    try dsimp only at hSw
    go_simp
    try with_reducible rfl
  try simp only [Act.put, pA, pB, pC]
  refine wpAnyH_take (i := 13) (oi := ⟨some 87, _, _, _, _, _⟩) (v := ?_) rfl (by kernel_rfl) (by kernel_rfl) (by kernel_rfl) (fun _ _ _ h => h) (Or.inl ⟨by rfl, ?_⟩) (by assumption) ?_
  rotate_left
  · intro WW hSw
    try dsimp only at hSw
    go_simp
    try with_reducible rfl
  try simp only [Act.put, pA, pB, pC]
  refine wpAnyH_take (i := 14) (oi := ⟨some 88, _, _, _, _, _⟩) (v := ?_) rfl (by kernel_rfl) (by kernel_rfl) (by kernel_rfl) (fun _ _ _ h => h) (Or.inl ⟨by rfl, ?_⟩) (by assumption) ?_
  rotate_left
  · intro WW hSw
    try dsimp only at hSw
    go_simp
    try with_reducible rfl
  try simp only [Act.put, pA, pB, pC]
  refine wpAnyH_ready (rs := [4]) (by kernel_rfl) (by simp) ?_
  refine AllReadyH.cons (o := ⟨some 78, _, _, _, _, _⟩) rfl (fun K hK => ?_) AllReadyH.nil
  go_simp
  go_at_call 63
  refine (numC_any a HLa.out _ _ _ HF101.out.okb).mono ?_
  rintro e y3 ⟨x3, p3, rfl, hn, hg, hk⟩
  have HN3 := Lib.hid hn
  have HF103 := Lib.hid (HF101.out.grown hg hk)
  clear hn hg hk
  refine hK.out _ _ ?_ (fun hHeld4 => ?_)
  · exact HLC.out _ HF103.out.bel
  clear hK K hHeld
  try simp only [Act.put, pA, pB, pC]
  refine wpAnyH_take (i := 16) (oi := ⟨some 90, _, _, _, _, _⟩) (v := ?_) rfl (by kernel_rfl) (by kernel_rfl) (by kernel_rfl) (fun _ _ _ h => h) (Or.inl ⟨by rfl, ?_⟩) (by assumption) ?_
  rotate_left
  · intro WW hSw
    try dsimp only at hSw
    go_simp
    try with_reducible rfl
  try simp only [Act.put, pA, pB, pC]
  refine wpAnyH_take (i := 17) (oi := ⟨some 91, _, _, _, _, _⟩) (v := ?_) rfl (by kernel_rfl) (by kernel_rfl) (by kernel_rfl) (fun _ _ _ h => h) (Or.inl ⟨by rfl, ?_⟩) (by assumption) ?_
  rotate_left
  · intro WW hSw
    try dsimp only at hSw
    go_simp
    try with_reducible rfl
  try simp only [Act.put, pA, pB, pC]
  refine wpAnyH_ready (rs := [9]) (by kernel_rfl) (by simp) ?_
  refine AllReadyH.cons (o := ⟨some 83, _, _, _, _, _⟩) rfl (fun K hK => ?_) AllReadyH.nil
  go_simp
  go_at_call 65
  refine (bytC_any b HLb.out _ _ _ HF103.out.okb).mono ?_
  rintro e y5 ⟨B5, b5, c5, p5, rfl, hn, hr, hg, hk⟩
  have HN5 := Lib.hid hn
  have HF105 := Lib.hid (HF103.out.grown hg hk)
  have HB5 := Lib.hid (Kd.R_lower (base' := w.heap.size + 3) hr HF103.out.siz)
  clear hn hg hk hr
  refine hK.out _ _ ?_ (fun hHeld6 => ?_)
  · exact HLC.out _ HF105.out.bel
  clear hK K hHeld4
  try simp only [Act.put, pA, pB, pC]
  refine wpAnyH_ready (rs := [10, 15]) (by kernel_rfl) (by simp) ?_
  refine AllReadyH.cons (o := ⟨some 84, _, _, _, _, _⟩) rfl (fun K hK => ?_) (AllReadyH.cons (o := ⟨some 89, _, _, _, _, _⟩) rfl (fun K hK => ?_) AllReadyH.nil)
  · skip
    have hcv : (Kd.int .u8).C y5 B5 b5.length (bI b5) := by have := (Kd.R_reads' HB5.out).2.2; rwa [bI_len] at this
    refine value_ (N := some 84) (by rfl) rfl (exec_conv1 rfl (by rfl) (conv_bs c5 hcv)) ?_
    clear hcv
    refine hK.out _ _ ?_ (fun hHeld7 => ?_)
    · exact HLC.out _ HF105.out.bel
    clear hK K hHeld6
    try simp only [Act.put, pA, pB, pC]
    refine wpAnyH_ready (rs := [15]) (by kernel_rfl) (by simp) ?_
    refine AllReadyH.cons (o := ⟨some 89, _, _, _, _, _⟩) rfl (fun K hK => ?_) AllReadyH.nil
    go_simp
    go_at_call 65
    refine (bytC_any c HLc.out _ _ _ HF105.out.okb).mono ?_
    rintro e y8 ⟨B8, b8, c8, p8, rfl, hn, hr, hg, hk⟩
    have HN8 := Lib.hid hn
    have HF108 := Lib.hid (HF105.out.grown hg hk)
    have HR9 := Lib.hid (R_gr HB5.out (by have := HF105.out.siz; omega) hg)
    have HB8 := Lib.hid (Kd.R_lower (base' := w.heap.size + 3) hr HF105.out.siz)
    clear hn hg hk hr
    refine hK.out _ _ ?_ (fun hHeld10 => ?_)
    · exact HLC.out _ HF108.out.bel
    clear hK K hHeld7
    try simp only [Act.put, pA, pB, pC]
    refine wpAnyH_ready (rs := [18]) (by kernel_rfl) (by simp) ?_
    refine AllReadyH.cons (o := ⟨none, _, _, _, _, _⟩) rfl (fun K hK => ?_) AllReadyH.nil
    have k3 : World.cell? _ ⟨w.heap.size, 3, none⟩ = some (.int .i64 0) := HF108.out.cell 3
    have f3 := HF108.out.frz 3
    have HF111 := Lib.hid (HF108.out.set (cs' := #[.int .i64 3, .int .i64 0, .string ⟨#[]⟩, .int .i64 x3, .int .i64 0, .int .i64 0, .slice Av 0 cv, .bool true]) 3 (.int .i64 x3) rfl)
    have HR12 := Lib.hid (R_st (r := w.heap.size) HR9.out (by omega) 3 (.int .i64 x3))
    have HR13 := Lib.hid (R_st (r := w.heap.size) HB8.out (by omega) 3 (.int .i64 x3))
    go_simp
    clear k3 f3
    refine hK.out _ _ ?_ (fun hHeld14 => ?_)
    · exact HLC.out _ HF111.out.bel
    clear hK K hHeld10
    try simp only [Act.put, pA, pB, pC]
    refine wpAnyH_take (i := 19) (oi := ⟨some 92, _, _, _, _, _⟩) (v := ?_) rfl (by kernel_rfl) (by kernel_rfl) (by kernel_rfl) (fun _ _ _ h => h) (Or.inl ⟨by rfl, ?_⟩) (by assumption) ?_
    rotate_left
    · intro WW hSw
      try dsimp only at hSw
      go_simp
      try with_reducible rfl
    try simp only [Act.put, pA, pB, pC]
    refine wpAnyH_take (i := 20) (oi := ⟨some 93, _, _, _, _, _⟩) (v := ?_) rfl (by kernel_rfl) (by kernel_rfl) (by kernel_rfl) (fun _ _ _ h => h) (Or.inl ⟨by rfl, ?_⟩) (by assumption) ?_
    rotate_left
    · intro WW hSw
      try dsimp only at hSw
      go_simp
      try with_reducible rfl
    try simp only [Act.put, pA, pB, pC]
    refine wpAnyH_ready (rs := [21]) (by kernel_rfl) (by simp) ?_
    refine AllReadyH.cons (o := ⟨none, _, _, _, _, _⟩) rfl (fun K hK => ?_) AllReadyH.nil
    have k2 : World.cell? _ ⟨w.heap.size, 2, none⟩ = some (.string ⟨#[]⟩) := HF111.out.cell 2
    have f2 := HF111.out.frz 2
    have HF115 := Lib.hid (HF111.out.set (cs' := #[.int .i64 3, .int .i64 0, .string (bsV b5), .int .i64 x3, .int .i64 0, .int .i64 0, .slice Av 0 cv, .bool true]) 2 (.string (bsV b5)) rfl)
    have HR16 := Lib.hid (R_st (r := w.heap.size) HR12.out (by omega) 2 (.string (bsV b5)))
    have HR17 := Lib.hid (R_st (r := w.heap.size) HR13.out (by omega) 2 (.string (bsV b5)))
    go_simp
    clear k2 f2
    refine hK.out _ _ ?_ (fun hHeld18 => ?_)
    · exact HLC.out _ HF115.out.bel
    clear hK K hHeld14
    try simp only [Act.put, pA, pB, pC]
    refine wpAnyH_take (i := 22) (oi := ⟨some 94, _, _, _, _, _⟩) (v := ?_) rfl (by kernel_rfl) (by kernel_rfl) (by kernel_rfl) (fun _ _ _ h => h) (Or.inl ⟨by rfl, ?_⟩) (by assumption) ?_
    rotate_left
    · intro WW hSw
      try dsimp only at hSw
      go_simp
      try with_reducible rfl
    try simp only [Act.put, pA, pB, pC]
    refine wpAnyH_take (i := 23) (oi := ⟨some 95, _, _, _, _, _⟩) (v := ?_) rfl (by kernel_rfl) (by kernel_rfl) (by kernel_rfl) (fun _ _ _ h => h) (Or.inl ⟨by rfl, ?_⟩) (by assumption) ?_
    rotate_left
    · intro WW hSw
      try dsimp only at hSw
      go_simp
      try with_reducible rfl
    try simp only [Act.put, pA, pB, pC]
    refine wpAnyH_ready (rs := [24]) (by kernel_rfl) (by simp) ?_
    refine AllReadyH.cons (o := ⟨none, _, _, _, _, _⟩) rfl (fun K hK => ?_) AllReadyH.nil
    have k6 : World.cell? _ ⟨w.heap.size, 6, none⟩ = some (.slice Av 0 cv) := HF115.out.cell 6
    have f6 := HF115.out.frz 6
    have HF119 := Lib.hid (HF115.out.set (cs' := #[.int .i64 3, .int .i64 0, .string (bsV b5), .int .i64 x3, .int .i64 0, .int .i64 0, .slice B8 b8.length c8, .bool true]) 6 (.slice B8 b8.length c8) rfl)
    have HR20 := Lib.hid (R_st (r := w.heap.size) HR16.out (by omega) 6 (.slice B8 b8.length c8))
    have HR21 := Lib.hid (R_st (r := w.heap.size) HR17.out (by omega) 6 (.slice B8 b8.length c8))
    go_simp
    clear k6 f6
    refine hK.out _ _ ?_ (fun hHeld22 => ?_)
    · exact HLC.out _ HF119.out.bel
    clear hK K hHeld18
    try simp only [Act.put, pA, pB, pC]
    refine wpAnyH_done (by kernel_rfl) ?_ _
    generalize (((y8.setCell ⟨w.heap.size, 3, none⟩ (.int .i64 x3)).setCell ⟨w.heap.size, 2, none⟩ (.string (bsV b5))).setCell ⟨w.heap.size, 6, none⟩ (.slice B8 b8.length c8)) = u23 at *
    go_wp2_with fail
    have HF124 := Lib.hid (HF119.out.later (Drawn0.below ⟨1, rfl⟩ : Below u23.heap.size u23 u23.drew))
    have HR25 := Lib.hid (Kd.R_below HR20.out (Drawn0.below ⟨1, rfl⟩ : Below u23.heap.size u23 u23.drew))
    have HR26 := Lib.hid (Kd.R_below HR21.out (Drawn0.below ⟨1, rfl⟩ : Below u23.heap.size u23 u23.drew))
    refine wp_region_held_drew (S := (fun w' => w'.cell? ⟨w.heap.size, 0, none⟩ = some (.int .i64 3) ∧ w'.cell? ⟨w.heap.size, 1, none⟩ = some (.int .i64 0) ∧ w'.cell? ⟨w.heap.size, 2, none⟩ = some (.string (bsV b5)) ∧ w'.cell? ⟨w.heap.size, 3, none⟩ = some (.int .i64 x3) ∧ w'.cell? ⟨w.heap.size, 4, none⟩ = some (.int .i64 0) ∧ w'.cell? ⟨w.heap.size, 5, none⟩ = some (.int .i64 0) ∧ w'.cell? ⟨w.heap.size, 6, none⟩ = some (.slice B8 b8.length c8) ∧ w'.cell? ⟨w.heap.size, 7, none⟩ = some (.bool true) ∧ w'.cell? ⟨w.heap.size + 2, 0, none⟩ = some (.bool (((true && p3) && p5) && p8)))) (by kernel_rfl) ?_ (fun hHeld => ?_)
    · exact ⟨cell_of_row _ _ 0 _ _ (0, 0) HF124.out.box, cell_of_row _ _ 1 _ _ (0, 0) HF124.out.box, cell_of_row _ _ 2 _ _ (0, 0) HF124.out.box, cell_of_row _ _ 3 _ _ (0, 0) HF124.out.box, cell_of_row _ _ 4 _ _ (0, 0) HF124.out.box, cell_of_row _ _ 5 _ _ (0, 0) HF124.out.box, cell_of_row _ _ 6 _ _ (0, 0) HF124.out.box, cell_of_row _ _ 7 _ _ (0, 0) HF124.out.box, cell_of_row _ _ 0 _ _ (0, 0) HF124.out.okb⟩
    generalize u23.drew = dz at *
    refine wpAnyH_take (i := 0) (oi := ⟨some 122, _, _, _, _, _⟩) (v := ?_) rfl (by kernel_rfl) (by kernel_rfl) (by kernel_rfl) (fun _ _ _ h => h) (Or.inl ⟨by rfl, ?_⟩) (by assumption) ?_
    rotate_left
    · intro WW hSw
      try dsimp only at hSw
      go_simp
      try with_reducible rfl
    try simp only [Act.put, pA, pB, pC]
    refine wpAnyH_take (i := 1) (oi := ⟨some 123, _, _, _, _, _⟩) (v := ?_) rfl (by kernel_rfl) (by kernel_rfl) (by kernel_rfl) (fun _ _ _ h => h) (Or.inl ⟨by rfl, ?_⟩) (by assumption) ?_
    rotate_left
    · intro WW hSw
      try dsimp only at hSw
      go_simp
      try with_reducible rfl
    try simp only [Act.put, pA, pB, pC]
    refine wpAnyH_ready (rs := [2]) (by kernel_rfl) (by simp) ?_
    refine AllReadyH.cons (o := ⟨none, _, _, _, _, _⟩) rfl (fun K hK => ?_) AllReadyH.nil
    obtain ⟨m0, m1, m2, m3, m4, m5, m6, m7, n0, n1, n2, n3, n4, n5, n6, n7⟩ := zC_facts HF124.out.res
    obtain ⟨j1, j2, j3⟩ := set8 HF124.out.res (.int .i64 3) (.int .i64 0) (.string (bsV b5)) (.int .i64 x3) (.int .i64 0) (.int .i64 0) (.slice B8 b8.length c8) (.bool true)
    go_simp
    refine hK.out _ _ ?_ (fun hHeldZ => ?_)
    · exact ⟨cell_of_row _ _ 0 _ _ (0, 0) ((j2 _ (by omega)).trans HF124.out.box), cell_of_row _ _ 1 _ _ (0, 0) ((j2 _ (by omega)).trans HF124.out.box), cell_of_row _ _ 2 _ _ (0, 0) ((j2 _ (by omega)).trans HF124.out.box), cell_of_row _ _ 3 _ _ (0, 0) ((j2 _ (by omega)).trans HF124.out.box), cell_of_row _ _ 4 _ _ (0, 0) ((j2 _ (by omega)).trans HF124.out.box), cell_of_row _ _ 5 _ _ (0, 0) ((j2 _ (by omega)).trans HF124.out.box), cell_of_row _ _ 6 _ _ (0, 0) ((j2 _ (by omega)).trans HF124.out.box), cell_of_row _ _ 7 _ _ (0, 0) ((j2 _ (by omega)).trans HF124.out.box), cell_of_row _ _ 0 _ _ (0, 0) ((j2 _ (by omega)).trans HF124.out.okb)⟩
    clear hK K hHeld
    try simp only [Act.put, pA, pB, pC]
    refine wpAnyH_take (i := 3) (oi := ⟨some 5, _, _, _, _, _⟩) (v := ?_) rfl (by kernel_rfl) (by kernel_rfl) (by kernel_rfl) (fun _ _ _ h => h) (Or.inl ⟨by rfl, ?_⟩) (by assumption) ?_
    rotate_left
    · intro WW hSw
      try dsimp only at hSw
      go_simp
      try with_reducible rfl
    try simp only [Act.put, pA, pB, pC]
    refine wpAnyH_done (by kernel_rfl) ?_ _
    go_wp2_with fail
    refine bodyPost_ret (results_ct rfl _ _ (w.heap.size + 1) 30 #[.int .i64 3, .int .i64 0, .string (bsV b5), .int .i64 x3, .int .i64 0, .int .i64 0, .slice B8 b8.length c8, .bool true] (0, 0) _ rfl j1 Tryd.underlying30 rfl (by kernel_rfl)) rfl ?_
    exact ⟨⟨3, 0, b5, x3, 0, 0, b8, true⟩, B8, c8, (((true && p3) && p5) && p8), rfl, (write_fill HN3.out HN5.out HN8.out).1, (write_fill HN3.out HN5.out HN8.out).2, Kd.R_lower (R_off2 HR26.out HF124.out.res HF124.out.res (by decide) (fun j h1 _ => j2 j h1)) (by have := HB0.out; omega), j3 HF124.out.bel (by omega)⟩
  · skip
    go_simp
    go_at_call 65
    refine (bytC_any c HLc.out _ _ _ HF105.out.okb).mono ?_
    rintro e y27 ⟨B27, b27, c27, p27, rfl, hn, hr, hg, hk⟩
    have HN27 := Lib.hid hn
    have HF127 := Lib.hid (HF105.out.grown hg hk)
    have HR28 := Lib.hid (R_gr HB5.out (by have := HF105.out.siz; omega) hg)
    have HB27 := Lib.hid (Kd.R_lower (base' := w.heap.size + 3) hr HF105.out.siz)
    clear hn hg hk hr
    refine hK.out _ _ ?_ (fun hHeld29 => ?_)
    · exact HLC.out _ HF127.out.bel
    clear hK K hHeld6
    try simp only [Act.put, pA, pB, pC]
    refine wpAnyH_ready (rs := [10, 18]) (by kernel_rfl) (by simp) ?_
    refine AllReadyH.cons (o := ⟨some 84, _, _, _, _, _⟩) rfl (fun K hK => ?_) (AllReadyH.cons (o := ⟨none, _, _, _, _, _⟩) rfl (fun K hK => ?_) AllReadyH.nil)
    · skip
      have hcv : (Kd.int .u8).C y27 B5 b5.length (bI b5) := by have := (Kd.R_reads' HR28.out).2.2; rwa [bI_len] at this
      refine value_ (N := some 84) (by rfl) rfl (exec_conv1 rfl (by rfl) (conv_bs c5 hcv)) ?_
      clear hcv
      refine hK.out _ _ ?_ (fun hHeld30 => ?_)
      · exact HLC.out _ HF127.out.bel
      clear hK K hHeld29
      try simp only [Act.put, pA, pB, pC]
      refine wpAnyH_ready (rs := [18]) (by kernel_rfl) (by simp) ?_
      refine AllReadyH.cons (o := ⟨none, _, _, _, _, _⟩) rfl (fun K hK => ?_) AllReadyH.nil
      have k3 : World.cell? _ ⟨w.heap.size, 3, none⟩ = some (.int .i64 0) := HF127.out.cell 3
      have f3 := HF127.out.frz 3
      have HF131 := Lib.hid (HF127.out.set (cs' := #[.int .i64 3, .int .i64 0, .string ⟨#[]⟩, .int .i64 x3, .int .i64 0, .int .i64 0, .slice Av 0 cv, .bool true]) 3 (.int .i64 x3) rfl)
      have HR32 := Lib.hid (R_st (r := w.heap.size) HR28.out (by omega) 3 (.int .i64 x3))
      have HR33 := Lib.hid (R_st (r := w.heap.size) HB27.out (by omega) 3 (.int .i64 x3))
      go_simp
      clear k3 f3
      refine hK.out _ _ ?_ (fun hHeld34 => ?_)
      · exact HLC.out _ HF131.out.bel
      clear hK K hHeld30
      try simp only [Act.put, pA, pB, pC]
      refine wpAnyH_take (i := 19) (oi := ⟨some 92, _, _, _, _, _⟩) (v := ?_) rfl (by kernel_rfl) (by kernel_rfl) (by kernel_rfl) (fun _ _ _ h => h) (Or.inl ⟨by rfl, ?_⟩) (by assumption) ?_
      rotate_left
      · intro WW hSw
        try dsimp only at hSw
        go_simp
        try with_reducible rfl
      try simp only [Act.put, pA, pB, pC]
      refine wpAnyH_take (i := 20) (oi := ⟨some 93, _, _, _, _, _⟩) (v := ?_) rfl (by kernel_rfl) (by kernel_rfl) (by kernel_rfl) (fun _ _ _ h => h) (Or.inl ⟨by rfl, ?_⟩) (by assumption) ?_
      rotate_left
      · intro WW hSw
        try dsimp only at hSw
        go_simp
        try with_reducible rfl
      try simp only [Act.put, pA, pB, pC]
      refine wpAnyH_ready (rs := [21]) (by kernel_rfl) (by simp) ?_
      refine AllReadyH.cons (o := ⟨none, _, _, _, _, _⟩) rfl (fun K hK => ?_) AllReadyH.nil
      have k2 : World.cell? _ ⟨w.heap.size, 2, none⟩ = some (.string ⟨#[]⟩) := HF131.out.cell 2
      have f2 := HF131.out.frz 2
      have HF135 := Lib.hid (HF131.out.set (cs' := #[.int .i64 3, .int .i64 0, .string (bsV b5), .int .i64 x3, .int .i64 0, .int .i64 0, .slice Av 0 cv, .bool true]) 2 (.string (bsV b5)) rfl)
      have HR36 := Lib.hid (R_st (r := w.heap.size) HR32.out (by omega) 2 (.string (bsV b5)))
      have HR37 := Lib.hid (R_st (r := w.heap.size) HR33.out (by omega) 2 (.string (bsV b5)))
      go_simp
      clear k2 f2
      refine hK.out _ _ ?_ (fun hHeld38 => ?_)
      · exact HLC.out _ HF135.out.bel
      clear hK K hHeld34
      try simp only [Act.put, pA, pB, pC]
      refine wpAnyH_take (i := 22) (oi := ⟨some 94, _, _, _, _, _⟩) (v := ?_) rfl (by kernel_rfl) (by kernel_rfl) (by kernel_rfl) (fun _ _ _ h => h) (Or.inl ⟨by rfl, ?_⟩) (by assumption) ?_
      rotate_left
      · intro WW hSw
        try dsimp only at hSw
        go_simp
        try with_reducible rfl
      try simp only [Act.put, pA, pB, pC]
      refine wpAnyH_take (i := 23) (oi := ⟨some 95, _, _, _, _, _⟩) (v := ?_) rfl (by kernel_rfl) (by kernel_rfl) (by kernel_rfl) (fun _ _ _ h => h) (Or.inl ⟨by rfl, ?_⟩) (by assumption) ?_
      rotate_left
      · intro WW hSw
        try dsimp only at hSw
        go_simp
        try with_reducible rfl
      try simp only [Act.put, pA, pB, pC]
      refine wpAnyH_ready (rs := [24]) (by kernel_rfl) (by simp) ?_
      refine AllReadyH.cons (o := ⟨none, _, _, _, _, _⟩) rfl (fun K hK => ?_) AllReadyH.nil
      have k6 : World.cell? _ ⟨w.heap.size, 6, none⟩ = some (.slice Av 0 cv) := HF135.out.cell 6
      have f6 := HF135.out.frz 6
      have HF139 := Lib.hid (HF135.out.set (cs' := #[.int .i64 3, .int .i64 0, .string (bsV b5), .int .i64 x3, .int .i64 0, .int .i64 0, .slice B27 b27.length c27, .bool true]) 6 (.slice B27 b27.length c27) rfl)
      have HR40 := Lib.hid (R_st (r := w.heap.size) HR36.out (by omega) 6 (.slice B27 b27.length c27))
      have HR41 := Lib.hid (R_st (r := w.heap.size) HR37.out (by omega) 6 (.slice B27 b27.length c27))
      go_simp
      clear k6 f6
      refine hK.out _ _ ?_ (fun hHeld42 => ?_)
      · exact HLC.out _ HF139.out.bel
      clear hK K hHeld38
      try simp only [Act.put, pA, pB, pC]
      refine wpAnyH_done (by kernel_rfl) ?_ _
      generalize (((y27.setCell ⟨w.heap.size, 3, none⟩ (.int .i64 x3)).setCell ⟨w.heap.size, 2, none⟩ (.string (bsV b5))).setCell ⟨w.heap.size, 6, none⟩ (.slice B27 b27.length c27)) = u43 at *
      go_wp2_with fail
      have HF144 := Lib.hid (HF139.out.later (Drawn0.below ⟨1, rfl⟩ : Below u43.heap.size u43 u43.drew))
      have HR45 := Lib.hid (Kd.R_below HR40.out (Drawn0.below ⟨1, rfl⟩ : Below u43.heap.size u43 u43.drew))
      have HR46 := Lib.hid (Kd.R_below HR41.out (Drawn0.below ⟨1, rfl⟩ : Below u43.heap.size u43 u43.drew))
      refine wp_region_held_drew (S := (fun w' => w'.cell? ⟨w.heap.size, 0, none⟩ = some (.int .i64 3) ∧ w'.cell? ⟨w.heap.size, 1, none⟩ = some (.int .i64 0) ∧ w'.cell? ⟨w.heap.size, 2, none⟩ = some (.string (bsV b5)) ∧ w'.cell? ⟨w.heap.size, 3, none⟩ = some (.int .i64 x3) ∧ w'.cell? ⟨w.heap.size, 4, none⟩ = some (.int .i64 0) ∧ w'.cell? ⟨w.heap.size, 5, none⟩ = some (.int .i64 0) ∧ w'.cell? ⟨w.heap.size, 6, none⟩ = some (.slice B27 b27.length c27) ∧ w'.cell? ⟨w.heap.size, 7, none⟩ = some (.bool true) ∧ w'.cell? ⟨w.heap.size + 2, 0, none⟩ = some (.bool (((true && p3) && p5) && p27)))) (by kernel_rfl) ?_ (fun hHeld => ?_)
      · exact ⟨cell_of_row _ _ 0 _ _ (0, 0) HF144.out.box, cell_of_row _ _ 1 _ _ (0, 0) HF144.out.box, cell_of_row _ _ 2 _ _ (0, 0) HF144.out.box, cell_of_row _ _ 3 _ _ (0, 0) HF144.out.box, cell_of_row _ _ 4 _ _ (0, 0) HF144.out.box, cell_of_row _ _ 5 _ _ (0, 0) HF144.out.box, cell_of_row _ _ 6 _ _ (0, 0) HF144.out.box, cell_of_row _ _ 7 _ _ (0, 0) HF144.out.box, cell_of_row _ _ 0 _ _ (0, 0) HF144.out.okb⟩
      generalize u43.drew = dz at *
      refine wpAnyH_take (i := 0) (oi := ⟨some 122, _, _, _, _, _⟩) (v := ?_) rfl (by kernel_rfl) (by kernel_rfl) (by kernel_rfl) (fun _ _ _ h => h) (Or.inl ⟨by rfl, ?_⟩) (by assumption) ?_
      rotate_left
      · intro WW hSw
        try dsimp only at hSw
        go_simp
        try with_reducible rfl
      try simp only [Act.put, pA, pB, pC]
      refine wpAnyH_take (i := 1) (oi := ⟨some 123, _, _, _, _, _⟩) (v := ?_) rfl (by kernel_rfl) (by kernel_rfl) (by kernel_rfl) (fun _ _ _ h => h) (Or.inl ⟨by rfl, ?_⟩) (by assumption) ?_
      rotate_left
      · intro WW hSw
        try dsimp only at hSw
        go_simp
        try with_reducible rfl
      try simp only [Act.put, pA, pB, pC]
      refine wpAnyH_ready (rs := [2]) (by kernel_rfl) (by simp) ?_
      refine AllReadyH.cons (o := ⟨none, _, _, _, _, _⟩) rfl (fun K hK => ?_) AllReadyH.nil
      obtain ⟨m0, m1, m2, m3, m4, m5, m6, m7, n0, n1, n2, n3, n4, n5, n6, n7⟩ := zC_facts HF144.out.res
      obtain ⟨j1, j2, j3⟩ := set8 HF144.out.res (.int .i64 3) (.int .i64 0) (.string (bsV b5)) (.int .i64 x3) (.int .i64 0) (.int .i64 0) (.slice B27 b27.length c27) (.bool true)
      go_simp
      refine hK.out _ _ ?_ (fun hHeldZ => ?_)
      · exact ⟨cell_of_row _ _ 0 _ _ (0, 0) ((j2 _ (by omega)).trans HF144.out.box), cell_of_row _ _ 1 _ _ (0, 0) ((j2 _ (by omega)).trans HF144.out.box), cell_of_row _ _ 2 _ _ (0, 0) ((j2 _ (by omega)).trans HF144.out.box), cell_of_row _ _ 3 _ _ (0, 0) ((j2 _ (by omega)).trans HF144.out.box), cell_of_row _ _ 4 _ _ (0, 0) ((j2 _ (by omega)).trans HF144.out.box), cell_of_row _ _ 5 _ _ (0, 0) ((j2 _ (by omega)).trans HF144.out.box), cell_of_row _ _ 6 _ _ (0, 0) ((j2 _ (by omega)).trans HF144.out.box), cell_of_row _ _ 7 _ _ (0, 0) ((j2 _ (by omega)).trans HF144.out.box), cell_of_row _ _ 0 _ _ (0, 0) ((j2 _ (by omega)).trans HF144.out.okb)⟩
      clear hK K hHeld
      try simp only [Act.put, pA, pB, pC]
      refine wpAnyH_take (i := 3) (oi := ⟨some 5, _, _, _, _, _⟩) (v := ?_) rfl (by kernel_rfl) (by kernel_rfl) (by kernel_rfl) (fun _ _ _ h => h) (Or.inl ⟨by rfl, ?_⟩) (by assumption) ?_
      rotate_left
      · intro WW hSw
        try dsimp only at hSw
        go_simp
        try with_reducible rfl
      try simp only [Act.put, pA, pB, pC]
      refine wpAnyH_done (by kernel_rfl) ?_ _
      go_wp2_with fail
      refine bodyPost_ret (results_ct rfl _ _ (w.heap.size + 1) 30 #[.int .i64 3, .int .i64 0, .string (bsV b5), .int .i64 x3, .int .i64 0, .int .i64 0, .slice B27 b27.length c27, .bool true] (0, 0) _ rfl j1 Tryd.underlying30 rfl (by kernel_rfl)) rfl ?_
      exact ⟨⟨3, 0, b5, x3, 0, 0, b27, true⟩, B27, c27, (((true && p3) && p5) && p27), rfl, (write_fill HN3.out HN5.out HN27.out).1, (write_fill HN3.out HN5.out HN27.out).2, Kd.R_lower (R_off2 HR46.out HF144.out.res HF144.out.res (by decide) (fun j h1 _ => j2 j h1)) (by have := HB0.out; omega), j3 HF144.out.bel (by omega)⟩
    · skip
      have k3 : World.cell? _ ⟨w.heap.size, 3, none⟩ = some (.int .i64 0) := HF127.out.cell 3
      have f3 := HF127.out.frz 3
      have HF147 := Lib.hid (HF127.out.set (cs' := #[.int .i64 3, .int .i64 0, .string ⟨#[]⟩, .int .i64 x3, .int .i64 0, .int .i64 0, .slice Av 0 cv, .bool true]) 3 (.int .i64 x3) rfl)
      have HR48 := Lib.hid (R_st (r := w.heap.size) HR28.out (by omega) 3 (.int .i64 x3))
      have HR49 := Lib.hid (R_st (r := w.heap.size) HB27.out (by omega) 3 (.int .i64 x3))
      go_simp
      clear k3 f3
      refine hK.out _ _ ?_ (fun hHeld50 => ?_)
      · exact HLC.out _ HF147.out.bel
      clear hK K hHeld29
      try simp only [Act.put, pA, pB, pC]
      refine wpAnyH_ready (rs := [10]) (by kernel_rfl) (by simp) ?_
      refine AllReadyH.cons (o := ⟨some 84, _, _, _, _, _⟩) rfl (fun K hK => ?_) AllReadyH.nil
      have hcv : (Kd.int .u8).C (y27.setCell ⟨w.heap.size, 3, none⟩ (.int .i64 x3)) B5 b5.length (bI b5) := by have := (Kd.R_reads' HR48.out).2.2; rwa [bI_len] at this
      refine value_ (N := some 84) (by rfl) rfl (exec_conv1 rfl (by rfl) (conv_bs c5 hcv)) ?_
      clear hcv
      refine hK.out _ _ ?_ (fun hHeld51 => ?_)
      · exact HLC.out _ HF147.out.bel
      clear hK K hHeld50
      try simp only [Act.put, pA, pB, pC]
      refine wpAnyH_take (i := 19) (oi := ⟨some 92, _, _, _, _, _⟩) (v := ?_) rfl (by kernel_rfl) (by kernel_rfl) (by kernel_rfl) (fun _ _ _ h => h) (Or.inl ⟨by rfl, ?_⟩) (by assumption) ?_
      rotate_left
      · intro WW hSw
        try dsimp only at hSw
        go_simp
        try with_reducible rfl
      try simp only [Act.put, pA, pB, pC]
      refine wpAnyH_take (i := 20) (oi := ⟨some 93, _, _, _, _, _⟩) (v := ?_) rfl (by kernel_rfl) (by kernel_rfl) (by kernel_rfl) (fun _ _ _ h => h) (Or.inl ⟨by rfl, ?_⟩) (by assumption) ?_
      rotate_left
      · intro WW hSw
        try dsimp only at hSw
        go_simp
        try with_reducible rfl
      try simp only [Act.put, pA, pB, pC]
      refine wpAnyH_ready (rs := [21]) (by kernel_rfl) (by simp) ?_
      refine AllReadyH.cons (o := ⟨none, _, _, _, _, _⟩) rfl (fun K hK => ?_) AllReadyH.nil
      have k2 : World.cell? _ ⟨w.heap.size, 2, none⟩ = some (.string ⟨#[]⟩) := HF147.out.cell 2
      have f2 := HF147.out.frz 2
      have HF152 := Lib.hid (HF147.out.set (cs' := #[.int .i64 3, .int .i64 0, .string (bsV b5), .int .i64 x3, .int .i64 0, .int .i64 0, .slice Av 0 cv, .bool true]) 2 (.string (bsV b5)) rfl)
      have HR53 := Lib.hid (R_st (r := w.heap.size) HR48.out (by omega) 2 (.string (bsV b5)))
      have HR54 := Lib.hid (R_st (r := w.heap.size) HR49.out (by omega) 2 (.string (bsV b5)))
      go_simp
      clear k2 f2
      refine hK.out _ _ ?_ (fun hHeld55 => ?_)
      · exact HLC.out _ HF152.out.bel
      clear hK K hHeld51
      try simp only [Act.put, pA, pB, pC]
      refine wpAnyH_take (i := 22) (oi := ⟨some 94, _, _, _, _, _⟩) (v := ?_) rfl (by kernel_rfl) (by kernel_rfl) (by kernel_rfl) (fun _ _ _ h => h) (Or.inl ⟨by rfl, ?_⟩) (by assumption) ?_
      rotate_left
      · intro WW hSw
        try dsimp only at hSw
        go_simp
        try with_reducible rfl
      try simp only [Act.put, pA, pB, pC]
      refine wpAnyH_take (i := 23) (oi := ⟨some 95, _, _, _, _, _⟩) (v := ?_) rfl (by kernel_rfl) (by kernel_rfl) (by kernel_rfl) (fun _ _ _ h => h) (Or.inl ⟨by rfl, ?_⟩) (by assumption) ?_
      rotate_left
      · intro WW hSw
        try dsimp only at hSw
        go_simp
        try with_reducible rfl
      try simp only [Act.put, pA, pB, pC]
      refine wpAnyH_ready (rs := [24]) (by kernel_rfl) (by simp) ?_
      refine AllReadyH.cons (o := ⟨none, _, _, _, _, _⟩) rfl (fun K hK => ?_) AllReadyH.nil
      have k6 : World.cell? _ ⟨w.heap.size, 6, none⟩ = some (.slice Av 0 cv) := HF152.out.cell 6
      have f6 := HF152.out.frz 6
      have HF156 := Lib.hid (HF152.out.set (cs' := #[.int .i64 3, .int .i64 0, .string (bsV b5), .int .i64 x3, .int .i64 0, .int .i64 0, .slice B27 b27.length c27, .bool true]) 6 (.slice B27 b27.length c27) rfl)
      have HR57 := Lib.hid (R_st (r := w.heap.size) HR53.out (by omega) 6 (.slice B27 b27.length c27))
      have HR58 := Lib.hid (R_st (r := w.heap.size) HR54.out (by omega) 6 (.slice B27 b27.length c27))
      go_simp
      clear k6 f6
      refine hK.out _ _ ?_ (fun hHeld59 => ?_)
      · exact HLC.out _ HF156.out.bel
      clear hK K hHeld55
      try simp only [Act.put, pA, pB, pC]
      refine wpAnyH_done (by kernel_rfl) ?_ _
      generalize (((y27.setCell ⟨w.heap.size, 3, none⟩ (.int .i64 x3)).setCell ⟨w.heap.size, 2, none⟩ (.string (bsV b5))).setCell ⟨w.heap.size, 6, none⟩ (.slice B27 b27.length c27)) = u60 at *
      go_wp2_with fail
      have HF161 := Lib.hid (HF156.out.later (Drawn0.below ⟨1, rfl⟩ : Below u60.heap.size u60 u60.drew))
      have HR62 := Lib.hid (Kd.R_below HR57.out (Drawn0.below ⟨1, rfl⟩ : Below u60.heap.size u60 u60.drew))
      have HR63 := Lib.hid (Kd.R_below HR58.out (Drawn0.below ⟨1, rfl⟩ : Below u60.heap.size u60 u60.drew))
      refine wp_region_held_drew (S := (fun w' => w'.cell? ⟨w.heap.size, 0, none⟩ = some (.int .i64 3) ∧ w'.cell? ⟨w.heap.size, 1, none⟩ = some (.int .i64 0) ∧ w'.cell? ⟨w.heap.size, 2, none⟩ = some (.string (bsV b5)) ∧ w'.cell? ⟨w.heap.size, 3, none⟩ = some (.int .i64 x3) ∧ w'.cell? ⟨w.heap.size, 4, none⟩ = some (.int .i64 0) ∧ w'.cell? ⟨w.heap.size, 5, none⟩ = some (.int .i64 0) ∧ w'.cell? ⟨w.heap.size, 6, none⟩ = some (.slice B27 b27.length c27) ∧ w'.cell? ⟨w.heap.size, 7, none⟩ = some (.bool true) ∧ w'.cell? ⟨w.heap.size + 2, 0, none⟩ = some (.bool (((true && p3) && p5) && p27)))) (by kernel_rfl) ?_ (fun hHeld => ?_)
      · exact ⟨cell_of_row _ _ 0 _ _ (0, 0) HF161.out.box, cell_of_row _ _ 1 _ _ (0, 0) HF161.out.box, cell_of_row _ _ 2 _ _ (0, 0) HF161.out.box, cell_of_row _ _ 3 _ _ (0, 0) HF161.out.box, cell_of_row _ _ 4 _ _ (0, 0) HF161.out.box, cell_of_row _ _ 5 _ _ (0, 0) HF161.out.box, cell_of_row _ _ 6 _ _ (0, 0) HF161.out.box, cell_of_row _ _ 7 _ _ (0, 0) HF161.out.box, cell_of_row _ _ 0 _ _ (0, 0) HF161.out.okb⟩
      generalize u60.drew = dz at *
      refine wpAnyH_take (i := 0) (oi := ⟨some 122, _, _, _, _, _⟩) (v := ?_) rfl (by kernel_rfl) (by kernel_rfl) (by kernel_rfl) (fun _ _ _ h => h) (Or.inl ⟨by rfl, ?_⟩) (by assumption) ?_
      rotate_left
      · intro WW hSw
        try dsimp only at hSw
        go_simp
        try with_reducible rfl
      try simp only [Act.put, pA, pB, pC]
      refine wpAnyH_take (i := 1) (oi := ⟨some 123, _, _, _, _, _⟩) (v := ?_) rfl (by kernel_rfl) (by kernel_rfl) (by kernel_rfl) (fun _ _ _ h => h) (Or.inl ⟨by rfl, ?_⟩) (by assumption) ?_
      rotate_left
      · intro WW hSw
        try dsimp only at hSw
        go_simp
        try with_reducible rfl
      try simp only [Act.put, pA, pB, pC]
      refine wpAnyH_ready (rs := [2]) (by kernel_rfl) (by simp) ?_
      refine AllReadyH.cons (o := ⟨none, _, _, _, _, _⟩) rfl (fun K hK => ?_) AllReadyH.nil
      obtain ⟨m0, m1, m2, m3, m4, m5, m6, m7, n0, n1, n2, n3, n4, n5, n6, n7⟩ := zC_facts HF161.out.res
      obtain ⟨j1, j2, j3⟩ := set8 HF161.out.res (.int .i64 3) (.int .i64 0) (.string (bsV b5)) (.int .i64 x3) (.int .i64 0) (.int .i64 0) (.slice B27 b27.length c27) (.bool true)
      go_simp
      refine hK.out _ _ ?_ (fun hHeldZ => ?_)
      · exact ⟨cell_of_row _ _ 0 _ _ (0, 0) ((j2 _ (by omega)).trans HF161.out.box), cell_of_row _ _ 1 _ _ (0, 0) ((j2 _ (by omega)).trans HF161.out.box), cell_of_row _ _ 2 _ _ (0, 0) ((j2 _ (by omega)).trans HF161.out.box), cell_of_row _ _ 3 _ _ (0, 0) ((j2 _ (by omega)).trans HF161.out.box), cell_of_row _ _ 4 _ _ (0, 0) ((j2 _ (by omega)).trans HF161.out.box), cell_of_row _ _ 5 _ _ (0, 0) ((j2 _ (by omega)).trans HF161.out.box), cell_of_row _ _ 6 _ _ (0, 0) ((j2 _ (by omega)).trans HF161.out.box), cell_of_row _ _ 7 _ _ (0, 0) ((j2 _ (by omega)).trans HF161.out.box), cell_of_row _ _ 0 _ _ (0, 0) ((j2 _ (by omega)).trans HF161.out.okb)⟩
      clear hK K hHeld
      try simp only [Act.put, pA, pB, pC]
      refine wpAnyH_take (i := 3) (oi := ⟨some 5, _, _, _, _, _⟩) (v := ?_) rfl (by kernel_rfl) (by kernel_rfl) (by kernel_rfl) (fun _ _ _ h => h) (Or.inl ⟨by rfl, ?_⟩) (by assumption) ?_
      rotate_left
      · intro WW hSw
        try dsimp only at hSw
        go_simp
        try with_reducible rfl
      try simp only [Act.put, pA, pB, pC]
      refine wpAnyH_done (by kernel_rfl) ?_ _
      go_wp2_with fail
      refine bodyPost_ret (results_ct rfl _ _ (w.heap.size + 1) 30 #[.int .i64 3, .int .i64 0, .string (bsV b5), .int .i64 x3, .int .i64 0, .int .i64 0, .slice B27 b27.length c27, .bool true] (0, 0) _ rfl j1 Tryd.underlying30 rfl (by kernel_rfl)) rfl ?_
      exact ⟨⟨3, 0, b5, x3, 0, 0, b27, true⟩, B27, c27, (((true && p3) && p5) && p27), rfl, (write_fill HN3.out HN5.out HN27.out).1, (write_fill HN3.out HN5.out HN27.out).2, Kd.R_lower (R_off2 HR63.out HF161.out.res HF161.out.res (by decide) (fun j h1 _ => j2 j h1)) (by have := HB0.out; omega), j3 HF161.out.bel (by omega)⟩
end Go.Proofs.YtgfljpchdiapeaaDoor
