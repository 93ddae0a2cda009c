/- report.fill: hits. The library's Split; errors of one step. -/
import Derived.Test.YtgfljpchdiapeaaDoorG8
import Derived.Test.YtgfljpchdiapeaaDoorG3
import Derived.Test.YtgfljpchdiapeaaDoorRes
import Derived.Test.YtgfljpchdiapeaaDoorErr2
import Derived.Deep.RegionHeld3
namespace Go.Proofs.YtgfljpchdiapeaaDoor
set_option linter.unusedVariables false
set_option linter.unusedSimpArgs false
open Go.RowKit Go.Proofs.YtgfljpchdiapeaaDoorW.PrintWords Go.Proofs.YtgfljpchdiapeaaDoorW.PrintLast
attribute [local go_sem ↓] Go.wp_at_zero Go.wp_at_succ
attribute [local go_sem] bsV_get bsV_size bsV_toList
set_option maxHeartbeats 8000000 in
set_option maxRecDepth 100000 in
theorem fill_hit (a b c d x : Bs) (A : Option Addr) (c0 : Nat) (w : World) (hC : Kd.string.C w A [a, b, c, d, x].length ([a, b, c, d, x].map bsV)) (hc : 5 ≤ c0) (hl : ∀ z ∈ [a, b, c, d, x], z.length < 100000000) (Av : Option Addr) (cv B0 : Nat) (hRv : Kd.R (Kd.int .u8) 5 w B0 (fun _ => True) (.slice Av 0 cv) []) (hB0 : B0 ≤ w.heap.size) : Calls Tryd.prog 46 #[.agg #[.int .i64 1, .int .i64 0, .string ⟨#[]⟩, .int .i64 0, .int .i64 0, .int .i64 0, .slice Av 0 cv, .bool false], .slice A 5 c0] w (FPost (hitR [a, b, c, d, x]) B0 w) := by
  have HC := Lib.hid hC
  have HRV := Lib.hid hRv
  have HB0 := Lib.hid hB0
  clear hRv hB0
  have HLa := Lib.hid (hl a (by simp))
  have HLb := Lib.hid (hl b (by simp))
  have HLc := Lib.hid (hl c (by simp))
  have HLd := Lib.hid (hl d (by simp))
  have HLx := Lib.hid (hl x (by simp))
  clear hC hl
  obtain ⟨ad, rfl, _⟩ := str_at HC.out (i := 0) (by simp)
  have HLC := Lib.hid (show ∀ W, Below w.heap.size w W → W.cell? ad = some (.string (bsV a)) ∧ W.cell? ⟨ad.block, ad.off + 1, none⟩ = some (.string (bsV b)) ∧ W.cell? ⟨ad.block, ad.off + 2, none⟩ = some (.string (bsV c)) ∧ W.cell? ⟨ad.block, ad.off + 3, none⟩ = some (.string (bsV d)) ∧ W.cell? ⟨ad.block, ad.off + 4, none⟩ = some (.string (bsV x)) from fun W hW => by
    refine ⟨?_, ?_, ?_, ?_, ?_⟩
    · obtain ⟨ad', e, h⟩ := str_at HC.out (i := 0) (by simp)
      injection e with e
      subst e
      exact (hW.cell (World.block_lt_of_cell? w _ h)).trans h
    · obtain ⟨ad', e, h⟩ := str_at HC.out (i := 1) (by simp)
      injection e with e
      subst e
      exact (hW.cell (World.block_lt_of_cell? w _ h)).trans h
    · obtain ⟨ad', e, h⟩ := str_at HC.out (i := 2) (by simp)
      injection e with e
      subst e
      exact (hW.cell (World.block_lt_of_cell? w _ h)).trans h
    · obtain ⟨ad', e, h⟩ := str_at HC.out (i := 3) (by simp)
      injection e with e
      subst e
      exact (hW.cell (World.block_lt_of_cell? w _ h)).trans h
    · obtain ⟨ad', e, h⟩ := str_at HC.out (i := 4) (by simp)
      injection e with e
      subst e
      exact (hW.cell (World.block_lt_of_cell? w _ h)).trans h)
  have HW := Lib.hid (fun W => wordsE_any ⟨1, 0, [], 0, 0, 0, [], false⟩ Av cv W ⟨Nat.zero_le _, Kd.C_of_reads (d := (0 : Int)) ⟨rfl, by decide, fun h => absurd h (by decide)⟩, ⟨⟨by decide, by decide⟩, ⟨by decide, by decide⟩, ⟨by decide, by decide⟩, ⟨by decide, by decide⟩, ⟨by decide, by decide⟩⟩, by decide, by decide⟩)
  have HF0 := Lib.hid (fs_start w #[.int .i64 1, .int .i64 0, .string ⟨#[]⟩, .int .i64 0, .int .i64 0, .int .i64 0, .slice Av 0 cv, .bool false])
  unfold eC at HW
  go_enter Tryd.func46, Tryd.ntmps46
  go_upto_region 2 with (fail)
  have e0 : ((w.alloc (.cells #[.int .i64 1, .int .i64 0, .string ⟨#[]⟩, .int .i64 0, .int .i64 0, .int .i64 0, .slice Av 0 cv, .bool false] 30)).alloc (.cells zC 30)).alloc (.cells #[.bool true] 4) = ((w.alloc (.cells #[.int .i64 1, .int .i64 0, .string ⟨#[]⟩, .int .i64 0, .int .i64 0, .int .i64 0, .slice Av 0 cv, .bool false] 30)).alloc (.cells #[.int .i64 0, .int .i64 0, .string ⟨#[]⟩, .int .i64 0, .int .i64 0, .int .i64 0, .slice none 0 0, .bool false] 30)).alloc (.cells #[.bool true] 4) := rfl
  rw [e0] at HF0
  clear e0
  generalize ((w.alloc (.cells #[.int .i64 1, .int .i64 0, .string ⟨#[]⟩, .int .i64 0, .int .i64 0, .int .i64 0, .slice Av 0 cv, .bool false] 30)).alloc (.cells #[.int .i64 0, .int .i64 0, .string ⟨#[]⟩, .int .i64 0, .int .i64 0, .int .i64 0, .slice none 0 0, .bool false] 30)).alloc (.cells #[.bool true] 4) = w1 at *
  have k0 : w1.cell? ⟨w.heap.size, 0, none⟩ = some (.int .i64 1) := HF0.out.cell 0
  have k1 : w1.cell? ⟨w.heap.size, 1, none⟩ = some (.int .i64 0) := HF0.out.cell 1
  have k2 : w1.cell? ⟨w.heap.size, 2, none⟩ = some (.string ⟨#[]⟩) := HF0.out.cell 2
  have k3 : w1.cell? ⟨w.heap.size, 3, none⟩ = some (.int .i64 0) := HF0.out.cell 3
  have k4 : w1.cell? ⟨w.heap.size, 4, none⟩ = some (.int .i64 0) := HF0.out.cell 4
  have k5 : w1.cell? ⟨w.heap.size, 5, none⟩ = some (.int .i64 0) := HF0.out.cell 5
  have k6 : w1.cell? ⟨w.heap.size, 6, none⟩ = some (.slice Av 0 cv) := HF0.out.cell 6
  have k7 : w1.cell? ⟨w.heap.size, 7, none⟩ = some (.bool false) := HF0.out.cell 7
  go_wp2_with fail
  refine (HW.out w1).mono ?_
  rintro x w2 ⟨rfl, hb⟩
  have HF1 := Lib.hid (HF0.out.later hb)
  clear hb HF0 HW k0 k1 k2 k3 k4 k5 k6 k7
  rw [show wordE ⟨1, 0, [], 0, 0, 0, [], false⟩ = [104, 105, 116] from rfl]
  go_wp2_with fail
  have HF101 := Lib.hid (HF1.out.later (Drawn0.below ⟨1, rfl⟩ : Below w2.heap.size w2 w2.drew))
  refine wp_region_held_drew (S := (fun w' => w'.cell? ad = some (.string (bsV a)) ∧ w'.cell? ⟨ad.block, ad.off + 1, none⟩ = some (.string (bsV b)) ∧ w'.cell? ⟨ad.block, ad.off + 2, none⟩ = some (.string (bsV c)) ∧ w'.cell? ⟨ad.block, ad.off + 3, none⟩ = some (.string (bsV d)) ∧ w'.cell? ⟨ad.block, ad.off + 4, none⟩ = some (.string (bsV x)))) (by kernel_rfl) ?_ (fun hHeld => ?_)
  · exact HLC.out _ HF101.out.bel
  generalize w2.drew = d2 at *
  refine wpAnyH_take (i := 0) (oi := ⟨some 21, _, _, _, _, _⟩) (v := ?_) rfl (by kernel_rfl) (by kernel_rfl) (by kernel_rfl) (fun _ _ _ h => h) (Or.inl ⟨by rfl, ?_⟩) (by assumption) ?_
  rotate_left
  · intro WW hSw
    try dsimp only at hSw
    go_simp
    try with_reducible rfl
  try simp only [Act.put, pA, pB, pC]
  refine wpAnyH_take (i := 1) (oi := ⟨some 22, _, _, _, _, _⟩) (v := ?_) rfl (by kernel_rfl) (by kernel_rfl) (by kernel_rfl) (fun _ _ _ h => h) (Or.inl ⟨by rfl, ?_⟩) (by assumption) ?_
  rotate_left
  · intro WW hSw
    try dsimp only at hSw
    go_simp
    try with_reducible rfl
  try simp only [Act.put, pA, pB, pC]
  refine wpAnyH_take (i := 2) (oi := ⟨some 23, _, _, _, _, _⟩) (v := ?_) rfl (by kernel_rfl) (by kernel_rfl) (by kernel_rfl) (fun _ _ _ h => h) (Or.inl ⟨by rfl, ?_⟩) (by assumption) ?_
  rotate_left
  · intro WW hSw
    try dsimp only at hSw
    go_simp
    try with_reducible rfl
  try simp only [Act.put, pA, pB, pC]
  refine wpAnyH_take (i := 3) (oi := ⟨some 24, _, _, _, _, _⟩) (v := ?_) rfl (by kernel_rfl) (by kernel_rfl) (by kernel_rfl) (fun _ _ _ h => h) (Or.inl ⟨by rfl, ?_⟩) (by assumption) ?_
  rotate_left
  · intro WW hSw
    try dsimp only at hSw
    go_simp
    try with_reducible rfl
  try simp only [Act.put, pA, pB, pC]
  refine wpAnyH_take (i := 5) (oi := ⟨some 26, _, _, _, _, _⟩) (v := ?_) rfl (by kernel_rfl) (by kernel_rfl) (by kernel_rfl) (fun _ _ _ h => h) (Or.inl ⟨by rfl, ?_⟩) (by assumption) ?_
  rotate_left
  · intro WW hSw
    try dsimp only at hSw
    go_simp
    try with_reducible rfl
  try simp only [Act.put, pA, pB, pC]
  refine wpAnyH_take (i := 6) (oi := ⟨some 27, _, _, _, _, _⟩) (v := ?_) rfl (by kernel_rfl) (by kernel_rfl) (by kernel_rfl) (fun _ _ _ h => h) (Or.inl ⟨by rfl, ?_⟩) (by assumption) ?_
  rotate_left
  · intro WW hSw
    try dsimp only at hSw
    go_simp
    try with_reducible rfl
  try simp only [Act.put, pA, pB, pC]
  refine wpAnyH_take (i := 7) (oi := ⟨some 28, _, _, _, _, _⟩) (v := ?_) rfl (by kernel_rfl) (by kernel_rfl) (by kernel_rfl) (fun _ _ _ h => h) (Or.inl ⟨by rfl, ?_⟩) (by assumption) ?_
  rotate_left
  · intro WW hSw
    try dsimp only at hSw
    go_simp
    try with_reducible rfl
  try simp only [Act.put, pA, pB, pC]
  refine wpAnyH_take (i := 8) (oi := ⟨some 29, _, _, _, _, _⟩) (v := ?_) rfl (by kernel_rfl) (by kernel_rfl) (by kernel_rfl) (fun _ _ _ h => h) (Or.inl ⟨by rfl, ?_⟩) (by assumption) ?_
  rotate_left
  · intro WW hSw
    try dsimp only at hSw
    go_simp
    try with_reducible rfl
  try simp only [Act.put, pA, pB, pC]
  refine wpAnyH_take (i := 11) (oi := ⟨some 32, _, _, _, _, _⟩) (v := ?_) rfl (by kernel_rfl) (by kernel_rfl) (by kernel_rfl) (fun _ _ _ h => h) (Or.inl ⟨by rfl, ?_⟩) (by assumption) ?_
  rotate_left
  · intro WW hSw
    try dsimp only at hSw
    go_simp
    try with_reducible rfl
  try simp only [Act.put, pA, pB, pC]
  refine wpAnyH_take (i := 12) (oi := ⟨some 33, _, _, _, _, _⟩) (v := ?_) rfl (by kernel_rfl) (by kernel_rfl) (by kernel_rfl) (fun _ _ _ h => h) (Or.inl ⟨by rfl, ?_⟩) (by assumption) ?_
  rotate_left
  · intro WW hSw
    try dsimp only at hSw
    go_simp
    try with_reducible rfl
  try simp only [Act.put, pA, pB, pC]
  refine wpAnyH_take (i := 13) (oi := ⟨some 34, _, _, _, _, _⟩) (v := ?_) rfl (by kernel_rfl) (by kernel_rfl) (by kernel_rfl) (fun _ _ _ h => h) (Or.inl ⟨by rfl, ?_⟩) (by assumption) ?_
  rotate_left
  · intro WW hSw
    try dsimp only at hSw
    go_simp
    try with_reducible rfl
  try simp only [Act.put, pA, pB, pC]
  refine wpAnyH_take (i := 14) (oi := ⟨some 35, _, _, _, _, _⟩) (v := ?_) rfl (by kernel_rfl) (by kernel_rfl) (by kernel_rfl) (fun _ _ _ h => h) (Or.inl ⟨by rfl, ?_⟩) (by assumption) ?_
  rotate_left
  · intro WW hSw
    try dsimp only at hSw
    go_simp
    try with_reducible rfl
  try simp only [Act.put, pA, pB, pC]
  refine wpAnyH_ready (rs := [4]) (by kernel_rfl) (by simp) ?_
  refine AllReadyH.cons (o := ⟨some 25, _, _, _, _, _⟩) rfl (fun K hK => ?_) AllReadyH.nil
  go_simp
  go_at_call 63
  refine (numC_any a HLa.out _ _ _ HF101.out.okb).mono ?_
  rintro e y3 ⟨x3, p3, rfl, hn, hg, hk⟩
  have HN3 := Lib.hid hn
  have HF103 := Lib.hid (HF101.out.grown hg hk)
  clear hn hg hk
  refine hK.out _ _ ?_ (fun hHeld4 => ?_)
  · exact HLC.out _ HF103.out.bel
  clear hK K hHeld
  try simp only [Act.put, pA, pB, pC]
  refine wpAnyH_take (i := 16) (oi := ⟨some 37, _, _, _, _, _⟩) (v := ?_) rfl (by kernel_rfl) (by kernel_rfl) (by kernel_rfl) (fun _ _ _ h => h) (Or.inl ⟨by rfl, ?_⟩) (by assumption) ?_
  rotate_left
  · intro WW hSw
    try dsimp only at hSw
    go_simp
    try with_reducible rfl
  try simp only [Act.put, pA, pB, pC]
  refine wpAnyH_ready (rs := [9]) (by kernel_rfl) (by simp) ?_
  refine AllReadyH.cons (o := ⟨some 30, _, _, _, _, _⟩) rfl (fun K hK => ?_) AllReadyH.nil
  go_simp
  go_at_call 65
  refine (bytC_any b HLb.out _ _ _ HF103.out.okb).mono ?_
  rintro e y5 ⟨B5, b5, c5, p5, rfl, hn, hr, hg, hk⟩
  have HN5 := Lib.hid hn
  have HF105 := Lib.hid (HF103.out.grown hg hk)
  have HB5 := Lib.hid (Kd.R_lower (base' := w.heap.size + 3) hr HF103.out.siz)
  clear hn hg hk hr
  refine hK.out _ _ ?_ (fun hHeld6 => ?_)
  · exact HLC.out _ HF105.out.bel
  clear hK K hHeld4
  try simp only [Act.put, pA, pB, pC]
  refine wpAnyH_ready (rs := [10, 15]) (by kernel_rfl) (by simp) ?_
  refine AllReadyH.cons (o := ⟨some 31, _, _, _, _, _⟩) rfl (fun K hK => ?_) (AllReadyH.cons (o := ⟨some 36, _, _, _, _, _⟩) rfl (fun K hK => ?_) AllReadyH.nil)
  · skip
    have hcv : (Kd.int .u8).C y5 B5 b5.length (bI b5) := by have := (Kd.R_reads' HB5.out).2.2; rwa [bI_len] at this
    refine value_ (N := some 31) (by rfl) rfl (exec_conv1 rfl (by rfl) (conv_bs c5 hcv)) ?_
    clear hcv
    refine hK.out _ _ ?_ (fun hHeld7 => ?_)
    · exact HLC.out _ HF105.out.bel
    clear hK K hHeld6
    try simp only [Act.put, pA, pB, pC]
    refine wpAnyH_ready (rs := [15]) (by kernel_rfl) (by simp) ?_
    refine AllReadyH.cons (o := ⟨some 36, _, _, _, _, _⟩) rfl (fun K hK => ?_) AllReadyH.nil
    go_simp
    go_at_call 63
    refine (numC_any c HLc.out _ _ _ HF105.out.okb).mono ?_
    rintro e y8 ⟨x8, p8, rfl, hn, hg, hk⟩
    have HN8 := Lib.hid hn
    have HF108 := Lib.hid (HF105.out.grown hg hk)
    have HR9 := Lib.hid (R_gr HB5.out (by have := HF105.out.siz; omega) hg)
    clear hn hg hk
    refine hK.out _ _ ?_ (fun hHeld10 => ?_)
    · exact HLC.out _ HF108.out.bel
    clear hK K hHeld7
    try simp only [Act.put, pA, pB, pC]
    refine wpAnyH_ready (rs := [17]) (by kernel_rfl) (by simp) ?_
    refine AllReadyH.cons (o := ⟨none, _, _, _, _, _⟩) rfl (fun K hK => ?_) AllReadyH.nil
    have k1 : World.cell? _ ⟨w.heap.size, 1, none⟩ = some (.int .i64 0) := HF108.out.cell 1
    have f1 := HF108.out.frz 1
    have HF111 := Lib.hid (HF108.out.set (cs' := #[.int .i64 1, .int .i64 x3, .string ⟨#[]⟩, .int .i64 0, .int .i64 0, .int .i64 0, .slice Av 0 cv, .bool false]) 1 (.int .i64 x3) rfl)
    have HR12 := Lib.hid (R_st (r := w.heap.size) HR9.out (by omega) 1 (.int .i64 x3))
    go_simp
    clear k1 f1
    refine hK.out _ _ ?_ (fun hHeld13 => ?_)
    · exact HLC.out _ HF111.out.bel
    clear hK K hHeld10
    try simp only [Act.put, pA, pB, pC]
    refine wpAnyH_take (i := 18) (oi := ⟨some 38, _, _, _, _, _⟩) (v := ?_) rfl (by kernel_rfl) (by kernel_rfl) (by kernel_rfl) (fun _ _ _ h => h) (Or.inl ⟨by rfl, ?_⟩) (by assumption) ?_
    rotate_left
    · intro WW hSw
      try dsimp only at hSw
      go_simp
      try with_reducible rfl
    try simp only [Act.put, pA, pB, pC]
    refine wpAnyH_take (i := 19) (oi := ⟨some 39, _, _, _, _, _⟩) (v := ?_) rfl (by kernel_rfl) (by kernel_rfl) (by kernel_rfl) (fun _ _ _ h => h) (Or.inl ⟨by rfl, ?_⟩) (by assumption) ?_
    rotate_left
    · intro WW hSw
      try dsimp only at hSw
      go_simp
      try with_reducible rfl
    try simp only [Act.put, pA, pB, pC]
    refine wpAnyH_ready (rs := [20]) (by kernel_rfl) (by simp) ?_
    refine AllReadyH.cons (o := ⟨none, _, _, _, _, _⟩) rfl (fun K hK => ?_) AllReadyH.nil
    have k2 : World.cell? _ ⟨w.heap.size, 2, none⟩ = some (.string ⟨#[]⟩) := HF111.out.cell 2
    have f2 := HF111.out.frz 2
    have HF114 := Lib.hid (HF111.out.set (cs' := #[.int .i64 1, .int .i64 x3, .string (bsV b5), .int .i64 0, .int .i64 0, .int .i64 0, .slice Av 0 cv, .bool false]) 2 (.string (bsV b5)) rfl)
    have HR15 := Lib.hid (R_st (r := w.heap.size) HR12.out (by omega) 2 (.string (bsV b5)))
    go_simp
    clear k2 f2
    refine hK.out _ _ ?_ (fun hHeld16 => ?_)
    · exact HLC.out _ HF114.out.bel
    clear hK K hHeld13
    try simp only [Act.put, pA, pB, pC]
    refine wpAnyH_take (i := 21) (oi := ⟨some 40, _, _, _, _, _⟩) (v := ?_) rfl (by kernel_rfl) (by kernel_rfl) (by kernel_rfl) (fun _ _ _ h => h) (Or.inl ⟨by rfl, ?_⟩) (by assumption) ?_
    rotate_left
    · intro WW hSw
      try dsimp only at hSw
      go_simp
      try with_reducible rfl
    try simp only [Act.put, pA, pB, pC]
    refine wpAnyH_take (i := 22) (oi := ⟨some 41, _, _, _, _, _⟩) (v := ?_) rfl (by kernel_rfl) (by kernel_rfl) (by kernel_rfl) (fun _ _ _ h => h) (Or.inl ⟨by rfl, ?_⟩) (by assumption) ?_
    rotate_left
    · intro WW hSw
      try dsimp only at hSw
      go_simp
      try with_reducible rfl
    try simp only [Act.put, pA, pB, pC]
    refine wpAnyH_ready (rs := [23]) (by kernel_rfl) (by simp) ?_
    refine AllReadyH.cons (o := ⟨none, _, _, _, _, _⟩) rfl (fun K hK => ?_) AllReadyH.nil
    have k3 : World.cell? _ ⟨w.heap.size, 3, none⟩ = some (.int .i64 0) := HF114.out.cell 3
    have f3 := HF114.out.frz 3
    have HF117 := Lib.hid (HF114.out.set (cs' := #[.int .i64 1, .int .i64 x3, .string (bsV b5), .int .i64 x8, .int .i64 0, .int .i64 0, .slice Av 0 cv, .bool false]) 3 (.int .i64 x8) rfl)
    have HR18 := Lib.hid (R_st (r := w.heap.size) HR15.out (by omega) 3 (.int .i64 x8))
    go_simp
    clear k3 f3
    refine hK.out _ _ ?_ (fun hHeld19 => ?_)
    · exact HLC.out _ HF117.out.bel
    clear hK K hHeld16
    try simp only [Act.put, pA, pB, pC]
    refine wpAnyH_done (by kernel_rfl) ?_ _
    generalize (((y8.setCell ⟨w.heap.size, 1, none⟩ (.int .i64 x3)).setCell ⟨w.heap.size, 2, none⟩ (.string (bsV b5))).setCell ⟨w.heap.size, 3, none⟩ (.int .i64 x8)) = u20 at *
    go_wp2_with fail
    have HF121 := Lib.hid (HF117.out.later (Drawn0.below ⟨1, rfl⟩ : Below u20.heap.size u20 u20.drew))
    have HR22 := Lib.hid (Kd.R_below HR18.out (Drawn0.below ⟨1, rfl⟩ : Below u20.heap.size u20 u20.drew))
    refine wp_region_held_drew (S := (fun w' => w'.cell? ad = some (.string (bsV a)) ∧ w'.cell? ⟨ad.block, ad.off + 1, none⟩ = some (.string (bsV b)) ∧ w'.cell? ⟨ad.block, ad.off + 2, none⟩ = some (.string (bsV c)) ∧ w'.cell? ⟨ad.block, ad.off + 3, none⟩ = some (.string (bsV d)) ∧ w'.cell? ⟨ad.block, ad.off + 4, none⟩ = some (.string (bsV x)))) (by kernel_rfl) ?_ (fun hHeld => ?_)
    · exact HLC.out _ HF121.out.bel
    generalize u20.drew = d23 at *
    refine wpAnyH_take (i := 0) (oi := ⟨some 42, _, _, _, _, _⟩) (v := ?_) rfl (by kernel_rfl) (by kernel_rfl) (by kernel_rfl) (fun _ _ _ h => h) (Or.inl ⟨by rfl, ?_⟩) (by assumption) ?_
    rotate_left
    · intro WW hSw
      try dsimp only at hSw
      go_simp
      try with_reducible rfl
    try simp only [Act.put, pA, pB, pC]
    refine wpAnyH_take (i := 1) (oi := ⟨some 43, _, _, _, _, _⟩) (v := ?_) rfl (by kernel_rfl) (by kernel_rfl) (by kernel_rfl) (fun _ _ _ h => h) (Or.inl ⟨by rfl, ?_⟩) (by assumption) ?_
    rotate_left
    · intro WW hSw
      try dsimp only at hSw
      go_simp
      try with_reducible rfl
    try simp only [Act.put, pA, pB, pC]
    refine wpAnyH_take (i := 2) (oi := ⟨some 44, _, _, _, _, _⟩) (v := ?_) rfl (by kernel_rfl) (by kernel_rfl) (by kernel_rfl) (fun _ _ _ h => h) (Or.inl ⟨by rfl, ?_⟩) (by assumption) ?_
    rotate_left
    · intro WW hSw
      try dsimp only at hSw
      go_simp
      try with_reducible rfl
    try simp only [Act.put, pA, pB, pC]
    refine wpAnyH_take (i := 3) (oi := ⟨some 45, _, _, _, _, _⟩) (v := ?_) rfl (by kernel_rfl) (by kernel_rfl) (by kernel_rfl) (fun _ _ _ h => h) (Or.inl ⟨by rfl, ?_⟩) (by assumption) ?_
    rotate_left
    · intro WW hSw
      try dsimp only at hSw
      go_simp
      try with_reducible rfl
    try simp only [Act.put, pA, pB, pC]
    refine wpAnyH_take (i := 5) (oi := ⟨some 47, _, _, _, _, _⟩) (v := ?_) rfl (by kernel_rfl) (by kernel_rfl) (by kernel_rfl) (fun _ _ _ h => h) (Or.inl ⟨by rfl, ?_⟩) (by assumption) ?_
    rotate_left
    · intro WW hSw
      try dsimp only at hSw
      go_simp
      try with_reducible rfl
    try simp only [Act.put, pA, pB, pC]
    refine wpAnyH_take (i := 6) (oi := ⟨some 48, _, _, _, _, _⟩) (v := ?_) rfl (by kernel_rfl) (by kernel_rfl) (by kernel_rfl) (fun _ _ _ h => h) (Or.inl ⟨by rfl, ?_⟩) (by assumption) ?_
    rotate_left
    · intro WW hSw
      try dsimp only at hSw
      go_simp
      try with_reducible rfl
    try simp only [Act.put, pA, pB, pC]
    refine wpAnyH_take (i := 7) (oi := ⟨some 49, _, _, _, _, _⟩) (v := ?_) rfl (by kernel_rfl) (by kernel_rfl) (by kernel_rfl) (fun _ _ _ h => h) (Or.inl ⟨by rfl, ?_⟩) (by assumption) ?_
    rotate_left
    · intro WW hSw
      try dsimp only at hSw
      go_simp
      try with_reducible rfl
    try simp only [Act.put, pA, pB, pC]
    refine wpAnyH_take (i := 8) (oi := ⟨some 50, _, _, _, _, _⟩) (v := ?_) rfl (by kernel_rfl) (by kernel_rfl) (by kernel_rfl) (fun _ _ _ h => h) (Or.inl ⟨by rfl, ?_⟩) (by assumption) ?_
    rotate_left
    · intro WW hSw
      try dsimp only at hSw
      go_simp
      try with_reducible rfl
    try simp only [Act.put, pA, pB, pC]
    refine wpAnyH_ready (rs := [4]) (by kernel_rfl) (by simp) ?_
    refine AllReadyH.cons (o := ⟨some 46, _, _, _, _, _⟩) rfl (fun K hK => ?_) AllReadyH.nil
    go_simp
    go_at_call 63
    refine (numC_any d HLd.out _ _ _ HF121.out.okb).mono ?_
    rintro e y24 ⟨x24, p24, rfl, hn, hg, hk⟩
    have HN24 := Lib.hid hn
    have HF124 := Lib.hid (HF121.out.grown hg hk)
    have HR25 := Lib.hid (R_gr HR22.out (by have := HF121.out.siz; omega) hg)
    clear hn hg hk
    refine hK.out _ _ ?_ (fun hHeld26 => ?_)
    · exact HLC.out _ HF124.out.bel
    clear hK K hHeld
    try simp only [Act.put, pA, pB, pC]
    refine wpAnyH_take (i := 10) (oi := ⟨some 52, _, _, _, _, _⟩) (v := ?_) rfl (by kernel_rfl) (by kernel_rfl) (by kernel_rfl) (fun _ _ _ h => h) (Or.inl ⟨by rfl, ?_⟩) (by assumption) ?_
    rotate_left
    · intro WW hSw
      try dsimp only at hSw
      go_simp
      try with_reducible rfl
    try simp only [Act.put, pA, pB, pC]
    refine wpAnyH_take (i := 11) (oi := ⟨some 53, _, _, _, _, _⟩) (v := ?_) rfl (by kernel_rfl) (by kernel_rfl) (by kernel_rfl) (fun _ _ _ h => h) (Or.inl ⟨by rfl, ?_⟩) (by assumption) ?_
    rotate_left
    · intro WW hSw
      try dsimp only at hSw
      go_simp
      try with_reducible rfl
    try simp only [Act.put, pA, pB, pC]
    refine wpAnyH_ready (rs := [9]) (by kernel_rfl) (by simp) ?_
    refine AllReadyH.cons (o := ⟨some 51, _, _, _, _, _⟩) rfl (fun K hK => ?_) AllReadyH.nil
    go_simp
    go_at_call 65
    refine (bytC_any x HLx.out _ _ _ HF124.out.okb).mono ?_
    rintro e y27 ⟨B27, b27, c27, p27, rfl, hn, hr, hg, hk⟩
    have HN27 := Lib.hid hn
    have HF127 := Lib.hid (HF124.out.grown hg hk)
    have HR28 := Lib.hid (R_gr HR25.out (by have := HF124.out.siz; omega) hg)
    have HB27 := Lib.hid (Kd.R_lower (base' := w.heap.size + 3) hr HF124.out.siz)
    clear hn hg hk hr
    refine hK.out _ _ ?_ (fun hHeld29 => ?_)
    · exact HLC.out _ HF127.out.bel
    clear hK K hHeld26
    try simp only [Act.put, pA, pB, pC]
    refine wpAnyH_ready (rs := [12]) (by kernel_rfl) (by simp) ?_
    refine AllReadyH.cons (o := ⟨none, _, _, _, _, _⟩) rfl (fun K hK => ?_) AllReadyH.nil
    have k4 : World.cell? _ ⟨w.heap.size, 4, none⟩ = some (.int .i64 0) := HF127.out.cell 4
    have f4 := HF127.out.frz 4
    have HF130 := Lib.hid (HF127.out.set (cs' := #[.int .i64 1, .int .i64 x3, .string (bsV b5), .int .i64 x8, .int .i64 x24, .int .i64 0, .slice Av 0 cv, .bool false]) 4 (.int .i64 x24) rfl)
    have HR31 := Lib.hid (R_st (r := w.heap.size) HR28.out (by omega) 4 (.int .i64 x24))
    have HR32 := Lib.hid (R_st (r := w.heap.size) HB27.out (by omega) 4 (.int .i64 x24))
    go_simp
    clear k4 f4
    refine hK.out _ _ ?_ (fun hHeld33 => ?_)
    · exact HLC.out _ HF130.out.bel
    clear hK K hHeld29
    try simp only [Act.put, pA, pB, pC]
    refine wpAnyH_take (i := 13) (oi := ⟨some 54, _, _, _, _, _⟩) (v := ?_) rfl (by kernel_rfl) (by kernel_rfl) (by kernel_rfl) (fun _ _ _ h => h) (Or.inl ⟨by rfl, ?_⟩) (by assumption) ?_
    rotate_left
    · intro WW hSw
      try dsimp only at hSw
      go_simp
      try with_reducible rfl
    try simp only [Act.put, pA, pB, pC]
    refine wpAnyH_take (i := 14) (oi := ⟨some 55, _, _, _, _, _⟩) (v := ?_) rfl (by kernel_rfl) (by kernel_rfl) (by kernel_rfl) (fun _ _ _ h => h) (Or.inl ⟨by rfl, ?_⟩) (by assumption) ?_
    rotate_left
    · intro WW hSw
      try dsimp only at hSw
      go_simp
      try with_reducible rfl
    try simp only [Act.put, pA, pB, pC]
    refine wpAnyH_ready (rs := [15]) (by kernel_rfl) (by simp) ?_
    refine AllReadyH.cons (o := ⟨none, _, _, _, _, _⟩) rfl (fun K hK => ?_) AllReadyH.nil
    have k6 : World.cell? _ ⟨w.heap.size, 6, none⟩ = some (.slice Av 0 cv) := HF130.out.cell 6
    have f6 := HF130.out.frz 6
    have HF134 := Lib.hid (HF130.out.set (cs' := #[.int .i64 1, .int .i64 x3, .string (bsV b5), .int .i64 x8, .int .i64 x24, .int .i64 0, .slice B27 b27.length c27, .bool false]) 6 (.slice B27 b27.length c27) rfl)
    have HR35 := Lib.hid (R_st (r := w.heap.size) HR31.out (by omega) 6 (.slice B27 b27.length c27))
    have HR36 := Lib.hid (R_st (r := w.heap.size) HR32.out (by omega) 6 (.slice B27 b27.length c27))
    go_simp
    clear k6 f6
    refine hK.out _ _ ?_ (fun hHeld37 => ?_)
    · exact HLC.out _ HF134.out.bel
    clear hK K hHeld33
    try simp only [Act.put, pA, pB, pC]
    refine wpAnyH_done (by kernel_rfl) ?_ _
    generalize ((y27.setCell ⟨w.heap.size, 4, none⟩ (.int .i64 x24)).setCell ⟨w.heap.size, 6, none⟩ (.slice B27 b27.length c27)) = u38 at *
    go_wp2_with fail
    have HF139 := Lib.hid (HF134.out.later (Drawn0.below ⟨1, rfl⟩ : Below u38.heap.size u38 u38.drew))
    have HR40 := Lib.hid (Kd.R_below HR35.out (Drawn0.below ⟨1, rfl⟩ : Below u38.heap.size u38 u38.drew))
    have HR41 := Lib.hid (Kd.R_below HR36.out (Drawn0.below ⟨1, rfl⟩ : Below u38.heap.size u38 u38.drew))
    refine wp_region_held_drew (S := (fun w' => w'.cell? ⟨w.heap.size, 0, none⟩ = some (.int .i64 1) ∧ w'.cell? ⟨w.heap.size, 1, none⟩ = some (.int .i64 x3) ∧ w'.cell? ⟨w.heap.size, 2, none⟩ = some (.string (bsV b5)) ∧ w'.cell? ⟨w.heap.size, 3, none⟩ = some (.int .i64 x8) ∧ w'.cell? ⟨w.heap.size, 4, none⟩ = some (.int .i64 x24) ∧ w'.cell? ⟨w.heap.size, 5, none⟩ = some (.int .i64 0) ∧ w'.cell? ⟨w.heap.size, 6, none⟩ = some (.slice B27 b27.length c27) ∧ w'.cell? ⟨w.heap.size, 7, none⟩ = some (.bool false) ∧ w'.cell? ⟨w.heap.size + 2, 0, none⟩ = some (.bool (((((true && p3) && p5) && p8) && p24) && p27)))) (by kernel_rfl) ?_ (fun hHeld => ?_)
    · exact ⟨cell_of_row _ _ 0 _ _ (0, 0) HF139.out.box, cell_of_row _ _ 1 _ _ (0, 0) HF139.out.box, cell_of_row _ _ 2 _ _ (0, 0) HF139.out.box, cell_of_row _ _ 3 _ _ (0, 0) HF139.out.box, cell_of_row _ _ 4 _ _ (0, 0) HF139.out.box, cell_of_row _ _ 5 _ _ (0, 0) HF139.out.box, cell_of_row _ _ 6 _ _ (0, 0) HF139.out.box, cell_of_row _ _ 7 _ _ (0, 0) HF139.out.box, cell_of_row _ _ 0 _ _ (0, 0) HF139.out.okb⟩
    generalize u38.drew = dz at *
    refine wpAnyH_take (i := 0) (oi := ⟨some 122, _, _, _, _, _⟩) (v := ?_) rfl (by kernel_rfl) (by kernel_rfl) (by kernel_rfl) (fun _ _ _ h => h) (Or.inl ⟨by rfl, ?_⟩) (by assumption) ?_
    rotate_left
    · intro WW hSw
      try dsimp only at hSw
      go_simp
      try with_reducible rfl
    try simp only [Act.put, pA, pB, pC]
    refine wpAnyH_take (i := 1) (oi := ⟨some 123, _, _, _, _, _⟩) (v := ?_) rfl (by kernel_rfl) (by kernel_rfl) (by kernel_rfl) (fun _ _ _ h => h) (Or.inl ⟨by rfl, ?_⟩) (by assumption) ?_
    rotate_left
    · intro WW hSw
      try dsimp only at hSw
      go_simp
      try with_reducible rfl
    try simp only [Act.put, pA, pB, pC]
    refine wpAnyH_ready (rs := [2]) (by kernel_rfl) (by simp) ?_
    refine AllReadyH.cons (o := ⟨none, _, _, _, _, _⟩) rfl (fun K hK => ?_) AllReadyH.nil
    obtain ⟨m0, m1, m2, m3, m4, m5, m6, m7, n0, n1, n2, n3, n4, n5, n6, n7⟩ := zC_facts HF139.out.res
    obtain ⟨j1, j2, j3⟩ := set8 HF139.out.res (.int .i64 1) (.int .i64 x3) (.string (bsV b5)) (.int .i64 x8) (.int .i64 x24) (.int .i64 0) (.slice B27 b27.length c27) (.bool false)
    go_simp
    refine hK.out _ _ ?_ (fun hHeldZ => ?_)
    · exact ⟨cell_of_row _ _ 0 _ _ (0, 0) ((j2 _ (by omega)).trans HF139.out.box), cell_of_row _ _ 1 _ _ (0, 0) ((j2 _ (by omega)).trans HF139.out.box), cell_of_row _ _ 2 _ _ (0, 0) ((j2 _ (by omega)).trans HF139.out.box), cell_of_row _ _ 3 _ _ (0, 0) ((j2 _ (by omega)).trans HF139.out.box), cell_of_row _ _ 4 _ _ (0, 0) ((j2 _ (by omega)).trans HF139.out.box), cell_of_row _ _ 5 _ _ (0, 0) ((j2 _ (by omega)).trans HF139.out.box), cell_of_row _ _ 6 _ _ (0, 0) ((j2 _ (by omega)).trans HF139.out.box), cell_of_row _ _ 7 _ _ (0, 0) ((j2 _ (by omega)).trans HF139.out.box), cell_of_row _ _ 0 _ _ (0, 0) ((j2 _ (by omega)).trans HF139.out.okb)⟩
    clear hK K hHeld
    try simp only [Act.put, pA, pB, pC]
    refine wpAnyH_take (i := 3) (oi := ⟨some 5, _, _, _, _, _⟩) (v := ?_) rfl (by kernel_rfl) (by kernel_rfl) (by kernel_rfl) (fun _ _ _ h => h) (Or.inl ⟨by rfl, ?_⟩) (by assumption) ?_
    rotate_left
    · intro WW hSw
      try dsimp only at hSw
      go_simp
      try with_reducible rfl
    try simp only [Act.put, pA, pB, pC]
    refine wpAnyH_done (by kernel_rfl) ?_ _
    go_wp2_with fail
    refine bodyPost_ret (results_ct rfl _ _ (w.heap.size + 1) 30 #[.int .i64 1, .int .i64 x3, .string (bsV b5), .int .i64 x8, .int .i64 x24, .int .i64 0, .slice B27 b27.length c27, .bool false] (0, 0) _ rfl j1 Tryd.underlying30 rfl (by kernel_rfl)) rfl ?_
    exact ⟨⟨1, x3, b5, x8, x24, 0, b27, false⟩, B27, c27, (((((true && p3) && p5) && p8) && p24) && p27), rfl, (hit_fill HN3.out HN5.out HN8.out HN24.out HN27.out).1, (hit_fill HN3.out HN5.out HN8.out HN24.out HN27.out).2, Kd.R_lower (R_off2 HR41.out HF139.out.res HF139.out.res (by decide) (fun j h1 _ => j2 j h1)) (by have := HB0.out; omega), j3 HF139.out.bel (by omega)⟩
  · skip
    go_simp
    go_at_call 63
    refine (numC_any c HLc.out _ _ _ HF105.out.okb).mono ?_
    rintro e y42 ⟨x42, p42, rfl, hn, hg, hk⟩
    have HN42 := Lib.hid hn
    have HF142 := Lib.hid (HF105.out.grown hg hk)
    have HR43 := Lib.hid (R_gr HB5.out (by have := HF105.out.siz; omega) hg)
    clear hn hg hk
    refine hK.out _ _ ?_ (fun hHeld44 => ?_)
    · exact HLC.out _ HF142.out.bel
    clear hK K hHeld6
    try simp only [Act.put, pA, pB, pC]
    refine wpAnyH_ready (rs := [10, 17]) (by kernel_rfl) (by simp) ?_
    refine AllReadyH.cons (o := ⟨some 31, _, _, _, _, _⟩) rfl (fun K hK => ?_) (AllReadyH.cons (o := ⟨none, _, _, _, _, _⟩) rfl (fun K hK => ?_) AllReadyH.nil)
    · skip
      have hcv : (Kd.int .u8).C y42 B5 b5.length (bI b5) := by have := (Kd.R_reads' HR43.out).2.2; rwa [bI_len] at this
      refine value_ (N := some 31) (by rfl) rfl (exec_conv1 rfl (by rfl) (conv_bs c5 hcv)) ?_
      clear hcv
      refine hK.out _ _ ?_ (fun hHeld45 => ?_)
      · exact HLC.out _ HF142.out.bel
      clear hK K hHeld44
      try simp only [Act.put, pA, pB, pC]
      refine wpAnyH_ready (rs := [17]) (by kernel_rfl) (by simp) ?_
      refine AllReadyH.cons (o := ⟨none, _, _, _, _, _⟩) rfl (fun K hK => ?_) AllReadyH.nil
      have k1 : World.cell? _ ⟨w.heap.size, 1, none⟩ = some (.int .i64 0) := HF142.out.cell 1
      have f1 := HF142.out.frz 1
      have HF146 := Lib.hid (HF142.out.set (cs' := #[.int .i64 1, .int .i64 x3, .string ⟨#[]⟩, .int .i64 0, .int .i64 0, .int .i64 0, .slice Av 0 cv, .bool false]) 1 (.int .i64 x3) rfl)
      have HR47 := Lib.hid (R_st (r := w.heap.size) HR43.out (by omega) 1 (.int .i64 x3))
      go_simp
      clear k1 f1
      refine hK.out _ _ ?_ (fun hHeld48 => ?_)
      · exact HLC.out _ HF146.out.bel
      clear hK K hHeld45
      try simp only [Act.put, pA, pB, pC]
      refine wpAnyH_take (i := 18) (oi := ⟨some 38, _, _, _, _, _⟩) (v := ?_) rfl (by kernel_rfl) (by kernel_rfl) (by kernel_rfl) (fun _ _ _ h => h) (Or.inl ⟨by rfl, ?_⟩) (by assumption) ?_
      rotate_left
      · intro WW hSw
        try dsimp only at hSw
        go_simp
        try with_reducible rfl
      try simp only [Act.put, pA, pB, pC]
      refine wpAnyH_take (i := 19) (oi := ⟨some 39, _, _, _, _, _⟩) (v := ?_) rfl (by kernel_rfl) (by kernel_rfl) (by kernel_rfl) (fun _ _ _ h => h) (Or.inl ⟨by rfl, ?_⟩) (by assumption) ?_
      rotate_left
      · intro WW hSw
        try dsimp only at hSw
        go_simp
        try with_reducible rfl
      try simp only [Act.put, pA, pB, pC]
      refine wpAnyH_ready (rs := [20]) (by kernel_rfl) (by simp) ?_
      refine AllReadyH.cons (o := ⟨none, _, _, _, _, _⟩) rfl (fun K hK => ?_) AllReadyH.nil
      have k2 : World.cell? _ ⟨w.heap.size, 2, none⟩ = some (.string ⟨#[]⟩) := HF146.out.cell 2
      have f2 := HF146.out.frz 2
      have HF149 := Lib.hid (HF146.out.set (cs' := #[.int .i64 1, .int .i64 x3, .string (bsV b5), .int .i64 0, .int .i64 0, .int .i64 0, .slice Av 0 cv, .bool false]) 2 (.string (bsV b5)) rfl)
      have HR50 := Lib.hid (R_st (r := w.heap.size) HR47.out (by omega) 2 (.string (bsV b5)))
      go_simp
      clear k2 f2
      refine hK.out _ _ ?_ (fun hHeld51 => ?_)
      · exact HLC.out _ HF149.out.bel
      clear hK K hHeld48
      try simp only [Act.put, pA, pB, pC]
      refine wpAnyH_take (i := 21) (oi := ⟨some 40, _, _, _, _, _⟩) (v := ?_) rfl (by kernel_rfl) (by kernel_rfl) (by kernel_rfl) (fun _ _ _ h => h) (Or.inl ⟨by rfl, ?_⟩) (by assumption) ?_
      rotate_left
      · intro WW hSw
        try dsimp only at hSw
        go_simp
        try with_reducible rfl
      try simp only [Act.put, pA, pB, pC]
      refine wpAnyH_take (i := 22) (oi := ⟨some 41, _, _, _, _, _⟩) (v := ?_) rfl (by kernel_rfl) (by kernel_rfl) (by kernel_rfl) (fun _ _ _ h => h) (Or.inl ⟨by rfl, ?_⟩) (by assumption) ?_
      rotate_left
      · intro WW hSw
        try dsimp only at hSw
        go_simp
        try with_reducible rfl
      try simp only [Act.put, pA, pB, pC]
      refine wpAnyH_ready (rs := [23]) (by kernel_rfl) (by simp) ?_
      refine AllReadyH.cons (o := ⟨none, _, _, _, _, _⟩) rfl (fun K hK => ?_) AllReadyH.nil
      have k3 : World.cell? _ ⟨w.heap.size, 3, none⟩ = some (.int .i64 0) := HF149.out.cell 3
      have f3 := HF149.out.frz 3
      have HF152 := Lib.hid (HF149.out.set (cs' := #[.int .i64 1, .int .i64 x3, .string (bsV b5), .int .i64 x42, .int .i64 0, .int .i64 0, .slice Av 0 cv, .bool false]) 3 (.int .i64 x42) rfl)
      have HR53 := Lib.hid (R_st (r := w.heap.size) HR50.out (by omega) 3 (.int .i64 x42))
      go_simp
      clear k3 f3
      refine hK.out _ _ ?_ (fun hHeld54 => ?_)
      · exact HLC.out _ HF152.out.bel
      clear hK K hHeld51
      try simp only [Act.put, pA, pB, pC]
      refine wpAnyH_done (by kernel_rfl) ?_ _
      generalize (((y42.setCell ⟨w.heap.size, 1, none⟩ (.int .i64 x3)).setCell ⟨w.heap.size, 2, none⟩ (.string (bsV b5))).setCell ⟨w.heap.size, 3, none⟩ (.int .i64 x42)) = u55 at *
      go_wp2_with fail
      have HF156 := Lib.hid (HF152.out.later (Drawn0.below ⟨1, rfl⟩ : Below u55.heap.size u55 u55.drew))
      have HR57 := Lib.hid (Kd.R_below HR53.out (Drawn0.below ⟨1, rfl⟩ : Below u55.heap.size u55 u55.drew))
      refine wp_region_held_drew (S := (fun w' => w'.cell? ad = some (.string (bsV a)) ∧ w'.cell? ⟨ad.block, ad.off + 1, none⟩ = some (.string (bsV b)) ∧ w'.cell? ⟨ad.block, ad.off + 2, none⟩ = some (.string (bsV c)) ∧ w'.cell? ⟨ad.block, ad.off + 3, none⟩ = some (.string (bsV d)) ∧ w'.cell? ⟨ad.block, ad.off + 4, none⟩ = some (.string (bsV x)))) (by kernel_rfl) ?_ (fun hHeld => ?_)
      · exact HLC.out _ HF156.out.bel
      generalize u55.drew = d58 at *
      refine wpAnyH_take (i := 0) (oi := ⟨some 42, _, _, _, _, _⟩) (v := ?_) rfl (by kernel_rfl) (by kernel_rfl) (by kernel_rfl) (fun _ _ _ h => h) (Or.inl ⟨by rfl, ?_⟩) (by assumption) ?_
      rotate_left
      · intro WW hSw
        try dsimp only at hSw
        go_simp
        try with_reducible rfl
      try simp only [Act.put, pA, pB, pC]
      refine wpAnyH_take (i := 1) (oi := ⟨some 43, _, _, _, _, _⟩) (v := ?_) rfl (by kernel_rfl) (by kernel_rfl) (by kernel_rfl) (fun _ _ _ h => h) (Or.inl ⟨by rfl, ?_⟩) (by assumption) ?_
      rotate_left
      · intro WW hSw
        try dsimp only at hSw
        go_simp
        try with_reducible rfl
      try simp only [Act.put, pA, pB, pC]
      refine wpAnyH_take (i := 2) (oi := ⟨some 44, _, _, _, _, _⟩) (v := ?_) rfl (by kernel_rfl) (by kernel_rfl) (by kernel_rfl) (fun _ _ _ h => h) (Or.inl ⟨by rfl, ?_⟩) (by assumption) ?_
      rotate_left
      · intro WW hSw
        try dsimp only at hSw
        go_simp
        try with_reducible rfl
      try simp only [Act.put, pA, pB, pC]
      refine wpAnyH_take (i := 3) (oi := ⟨some 45, _, _, _, _, _⟩) (v := ?_) rfl (by kernel_rfl) (by kernel_rfl) (by kernel_rfl) (fun _ _ _ h => h) (Or.inl ⟨by rfl, ?_⟩) (by assumption) ?_
      rotate_left
      · intro WW hSw
        try dsimp only at hSw
        go_simp
        try with_reducible rfl
      try simp only [Act.put, pA, pB, pC]
      refine wpAnyH_take (i := 5) (oi := ⟨some 47, _, _, _, _, _⟩) (v := ?_) rfl (by kernel_rfl) (by kernel_rfl) (by kernel_rfl) (fun _ _ _ h => h) (Or.inl ⟨by rfl, ?_⟩) (by assumption) ?_
      rotate_left
      · intro WW hSw
        try dsimp only at hSw
        go_simp
        try with_reducible rfl
      try simp only [Act.put, pA, pB, pC]
      refine wpAnyH_take (i := 6) (oi := ⟨some 48, _, _, _, _, _⟩) (v := ?_) rfl (by kernel_rfl) (by kernel_rfl) (by kernel_rfl) (fun _ _ _ h => h) (Or.inl ⟨by rfl, ?_⟩) (by assumption) ?_
      rotate_left
      · intro WW hSw
        try dsimp only at hSw
        go_simp
        try with_reducible rfl
      try simp only [Act.put, pA, pB, pC]
      refine wpAnyH_take (i := 7) (oi := ⟨some 49, _, _, _, _, _⟩) (v := ?_) rfl (by kernel_rfl) (by kernel_rfl) (by kernel_rfl) (fun _ _ _ h => h) (Or.inl ⟨by rfl, ?_⟩) (by assumption) ?_
      rotate_left
      · intro WW hSw
        try dsimp only at hSw
        go_simp
        try with_reducible rfl
      try simp only [Act.put, pA, pB, pC]
      refine wpAnyH_take (i := 8) (oi := ⟨some 50, _, _, _, _, _⟩) (v := ?_) rfl (by kernel_rfl) (by kernel_rfl) (by kernel_rfl) (fun _ _ _ h => h) (Or.inl ⟨by rfl, ?_⟩) (by assumption) ?_
      rotate_left
      · intro WW hSw
        try dsimp only at hSw
        go_simp
        try with_reducible rfl
      try simp only [Act.put, pA, pB, pC]
      refine wpAnyH_ready (rs := [4]) (by kernel_rfl) (by simp) ?_
      refine AllReadyH.cons (o := ⟨some 46, _, _, _, _, _⟩) rfl (fun K hK => ?_) AllReadyH.nil
      go_simp
      go_at_call 63
      refine (numC_any d HLd.out _ _ _ HF156.out.okb).mono ?_
      rintro e y59 ⟨x59, p59, rfl, hn, hg, hk⟩
      have HN59 := Lib.hid hn
      have HF159 := Lib.hid (HF156.out.grown hg hk)
      have HR60 := Lib.hid (R_gr HR57.out (by have := HF156.out.siz; omega) hg)
      clear hn hg hk
      refine hK.out _ _ ?_ (fun hHeld61 => ?_)
      · exact HLC.out _ HF159.out.bel
      clear hK K hHeld
      try simp only [Act.put, pA, pB, pC]
      refine wpAnyH_take (i := 10) (oi := ⟨some 52, _, _, _, _, _⟩) (v := ?_) rfl (by kernel_rfl) (by kernel_rfl) (by kernel_rfl) (fun _ _ _ h => h) (Or.inl ⟨by rfl, ?_⟩) (by assumption) ?_
      rotate_left
      · intro WW hSw
        try dsimp only at hSw
        go_simp
        try with_reducible rfl
      try simp only [Act.put, pA, pB, pC]
      refine wpAnyH_take (i := 11) (oi := ⟨some 53, _, _, _, _, _⟩) (v := ?_) rfl (by kernel_rfl) (by kernel_rfl) (by kernel_rfl) (fun _ _ _ h => h) (Or.inl ⟨by rfl, ?_⟩) (by assumption) ?_
      rotate_left
      · intro WW hSw
        try dsimp only at hSw
        go_simp
        try with_reducible rfl
      try simp only [Act.put, pA, pB, pC]
      refine wpAnyH_ready (rs := [9]) (by kernel_rfl) (by simp) ?_
      refine AllReadyH.cons (o := ⟨some 51, _, _, _, _, _⟩) rfl (fun K hK => ?_) AllReadyH.nil
      go_simp
      go_at_call 65
      refine (bytC_any x HLx.out _ _ _ HF159.out.okb).mono ?_
      rintro e y62 ⟨B62, b62, c62, p62, rfl, hn, hr, hg, hk⟩
      have HN62 := Lib.hid hn
      have HF162 := Lib.hid (HF159.out.grown hg hk)
      have HR63 := Lib.hid (R_gr HR60.out (by have := HF159.out.siz; omega) hg)
      have HB62 := Lib.hid (Kd.R_lower (base' := w.heap.size + 3) hr HF159.out.siz)
      clear hn hg hk hr
      refine hK.out _ _ ?_ (fun hHeld64 => ?_)
      · exact HLC.out _ HF162.out.bel
      clear hK K hHeld61
      try simp only [Act.put, pA, pB, pC]
      refine wpAnyH_ready (rs := [12]) (by kernel_rfl) (by simp) ?_
      refine AllReadyH.cons (o := ⟨none, _, _, _, _, _⟩) rfl (fun K hK => ?_) AllReadyH.nil
      have k4 : World.cell? _ ⟨w.heap.size, 4, none⟩ = some (.int .i64 0) := HF162.out.cell 4
      have f4 := HF162.out.frz 4
      have HF165 := Lib.hid (HF162.out.set (cs' := #[.int .i64 1, .int .i64 x3, .string (bsV b5), .int .i64 x42, .int .i64 x59, .int .i64 0, .slice Av 0 cv, .bool false]) 4 (.int .i64 x59) rfl)
      have HR66 := Lib.hid (R_st (r := w.heap.size) HR63.out (by omega) 4 (.int .i64 x59))
      have HR67 := Lib.hid (R_st (r := w.heap.size) HB62.out (by omega) 4 (.int .i64 x59))
      go_simp
      clear k4 f4
      refine hK.out _ _ ?_ (fun hHeld68 => ?_)
      · exact HLC.out _ HF165.out.bel
      clear hK K hHeld64
      try simp only [Act.put, pA, pB, pC]
      refine wpAnyH_take (i := 13) (oi := ⟨some 54, _, _, _, _, _⟩) (v := ?_) rfl (by kernel_rfl) (by kernel_rfl) (by kernel_rfl) (fun _ _ _ h => h) (Or.inl ⟨by rfl, ?_⟩) (by assumption) ?_
      rotate_left
      · intro WW hSw
        try dsimp only at hSw
        go_simp
        try with_reducible rfl
      try simp only [Act.put, pA, pB, pC]
      refine wpAnyH_take (i := 14) (oi := ⟨some 55, _, _, _, _, _⟩) (v := ?_) rfl (by kernel_rfl) (by kernel_rfl) (by kernel_rfl) (fun _ _ _ h => h) (Or.inl ⟨by rfl, ?_⟩) (by assumption) ?_
      rotate_left
      · intro WW hSw
        try dsimp only at hSw
        go_simp
        try with_reducible rfl
      try simp only [Act.put, pA, pB, pC]
      refine wpAnyH_ready (rs := [15]) (by kernel_rfl) (by simp) ?_
      refine AllReadyH.cons (o := ⟨none, _, _, _, _, _⟩) rfl (fun K hK => ?_) AllReadyH.nil
      have k6 : World.cell? _ ⟨w.heap.size, 6, none⟩ = some (.slice Av 0 cv) := HF165.out.cell 6
      have f6 := HF165.out.frz 6
      have HF169 := Lib.hid (HF165.out.set (cs' := #[.int .i64 1, .int .i64 x3, .string (bsV b5), .int .i64 x42, .int .i64 x59, .int .i64 0, .slice B62 b62.length c62, .bool false]) 6 (.slice B62 b62.length c62) rfl)
      have HR70 := Lib.hid (R_st (r := w.heap.size) HR66.out (by omega) 6 (.slice B62 b62.length c62))
      have HR71 := Lib.hid (R_st (r := w.heap.size) HR67.out (by omega) 6 (.slice B62 b62.length c62))
      go_simp
      clear k6 f6
      refine hK.out _ _ ?_ (fun hHeld72 => ?_)
      · exact HLC.out _ HF169.out.bel
      clear hK K hHeld68
      try simp only [Act.put, pA, pB, pC]
      refine wpAnyH_done (by kernel_rfl) ?_ _
      generalize ((y62.setCell ⟨w.heap.size, 4, none⟩ (.int .i64 x59)).setCell ⟨w.heap.size, 6, none⟩ (.slice B62 b62.length c62)) = u73 at *
      go_wp2_with fail
      have HF174 := Lib.hid (HF169.out.later (Drawn0.below ⟨1, rfl⟩ : Below u73.heap.size u73 u73.drew))
      have HR75 := Lib.hid (Kd.R_below HR70.out (Drawn0.below ⟨1, rfl⟩ : Below u73.heap.size u73 u73.drew))
      have HR76 := Lib.hid (Kd.R_below HR71.out (Drawn0.below ⟨1, rfl⟩ : Below u73.heap.size u73 u73.drew))
      refine wp_region_held_drew (S := (fun w' => w'.cell? ⟨w.heap.size, 0, none⟩ = some (.int .i64 1) ∧ w'.cell? ⟨w.heap.size, 1, none⟩ = some (.int .i64 x3) ∧ w'.cell? ⟨w.heap.size, 2, none⟩ = some (.string (bsV b5)) ∧ w'.cell? ⟨w.heap.size, 3, none⟩ = some (.int .i64 x42) ∧ w'.cell? ⟨w.heap.size, 4, none⟩ = some (.int .i64 x59) ∧ w'.cell? ⟨w.heap.size, 5, none⟩ = some (.int .i64 0) ∧ w'.cell? ⟨w.heap.size, 6, none⟩ = some (.slice B62 b62.length c62) ∧ w'.cell? ⟨w.heap.size, 7, none⟩ = some (.bool false) ∧ w'.cell? ⟨w.heap.size + 2, 0, none⟩ = some (.bool (((((true && p3) && p5) && p42) && p59) && p62)))) (by kernel_rfl) ?_ (fun hHeld => ?_)
      · exact ⟨cell_of_row _ _ 0 _ _ (0, 0) HF174.out.box, cell_of_row _ _ 1 _ _ (0, 0) HF174.out.box, cell_of_row _ _ 2 _ _ (0, 0) HF174.out.box, cell_of_row _ _ 3 _ _ (0, 0) HF174.out.box, cell_of_row _ _ 4 _ _ (0, 0) HF174.out.box, cell_of_row _ _ 5 _ _ (0, 0) HF174.out.box, cell_of_row _ _ 6 _ _ (0, 0) HF174.out.box, cell_of_row _ _ 7 _ _ (0, 0) HF174.out.box, cell_of_row _ _ 0 _ _ (0, 0) HF174.out.okb⟩
      generalize u73.drew = dz at *
      refine wpAnyH_take (i := 0) (oi := ⟨some 122, _, _, _, _, _⟩) (v := ?_) rfl (by kernel_rfl) (by kernel_rfl) (by kernel_rfl) (fun _ _ _ h => h) (Or.inl ⟨by rfl, ?_⟩) (by assumption) ?_
      rotate_left
      · intro WW hSw
        try dsimp only at hSw
        go_simp
        try with_reducible rfl
      try simp only [Act.put, pA, pB, pC]
      refine wpAnyH_take (i := 1) (oi := ⟨some 123, _, _, _, _, _⟩) (v := ?_) rfl (by kernel_rfl) (by kernel_rfl) (by kernel_rfl) (fun _ _ _ h => h) (Or.inl ⟨by rfl, ?_⟩) (by assumption) ?_
      rotate_left
      · intro WW hSw
        try dsimp only at hSw
        go_simp
        try with_reducible rfl
      try simp only [Act.put, pA, pB, pC]
      refine wpAnyH_ready (rs := [2]) (by kernel_rfl) (by simp) ?_
      refine AllReadyH.cons (o := ⟨none, _, _, _, _, _⟩) rfl (fun K hK => ?_) AllReadyH.nil
      obtain ⟨m0, m1, m2, m3, m4, m5, m6, m7, n0, n1, n2, n3, n4, n5, n6, n7⟩ := zC_facts HF174.out.res
      obtain ⟨j1, j2, j3⟩ := set8 HF174.out.res (.int .i64 1) (.int .i64 x3) (.string (bsV b5)) (.int .i64 x42) (.int .i64 x59) (.int .i64 0) (.slice B62 b62.length c62) (.bool false)
      go_simp
      refine hK.out _ _ ?_ (fun hHeldZ => ?_)
      · exact ⟨cell_of_row _ _ 0 _ _ (0, 0) ((j2 _ (by omega)).trans HF174.out.box), cell_of_row _ _ 1 _ _ (0, 0) ((j2 _ (by omega)).trans HF174.out.box), cell_of_row _ _ 2 _ _ (0, 0) ((j2 _ (by omega)).trans HF174.out.box), cell_of_row _ _ 3 _ _ (0, 0) ((j2 _ (by omega)).trans HF174.out.box), cell_of_row _ _ 4 _ _ (0, 0) ((j2 _ (by omega)).trans HF174.out.box), cell_of_row _ _ 5 _ _ (0, 0) ((j2 _ (by omega)).trans HF174.out.box), cell_of_row _ _ 6 _ _ (0, 0) ((j2 _ (by omega)).trans HF174.out.box), cell_of_row _ _ 7 _ _ (0, 0) ((j2 _ (by omega)).trans HF174.out.box), cell_of_row _ _ 0 _ _ (0, 0) ((j2 _ (by omega)).trans HF174.out.okb)⟩
      clear hK K hHeld
      try simp only [Act.put, pA, pB, pC]
      refine wpAnyH_take (i := 3) (oi := ⟨some 5, _, _, _, _, _⟩) (v := ?_) rfl (by kernel_rfl) (by kernel_rfl) (by kernel_rfl) (fun _ _ _ h => h) (Or.inl ⟨by rfl, ?_⟩) (by assumption) ?_
      rotate_left
      · intro WW hSw
        try dsimp only at hSw
        go_simp
        try with_reducible rfl
      try simp only [Act.put, pA, pB, pC]
      refine wpAnyH_done (by kernel_rfl) ?_ _
      go_wp2_with fail
      refine bodyPost_ret (results_ct rfl _ _ (w.heap.size + 1) 30 #[.int .i64 1, .int .i64 x3, .string (bsV b5), .int .i64 x42, .int .i64 x59, .int .i64 0, .slice B62 b62.length c62, .bool false] (0, 0) _ rfl j1 Tryd.underlying30 rfl (by kernel_rfl)) rfl ?_
      exact ⟨⟨1, x3, b5, x42, x59, 0, b62, false⟩, B62, c62, (((((true && p3) && p5) && p42) && p59) && p62), rfl, (hit_fill HN3.out HN5.out HN42.out HN59.out HN62.out).1, (hit_fill HN3.out HN5.out HN42.out HN59.out HN62.out).2, Kd.R_lower (R_off2 HR76.out HF174.out.res HF174.out.res (by decide) (fun j h1 _ => j2 j h1)) (by have := HB0.out; omega), j3 HF174.out.bel (by omega)⟩
    · skip
      have k1 : World.cell? _ ⟨w.heap.size, 1, none⟩ = some (.int .i64 0) := HF142.out.cell 1
      have f1 := HF142.out.frz 1
      have HF177 := Lib.hid (HF142.out.set (cs' := #[.int .i64 1, .int .i64 x3, .string ⟨#[]⟩, .int .i64 0, .int .i64 0, .int .i64 0, .slice Av 0 cv, .bool false]) 1 (.int .i64 x3) rfl)
      have HR78 := Lib.hid (R_st (r := w.heap.size) HR43.out (by omega) 1 (.int .i64 x3))
      go_simp
      clear k1 f1
      refine hK.out _ _ ?_ (fun hHeld79 => ?_)
      · exact HLC.out _ HF177.out.bel
      clear hK K hHeld44
      try simp only [Act.put, pA, pB, pC]
      refine wpAnyH_ready (rs := [10]) (by kernel_rfl) (by simp) ?_
      refine AllReadyH.cons (o := ⟨some 31, _, _, _, _, _⟩) rfl (fun K hK => ?_) AllReadyH.nil
      have hcv : (Kd.int .u8).C (y42.setCell ⟨w.heap.size, 1, none⟩ (.int .i64 x3)) B5 b5.length (bI b5) := by have := (Kd.R_reads' HR78.out).2.2; rwa [bI_len] at this
      refine value_ (N := some 31) (by rfl) rfl (exec_conv1 rfl (by rfl) (conv_bs c5 hcv)) ?_
      clear hcv
      refine hK.out _ _ ?_ (fun hHeld80 => ?_)
      · exact HLC.out _ HF177.out.bel
      clear hK K hHeld79
      try simp only [Act.put, pA, pB, pC]
      refine wpAnyH_take (i := 18) (oi := ⟨some 38, _, _, _, _, _⟩) (v := ?_) rfl (by kernel_rfl) (by kernel_rfl) (by kernel_rfl) (fun _ _ _ h => h) (Or.inl ⟨by rfl, ?_⟩) (by assumption) ?_
      rotate_left
      · intro WW hSw
        try dsimp only at hSw
        go_simp
        try with_reducible rfl
      try simp only [Act.put, pA, pB, pC]
      refine wpAnyH_take (i := 19) (oi := ⟨some 39, _, _, _, _, _⟩) (v := ?_) rfl (by kernel_rfl) (by kernel_rfl) (by kernel_rfl) (fun _ _ _ h => h) (Or.inl ⟨by rfl, ?_⟩) (by assumption) ?_
      rotate_left
      · intro WW hSw
        try dsimp only at hSw
        go_simp
        try with_reducible rfl
      try simp only [Act.put, pA, pB, pC]
      refine wpAnyH_ready (rs := [20]) (by kernel_rfl) (by simp) ?_
      refine AllReadyH.cons (o := ⟨none, _, _, _, _, _⟩) rfl (fun K hK => ?_) AllReadyH.nil
      have k2 : World.cell? _ ⟨w.heap.size, 2, none⟩ = some (.string ⟨#[]⟩) := HF177.out.cell 2
      have f2 := HF177.out.frz 2
      have HF181 := Lib.hid (HF177.out.set (cs' := #[.int .i64 1, .int .i64 x3, .string (bsV b5), .int .i64 0, .int .i64 0, .int .i64 0, .slice Av 0 cv, .bool false]) 2 (.string (bsV b5)) rfl)
      have HR82 := Lib.hid (R_st (r := w.heap.size) HR78.out (by omega) 2 (.string (bsV b5)))
      go_simp
      clear k2 f2
      refine hK.out _ _ ?_ (fun hHeld83 => ?_)
      · exact HLC.out _ HF181.out.bel
      clear hK K hHeld80
      try simp only [Act.put, pA, pB, pC]
      refine wpAnyH_take (i := 21) (oi := ⟨some 40, _, _, _, _, _⟩) (v := ?_) rfl (by kernel_rfl) (by kernel_rfl) (by kernel_rfl) (fun _ _ _ h => h) (Or.inl ⟨by rfl, ?_⟩) (by assumption) ?_
      rotate_left
      · intro WW hSw
        try dsimp only at hSw
        go_simp
        try with_reducible rfl
      try simp only [Act.put, pA, pB, pC]
      refine wpAnyH_take (i := 22) (oi := ⟨some 41, _, _, _, _, _⟩) (v := ?_) rfl (by kernel_rfl) (by kernel_rfl) (by kernel_rfl) (fun _ _ _ h => h) (Or.inl ⟨by rfl, ?_⟩) (by assumption) ?_
      rotate_left
      · intro WW hSw
        try dsimp only at hSw
        go_simp
        try with_reducible rfl
      try simp only [Act.put, pA, pB, pC]
      refine wpAnyH_ready (rs := [23]) (by kernel_rfl) (by simp) ?_
      refine AllReadyH.cons (o := ⟨none, _, _, _, _, _⟩) rfl (fun K hK => ?_) AllReadyH.nil
      have k3 : World.cell? _ ⟨w.heap.size, 3, none⟩ = some (.int .i64 0) := HF181.out.cell 3
      have f3 := HF181.out.frz 3
      have HF184 := Lib.hid (HF181.out.set (cs' := #[.int .i64 1, .int .i64 x3, .string (bsV b5), .int .i64 x42, .int .i64 0, .int .i64 0, .slice Av 0 cv, .bool false]) 3 (.int .i64 x42) rfl)
      have HR85 := Lib.hid (R_st (r := w.heap.size) HR82.out (by omega) 3 (.int .i64 x42))
      go_simp
      clear k3 f3
      refine hK.out _ _ ?_ (fun hHeld86 => ?_)
      · exact HLC.out _ HF184.out.bel
      clear hK K hHeld83
      try simp only [Act.put, pA, pB, pC]
      refine wpAnyH_done (by kernel_rfl) ?_ _
      generalize (((y42.setCell ⟨w.heap.size, 1, none⟩ (.int .i64 x3)).setCell ⟨w.heap.size, 2, none⟩ (.string (bsV b5))).setCell ⟨w.heap.size, 3, none⟩ (.int .i64 x42)) = u87 at *
      go_wp2_with fail
      have HF188 := Lib.hid (HF184.out.later (Drawn0.below ⟨1, rfl⟩ : Below u87.heap.size u87 u87.drew))
      have HR89 := Lib.hid (Kd.R_below HR85.out (Drawn0.below ⟨1, rfl⟩ : Below u87.heap.size u87 u87.drew))
      refine wp_region_held_drew (S := (fun w' => w'.cell? ad = some (.string (bsV a)) ∧ w'.cell? ⟨ad.block, ad.off + 1, none⟩ = some (.string (bsV b)) ∧ w'.cell? ⟨ad.block, ad.off + 2, none⟩ = some (.string (bsV c)) ∧ w'.cell? ⟨ad.block, ad.off + 3, none⟩ = some (.string (bsV d)) ∧ w'.cell? ⟨ad.block, ad.off + 4, none⟩ = some (.string (bsV x)))) (by kernel_rfl) ?_ (fun hHeld => ?_)
      · exact HLC.out _ HF188.out.bel
      generalize u87.drew = d90 at *
      refine wpAnyH_take (i := 0) (oi := ⟨some 42, _, _, _, _, _⟩) (v := ?_) rfl (by kernel_rfl) (by kernel_rfl) (by kernel_rfl) (fun _ _ _ h => h) (Or.inl ⟨by rfl, ?_⟩) (by assumption) ?_
      rotate_left
      · intro WW hSw
        try dsimp only at hSw
        go_simp
        try with_reducible rfl
      try simp only [Act.put, pA, pB, pC]
      refine wpAnyH_take (i := 1) (oi := ⟨some 43, _, _, _, _, _⟩) (v := ?_) rfl (by kernel_rfl) (by kernel_rfl) (by kernel_rfl) (fun _ _ _ h => h) (Or.inl ⟨by rfl, ?_⟩) (by assumption) ?_
      rotate_left
      · intro WW hSw
        try dsimp only at hSw
        go_simp
        try with_reducible rfl
      try simp only [Act.put, pA, pB, pC]
      refine wpAnyH_take (i := 2) (oi := ⟨some 44, _, _, _, _, _⟩) (v := ?_) rfl (by kernel_rfl) (by kernel_rfl) (by kernel_rfl) (fun _ _ _ h => h) (Or.inl ⟨by rfl, ?_⟩) (by assumption) ?_
      rotate_left
      · intro WW hSw
        try dsimp only at hSw
        go_simp
        try with_reducible rfl
      try simp only [Act.put, pA, pB, pC]
      refine wpAnyH_take (i := 3) (oi := ⟨some 45, _, _, _, _, _⟩) (v := ?_) rfl (by kernel_rfl) (by kernel_rfl) (by kernel_rfl) (fun _ _ _ h => h) (Or.inl ⟨by rfl, ?_⟩) (by assumption) ?_
      rotate_left
      · intro WW hSw
        try dsimp only at hSw
        go_simp
        try with_reducible rfl
      try simp only [Act.put, pA, pB, pC]
      refine wpAnyH_take (i := 5) (oi := ⟨some 47, _, _, _, _, _⟩) (v := ?_) rfl (by kernel_rfl) (by kernel_rfl) (by kernel_rfl) (fun _ _ _ h => h) (Or.inl ⟨by rfl, ?_⟩) (by assumption) ?_
      rotate_left
      · intro WW hSw
        try dsimp only at hSw
        go_simp
        try with_reducible rfl
      try simp only [Act.put, pA, pB, pC]
      refine wpAnyH_take (i := 6) (oi := ⟨some 48, _, _, _, _, _⟩) (v := ?_) rfl (by kernel_rfl) (by kernel_rfl) (by kernel_rfl) (fun _ _ _ h => h) (Or.inl ⟨by rfl, ?_⟩) (by assumption) ?_
      rotate_left
      · intro WW hSw
        try dsimp only at hSw
        go_simp
        try with_reducible rfl
      try simp only [Act.put, pA, pB, pC]
      refine wpAnyH_take (i := 7) (oi := ⟨some 49, _, _, _, _, _⟩) (v := ?_) rfl (by kernel_rfl) (by kernel_rfl) (by kernel_rfl) (fun _ _ _ h => h) (Or.inl ⟨by rfl, ?_⟩) (by assumption) ?_
      rotate_left
      · intro WW hSw
        try dsimp only at hSw
        go_simp
        try with_reducible rfl
      try simp only [Act.put, pA, pB, pC]
      refine wpAnyH_take (i := 8) (oi := ⟨some 50, _, _, _, _, _⟩) (v := ?_) rfl (by kernel_rfl) (by kernel_rfl) (by kernel_rfl) (fun _ _ _ h => h) (Or.inl ⟨by rfl, ?_⟩) (by assumption) ?_
      rotate_left
      · intro WW hSw
        try dsimp only at hSw
        go_simp
        try with_reducible rfl
      try simp only [Act.put, pA, pB, pC]
      refine wpAnyH_ready (rs := [4]) (by kernel_rfl) (by simp) ?_
      refine AllReadyH.cons (o := ⟨some 46, _, _, _, _, _⟩) rfl (fun K hK => ?_) AllReadyH.nil
      go_simp
      go_at_call 63
      refine (numC_any d HLd.out _ _ _ HF188.out.okb).mono ?_
      rintro e y91 ⟨x91, p91, rfl, hn, hg, hk⟩
      have HN91 := Lib.hid hn
      have HF191 := Lib.hid (HF188.out.grown hg hk)
      have HR92 := Lib.hid (R_gr HR89.out (by have := HF188.out.siz; omega) hg)
      clear hn hg hk
      refine hK.out _ _ ?_ (fun hHeld93 => ?_)
      · exact HLC.out _ HF191.out.bel
      clear hK K hHeld
      try simp only [Act.put, pA, pB, pC]
      refine wpAnyH_take (i := 10) (oi := ⟨some 52, _, _, _, _, _⟩) (v := ?_) rfl (by kernel_rfl) (by kernel_rfl) (by kernel_rfl) (fun _ _ _ h => h) (Or.inl ⟨by rfl, ?_⟩) (by assumption) ?_
      rotate_left
      · intro WW hSw
        try dsimp only at hSw
        go_simp
        try with_reducible rfl
      try simp only [Act.put, pA, pB, pC]
      refine wpAnyH_take (i := 11) (oi := ⟨some 53, _, _, _, _, _⟩) (v := ?_) rfl (by kernel_rfl) (by kernel_rfl) (by kernel_rfl) (fun _ _ _ h => h) (Or.inl ⟨by rfl, ?_⟩) (by assumption) ?_
      rotate_left
      · intro WW hSw
        try dsimp only at hSw
        go_simp
        try with_reducible rfl
      try simp only [Act.put, pA, pB, pC]
      refine wpAnyH_ready (rs := [9]) (by kernel_rfl) (by simp) ?_
      refine AllReadyH.cons (o := ⟨some 51, _, _, _, _, _⟩) rfl (fun K hK => ?_) AllReadyH.nil
      go_simp
      go_at_call 65
      refine (bytC_any x HLx.out _ _ _ HF191.out.okb).mono ?_
      rintro e y94 ⟨B94, b94, c94, p94, rfl, hn, hr, hg, hk⟩
      have HN94 := Lib.hid hn
      have HF194 := Lib.hid (HF191.out.grown hg hk)
      have HR95 := Lib.hid (R_gr HR92.out (by have := HF191.out.siz; omega) hg)
      have HB94 := Lib.hid (Kd.R_lower (base' := w.heap.size + 3) hr HF191.out.siz)
      clear hn hg hk hr
      refine hK.out _ _ ?_ (fun hHeld96 => ?_)
      · exact HLC.out _ HF194.out.bel
      clear hK K hHeld93
      try simp only [Act.put, pA, pB, pC]
      refine wpAnyH_ready (rs := [12]) (by kernel_rfl) (by simp) ?_
      refine AllReadyH.cons (o := ⟨none, _, _, _, _, _⟩) rfl (fun K hK => ?_) AllReadyH.nil
      have k4 : World.cell? _ ⟨w.heap.size, 4, none⟩ = some (.int .i64 0) := HF194.out.cell 4
      have f4 := HF194.out.frz 4
      have HF197 := Lib.hid (HF194.out.set (cs' := #[.int .i64 1, .int .i64 x3, .string (bsV b5), .int .i64 x42, .int .i64 x91, .int .i64 0, .slice Av 0 cv, .bool false]) 4 (.int .i64 x91) rfl)
      have HR98 := Lib.hid (R_st (r := w.heap.size) HR95.out (by omega) 4 (.int .i64 x91))
      have HR99 := Lib.hid (R_st (r := w.heap.size) HB94.out (by omega) 4 (.int .i64 x91))
      go_simp
      clear k4 f4
      refine hK.out _ _ ?_ (fun hHeld100 => ?_)
      · exact HLC.out _ HF197.out.bel
      clear hK K hHeld96
      try simp only [Act.put, pA, pB, pC]
      refine wpAnyH_take (i := 13) (oi := ⟨some 54, _, _, _, _, _⟩) (v := ?_) rfl (by kernel_rfl) (by kernel_rfl) (by kernel_rfl) (fun _ _ _ h => h) (Or.inl ⟨by rfl, ?_⟩) (by assumption) ?_
      rotate_left
      · intro WW hSw
        try dsimp only at hSw
        go_simp
        try with_reducible rfl
      try simp only [Act.put, pA, pB, pC]
      refine wpAnyH_take (i := 14) (oi := ⟨some 55, _, _, _, _, _⟩) (v := ?_) rfl (by kernel_rfl) (by kernel_rfl) (by kernel_rfl) (fun _ _ _ h => h) (Or.inl ⟨by rfl, ?_⟩) (by assumption) ?_
      rotate_left
      · intro WW hSw
        try dsimp only at hSw
        go_simp
        try with_reducible rfl
      try simp only [Act.put, pA, pB, pC]
      refine wpAnyH_ready (rs := [15]) (by kernel_rfl) (by simp) ?_
      refine AllReadyH.cons (o := ⟨none, _, _, _, _, _⟩) rfl (fun K hK => ?_) AllReadyH.nil
      have k6 : World.cell? _ ⟨w.heap.size, 6, none⟩ = some (.slice Av 0 cv) := HF197.out.cell 6
      have f6 := HF197.out.frz 6
      have HF201 := Lib.hid (HF197.out.set (cs' := #[.int .i64 1, .int .i64 x3, .string (bsV b5), .int .i64 x42, .int .i64 x91, .int .i64 0, .slice B94 b94.length c94, .bool false]) 6 (.slice B94 b94.length c94) rfl)
      have HR102 := Lib.hid (R_st (r := w.heap.size) HR98.out (by omega) 6 (.slice B94 b94.length c94))
      have HR103 := Lib.hid (R_st (r := w.heap.size) HR99.out (by omega) 6 (.slice B94 b94.length c94))
      go_simp
      clear k6 f6
      refine hK.out _ _ ?_ (fun hHeld104 => ?_)
      · exact HLC.out _ HF201.out.bel
      clear hK K hHeld100
      try simp only [Act.put, pA, pB, pC]
      refine wpAnyH_done (by kernel_rfl) ?_ _
      generalize ((y94.setCell ⟨w.heap.size, 4, none⟩ (.int .i64 x91)).setCell ⟨w.heap.size, 6, none⟩ (.slice B94 b94.length c94)) = u105 at *
      go_wp2_with fail
      have HF206 := Lib.hid (HF201.out.later (Drawn0.below ⟨1, rfl⟩ : Below u105.heap.size u105 u105.drew))
      have HR107 := Lib.hid (Kd.R_below HR102.out (Drawn0.below ⟨1, rfl⟩ : Below u105.heap.size u105 u105.drew))
      have HR108 := Lib.hid (Kd.R_below HR103.out (Drawn0.below ⟨1, rfl⟩ : Below u105.heap.size u105 u105.drew))
      refine wp_region_held_drew (S := (fun w' => w'.cell? ⟨w.heap.size, 0, none⟩ = some (.int .i64 1) ∧ w'.cell? ⟨w.heap.size, 1, none⟩ = some (.int .i64 x3) ∧ w'.cell? ⟨w.heap.size, 2, none⟩ = some (.string (bsV b5)) ∧ w'.cell? ⟨w.heap.size, 3, none⟩ = some (.int .i64 x42) ∧ w'.cell? ⟨w.heap.size, 4, none⟩ = some (.int .i64 x91) ∧ w'.cell? ⟨w.heap.size, 5, none⟩ = some (.int .i64 0) ∧ w'.cell? ⟨w.heap.size, 6, none⟩ = some (.slice B94 b94.length c94) ∧ w'.cell? ⟨w.heap.size, 7, none⟩ = some (.bool false) ∧ w'.cell? ⟨w.heap.size + 2, 0, none⟩ = some (.bool (((((true && p3) && p5) && p42) && p91) && p94)))) (by kernel_rfl) ?_ (fun hHeld => ?_)
      · exact ⟨cell_of_row _ _ 0 _ _ (0, 0) HF206.out.box, cell_of_row _ _ 1 _ _ (0, 0) HF206.out.box, cell_of_row _ _ 2 _ _ (0, 0) HF206.out.box, cell_of_row _ _ 3 _ _ (0, 0) HF206.out.box, cell_of_row _ _ 4 _ _ (0, 0) HF206.out.box, cell_of_row _ _ 5 _ _ (0, 0) HF206.out.box, cell_of_row _ _ 6 _ _ (0, 0) HF206.out.box, cell_of_row _ _ 7 _ _ (0, 0) HF206.out.box, cell_of_row _ _ 0 _ _ (0, 0) HF206.out.okb⟩
      generalize u105.drew = dz at *
      refine wpAnyH_take (i := 0) (oi := ⟨some 122, _, _, _, _, _⟩) (v := ?_) rfl (by kernel_rfl) (by kernel_rfl) (by kernel_rfl) (fun _ _ _ h => h) (Or.inl ⟨by rfl, ?_⟩) (by assumption) ?_
      rotate_left
      · intro WW hSw
        try dsimp only at hSw
        go_simp
        try with_reducible rfl
      try simp only [Act.put, pA, pB, pC]
      refine wpAnyH_take (i := 1) (oi := ⟨some 123, _, _, _, _, _⟩) (v := ?_) rfl (by kernel_rfl) (by kernel_rfl) (by kernel_rfl) (fun _ _ _ h => h) (Or.inl ⟨by rfl, ?_⟩) (by assumption) ?_
      rotate_left
      · intro WW hSw
        try dsimp only at hSw
        go_simp
        try with_reducible rfl
      try simp only [Act.put, pA, pB, pC]
      refine wpAnyH_ready (rs := [2]) (by kernel_rfl) (by simp) ?_
      refine AllReadyH.cons (o := ⟨none, _, _, _, _, _⟩) rfl (fun K hK => ?_) AllReadyH.nil
      obtain ⟨m0, m1, m2, m3, m4, m5, m6, m7, n0, n1, n2, n3, n4, n5, n6, n7⟩ := zC_facts HF206.out.res
      obtain ⟨j1, j2, j3⟩ := set8 HF206.out.res (.int .i64 1) (.int .i64 x3) (.string (bsV b5)) (.int .i64 x42) (.int .i64 x91) (.int .i64 0) (.slice B94 b94.length c94) (.bool false)
      go_simp
      refine hK.out _ _ ?_ (fun hHeldZ => ?_)
      · exact ⟨cell_of_row _ _ 0 _ _ (0, 0) ((j2 _ (by omega)).trans HF206.out.box), cell_of_row _ _ 1 _ _ (0, 0) ((j2 _ (by omega)).trans HF206.out.box), cell_of_row _ _ 2 _ _ (0, 0) ((j2 _ (by omega)).trans HF206.out.box), cell_of_row _ _ 3 _ _ (0, 0) ((j2 _ (by omega)).trans HF206.out.box), cell_of_row _ _ 4 _ _ (0, 0) ((j2 _ (by omega)).trans HF206.out.box), cell_of_row _ _ 5 _ _ (0, 0) ((j2 _ (by omega)).trans HF206.out.box), cell_of_row _ _ 6 _ _ (0, 0) ((j2 _ (by omega)).trans HF206.out.box), cell_of_row _ _ 7 _ _ (0, 0) ((j2 _ (by omega)).trans HF206.out.box), cell_of_row _ _ 0 _ _ (0, 0) ((j2 _ (by omega)).trans HF206.out.okb)⟩
      clear hK K hHeld
      try simp only [Act.put, pA, pB, pC]
      refine wpAnyH_take (i := 3) (oi := ⟨some 5, _, _, _, _, _⟩) (v := ?_) rfl (by kernel_rfl) (by kernel_rfl) (by kernel_rfl) (fun _ _ _ h => h) (Or.inl ⟨by rfl, ?_⟩) (by assumption) ?_
      rotate_left
      · intro WW hSw
        try dsimp only at hSw
        go_simp
        try with_reducible rfl
      try simp only [Act.put, pA, pB, pC]
      refine wpAnyH_done (by kernel_rfl) ?_ _
      go_wp2_with fail
      refine bodyPost_ret (results_ct rfl _ _ (w.heap.size + 1) 30 #[.int .i64 1, .int .i64 x3, .string (bsV b5), .int .i64 x42, .int .i64 x91, .int .i64 0, .slice B94 b94.length c94, .bool false] (0, 0) _ rfl j1 Tryd.underlying30 rfl (by kernel_rfl)) rfl ?_
      exact ⟨⟨1, x3, b5, x42, x91, 0, b94, false⟩, B94, c94, (((((true && p3) && p5) && p42) && p91) && p94), rfl, (hit_fill HN3.out HN5.out HN42.out HN91.out HN94.out).1, (hit_fill HN3.out HN5.out HN42.out HN91.out HN94.out).2, Kd.R_lower (R_off2 HR108.out HF206.out.res HF206.out.res (by decide) (fun j h1 _ => j2 j h1)) (by have := HB0.out; omega), j3 HF206.out.bel (by omega)⟩
end Go.Proofs.YtgfljpchdiapeaaDoor
namespace Go.Proofs.YtgfljpchdiapeaaDoor
set_option linter.unusedVariables false
set_option linter.unusedSimpArgs false
open Go.RowKit Go.Proofs.YtgfljpchdiapeaaDoorW.PrintWords
attribute [local go_sem ↓] Go.wp_at_zero Go.wp_at_succ
def kS : Kd (ByteArray × Int × Int) := Kd.pair Kd.string (Kd.pair (Kd.int .i64) (Kd.int .i64))
theorem info_step : (Tryd.prog.info? 83).map (fun i => (i.zero, i.size, i.bytes)) = some (some (.agg #[.string ⟨#[]⟩, .int .i64 0, .int .i64 0]), kS.sz, 32) := by kernel_rfl
def ErrOne (W : World) (v : Value) (c at_ : Int) : Prop := (c = 0 ∧ v = .nilIface) ∨ (c ≠ 0 ∧ ∃ b op, v = faultV b ∧ W.heap[b]? = some (faultO op at_ c .nilIface))
theorem ErrOne.later {W W' : World} {v : Value} {c at_ : Int} (h : ErrOne W v c at_) (hb : Below W.heap.size W W') : ErrOne W' v c at_ := h.imp id fun ⟨h1, b, op, h2, h3⟩ => ⟨h1, b, op, h2, (hb.block b (Array.getElem?_eq_some_iff.1 h3).1).trans h3⟩
theorem chain_nil (w : World) : Calls Tryd.prog 44 #[.nilIface] w fun e w' => e = .returned (.slice none 0 0) ∧ w' = w := by
  go_enter Tryd.func44, Tryd.ntmps44
  go_wp2_with fail
  go_loopg [0, 3] 0 (fun k u lv wr => u = .nilIface ∧ lv = .slice none 0 0 ∧ w = wr)
  case atStart => exact ⟨rfl, rfl, rfl⟩
  case round =>
    obtain ⟨rfl, rfl, rfl⟩ := hrel
    go_wp2_with fail
    go_ret
    exact ⟨rfl, rfl⟩
set_option maxHeartbeats 2000000 in
set_option maxRecDepth 100000 in
theorem chain_new (b : Nat) (op : ByteArray) (at_ c : Int) (w : World) (hb : w.heap[b]? = some (faultO op at_ c .nilIface)) (hg : HG w) : Calls Tryd.prog 44 #[faultV b] w fun e w' => ∃ g cap, e = .returned (.slice (some ⟨g, 0, none⟩) 1 cap) ∧ w'.cell? ⟨g, 1, none⟩ = some (.int .i64 at_) ∧ Below w.heap.size w w' := by
  have HB := Lib.hid hb
  have HH := Lib.hid hg
  clear hb hg
  unfold faultV
  go_enter Tryd.func44, Tryd.ntmps44
  go_wp2_with fail
  go_loopg [0, 3] 1 (fun k u lv wr => Hid (Below w.heap.size w wr) ∧ ((k = 1 ∧ u = .iface 84 (.pointer (some ⟨b, 0, none⟩)) ∧ lv = .slice none 0 0) ∨ (k = 0 ∧ u = .nilIface ∧ ∃ g cap, lv = .slice (some ⟨g, 0, none⟩) 1 cap ∧ Hid (wr.cell? ⟨g, 1, none⟩ = some (.int .i64 at_)))))
  case atStart => exact ⟨Below.refl _ _, .inl ⟨rfl, rfl, rfl⟩⟩
  case round =>
    obtain ⟨HW, ⟨rfl, rfl, rfl⟩ | ⟨rfl, rfl, g, cap, rfl, HC⟩⟩ := hrel
    · have HBL := Lib.hid ((HW.out.block b (Array.getElem?_eq_some_iff.1 HB.out).1).trans HB.out)
      have HGr : Hid (HG wr) := hg_later HH.out HW.out
      have HT := Lib.hid (show ∀ w1 : World, Below wr.heap.size wr w1 → w1.cell? ⟨b, 0, none⟩ = some (.string op) ∧ w1.cell? ⟨b, 1, none⟩ = some (.int .i64 at_) ∧ w1.cell? ⟨b, 2, none⟩ = some (.int .i64 c) ∧ w1.cell? ⟨b, 3, none⟩ = some .nilIface from fun w1 h => by
        rw [h.cell (p := ⟨b, 0, none⟩) (lt_of_block HBL.out), h.cell (p := ⟨b, 1, none⟩) (lt_of_block HBL.out), h.cell (p := ⟨b, 2, none⟩) (lt_of_block HBL.out), h.cell (p := ⟨b, 3, none⟩) (lt_of_block HBL.out)]
        simp [World.cell?, HBL.out, faultO])
      have HAS := Lib.hid (as_new b wr HGr.out _ rfl)
      go_wp2_with fail
      refine HAS.out.mono ?_
      rintro e w1 ⟨rfl, hb1, ht1, hs1⟩
      have HB1 := Lib.hid hb1
      obtain ⟨k0, k1, k2, k3⟩ := HT.out w1 hb1
      clear hb1 HAS HT
      go_wp2_with fail
      have BD := Lib.hid (show Below w1.heap.size w1 w1.drew from Drawn0.below ⟨1, rfl⟩)
      have HKS := Lib.hid (show ∀ W, Below w1.heap.size w1 W → W.cell? ⟨wr.heap.size, 0, none⟩ = some (.pointer (some ⟨b, 0, none⟩)) ∧ W.cell? ⟨b, 0, none⟩ = some (.string op) ∧ W.cell? ⟨b, 1, none⟩ = some (.int .i64 at_) ∧ W.cell? ⟨b, 2, none⟩ = some (.int .i64 c) from fun W hW =>
        ⟨(hW.cell (p := ⟨wr.heap.size, 0, none⟩) hs1).trans ht1, (hW.cell (p := ⟨b, 0, none⟩) (World.block_lt_of_cell? w1 _ k0)).trans k0, (hW.cell (p := ⟨b, 1, none⟩) (World.block_lt_of_cell? w1 _ k1)).trans k1, (hW.cell (p := ⟨b, 2, none⟩) (World.block_lt_of_cell? w1 _ k2)).trans k2⟩)
      go_region_held3 (fun w' => w'.cell? ⟨wr.heap.size, 0, none⟩ = some (.pointer (some ⟨b, 0, none⟩)) ∧ w'.cell? ⟨b, 0, none⟩ = some (.string op) ∧ w'.cell? ⟨b, 1, none⟩ = some (.int .i64 at_) ∧ w'.cell? ⟨b, 2, none⟩ = some (.int .i64 c))
        (first | exact ⟨ht1, k0, k1, k2⟩ | exact HKS.out _ BD.out | exact HKS.out _ HB7.out | exact HKS.out _ (BD.out.alloc (Nat.le_refl _) _))
        ((refine Kd.R_append_step kS (w0 := w1) (W := w1.drew) w1.heap.size (by rfl) (.tmp 11) (.tmp 25) 80 83 (.agg #[.string ⟨#[]⟩, .int .i64 0, .int .i64 0]) 32 (by rfl) Tryd.underlying80 info_step rfl (by decide) (by omega) (.slice none 0 0) [] (op, at_, c) [.string op, .int .i64 at_, .int .i64 c] (fun _ => True) (fun _ => False) (by rfl) (by rfl) ⟨[.string op], [.int .i64 at_, .int .i64 c], rfl, rfl, [.int .i64 at_], [.int .i64 c], rfl, rfl, rfl⟩ (fun _ hk => hk.elim) (fun _ _ => trivial) (Kd.R_nil _ _ _ _ _) BD.out (Nat.le_refl _) (by simp) ?_; intro v1 w7 ho hb7 hg7 hat; obtain ⟨inner, hown⟩ := Kd.R_own ho; obtain ⟨g, cap, hv1, _, hlt⟩ := hown.form (by simp); have HO := Lib.hid ho; have HB7 := Lib.hid hb7; subst hv1; have kt : w7.cell? ⟨wr.heap.size, 0, none⟩ = some (.pointer (some ⟨b, 0, none⟩)) := (hb7.cell (p := ⟨wr.heap.size, 0, none⟩) hs1).trans ht1; have kb3 : w7.cell? ⟨b, 3, none⟩ = some .nilIface := (hb7.cell (p := ⟨b, 3, none⟩) (World.block_lt_of_cell? w1 _ k3)).trans k3; clear ho hown hb7 hg7 hat hlt))
      all_goals
        go_wp2_with fail
        go_roundg 0
        case measure => omega
        case rel =>
          refine ⟨HW.out.trans ((HB1.out.trans (HB7.out.mono HB1.out.size)).mono HW.out.size), .inr ⟨rfl, rfl, g, cap, rfl, ?_⟩⟩
          obtain ⟨A, c', e1, _, hC⟩ := Kd.R_reads HO.out
          injection e1 with e1 _ _
          obtain ⟨ad, cs, e2, _, hK, hcell⟩ := Kd.C_get hC (op, at_, c) 0 (by omega) (by simp)
          rw [← e1] at e2
          injection e2 with e2
          subst e2
          obtain ⟨x0, x1, rfl, rfl, y0, y1, rfl, rfl, rfl⟩ := hK
          have := hcell 1 _ rfl
          rw [add_plain] at this
          exact this
    · go_wp2_with fail
      go_ret
      exact ⟨g, cap, rfl, HC.out, HW.out⟩
theorem where_any (v : Value) (c at_ : Int) (w : World) (h : ErrOne w v c at_) (hg : HG w) : Calls Tryd.prog 17 #[v] w fun e w' => (∃ x, e = .returned (.tuple #[.int .i64 x, .bool (decide (c ≠ 0))]) ∧ (c ≠ 0 → x = at_)) ∧ Below w.heap.size w w' := by
  rcases h with ⟨rfl, rfl⟩ | ⟨hc, b, op, rfl, hb⟩
  · go_enter Tryd.func17, Tryd.ntmps17
    go_wp2_with (go_at_call 44; refine (chain_nil _).mono ?_; rintro e w1 ⟨rfl, rfl⟩)
    go_ret2
    exact ⟨⟨0, rfl, fun h => absurd rfl h⟩, Below.refl _ _⟩
  · have HD := Lib.hid (decide_eq_true hc)
    have HCH := Lib.hid (chain_new b op at_ c w hb hg)
    clear hb hc hg
    unfold faultV at HCH ⊢
    go_enter Tryd.func17, Tryd.ntmps17
    go_wp2_with fail
    refine HCH.out.mono ?_
    rintro e w1 ⟨g, cap, rfl, hc1, hb⟩
    have HB := Lib.hid hb
    clear hb
    go_wp2_with fail
    go_ret2
    exact ⟨⟨at_, by rw [HD.out]; rfl, fun _ => rfl⟩, HB.out⟩
theorem of_one (v : Value) (c at_ : Int) (w : World) (h : ErrOne w v c at_) (hg : HG w) : Calls Tryd.prog 19 #[v] w fun e w' => e = .returned (.int .i64 c) ∧ Below w.heap.size w w' := by
  rcases h with ⟨rfl, rfl⟩ | ⟨hc, b, op, rfl, hb⟩
  · exact of_code _ [] w .nil hg
  · refine (of_code _ [(op, at_, c)] w (.new hb hc) hg).mono fun e w' ⟨h1, h2⟩ => ⟨?_, h2⟩
    rw [h1]
    simp [codeOf, hc]
attribute [local go_sem] bsV_get bsV_size bsV_toList
theorem idx_spec (c : UInt8) : ∀ s : Bs, (Lib.index s [c] = -1 ∧ c ∉ s) ∨ ∃ i : Nat, Lib.index s [c] = i ∧ i < s.length ∧ s = s.take i ++ c :: s.drop (i + 1) ∧ c ∉ s.take i
  | [] => .inl ⟨rfl, by simp⟩
  | x :: r => by
    by_cases hx : x = c
    · subst hx
      exact .inr ⟨0, by simp [Lib.index], by simp, by simp, by simp⟩
    · have hp : ([c] : Bs).isPrefixOf (x :: r) = false := by simp [List.isPrefixOf]; exact fun e => hx e.symm
      rcases idx_spec c r with ⟨h1, h2⟩ | ⟨i, h1, h2, h3, h4⟩
      · refine .inl ⟨by rw [Lib.index, hp, h1]; rfl, fun h => ?_⟩
        rcases List.mem_cons.1 h with e | e
        · exact hx e.symm
        · exact h2 e
      · refine .inr ⟨i + 1, ?_, by simp; omega, ?_, ?_⟩
        · rw [Lib.index, hp, h1, if_neg (by simp), if_neg (by intro e; have := beq_iff_eq.1 e; omega)]
          omega
        · rw [List.take_succ_cons, List.drop_succ_cons, List.cons_append, ← h3]
        · rw [List.take_succ_cons]
          intro h
          rcases List.mem_cons.1 h with e | e
          · exact hx e.symm
          · exact h4 e
theorem splitK_S (c : UInt8) : ∀ (n : Nat) (s : Bs), s.length ≤ n → Lib.splitK [c] 0 (Lib.count s [c]) s = splitS c s
  | n, s, hn => by
    rcases idx_spec c s with ⟨h1, h2⟩ | ⟨i, h1, h2, h3, h4⟩
    · rw [Lib.count_miss h1, split_none h2]
      rfl
    · cases n with
      | zero => omega
      | succ n =>
        have ih := splitK_S c n (s.drop (i + 1)) (by rw [List.length_drop]; omega)
        rw [Lib.count_hit (by simp) h1, Nat.add_comm, Lib.splitK, if_neg (by simp; omega), h1]
        show s.take (i + 0) :: Lib.splitK [c] 0 (Lib.count (s.drop (i + 1)) [c]) (s.drop (i + 1)) = _
        rw [ih]
        conv => rhs; rw [h3]
        rw [split_app, split_none h4]
        rfl
theorem splitB_S (c : UInt8) (s : Bs) : Lib.splitB (bsV [c]) 0 (Lib.countB (bsV s) (bsV [c])) (bsV s) = (splitS c s).map bsV := by
  have h := Lib.splitB_data (bsV [c]) 0 (Lib.countB (bsV s) (bsV [c])) (bsV s)
  rw [bsV_list, bsV_list] at h
  have hc : Lib.countB (bsV s) (bsV [c]) = Lib.count s [c] := by show Lib.count (bsV s).data.toList (bsV [c]).data.toList = _; rw [bsV_list, bsV_list]
  rw [hc, splitK_S c _ s (Nat.le_refl _)] at h
  rw [hc, ← h, List.map_map]
  have : bsV ∘ (fun x : ByteArray => x.data.toList) = id := funext fun x => by cases x; simp [bsV]
  rw [this, List.map_id]
def MX (w : World) : Prop := ∃ m, w.cell? ⟨1, 0, none⟩ = some (.int .i64 m)
theorem MX.later {w w' : World} (h : MX w) (hb : Below w.heap.size w w') : MX w' := by
  obtain ⟨m, hm⟩ := h
  exact ⟨m, (hb.cell (World.block_lt_of_cell? w _ hm)).trans hm⟩
theorem info_str9 : (Tryd.prog.info? (lyS_ren.t 9)).map (fun i => (i.zero, i.size, i.bytes)) = some (some (.string ByteArray.empty), 1, 16) := by kernel_rfl
theorem split_any (c : UInt8) (s : Bs) (w : World) (hs : s.length < 4294967281) (hm : MX w) : Calls Tryd.prog 42 #[.string (bsV s), .string (bsV [c])] w fun e w' => e = .returned (.slice (some ⟨w.heap.size, 0, none⟩) (splitS c s).length (splitS c s).length) ∧ w' = w.alloc (.cells (((splitS c s).map bsV).map Value.string).toArray 9) := by
  obtain ⟨m, hm⟩ := hm
  have h := Any.strings_Split lyS info_str9 (bsV s) (bsV [c]) m w (by rw [bsV_size]; exact hs) hm (by rw [bsV_size]; simp)
  have hl := Lib.splitB_all (bsV [c]) (by rw [bsV_size]; simp) 0 _ (bsV s) rfl
  rw [splitB_S, List.length_map] at hl
  rw [splitB_S, ← hl] at h
  exact h
theorem split_row {s : Bs} {c : UInt8} (w : World) : Kd.string.C (w.alloc (.cells (((splitS c s).map bsV).map Value.string).toArray 9)) (some ⟨w.heap.size, 0, none⟩) (splitS c s).length ((splitS c s).map bsV) ∨ 9223372036854775807 < (splitS c s).length := by
  rcases Nat.lt_or_ge 9223372036854775807 (splitS c s).length with h | h
  · exact .inr h
  · refine .inl ⟨List.length_map .., h, fun _ => ⟨_, rfl, fun j p hj => ⟨[.string p], rfl, rfl, fun i u hu => ?_⟩⟩⟩
    rcases i with _ | i
    · have e : Value.string p = u := by simpa using hu
      rw [← e, add_plain, World.cell?, heap_alloc_new]
      show ((((splitS c s).map bsV).map Value.string).toArray)[j * 1 + 0]? = _
      rw [List.getElem?_toArray, Nat.mul_one, Nat.add_zero, List.getElem?_map, hj]
      rfl
    · simp at hu
theorem new_one (op : ByteArray) (at_ c : Int) (hc : (c == 0) = false) (w : World) : Calls Tryd.prog 43 #[.string op, .int .i64 at_, .int .i64 c] w fun e w' => ∃ b, e = .returned (.iface 84 (.pointer (some ⟨b, 0, none⟩))) ∧ w'.heap[b]? = some (faultO op at_ c .nilIface) ∧ Below w.heap.size w w' :=
  (new_any op at_ c hc w).mono fun e w' ⟨h1, h2⟩ => ⟨_, h1, by rw [h2]; exact heap_alloc_new _ _, by rw [h2]; exact bel_alloc _ _⟩
end Go.Proofs.YtgfljpchdiapeaaDoor
