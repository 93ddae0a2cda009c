/- Whether two deeds are the same: Same, both ways. Whether rows of deeds are the same: SameAll. Reading a deed, plainly: letter by letter; strings.Split. -/
import Derived.Test.YtbckbpimabmacaaDoorG4
import Derived.Test.YtbckbpimabmacaaDoorRes
namespace Go.Proofs.YtbckbpimabmacaaDoor
set_option linter.unusedVariables false
set_option linter.unusedSimpArgs false
open Go.RowKit Go.Proofs.YtbckbpimabmacaaDoorW.PrintWords
attribute [local go_sem ↓] Go.wp_at_zero Go.wp_at_succ
attribute [local go_sem] bsV_get bsV_size bsV_toList

def sameS (a b : Dd) : Bool := decide (a.kind = b.kind ∧ lineS a = lineS b)

set_option maxHeartbeats 4000000 in
set_option maxRecDepth 100000 in
theorem refSame_any (a b : Dd) (aA aB bA bB : Option Addr) (ac ae bc be : Nat) (w : World) (hA : DM w a aA aB ac ae) (hB : DM w b bA bB bc be) : Calls Tryd.prog 26 #[.agg (dC a aA aB ac ae), .agg (dC b bA bB bc be)] w fun e w' => e = .returned (.bool (sameS a b)) ∧ Below w.heap.size w w' := by
  have HDA := Lib.hid hA
  have HDB := Lib.hid hB
  clear hA hB
  have HK1 := Lib.hid (show ((w.alloc (.cells (dC a aA aB ac ae) 45)).alloc (.cells (dC b bA bB bc be) 45)).heap[w.heap.size]? = some (.cells (dC a aA aB ac ae) 45 (0, 0)) from (Below.heap_alloc _ _ _ (by simp)).trans (heap_alloc_new _ _))
  have HK2 := Lib.hid (show ((w.alloc (.cells (dC a aA aB ac ae) 45)).alloc (.cells (dC b bA bB bc be) 45)).heap[w.heap.size + 1]? = some (.cells (dC b bA bB bc be) 45 (0, 0)) from by
    have := heap_alloc_new (w.alloc (.cells (dC a aA aB ac ae) 45)) (.cells (dC b bA bB bc be) 45)
    simpa using this)
  have HBL := Lib.hid ((bel_alloc w (.cells (dC a aA aB ac ae) 45)).trans ((bel_alloc _ (.cells (dC b bA bB bc be) 45)).mono (by simp)))
  obtain ⟨sm, hsm⟩ : ∃ sm, sm = sameS a b := ⟨_, rfl⟩
  rw [← hsm]
  have HSM := Lib.hid hsm
  clear hsm
  unfold dC at HK1 HK2 HBL ⊢
  go_enter Tryd.func26, Tryd.ntmps26
  go_wp2_with fail
  generalize (w.alloc (.cells #[.int .i64 a.kind, .int .i64 a.node, .string (bsV a.key), .slice aA a.value.length ac, .int .i64 a.n, .int .i64 a.at_, .int .u8 a.by_, .int .u8 a.draw, .slice aB a.keep.length ae] 45)).alloc (.cells #[.int .i64 b.kind, .int .i64 b.node, .string (bsV b.key), .slice bA b.value.length bc, .int .i64 b.n, .int .i64 b.at_, .int .u8 b.by_, .int .u8 b.draw, .slice bB b.keep.length be] 45) = wb at *
  have HXX := Lib.hid (show ∀ W, Below wb.heap.size wb W → W.cell? ⟨w.heap.size, 0, none⟩ = some (.int .i64 a.kind) ∧ W.cell? ⟨w.heap.size, 1, none⟩ = some (.int .i64 a.node) ∧ W.cell? ⟨w.heap.size, 2, none⟩ = some (.string (bsV a.key)) ∧ W.cell? ⟨w.heap.size, 3, none⟩ = some (.slice aA a.value.length ac) ∧ W.cell? ⟨w.heap.size, 4, none⟩ = some (.int .i64 a.n) ∧ W.cell? ⟨w.heap.size, 5, none⟩ = some (.int .i64 a.at_) ∧ W.cell? ⟨w.heap.size, 6, none⟩ = some (.int .u8 a.by_) ∧ W.cell? ⟨w.heap.size, 7, none⟩ = some (.int .u8 a.draw) ∧ W.cell? ⟨w.heap.size, 8, none⟩ = some (.slice aB a.keep.length ae) ∧ W.cell? ⟨w.heap.size + 1, 0, none⟩ = some (.int .i64 b.kind) ∧ W.cell? ⟨w.heap.size + 1, 1, none⟩ = some (.int .i64 b.node) ∧ W.cell? ⟨w.heap.size + 1, 2, none⟩ = some (.string (bsV b.key)) ∧ W.cell? ⟨w.heap.size + 1, 3, none⟩ = some (.slice bA b.value.length bc) ∧ W.cell? ⟨w.heap.size + 1, 4, none⟩ = some (.int .i64 b.n) ∧ W.cell? ⟨w.heap.size + 1, 5, none⟩ = some (.int .i64 b.at_) ∧ W.cell? ⟨w.heap.size + 1, 6, none⟩ = some (.int .u8 b.by_) ∧ W.cell? ⟨w.heap.size + 1, 7, none⟩ = some (.int .u8 b.draw) ∧ W.cell? ⟨w.heap.size + 1, 8, none⟩ = some (.slice bB b.keep.length be) from fun W hW => by
    have e1 := (hW.block _ (Array.getElem?_eq_some_iff.1 HK1.out).1).trans HK1.out
    have e2 := (hW.block _ (Array.getElem?_eq_some_iff.1 HK2.out).1).trans HK2.out
    refine ⟨?_, ?_, ?_, ?_, ?_, ?_, ?_, ?_, ?_, ?_, ?_, ?_, ?_, ?_, ?_, ?_, ?_, ?_⟩ <;> first | (rw [World.cell?, e1]; rfl) | (rw [World.cell?, e2]; rfl))
  have z0 : Hid (Below wb.heap.size wb wb.drew) := (Drawn0.below ⟨1, rfl⟩)
  by_cases hk : a.kind = b.kind
  · have HLA := Lib.hid (show ∀ W, Below wb.heap.size wb W → Calls Tryd.prog 30 #[.agg #[.int .i64 a.kind, .int .i64 a.node, .string (bsV a.key), .slice aA a.value.length ac, .int .i64 a.n, .int .i64 a.at_, .int .u8 a.by_, .int .u8 a.draw, .slice aB a.keep.length ae]] W fun e w' => e = .returned (.string (bsV (lineS a))) ∧ Below wb.heap.size wb w' from fun W hW => (refLine_any a aA aB ac ae W (HDA.out.later (HBL.out.trans (hW.mono HBL.out.size)))).mono fun e w' ⟨he, hb⟩ => ⟨he, hW.trans (hb.mono hW.size)⟩)
    have HLB := Lib.hid (show ∀ W, Below wb.heap.size wb W → Calls Tryd.prog 30 #[.agg #[.int .i64 b.kind, .int .i64 b.node, .string (bsV b.key), .slice bA b.value.length bc, .int .i64 b.n, .int .i64 b.at_, .int .u8 b.by_, .int .u8 b.draw, .slice bB b.keep.length be]] W fun e w' => e = .returned (.string (bsV (lineS b))) ∧ Below wb.heap.size wb w' from fun W hW => (refLine_any b bA bB bc be W (HDB.out.later (HBL.out.trans (hW.mono HBL.out.size)))).mono fun e w' ⟨he, hb⟩ => ⟨he, hW.trans (hb.mono hW.size)⟩)
    have HF := Lib.hid (show sm = (lineS a == lineS b) by rw [HSM.out, sameS]; by_cases h : lineS a = lineS b <;> simp [h, hk])
    obtain ⟨q0, q1, q2, q3, q4, q5, q6, q7, q8, r0, r1, r2, r3, r4, r5, r6, r7, r8⟩ := HXX.out wb (Below.refl _ _)
    have hkb : (a.kind == b.kind) = true := by simpa using hk
    clear hk
    go_region_held3 (fun w' => w'.cell? ⟨w.heap.size, 0, none⟩ = some (.int .i64 a.kind) ∧ w'.cell? ⟨w.heap.size, 1, none⟩ = some (.int .i64 a.node) ∧ w'.cell? ⟨w.heap.size, 2, none⟩ = some (.string (bsV a.key)) ∧ w'.cell? ⟨w.heap.size, 3, none⟩ = some (.slice aA a.value.length ac) ∧ w'.cell? ⟨w.heap.size, 4, none⟩ = some (.int .i64 a.n) ∧ w'.cell? ⟨w.heap.size, 5, none⟩ = some (.int .i64 a.at_) ∧ w'.cell? ⟨w.heap.size, 6, none⟩ = some (.int .u8 a.by_) ∧ w'.cell? ⟨w.heap.size, 7, none⟩ = some (.int .u8 a.draw) ∧ w'.cell? ⟨w.heap.size, 8, none⟩ = some (.slice aB a.keep.length ae) ∧ w'.cell? ⟨w.heap.size + 1, 0, none⟩ = some (.int .i64 b.kind) ∧ w'.cell? ⟨w.heap.size + 1, 1, none⟩ = some (.int .i64 b.node) ∧ w'.cell? ⟨w.heap.size + 1, 2, none⟩ = some (.string (bsV b.key)) ∧ w'.cell? ⟨w.heap.size + 1, 3, none⟩ = some (.slice bA b.value.length bc) ∧ w'.cell? ⟨w.heap.size + 1, 4, none⟩ = some (.int .i64 b.n) ∧ w'.cell? ⟨w.heap.size + 1, 5, none⟩ = some (.int .i64 b.at_) ∧ w'.cell? ⟨w.heap.size + 1, 6, none⟩ = some (.int .u8 b.by_) ∧ w'.cell? ⟨w.heap.size + 1, 7, none⟩ = some (.int .u8 b.draw) ∧ w'.cell? ⟨w.heap.size + 1, 8, none⟩ = some (.slice bB b.keep.length be))
      (first | exact ⟨q0, q1, q2, q3, q4, q5, q6, q7, q8, r0, r1, r2, r3, r4, r5, r6, r7, r8⟩ | exact HXX.out _ z0.out | exact HXX.out _ z1.out | exact HXX.out _ z2.out)
      (first
      | (go_at_call 30; ((with_reducible refine (HLA.out _ ?_).mono ?_)); (case refine_1 => first | exact z2.out | exact z0.out); rintro e y1 ⟨rfl, hb⟩; have z1 := Lib.hid hb; clear hb)
      | (go_at_call 30; ((with_reducible refine (HLB.out _ ?_).mono ?_)); (case refine_1 => first | exact z1.out | exact z0.out); rintro e y2 ⟨rfl, hb⟩; have z2 := Lib.hid hb; clear hb))
    all_goals
      go_wp2_with fail
      go_ret
      exact ⟨by rw [HF.out]; rfl, HBL.out.trans ((by first | exact z2.out | exact z1.out : Below wb.heap.size wb _).mono HBL.out.size)⟩
  · have HF := Lib.hid (show sm = false by rw [HSM.out, sameS]; exact decide_eq_false (fun e => hk e.1))
    obtain ⟨q0, q1, q2, q3, q4, q5, q6, q7, q8, r0, r1, r2, r3, r4, r5, r6, r7, r8⟩ := HXX.out wb (Below.refl _ _)
    have hkb : (a.kind == b.kind) = false := by simpa using hk
    clear hk q1 q2 q3 q4 q5 q6 q7 q8 r1 r2 r3 r4 r5 r6 r7 r8
    go_quiet (fail)
    go_wp2_with fail
    go_ret
    exact ⟨by rw [HF.out]; rfl, HBL.out.trans ((Drawn0.below ⟨_, rfl⟩ : Below wb.heap.size wb _).mono HBL.out.size)⟩


set_option maxHeartbeats 4000000 in
set_option maxRecDepth 100000 in
theorem same_any (a b : Dd) (aA aB bA bB : Option Addr) (ac ae bc be : Nat) (w : World) (hA : DM w a aA aB ac ae) (hB : DM w b bA bB bc be) : Calls Tryd.prog 34 #[.agg (dC a aA aB ac ae), .agg (dC b bA bB bc be)] w fun e w' => e = .returned (.bool (sameS a b)) ∧ Below w.heap.size w w' := by
  have HDA := Lib.hid hA
  have HDB := Lib.hid hB
  clear hA hB
  have HK1 := Lib.hid (show ((w.alloc (.cells (dC a aA aB ac ae) 45)).alloc (.cells (dC b bA bB bc be) 45)).heap[w.heap.size]? = some (.cells (dC a aA aB ac ae) 45 (0, 0)) from (Below.heap_alloc _ _ _ (by simp)).trans (heap_alloc_new _ _))
  have HK2 := Lib.hid (show ((w.alloc (.cells (dC a aA aB ac ae) 45)).alloc (.cells (dC b bA bB bc be) 45)).heap[w.heap.size + 1]? = some (.cells (dC b bA bB bc be) 45 (0, 0)) from by
    have := heap_alloc_new (w.alloc (.cells (dC a aA aB ac ae) 45)) (.cells (dC b bA bB bc be) 45)
    simpa using this)
  have HBL := Lib.hid ((bel_alloc w (.cells (dC a aA aB ac ae) 45)).trans ((bel_alloc _ (.cells (dC b bA bB bc be) 45)).mono (by simp)))
  obtain ⟨sm, hsm⟩ : ∃ sm, sm = sameS a b := ⟨_, rfl⟩
  rw [← hsm]
  have HSM := Lib.hid hsm
  clear hsm
  unfold dC at HK1 HK2 HBL ⊢
  go_enter Tryd.func34, Tryd.ntmps34
  go_wp2_with fail
  generalize (w.alloc (.cells #[.int .i64 a.kind, .int .i64 a.node, .string (bsV a.key), .slice aA a.value.length ac, .int .i64 a.n, .int .i64 a.at_, .int .u8 a.by_, .int .u8 a.draw, .slice aB a.keep.length ae] 45)).alloc (.cells #[.int .i64 b.kind, .int .i64 b.node, .string (bsV b.key), .slice bA b.value.length bc, .int .i64 b.n, .int .i64 b.at_, .int .u8 b.by_, .int .u8 b.draw, .slice bB b.keep.length be] 45) = wb at *
  have HXX := Lib.hid (show ∀ W, Below wb.heap.size wb W → W.cell? ⟨w.heap.size, 0, none⟩ = some (.int .i64 a.kind) ∧ W.cell? ⟨w.heap.size, 1, none⟩ = some (.int .i64 a.node) ∧ W.cell? ⟨w.heap.size, 2, none⟩ = some (.string (bsV a.key)) ∧ W.cell? ⟨w.heap.size, 3, none⟩ = some (.slice aA a.value.length ac) ∧ W.cell? ⟨w.heap.size, 4, none⟩ = some (.int .i64 a.n) ∧ W.cell? ⟨w.heap.size, 5, none⟩ = some (.int .i64 a.at_) ∧ W.cell? ⟨w.heap.size, 6, none⟩ = some (.int .u8 a.by_) ∧ W.cell? ⟨w.heap.size, 7, none⟩ = some (.int .u8 a.draw) ∧ W.cell? ⟨w.heap.size, 8, none⟩ = some (.slice aB a.keep.length ae) ∧ W.cell? ⟨w.heap.size + 1, 0, none⟩ = some (.int .i64 b.kind) ∧ W.cell? ⟨w.heap.size + 1, 1, none⟩ = some (.int .i64 b.node) ∧ W.cell? ⟨w.heap.size + 1, 2, none⟩ = some (.string (bsV b.key)) ∧ W.cell? ⟨w.heap.size + 1, 3, none⟩ = some (.slice bA b.value.length bc) ∧ W.cell? ⟨w.heap.size + 1, 4, none⟩ = some (.int .i64 b.n) ∧ W.cell? ⟨w.heap.size + 1, 5, none⟩ = some (.int .i64 b.at_) ∧ W.cell? ⟨w.heap.size + 1, 6, none⟩ = some (.int .u8 b.by_) ∧ W.cell? ⟨w.heap.size + 1, 7, none⟩ = some (.int .u8 b.draw) ∧ W.cell? ⟨w.heap.size + 1, 8, none⟩ = some (.slice bB b.keep.length be) from fun W hW => by
    have e1 := (hW.block _ (Array.getElem?_eq_some_iff.1 HK1.out).1).trans HK1.out
    have e2 := (hW.block _ (Array.getElem?_eq_some_iff.1 HK2.out).1).trans HK2.out
    refine ⟨?_, ?_, ?_, ?_, ?_, ?_, ?_, ?_, ?_, ?_, ?_, ?_, ?_, ?_, ?_, ?_, ?_, ?_⟩ <;> first | (rw [World.cell?, e1]; rfl) | (rw [World.cell?, e2]; rfl))
  have z0 : Hid (Below wb.heap.size wb wb.drew) := (Drawn0.below ⟨1, rfl⟩)
  by_cases hk : a.kind = b.kind
  · have HLA := Lib.hid (show ∀ W, Below wb.heap.size wb W → Calls Tryd.prog 29 #[.agg #[.int .i64 a.kind, .int .i64 a.node, .string (bsV a.key), .slice aA a.value.length ac, .int .i64 a.n, .int .i64 a.at_, .int .u8 a.by_, .int .u8 a.draw, .slice aB a.keep.length ae]] W fun e w' => e = .returned (.string (bsV (lineS a))) ∧ Below wb.heap.size wb w' from fun W hW => (line_any a aA aB ac ae W (HDA.out.later (HBL.out.trans (hW.mono HBL.out.size)))).mono fun e w' ⟨he, hb⟩ => ⟨he, hW.trans (hb.mono hW.size)⟩)
    have HLB := Lib.hid (show ∀ W, Below wb.heap.size wb W → Calls Tryd.prog 29 #[.agg #[.int .i64 b.kind, .int .i64 b.node, .string (bsV b.key), .slice bA b.value.length bc, .int .i64 b.n, .int .i64 b.at_, .int .u8 b.by_, .int .u8 b.draw, .slice bB b.keep.length be]] W fun e w' => e = .returned (.string (bsV (lineS b))) ∧ Below wb.heap.size wb w' from fun W hW => (line_any b bA bB bc be W (HDB.out.later (HBL.out.trans (hW.mono HBL.out.size)))).mono fun e w' ⟨he, hb⟩ => ⟨he, hW.trans (hb.mono hW.size)⟩)
    have HF := Lib.hid (show sm = (lineS a == lineS b) by rw [HSM.out, sameS]; by_cases h : lineS a = lineS b <;> simp [h, hk])
    obtain ⟨q0, q1, q2, q3, q4, q5, q6, q7, q8, r0, r1, r2, r3, r4, r5, r6, r7, r8⟩ := HXX.out wb (Below.refl _ _)
    have hkb : (a.kind == b.kind) = true := by simpa using hk
    clear hk
    go_region_held3 (fun w' => w'.cell? ⟨w.heap.size, 0, none⟩ = some (.int .i64 a.kind) ∧ w'.cell? ⟨w.heap.size, 1, none⟩ = some (.int .i64 a.node) ∧ w'.cell? ⟨w.heap.size, 2, none⟩ = some (.string (bsV a.key)) ∧ w'.cell? ⟨w.heap.size, 3, none⟩ = some (.slice aA a.value.length ac) ∧ w'.cell? ⟨w.heap.size, 4, none⟩ = some (.int .i64 a.n) ∧ w'.cell? ⟨w.heap.size, 5, none⟩ = some (.int .i64 a.at_) ∧ w'.cell? ⟨w.heap.size, 6, none⟩ = some (.int .u8 a.by_) ∧ w'.cell? ⟨w.heap.size, 7, none⟩ = some (.int .u8 a.draw) ∧ w'.cell? ⟨w.heap.size, 8, none⟩ = some (.slice aB a.keep.length ae) ∧ w'.cell? ⟨w.heap.size + 1, 0, none⟩ = some (.int .i64 b.kind) ∧ w'.cell? ⟨w.heap.size + 1, 1, none⟩ = some (.int .i64 b.node) ∧ w'.cell? ⟨w.heap.size + 1, 2, none⟩ = some (.string (bsV b.key)) ∧ w'.cell? ⟨w.heap.size + 1, 3, none⟩ = some (.slice bA b.value.length bc) ∧ w'.cell? ⟨w.heap.size + 1, 4, none⟩ = some (.int .i64 b.n) ∧ w'.cell? ⟨w.heap.size + 1, 5, none⟩ = some (.int .i64 b.at_) ∧ w'.cell? ⟨w.heap.size + 1, 6, none⟩ = some (.int .u8 b.by_) ∧ w'.cell? ⟨w.heap.size + 1, 7, none⟩ = some (.int .u8 b.draw) ∧ w'.cell? ⟨w.heap.size + 1, 8, none⟩ = some (.slice bB b.keep.length be))
      (first | exact ⟨q0, q1, q2, q3, q4, q5, q6, q7, q8, r0, r1, r2, r3, r4, r5, r6, r7, r8⟩ | exact HXX.out _ z0.out | exact HXX.out _ z1.out | exact HXX.out _ z2.out)
      (first
      | (go_at_call 29; ((with_reducible refine (HLA.out _ ?_).mono ?_)); (case refine_1 => first | exact z2.out | exact z0.out); rintro e y1 ⟨rfl, hb⟩; have z1 := Lib.hid hb; clear hb)
      | (go_at_call 29; ((with_reducible refine (HLB.out _ ?_).mono ?_)); (case refine_1 => first | exact z1.out | exact z0.out); rintro e y2 ⟨rfl, hb⟩; have z2 := Lib.hid hb; clear hb))
    all_goals
      go_wp2_with fail
      go_ret
      exact ⟨by rw [HF.out]; rfl, HBL.out.trans ((by first | exact z2.out | exact z1.out : Below wb.heap.size wb _).mono HBL.out.size)⟩
  · have HF := Lib.hid (show sm = false by rw [HSM.out, sameS]; exact decide_eq_false (fun e => hk e.1))
    obtain ⟨q0, q1, q2, q3, q4, q5, q6, q7, q8, r0, r1, r2, r3, r4, r5, r6, r7, r8⟩ := HXX.out wb (Below.refl _ _)
    have hkb : (a.kind == b.kind) = false := by simpa using hk
    clear hk q1 q2 q3 q4 q5 q6 q7 q8 r1 r2 r3 r4 r5 r6 r7 r8
    go_quiet (fail)
    go_wp2_with fail
    go_ret
    exact ⟨by rw [HF.out]; rfl, HBL.out.trans ((Drawn0.below ⟨_, rfl⟩ : Below wb.heap.size wb _).mono HBL.out.size)⟩

end Go.Proofs.YtbckbpimabmacaaDoor
namespace Go.Proofs.YtbckbpimabmacaaDoor
set_option linter.unusedVariables false
set_option linter.unusedSimpArgs false
open Go.RowKit Go.Proofs.YtbckbpimabmacaaDoorW.PrintWords
attribute [local go_sem ↓] Go.wp_at_zero Go.wp_at_succ
attribute [local go_sem] bsV_get bsV_size bsV_toList

def sameAllS : List Dd → List Dd → Bool
  | [], [] => true
  | a :: l, b :: m => sameS a b && sameAllS l m
  | _, _ => false
theorem sameAll_len : ∀ {L M : List Dd}, sameAllS L M = true → L.length = M.length
  | [], [], _ => rfl
  | [], _ :: _, h => by cases h
  | _ :: _, [], h => by cases h
  | a :: l, b :: m, h => by
    rw [sameAllS, Bool.and_eq_true] at h
    rw [List.length_cons, List.length_cons, sameAll_len h.2]
theorem sameAll_no {L M : List Dd} (h : ¬ L.length = M.length) : sameAllS L M = false := by
  cases e : sameAllS L M with
  | false => rfl
  | true => exact absurd (sameAll_len e) h
set_option maxHeartbeats 4000000 in
set_option maxRecDepth 100000 in
theorem refSameAll_any (L M : List Dd) (A B : Option Addr) (c c' : Nat) (w : World) (hA : kD.C w A L.length L) (hB : kD.C w B M.length M) (hc : L.length ≤ c) (hc' : M.length ≤ c') (hL : ∀ d ∈ L, okS d) (hM : ∀ d ∈ M, okS d) (hn : L.length ≤ 100000000) (hm : M.length ≤ 100000000) :
    Calls Tryd.prog 22 #[.slice A L.length c, .slice B M.length c'] w fun e w' => e = .returned (.bool (sameAllS L M)) ∧ Below w.heap.size w w' := by
  have HA := Lib.hid hA
  have HB := Lib.hid hB
  have HL := Lib.hid hL
  have HM := Lib.hid hM
  clear hA hB hL hM
  by_cases hlm : L.length = M.length
  · have hlb : ((L.length : Int) != (M.length : Int)) = false := by simp [hlm]
    have HLM := Lib.hid hlm
    have hlm2 : M.length ≤ L.length := by omega
    have hlm3 : L.length ≤ M.length := by omega
    clear hlm
    go_enter Tryd.func22, Tryd.ntmps22
    go_wp2_with fail
    go_loopw [5] (fun iv wr => ∃ i : Nat, i ≤ L.length ∧ iv = .int .i64 i ∧ Hid (sameAllS L M = sameAllS (L.drop i) (M.drop i) ∧ Below w.heap.size w wr)) (fun iv _ => L.length - (intOf iv).toNat)
    case atStart => exact ⟨0, Nat.zero_le _, rfl, by simp, Below.refl _ w⟩
    case round =>
      obtain ⟨i, hi, rfl, HI⟩ := hrel
      by_cases hlt : i < L.length
      · have i1 : (0 : Int) ≤ (i : Int) := by omega
        have i2 : (i : Int) < (L.length : Int) := by omega
        have i3 : (i : Int) < (M.length : Int) := by omega
        have hltm : i < M.length := by omega
        have i4 : i < c := by omega
        have i5 : i < c' := by omega
        have hwi : IntKind.i64.wrap ((i : Int) + 1) = (i : Int) + 1 := by rw [IntKind.wrap_i64]; omega
        obtain ⟨a, ha⟩ : ∃ d, L[i] = d := ⟨_, rfl⟩
        obtain ⟨b, hb⟩ : ∃ d, M[i] = d := ⟨_, rfl⟩
        have hDR : sameAllS L M = (sameS a b && sameAllS (L.drop (i + 1)) (M.drop (i + 1))) := by rw [HI.out.1, List.drop_eq_getElem_cons hlt, List.drop_eq_getElem_cons hltm, ha, hb, sameAllS]
        have HDR := Lib.hid hDR
        obtain ⟨ad, aA, ac, aB, ae, rfl, hDA, q0, q1, q2, q3, q4, q5, q6, q7, q8⟩ := deed_at (Kd.C_below HA.out HI.out.2) hlt ha (HL.out a (by rw [← ha]; exact List.getElem_mem hlt))
        obtain ⟨bd, bA, bc, bB, be, rfl, hDB, r0, r1, r2, r3, r4, r5, r6, r7, r8⟩ := deed_at (Kd.C_below HB.out HI.out.2) hltm hb (HM.out b (by rw [← hb]; exact List.getElem_mem hltm))
        have HDA := Lib.hid hDA
        have HDB := Lib.hid hDB
        have HBW := Lib.hid HI.out.2
        clear hDR hDA hDB ha hb HI
        have HXX := Lib.hid (show ∀ W, Below wr.heap.size wr W → W.cell? (ad.add (i * 9)) = some (.int .i64 a.kind) ∧ W.cell? ⟨(ad.add (i * 9)).block, (ad.add (i * 9)).off + 1, none⟩ = some (.int .i64 a.node) ∧ W.cell? ⟨(ad.add (i * 9)).block, (ad.add (i * 9)).off + 2, none⟩ = some (.string (bsV a.key)) ∧ W.cell? ⟨(ad.add (i * 9)).block, (ad.add (i * 9)).off + 3, none⟩ = some (.slice aA a.value.length ac) ∧ W.cell? ⟨(ad.add (i * 9)).block, (ad.add (i * 9)).off + 4, none⟩ = some (.int .i64 a.n) ∧ W.cell? ⟨(ad.add (i * 9)).block, (ad.add (i * 9)).off + 5, none⟩ = some (.int .i64 a.at_) ∧ W.cell? ⟨(ad.add (i * 9)).block, (ad.add (i * 9)).off + 6, none⟩ = some (.int .u8 a.by_) ∧ W.cell? ⟨(ad.add (i * 9)).block, (ad.add (i * 9)).off + 7, none⟩ = some (.int .u8 a.draw) ∧ W.cell? ⟨(ad.add (i * 9)).block, (ad.add (i * 9)).off + 8, none⟩ = some (.slice aB a.keep.length ae) ∧ W.cell? (bd.add (i * 9)) = some (.int .i64 b.kind) ∧ W.cell? ⟨(bd.add (i * 9)).block, (bd.add (i * 9)).off + 1, none⟩ = some (.int .i64 b.node) ∧ W.cell? ⟨(bd.add (i * 9)).block, (bd.add (i * 9)).off + 2, none⟩ = some (.string (bsV b.key)) ∧ W.cell? ⟨(bd.add (i * 9)).block, (bd.add (i * 9)).off + 3, none⟩ = some (.slice bA b.value.length bc) ∧ W.cell? ⟨(bd.add (i * 9)).block, (bd.add (i * 9)).off + 4, none⟩ = some (.int .i64 b.n) ∧ W.cell? ⟨(bd.add (i * 9)).block, (bd.add (i * 9)).off + 5, none⟩ = some (.int .i64 b.at_) ∧ W.cell? ⟨(bd.add (i * 9)).block, (bd.add (i * 9)).off + 6, none⟩ = some (.int .u8 b.by_) ∧ W.cell? ⟨(bd.add (i * 9)).block, (bd.add (i * 9)).off + 7, none⟩ = some (.int .u8 b.draw) ∧ W.cell? ⟨(bd.add (i * 9)).block, (bd.add (i * 9)).off + 8, none⟩ = some (.slice bB b.keep.length be) from fun W hW => ⟨(hW.cell (World.block_lt_of_cell? wr _ q0)).trans q0, (hW.cell (World.block_lt_of_cell? wr _ q1)).trans q1, (hW.cell (World.block_lt_of_cell? wr _ q2)).trans q2, (hW.cell (World.block_lt_of_cell? wr _ q3)).trans q3, (hW.cell (World.block_lt_of_cell? wr _ q4)).trans q4, (hW.cell (World.block_lt_of_cell? wr _ q5)).trans q5, (hW.cell (World.block_lt_of_cell? wr _ q6)).trans q6, (hW.cell (World.block_lt_of_cell? wr _ q7)).trans q7, (hW.cell (World.block_lt_of_cell? wr _ q8)).trans q8, (hW.cell (World.block_lt_of_cell? wr _ r0)).trans r0, (hW.cell (World.block_lt_of_cell? wr _ r1)).trans r1, (hW.cell (World.block_lt_of_cell? wr _ r2)).trans r2, (hW.cell (World.block_lt_of_cell? wr _ r3)).trans r3, (hW.cell (World.block_lt_of_cell? wr _ r4)).trans r4, (hW.cell (World.block_lt_of_cell? wr _ r5)).trans r5, (hW.cell (World.block_lt_of_cell? wr _ r6)).trans r6, (hW.cell (World.block_lt_of_cell? wr _ r7)).trans r7, (hW.cell (World.block_lt_of_cell? wr _ r8)).trans r8⟩)
        have z0 : Hid (Below wr.heap.size wr wr.drew) := (Drawn0.below ⟨1, rfl⟩)
        obtain ⟨sb, hsb⟩ : ∃ sb, sb = sameS a b := ⟨_, rfl⟩
        have HSB := Lib.hid hsb
        have HCS := Lib.hid (show ∀ W, Below wr.heap.size wr W → Calls Tryd.prog 26 #[.agg #[.int .i64 a.kind, .int .i64 a.node, .string (bsV a.key), .slice aA a.value.length ac, .int .i64 a.n, .int .i64 a.at_, .int .u8 a.by_, .int .u8 a.draw, .slice aB a.keep.length ae], .agg #[.int .i64 b.kind, .int .i64 b.node, .string (bsV b.key), .slice bA b.value.length bc, .int .i64 b.n, .int .i64 b.at_, .int .u8 b.by_, .int .u8 b.draw, .slice bB b.keep.length be]] W fun e w' => e = .returned (.bool sb) ∧ Below wr.heap.size wr w' from fun W hW => by
          rw [hsb]
          exact (refSame_any a b aA aB bA bB ac ae bc be W (HDA.out.later hW) (HDB.out.later hW)).mono fun e w' ⟨he, hb⟩ => ⟨he, hW.trans (hb.mono hW.size)⟩)
        clear hsb
        cases sb
        all_goals
          go_wp2_with fail
          go_region_held3 (fun w' => w'.cell? (ad.add (i * 9)) = some (.int .i64 a.kind) ∧ w'.cell? ⟨(ad.add (i * 9)).block, (ad.add (i * 9)).off + 1, none⟩ = some (.int .i64 a.node) ∧ w'.cell? ⟨(ad.add (i * 9)).block, (ad.add (i * 9)).off + 2, none⟩ = some (.string (bsV a.key)) ∧ w'.cell? ⟨(ad.add (i * 9)).block, (ad.add (i * 9)).off + 3, none⟩ = some (.slice aA a.value.length ac) ∧ w'.cell? ⟨(ad.add (i * 9)).block, (ad.add (i * 9)).off + 4, none⟩ = some (.int .i64 a.n) ∧ w'.cell? ⟨(ad.add (i * 9)).block, (ad.add (i * 9)).off + 5, none⟩ = some (.int .i64 a.at_) ∧ w'.cell? ⟨(ad.add (i * 9)).block, (ad.add (i * 9)).off + 6, none⟩ = some (.int .u8 a.by_) ∧ w'.cell? ⟨(ad.add (i * 9)).block, (ad.add (i * 9)).off + 7, none⟩ = some (.int .u8 a.draw) ∧ w'.cell? ⟨(ad.add (i * 9)).block, (ad.add (i * 9)).off + 8, none⟩ = some (.slice aB a.keep.length ae) ∧ w'.cell? (bd.add (i * 9)) = some (.int .i64 b.kind) ∧ w'.cell? ⟨(bd.add (i * 9)).block, (bd.add (i * 9)).off + 1, none⟩ = some (.int .i64 b.node) ∧ w'.cell? ⟨(bd.add (i * 9)).block, (bd.add (i * 9)).off + 2, none⟩ = some (.string (bsV b.key)) ∧ w'.cell? ⟨(bd.add (i * 9)).block, (bd.add (i * 9)).off + 3, none⟩ = some (.slice bA b.value.length bc) ∧ w'.cell? ⟨(bd.add (i * 9)).block, (bd.add (i * 9)).off + 4, none⟩ = some (.int .i64 b.n) ∧ w'.cell? ⟨(bd.add (i * 9)).block, (bd.add (i * 9)).off + 5, none⟩ = some (.int .i64 b.at_) ∧ w'.cell? ⟨(bd.add (i * 9)).block, (bd.add (i * 9)).off + 6, none⟩ = some (.int .u8 b.by_) ∧ w'.cell? ⟨(bd.add (i * 9)).block, (bd.add (i * 9)).off + 7, none⟩ = some (.int .u8 b.draw) ∧ w'.cell? ⟨(bd.add (i * 9)).block, (bd.add (i * 9)).off + 8, none⟩ = some (.slice bB b.keep.length be))
            (first | exact ⟨q0, q1, q2, q3, q4, q5, q6, q7, q8, r0, r1, r2, r3, r4, r5, r6, r7, r8⟩ | exact HXX.out _ z0.out | exact HXX.out _ z1.out)
            ((go_at_call 26; ((with_reducible refine (HCS.out _ ?_).mono ?_)); (case refine_1 => first | exact z0.out | exact Below.refl _ _); rintro e y1 ⟨rfl, hb⟩; have z1 := Lib.hid hb; clear hb))
          all_goals
            go_wp2_with fail
            first
            | (go_roundw
               case rel => exact ⟨i + 1, by omega, by go_num, by rw [HDR.out, ← HSB.out]; rfl, HBW.out.trans (z1.out.mono HBW.out.size)⟩
               case measure => simp [intOf]; omega)
            | (go_ret
               exact ⟨by rw [HDR.out, ← HSB.out]; rfl, HBW.out.trans (z1.out.mono HBW.out.size)⟩)
      · have hi3 : ¬ (i : Int) < (L.length : Int) := by omega
        have HT := Lib.hid (show sameAllS L M = true by rw [HI.out.1, List.drop_of_length_le (by omega), List.drop_of_length_le (by omega)]; rfl)
        go_wp2_with fail
        go_ret
        exact ⟨by rw [HT.out]; rfl, HI.out.2⟩
  · have hlb : ((L.length : Int) != (M.length : Int)) = true := by simp; omega
    have HF := Lib.hid (sameAll_no hlm)
    clear hlm
    go_enter Tryd.func22, Tryd.ntmps22
    go_wp2_with fail
    go_ret
    exact ⟨by rw [HF.out]; rfl, Below.refl _ w⟩
end Go.Proofs.YtbckbpimabmacaaDoor
namespace Go.Proofs.YtbckbpimabmacaaDoor
set_option linter.unusedVariables false
set_option linter.unusedSimpArgs false
open Go.RowKit Go.Proofs.YtbckbpimabmacaaDoorW.PrintWords

def contS : Bs → Dd → List Bs → Option Dd
  | [], d, ws => if ws = [] then some d else none
  | p :: ps, d, ws =>
    if p = 108 then (numsS ws).bind fun l => contS ps { d with keep := d.keep ++ l } []
    else match ws with
    | [] => none
    | a :: r =>
      if p = 110 then (numS a).bind fun x => contS ps { d with node := x } r
      else if p = 107 then (unqS a).bind fun x => contS ps { d with key := x } r
      else if p = 118 then (unqS a).bind fun x => contS ps { d with value := x } r
      else if p = 105 then (numS a).bind fun x => contS ps { d with n := x } r
      else if p = 97 then (numS a).bind fun x => contS ps { d with at_ := x } r
      else if p = 98 then ((numS a).bind small).bind fun x => contS ps { d with by_ := x } r
      else ((numS a).bind small).bind fun x => contS ps { d with draw := x } r
theorem read_cont (k : Int) (ws : List Bs) : readD k ws = contS (partsS k) { zD with kind := k } ws := by
  rcases kind_cases k with rfl | rfl | rfl | rfl | rfl | rfl | rfl | rfl | rfl | rfl | rfl | ⟨n1, n2, n3, n4, n5, n6, n7, n8, n9, nA, nB⟩
  · rcases ws with _ | ⟨a, _ | ⟨b, _ | ⟨c, _ | ⟨e, r⟩⟩⟩⟩ <;> simp [readD, partsS, contS, zD]
  · rcases ws with _ | ⟨a, _ | ⟨b, _ | ⟨c, _ | ⟨e, r⟩⟩⟩⟩ <;> simp [readD, partsS, contS, zD]
  · rcases ws with _ | ⟨a, _ | ⟨b, _ | ⟨c, _ | ⟨e, r⟩⟩⟩⟩ <;> simp [readD, partsS, contS, zD]
  · rcases ws with _ | ⟨a, _ | ⟨b, _ | ⟨c, _ | ⟨e, r⟩⟩⟩⟩ <;> simp [readD, partsS, contS, zD]
  · rcases ws with _ | ⟨a, _ | ⟨b, _ | ⟨c, _ | ⟨e, r⟩⟩⟩⟩ <;> simp [readD, partsS, contS, zD]
  · rcases ws with _ | ⟨a, _ | ⟨b, _ | ⟨c, _ | ⟨e, r⟩⟩⟩⟩ <;> simp [readD, partsS, contS, zD]
  · rcases ws with _ | ⟨a, _ | ⟨b, _ | ⟨c, _ | ⟨e, r⟩⟩⟩⟩ <;> simp [readD, partsS, contS, zD]
  · rcases ws with _ | ⟨a, _ | ⟨b, _ | ⟨c, _ | ⟨e, r⟩⟩⟩⟩ <;> simp [readD, partsS, contS, zD]
  · rcases ws with _ | ⟨a, _ | ⟨b, _ | ⟨c, _ | ⟨e, r⟩⟩⟩⟩ <;> simp [readD, partsS, contS, zD]
  · rcases ws with _ | ⟨a, _ | ⟨b, _ | ⟨c, _ | ⟨e, r⟩⟩⟩⟩ <;> simp [readD, partsS, contS, zD]
  · rcases ws with _ | ⟨a, r⟩ <;> simp [readD, partsS, contS, zD]
  · rcases ws with _ | ⟨a, _ | ⟨b, r⟩⟩ <;> simp [readD, partsS, contS, zD, n1, n2, n3, n4, n5, n6, n7, n8, n9, nA, nB]

/-- What is known while a line is read. -/
def ST (k : Int) (ws0 : List Bs) (ps : Bs) (d : Dd) (ws : List Bs) (ok : Bool) : Prop := (ok = true → readD k ws0 = contS ps d ws) ∧ (ok = false → readD k ws0 = none)
theorem st_start (k : Int) (ws : List Bs) : ST k ws (partsS k) { zD with kind := k } ws true := ⟨fun _ => read_cont k ws, fun h => by cases h⟩
theorem st_num {k : Int} {ws0 ws : List Bs} {ch : UInt8} {ps : Bs} {d : Dd} {ok nok : Bool} {x : Int} (upd : Dd → Int → Dd) (h : ST k ws0 (ch :: ps) d ws ok) (h0 : contS (ch :: ps) d [] = none) (h1 : ∀ a r, contS (ch :: ps) d (a :: r) = (numS a).bind fun x => contS ps (upd d x) r)
    (hn : NumIs (ws.headD []) x nok) : ST k ws0 ps (upd d x) ws.tail (ok && !ws.isEmpty && nok) := by
  cases ok with
  | false => exact ⟨fun e => by simp at e, fun _ => h.2 rfl⟩
  | true =>
    have h2 := h.1 rfl
    cases ws with
    | nil => exact ⟨fun e => by simp at e, fun _ => h2.trans h0⟩
    | cons a r =>
      rw [h1] at h2
      unfold NumIs at hn
      rw [List.headD_cons] at hn
      rw [hn] at h2
      cases nok with
      | false => exact ⟨fun e => by simp at e, fun _ => h2⟩
      | true => exact ⟨fun _ => h2, fun e => by simp at e⟩
theorem st_small {k : Int} {ws0 ws : List Bs} {ch : UInt8} {ps : Bs} {d : Dd} {ok nok : Bool} {x v : Int} (upd : Dd → Int → Dd) (h : ST k ws0 (ch :: ps) d ws ok) (h0 : contS (ch :: ps) d [] = none) (h1 : ∀ a r, contS (ch :: ps) d (a :: r) = ((numS a).bind small).bind fun x => contS ps (upd d x) r)
    (hn : NumIs (ws.headD []) x nok) (hv : 0 ≤ x → x ≤ 255 → v = x) : ST k ws0 ps (upd d v) ws.tail (ok && !ws.isEmpty && nok && decide (0 ≤ x) && decide (x ≤ 255)) := by
  cases ok with
  | false => exact ⟨fun e => by simp at e, fun _ => h.2 rfl⟩
  | true =>
    have h2 := h.1 rfl
    cases ws with
    | nil => exact ⟨fun e => by simp at e, fun _ => h2.trans h0⟩
    | cons a r =>
      rw [h1] at h2
      unfold NumIs at hn
      rw [List.headD_cons] at hn
      rw [hn] at h2
      cases nok with
      | false => exact ⟨fun e => by simp at e, fun _ => h2⟩
      | true =>
        by_cases hx : 0 ≤ x ∧ x ≤ 255
        · rw [hv hx.1 hx.2]
          rw [if_pos rfl, Option.bind_some, small, if_pos hx, Option.bind_some] at h2
          exact ⟨fun _ => h2, fun e => by simp [hx] at e⟩
        · rw [if_pos rfl, Option.bind_some, small, if_neg hx, Option.bind_none] at h2
          refine ⟨fun e => ?_, fun _ => h2⟩
          simp at e
          exact absurd e hx
theorem st_bytes {k : Int} {ws0 ws : List Bs} {ch : UInt8} {ps : Bs} {d : Dd} {ok nok : Bool} {b : Bs} (upd : Dd → Bs → Dd) (h : ST k ws0 (ch :: ps) d ws ok) (h0 : contS (ch :: ps) d [] = none) (h1 : ∀ a r, contS (ch :: ps) d (a :: r) = (unqS a).bind fun x => contS ps (upd d x) r)
    (hn : UnqIs (ws.headD []) b nok) : ST k ws0 ps (upd d b) ws.tail (ok && !ws.isEmpty && nok) := by
  cases ok with
  | false => exact ⟨fun e => by simp at e, fun _ => h.2 rfl⟩
  | true =>
    have h2 := h.1 rfl
    cases ws with
    | nil => exact ⟨fun e => by simp at e, fun _ => h2.trans h0⟩
    | cons a r =>
      rw [h1] at h2
      rw [List.headD_cons] at hn
      rcases hn with ⟨e1, e2⟩ | ⟨e1, e2⟩
      · rw [e2] at h2
        subst e1
        exact ⟨fun _ => h2, fun e => by simp at e⟩
      · rw [e2] at h2
        subst e1
        exact ⟨fun e => by simp at e, fun _ => h2⟩
/-- While the kept are read. -/
def SK (k : Int) (ws0 : List Bs) (ps : Bs) (d : Dd) (ws : List Bs) (ok : Bool) : Prop := (ok = true → readD k ws0 = (numsS ws).bind fun l => contS ps { d with keep := d.keep ++ l } []) ∧ (ok = false → readD k ws0 = none)
theorem sk_start {k : Int} {ws0 ws : List Bs} {ps : Bs} {d : Dd} {ok : Bool} (h : ST k ws0 (108 :: ps) d ws ok) : SK k ws0 ps d ws ok := ⟨fun e => (h.1 e).trans (if_pos rfl), h.2⟩
theorem sk_step {k : Int} {ws0 : List Bs} {a : Bs} {r : List Bs} {ps : Bs} {d : Dd} {nok : Bool} {x : Int} (h : SK k ws0 ps d (a :: r) true) (hn : NumIs a x nok) : SK k ws0 ps { d with keep := d.keep ++ [x] } r nok := by
  have h2 := h.1 rfl
  unfold NumIs at hn
  rw [numsS, hn] at h2
  cases nok with
  | false => exact ⟨fun e => by simp at e, fun _ => h2⟩
  | true =>
    refine ⟨fun _ => ?_, fun e => by simp at e⟩
    rw [h2, if_pos rfl, Option.bind_some, Option.bind_assoc]
    congr 1
    funext l
    simp
theorem sk_end {k : Int} {ws0 ws : List Bs} {ps : Bs} {d : Dd} {ok : Bool} (h : SK k ws0 ps d ws ok) (he : ws = [] ∨ ok = false) : ST k ws0 ps d ws ok := by
  refine ⟨fun e => ?_, h.2⟩
  have hw : ws = [] := he.resolve_right (by rw [e]; simp)
  subst hw
  rw [h.1 e]
  simp [numsS]
theorem st_end {k : Int} {ws0 ws : List Bs} {d : Dd} {ok : Bool} (h : ST k ws0 [] d ws ok) : (ok = true ∧ ws = [] → readD k ws0 = some d) ∧ (¬ (ok = true ∧ ws = []) → readD k ws0 = none) := by
  refine ⟨fun ⟨e, hw⟩ => by rw [h.1 e, contS, if_pos hw], fun hn => ?_⟩
  cases ok with
  | false => exact h.2 rfl
  | true => rw [h.1 rfl, contS, if_neg (fun e => hn ⟨rfl, e⟩)]

/-! ### strings.Split -/
theorem idx_spec (c : UInt8) : ∀ s : Bs, (Lib.index s [c] = -1 ∧ c ∉ s) ∨ ∃ i : Nat, Lib.index s [c] = i ∧ i < s.length ∧ s = s.take i ++ c :: s.drop (i + 1) ∧ c ∉ s.take i
  | [] => .inl ⟨rfl, by simp⟩
  | x :: r => by
    by_cases hx : x = c
    · subst hx
      exact .inr ⟨0, by simp [Lib.index], by simp, by simp, by simp⟩
    · have hp : ([c] : Bs).isPrefixOf (x :: r) = false := by simp [List.isPrefixOf]; exact fun e => hx e.symm
      rcases idx_spec c r with ⟨h1, h2⟩ | ⟨i, h1, h2, h3, h4⟩
      · refine .inl ⟨by rw [Lib.index, hp, h1]; rfl, fun h => ?_⟩
        rcases List.mem_cons.1 h with e | e
        · exact hx e.symm
        · exact h2 e
      · refine .inr ⟨i + 1, ?_, by simp; omega, ?_, ?_⟩
        · rw [Lib.index, hp, h1, if_neg (by simp), if_neg (by intro e; have := beq_iff_eq.1 e; omega)]
          omega
        · rw [List.take_succ_cons, List.drop_succ_cons, List.cons_append, ← h3]
        · rw [List.take_succ_cons]
          intro h
          rcases List.mem_cons.1 h with e | e
          · exact hx e.symm
          · exact h4 e
theorem splitK_S (c : UInt8) : ∀ (n : Nat) (s : Bs), s.length ≤ n → Lib.splitK [c] 0 (Lib.count s [c]) s = splitS c s
  | n, s, hn => by
    rcases idx_spec c s with ⟨h1, h2⟩ | ⟨i, h1, h2, h3, h4⟩
    · rw [Lib.count_miss h1, split_none h2]
      rfl
    · cases n with
      | zero => omega
      | succ n =>
        have ih := splitK_S c n (s.drop (i + 1)) (by rw [List.length_drop]; omega)
        rw [Lib.count_hit (by simp) h1, Nat.add_comm, Lib.splitK, if_neg (by simp; omega), h1]
        show s.take (i + 0) :: Lib.splitK [c] 0 (Lib.count (s.drop (i + 1)) [c]) (s.drop (i + 1)) = _
        rw [ih]
        conv => rhs; rw [h3]
        rw [split_app, split_none h4]
        rfl
theorem splitB_S (c : UInt8) (s : Bs) : Lib.splitB (bsV [c]) 0 (Lib.countB (bsV s) (bsV [c])) (bsV s) = (splitS c s).map bsV := by
  have h := Lib.splitB_data (bsV [c]) 0 (Lib.countB (bsV s) (bsV [c])) (bsV s)
  rw [bsV_list, bsV_list] at h
  have hc : Lib.countB (bsV s) (bsV [c]) = Lib.count s [c] := by show Lib.count (bsV s).data.toList (bsV [c]).data.toList = _; rw [bsV_list, bsV_list]
  rw [hc, splitK_S c _ s (Nat.le_refl _)] at h
  rw [hc, ← h, List.map_map]
  have : bsV ∘ (fun x : ByteArray => x.data.toList) = id := funext fun x => by cases x; simp [bsV]
  rw [this, List.map_id]
/-- The library's one variable that Split reads. -/
def MX (w : World) : Prop := ∃ m, w.cell? ⟨1, 0, none⟩ = some (.int .i64 m)
theorem MX.later {w w' : World} (h : MX w) (hb : Below w.heap.size w w') : MX w' := by
  obtain ⟨m, hm⟩ := h
  exact ⟨m, (hb.cell (World.block_lt_of_cell? w _ hm)).trans hm⟩
theorem info_str9 : (Tryd.prog.info? (lyS_ren.t 9)).map (fun i => (i.zero, i.size, i.bytes)) = some (some (.string ByteArray.empty), 1, 16) := by kernel_rfl
theorem split_any (c : UInt8) (s : Bs) (w : World) (hs : s.length < 4294967281) (hm : MX w) : Calls Tryd.prog 43 #[.string (bsV s), .string (bsV [c])] w fun e w' => e = .returned (.slice (some ⟨w.heap.size, 0, none⟩) (splitS c s).length (splitS c s).length) ∧ w' = w.alloc (.cells (((splitS c s).map bsV).map Value.string).toArray 9) := by
  obtain ⟨m, hm⟩ := hm
  have h := Any.strings_Split lyS info_str9 (bsV s) (bsV [c]) m w (by rw [bsV_size]; exact hs) hm (by rw [bsV_size]; simp)
  have hl := Lib.splitB_all (bsV [c]) (by rw [bsV_size]; simp) 0 _ (bsV s) rfl
  rw [splitB_S, List.length_map] at hl
  rw [splitB_S, ← hl] at h
  exact h
end Go.Proofs.YtbckbpimabmacaaDoor
