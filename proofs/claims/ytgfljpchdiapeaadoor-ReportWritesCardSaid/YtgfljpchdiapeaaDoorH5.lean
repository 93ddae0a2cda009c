/- How many events of each kind there are: the document's Sum. ReportWrites: any events as a text, line by line, and how many of each kind there are. -/
import Derived.Test.YtgfljpchdiapeaaDoorH2
import Derived.Test.YtgfljpchdiapeaaDoorGB
import Derived.Test.YtgfljpchdiapeaaDoorH4
namespace Go.Proofs.YtgfljpchdiapeaaDoor
set_option linter.unusedVariables false
set_option linter.unusedSimpArgs false
open Go.RowKit Go.Proofs.YtgfljpchdiapeaaDoorW.PrintWords
attribute [local go_sem ↓] Go.wp_at_zero Go.wp_at_succ
attribute [local go_sem] bsV_get bsV_size bsV_toList
def pW : List Bs := [[104, 105, 116, 32], [44, 32, 109, 105, 115, 115, 32], [44, 32, 119, 114, 105, 116, 101, 32], [44, 32, 100, 111, 110, 101, 32]]
def preS (L : List Ev) : Nat → Bs
  | 0 => []
  | k + 1 => (preS L k ++ pW.getD k []) ++ decS (cnt ((k : Int) + 1) L)
theorem preS_4 (L : List Ev) : preS L 4 = sumS L := by
  simp [preS, pW, sumS, sumL, strE, Lib.join, List.intercalate, List.intersperse]
theorem preS_len (L : List Ev) (hn : L.length ≤ 100000000) : ∀ k, k ≤ 4 → (preS L k).length ≤ 40 * k
  | 0, _ => Nat.le_refl _
  | k + 1, hk => by
    have h := preS_len L hn k (by omega)
    have hc := cnt_le ((k : Int) + 1) L
    have hd := decS_len (n := (cnt ((k : Int) + 1) L : Int)) (by omega) (by omega)
    have hp : (pW.getD k []).length ≤ 10 := by
      have : k = 0 ∨ k = 1 ∨ k = 2 ∨ k = 3 := by omega
      rcases this with rfl | rfl | rfl | rfl <;> decide
    rw [preS, List.length_append, List.length_append]
    omega
def wdO : Obj := .cells #[.string ⟨#[104, 105, 116, 32]⟩, .string ⟨#[44, 32, 109, 105, 115, 115, 32]⟩, .string ⟨#[44, 32, 119, 114, 105, 116, 101, 32]⟩, .string ⟨#[44, 32, 100, 111, 110, 101, 32]⟩] 9 (0, 0)
set_option maxHeartbeats 8000000 in
set_option maxRecDepth 100000 in
theorem refSum_any (L : List Ev) (A : Option Addr) (c : Nat) (w : World) (hC : kV.C w A L.length L) (hc : L.length ≤ c) (hk : ∀ d ∈ L, okV d) (hn : L.length ≤ 1000000) : Calls Tryd.prog 14 #[.slice A L.length c] w (QS w (sumS L)) := by
  have HC := Lib.hid hC
  have HK := Lib.hid hk
  have HN := Lib.hid hn
  clear hC hk
  have HX0 := Lib.hid (heap_alloc_new w (.cells #[.string ⟨#[104, 105, 116, 32]⟩, .string ⟨#[44, 32, 109, 105, 115, 115, 32]⟩, .string ⟨#[44, 32, 119, 114, 105, 116, 101, 32]⟩, .string ⟨#[44, 32, 100, 111, 110, 101, 32]⟩] 9))
  have HB0 := Lib.hid (bel_alloc w (.cells #[.string ⟨#[104, 105, 116, 32]⟩, .string ⟨#[44, 32, 109, 105, 115, 115, 32]⟩, .string ⟨#[44, 32, 119, 114, 105, 116, 101, 32]⟩, .string ⟨#[44, 32, 100, 111, 110, 101, 32]⟩] 9))
  go_enter Tryd.func14, Tryd.ntmps14
  go_upto_region 2 with (fail)
  generalize w.alloc (.cells #[.string ⟨#[104, 105, 116, 32]⟩, .string ⟨#[44, 32, 109, 105, 115, 115, 32]⟩, .string ⟨#[44, 32, 119, 114, 105, 116, 101, 32]⟩, .string ⟨#[44, 32, 100, 111, 110, 101, 32]⟩] 9) = w1 at *
  go_wp2_with fail
  go_loopw [4, 5] (fun sv kv wr => ∃ (k : Nat) (acc : Bs), k ≤ 4 ∧ kv = .int .i64 ((k : Int) + 1) ∧ sv = .string (bsV acc) ∧ Hid (acc = preS L k ∧ Below w1.heap.size w1 wr)) (fun _ kv _ => 5 - (intOf kv).toNat)
  case atStart => exact ⟨0, [], Nat.zero_le _, rfl, rfl, rfl, Below.refl _ _⟩
  case round =>
    obtain ⟨k, acc, hk4, rfl, rfl, HI⟩ := hrel
    obtain ⟨wa, rfl⟩ : ∃ wa : World, wa = wr := ⟨_, rfl⟩
    have HBK := Lib.hid HI.out.2
    have HAC := Lib.hid HI.out.1
    clear HI
    by_cases hk3 : k < 4
    · have d1 : (k : Int) + 1 ≤ 4 := by omega
      have hwk : IntKind.i64.wrap ((k : Int) + 1 + 1) = (k : Int) + 1 + 1 := by rw [IntKind.wrap_i64]; omega
      have hwk2 : IntKind.i64.wrap ((k : Int) + 1 - 1) = (k : Int) := by rw [IntKind.wrap_i64]; omega
      have hwk3 : IntKind.i64.wrap (k : Int) = (k : Int) := by rw [IntKind.wrap_i64]; omega
      have kk1 : (0 : Int) ≤ (k : Int) := by omega
      have kk2 : (k : Int) < 4 := by omega
      go_wp2_with fail
      go_loopw [6, 7] (fun nv iv wr => ∃ (i n : Nat), i ≤ L.length ∧ iv = .int .i64 i ∧ nv = .int .i64 n ∧ Hid (n = cnt ((k : Int) + 1) (L.take i) ∧ wr = wa)) (fun _ iv _ => L.length - (intOf iv).toNat)
      case atStart => exact ⟨0, 0, Nat.zero_le _, rfl, rfl, rfl, rfl⟩
      case round =>
        obtain ⟨i, n, hi, rfl, rfl, HJ⟩ := hrel
        have hwr := HJ.out.2
        subst hwr
        have HNC := Lib.hid HJ.out.1
        clear HJ
        by_cases hlt : i < L.length
        · have i1 : (0 : Int) ≤ (i : Int) := by omega
          have i2 : (i : Int) < (L.length : Int) := by omega
          have hwi : IntKind.i64.wrap ((i : Int) + 1) = (i : Int) + 1 := by rw [IntKind.wrap_i64]; omega
          have hnl : n ≤ 1000000 := by rw [HNC.out]; have := cnt_le ((k : Int) + 1) (L.take i); rw [List.length_take] at this; omega
          have hwn : IntKind.i64.wrap ((n : Int) + 1) = (n : Int) + 1 := by rw [IntKind.wrap_i64]; omega
          obtain ⟨e, he⟩ : ∃ e, L[i] = e := ⟨_, rfl⟩
          obtain ⟨ad, A1, c1, rfl, hEM, k0, k1, k2, k3, k4, k5, k6, k7⟩ := event_at (Kd.C_below HC.out (HB0.out.trans (HBK.out.mono HB0.out.size))) hlt he (HK.out e (by rw [← he]; exact List.getElem_mem hlt))
          have HTK := Lib.hid ((cnt_take (k := (k : Int) + 1) hlt).trans (by rw [he]))
          clear hEM he k1 k2 k3 k4 k5 k6 k7
          by_cases hq : e.kind = (k : Int) + 1
          · have HN1 := Lib.hid (show n + 1 = cnt ((k : Int) + 1) (L.take (i + 1)) by rw [HTK.out, if_pos hq, HNC.out])
            have hqq : (e.kind == (k : Int) + 1) = true := by rw [hq]; simp
            clear hq HTK
            go_wp2_with fail
            go_roundw
            case rel => exact ⟨i + 1, n + 1, by omega, by go_num, by go_num, HN1.out, by first | exact rfl | trivial⟩
            case measure => simp [intOf]; omega
          · have HN1 := Lib.hid (show n = cnt ((k : Int) + 1) (L.take (i + 1)) by rw [HTK.out, if_neg hq, HNC.out]; rfl)
            clear HTK
            go_wp2_with fail
            go_roundw
            case rel => exact ⟨i + 1, n, by omega, by go_num, rfl, HN1.out, by first | exact rfl | trivial⟩
            case measure => simp [intOf]; omega
        · have hi3 : ¬ (i : Int) < (L.length : Int) := by omega
          have HNF := Lib.hid (show n = cnt ((k : Int) + 1) L by rw [HNC.out, List.take_of_length_le (by omega)])
          clear HNC
          have hnl : n ≤ 1000000 := by rw [HNF.out]; have := cnt_le ((k : Int) + 1) L; omega
          obtain ⟨lit, hlit⟩ : ∃ lit : Bs, pW.getD k [] = lit := ⟨_, rfl⟩
          have HCW := Lib.hid (show ∀ W, Below wr.heap.size wr W → W.cell? ⟨w.heap.size, k, none⟩ = some (.string (bsV lit)) from fun W hW => by
            have b1 := HBK.out.trans (hW.mono HBK.out.size)
            have e1 := (b1.block _ (Array.getElem?_eq_some_iff.1 HX0.out).1).trans HX0.out
            have : k = 0 ∨ k = 1 ∨ k = 2 ∨ k = 3 := by omega
            rcases this with rfl | rfl | rfl | rfl <;> (rw [← hlit, World.cell?, e1]; rfl))
          have hl1 : lit.length ≤ 10 := by
            have : k = 0 ∨ k = 1 ∨ k = 2 ∨ k = 3 := by omega
            rcases this with rfl | rfl | rfl | rfl <;> (rw [← hlit]; decide)
          have hacl : acc.length ≤ 160 := by rw [HAC.out]; have := preS_len L (by omega) k (by omega); omega
          have hdl := decS_len (n := (n : Int)) (by omega) (by omega)
          have HDN := Lib.hid (show ∀ W, Below wr.heap.size wr W → Calls Tryd.prog 37 #[.int .i64 n] W fun x w' => x = .returned (.string (bsV (decS n))) ∧ Below wr.heap.size wr w' from fun W hW => (refDec_any n (Lib.hid ⟨by omega, by omega⟩) W).mono fun x w' ⟨he, hb⟩ => ⟨he, hW.trans (hb.mono hW.size)⟩)
          obtain ⟨s1, hs1, hl2, ha1⟩ := add_to acc lit (by omega)
          obtain ⟨s2, hs2, hl3, ha2⟩ := add_to s1 (decS n) (by omega)
          have HS := Lib.hid (show s2 = preS L (k + 1) by rw [hs2, hs1, preS, HAC.out, hlit, HNF.out])
          clear hs1 hs2 hlit hl1 hl2 hl3 hacl hdl HNF HAC
          have q0 := HCW.out wr (Below.refl _ _)
          have z0 : Hid (Below wr.heap.size wr wr.drew) := (Drawn0.below ⟨1, rfl⟩)
          go_wp2_with fail
          go_region_held3 (fun w' => w'.cell? ⟨w.heap.size, k, none⟩ = some (.string (bsV lit)))
            (first | exact q0 | exact HCW.out _ z0.out | exact HCW.out _ z1.out)
            (first | (go_at_call 37; ((with_reducible refine (HDN.out _ ?_).mono ?_)); (case refine_1 => first | exact z0.out | exact Below.refl _ _); rintro e y1 ⟨rfl, hb⟩; have z1 := Lib.hid hb; clear hb))
          all_goals
            go_wp2_with fail
            go_roundw
            case rel => exact ⟨k + 1, s2, by omega, by go_num, rfl, HS.out, HBK.out.trans (z1.out.mono HBK.out.size)⟩
            case measure => simp [intOf]; omega
    · have hk5 : k = 4 := by omega
      have HSS := Lib.hid (show acc = sumS L by rw [HAC.out, hk5, preS_4])
      have d1 : ¬ (k : Int) + 1 ≤ 4 := by omega
      go_wp2_with fail
      go_ret
      exact ⟨by rw [HSS.out]; rfl, HB0.out.trans (HBK.out.mono HB0.out.size)⟩
end Go.Proofs.YtgfljpchdiapeaaDoor
namespace Go.Proofs.YtgfljpchdiapeaaDoor
set_option linter.unusedVariables false
set_option linter.unusedSimpArgs false
open Go.RowKit Go.Proofs.YtgfljpchdiapeaaDoorW.PrintWords
attribute [local go_sem ↓] Go.wp_at_zero Go.wp_at_succ
attribute [local go_sem] bsV_get bsV_size bsV_toList
set_option maxHeartbeats 4000000 in
set_option maxRecDepth 100000 in
theorem writes_law (L : List Ev) (A : Option Addr) (c : Nat) (w : World) (hC : kV.C w A L.length L) (hc : L.length ≤ c) (hok : ∀ d ∈ L, okE d) (hg : HG w) (hm : MX w) : Calls Tryd.prog 3 #[.slice A L.length c] w fun e w' => e = .returned (.bool true) ∧ Below w.heap.size w w' := by
  have HW := Lib.hid (works_later hg hm)
  have HC := Lib.hid hC
  have HOK := Lib.hid hok
  have HLI := Lib.hid (light_any L A c w hC hc)
  clear hg hm hC hok
  go_enter Tryd.func3, Tryd.ntmps3
  go_wp2_with fail
  refine HLI.out.mono ?_
  rintro e w1 ⟨r, rfl, hr, hb⟩
  have HB1 := Lib.hid hb
  have HR := Lib.hid hr
  clear hb hr HLI
  by_cases hr0 : r ≤ 0
  · have d0 : ¬ (0 : Int) < r := by omega
    have HSZ := Lib.hid (HR.out hr0)
    clear HR
    go_wp2_with fail
    go_loopw [3] (fun iv wr => ∃ i : Nat, i ≤ L.length ∧ iv = .int .i64 i ∧ Hid (Below w.heap.size w wr)) (fun iv _ => L.length - (intOf iv).toNat)
    case atStart => exact ⟨0, Nat.zero_le _, rfl, HB1.out⟩
    case round =>
      obtain ⟨i, hi, rfl, HI⟩ := hrel
      by_cases hlt : i < L.length
      · have i1 : (0 : Int) ≤ (i : Int) := by omega
        have i2 : (i : Int) < (L.length : Int) := by omega
        have i4 : i < c := by omega
        have hl80 := HSZ.out.1
        have hwi : IntKind.i64.wrap ((i : Int) + 1) = (i : Int) + 1 := by rw [IntKind.wrap_i64]; omega
        obtain ⟨d, hd⟩ : ∃ d, L[i] = d := ⟨_, rfl⟩
        have hsz := HSZ.out.2 d (by rw [← hd]; exact List.getElem_mem hlt)
        have hks : okV d := ⟨HOK.out d (by rw [← hd]; exact List.getElem_mem hlt), by omega, by omega⟩
        obtain ⟨ad, A1, c1, rfl, hDA, q0, q1, q2, q3, q4, q5, q6, q7⟩ := event_at (Kd.C_below HC.out HI.out) hlt hd hks
        have HD5 := Lib.hid hDA
        have HXX := Lib.hid (show ∀ W, Below wr.heap.size wr W → W.cell? (ad.add (i * 8)) = some (.int .i64 d.kind) ∧ W.cell? ⟨(ad.add (i * 8)).block, (ad.add (i * 8)).off + 1, none⟩ = some (.int .i64 d.node) ∧ W.cell? ⟨(ad.add (i * 8)).block, (ad.add (i * 8)).off + 2, none⟩ = some (.string (bsV d.key)) ∧ W.cell? ⟨(ad.add (i * 8)).block, (ad.add (i * 8)).off + 3, none⟩ = some (.int .i64 d.ver) ∧ W.cell? ⟨(ad.add (i * 8)).block, (ad.add (i * 8)).off + 4, none⟩ = some (.int .i64 d.asof) ∧ W.cell? ⟨(ad.add (i * 8)).block, (ad.add (i * 8)).off + 5, none⟩ = some (.int .i64 d.ends) ∧ W.cell? ⟨(ad.add (i * 8)).block, (ad.add (i * 8)).off + 6, none⟩ = some (.slice A1 d.value.length c1) ∧ W.cell? ⟨(ad.add (i * 8)).block, (ad.add (i * 8)).off + 7, none⟩ = some (.bool d.found) from fun W hW => ⟨(hW.cell (World.block_lt_of_cell? wr _ q0)).trans q0, (hW.cell (World.block_lt_of_cell? wr _ q1)).trans q1, (hW.cell (World.block_lt_of_cell? wr _ q2)).trans q2, (hW.cell (World.block_lt_of_cell? wr _ q3)).trans q3, (hW.cell (World.block_lt_of_cell? wr _ q4)).trans q4, (hW.cell (World.block_lt_of_cell? wr _ q5)).trans q5, (hW.cell (World.block_lt_of_cell? wr _ q6)).trans q6, (hW.cell (World.block_lt_of_cell? wr _ q7)).trans q7⟩)
        clear hDA hd hsz hks
        have z0 : Hid (Below wr.heap.size wr wr.drew) := (Drawn0.below ⟨1, rfl⟩)
        have HCL := Lib.hid (show ∀ W, Below wr.heap.size wr W → Calls Tryd.prog 9 #[.agg #[.int .i64 d.kind, .int .i64 d.node, .string (bsV d.key), .int .i64 d.ver, .int .i64 d.asof, .int .i64 d.ends, .slice A1 d.value.length c1, .bool d.found]] W fun e w' => e = .returned (.string (bsV (lineE d))) ∧ Below wr.heap.size wr w' from fun W hW =>
          (repLine_any d A1 c1 W (HD5.out.later hW)).mono fun e w' ⟨he, hb⟩ => ⟨he, hW.trans (hb.mono hW.size)⟩)
        have HCR := Lib.hid (show ∀ W, Below wr.heap.size wr W → Calls Tryd.prog 10 #[.agg #[.int .i64 d.kind, .int .i64 d.node, .string (bsV d.key), .int .i64 d.ver, .int .i64 d.asof, .int .i64 d.ends, .slice A1 d.value.length c1, .bool d.found]] W fun e w' => e = .returned (.string (bsV (lineE d))) ∧ Below wr.heap.size wr w' from fun W hW =>
          (refLineE_any d A1 c1 W (HD5.out.later hW)).mono fun e w' ⟨he, hb⟩ => ⟨he, hW.trans (hb.mono hW.size)⟩)
        generalize lineE d = lv at HCL HCR
        have hll : (lv == lv) = true := by simp
        go_wp2_with fail
        go_region_held3 (fun w' => w'.cell? (ad.add (i * 8)) = some (.int .i64 d.kind) ∧ w'.cell? ⟨(ad.add (i * 8)).block, (ad.add (i * 8)).off + 1, none⟩ = some (.int .i64 d.node) ∧ w'.cell? ⟨(ad.add (i * 8)).block, (ad.add (i * 8)).off + 2, none⟩ = some (.string (bsV d.key)) ∧ w'.cell? ⟨(ad.add (i * 8)).block, (ad.add (i * 8)).off + 3, none⟩ = some (.int .i64 d.ver) ∧ w'.cell? ⟨(ad.add (i * 8)).block, (ad.add (i * 8)).off + 4, none⟩ = some (.int .i64 d.asof) ∧ w'.cell? ⟨(ad.add (i * 8)).block, (ad.add (i * 8)).off + 5, none⟩ = some (.int .i64 d.ends) ∧ w'.cell? ⟨(ad.add (i * 8)).block, (ad.add (i * 8)).off + 6, none⟩ = some (.slice A1 d.value.length c1) ∧ w'.cell? ⟨(ad.add (i * 8)).block, (ad.add (i * 8)).off + 7, none⟩ = some (.bool d.found))
          (first | exact ⟨q0, q1, q2, q3, q4, q5, q6, q7⟩ | exact HXX.out _ z0.out | exact HXX.out _ z1.out | exact HXX.out _ z2.out)
          (first
          | (go_at_call 9; ((with_reducible refine (HCL.out _ ?_).mono ?_)); (case refine_1 => first | exact z0.out | exact Below.refl _ _); rintro e y1 ⟨rfl, hb⟩; have z1 := Lib.hid hb; clear hb)
          | (go_at_call 10; ((with_reducible refine (HCR.out _ ?_).mono ?_)); (case refine_1 => first | exact z1.out | exact z0.out); rintro e y2 ⟨rfl, hb⟩; have z2 := Lib.hid hb; clear hb))
        all_goals
          go_wp2_with fail
          go_roundw
          case rel => exact ⟨i + 1, by omega, by go_num, HI.out.trans (z2.out.mono HI.out.size)⟩
          case measure => simp [intOf]; omega
      · have hi3 : ¬ (i : Int) < (L.length : Int) := by omega
        have HOS := Lib.hid (show ∀ d ∈ L, okV d from fun d hd => ⟨HOK.out d hd, by have := HSZ.out.2 d hd; omega, by have := HSZ.out.2 d hd; omega⟩)
        have HTL := Lib.hid (show (textE L).length ≤ 640040 from Nat.le_trans (textE_small L fun d hd => lineE_small (HOK.out d hd) (HSZ.out.2 d hd).1 (HSZ.out.2 d hd).2) (by have := HSZ.out.1; omega))
        have HTX := Lib.hid (fun W (hW : Below w.heap.size w W) => repText_any L A c W (Kd.C_below HC.out hW) hc HOS.out (by have := HTL.out; omega) (by have := HSZ.out.1; omega))
        have HRT := Lib.hid (fun W (hW : Below w.heap.size w W) => refTextE_any L A c W (Kd.C_below HC.out hW) hc HOS.out (by have := HTL.out; omega) (by have := HSZ.out.1; omega))
        have HSU := Lib.hid (fun W (hW : Below w.heap.size w W) => sum_any L A c W (Kd.C_below HC.out hW) hc HOS.out (by have := HSZ.out.1; omega))
        have HRS := Lib.hid (fun W (hW : Below w.heap.size w W) => refSum_any L A c W (Kd.C_below HC.out hW) hc HOS.out (by have := HSZ.out.1; omega))
        clear HTL HSZ HOS
        generalize textE L = tx at HTX HRT
        generalize sumS L = sm at HSU HRS
        have htt : (tx == tx) = true := by simp
        have hss : (sm == sm) = true := by simp
        obtain ⟨wa, rfl⟩ : ∃ wa : World, wa = wr := ⟨_, rfl⟩
        go_wp2_with fail
        refine (HTX.out wa HI.out).mono ?_
        rintro e w5 ⟨rfl, hb⟩
        have HB5 := Lib.hid (HI.out.trans (hb.mono HI.out.size))
        clear hb
        go_wp2_with fail
        refine (HRT.out w5 HB5.out).mono ?_
        rintro e w6 ⟨rfl, hb⟩
        have HB6 := Lib.hid (HB5.out.trans (hb.mono HB5.out.size))
        clear hb
        go_wp2_with fail
        refine (HSU.out w6 HB6.out).mono ?_
        rintro e w7 ⟨rfl, hb⟩
        have HB7 := Lib.hid (HB6.out.trans (hb.mono HB6.out.size))
        clear hb
        go_wp2_with fail
        refine (HRS.out w7 HB7.out).mono ?_
        rintro e w8 ⟨rfl, hb⟩
        have HB8 := Lib.hid (HB7.out.trans (hb.mono HB7.out.size))
        clear hb
        go_wp2_with fail
        refine (HW.out _ HB8.out).mono ?_
        rintro e w9 ⟨rfl, hb⟩
        have HB9 := Lib.hid hb
        clear hb
        go_wp2_with fail
        go_ret
        exact ⟨rfl, HB9.out⟩
  · have d0 : (0 : Int) < r := by omega
    go_wp2_with fail
    refine (HW.out _ HB1.out).mono ?_
    rintro e w6 ⟨rfl, hb6⟩
    have HB6 := Lib.hid hb6
    clear hb6
    go_wp2_with fail
    go_ret
    exact ⟨rfl, HB6.out⟩
end Go.Proofs.YtgfljpchdiapeaaDoor
