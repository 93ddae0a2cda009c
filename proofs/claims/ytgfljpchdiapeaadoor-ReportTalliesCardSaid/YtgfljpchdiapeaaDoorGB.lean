/- The example of chapter 32 works. What the laws of chapter 32 share: works behind anything, what is read may be met. -/
import Derived.Test.YtgfljpchdiapeaaDoorH2
import Derived.Test.YtgfljpchdiapeaaDoorWTab
import Derived.Lib.SlBytesConst
namespace Go.Proofs.YtgfljpchdiapeaaDoor
set_option linter.unusedVariables false
set_option linter.unusedSimpArgs false
open Go.RowKit Go.Proofs.YtgfljpchdiapeaaDoorW.PrintWords Go.Proofs.YtgfljpchdiapeaaDoorW.PrintLast
attribute [local go_sem ↓] Go.wp_at_zero Go.wp_at_succ
attribute [local go_sem] bsV_get bsV_size bsV_toList
def T1 : Bs := [104, 105, 116, 32, 50, 32, 107, 32, 51, 32, 52, 32, 97, 37, 50, 48, 98, 10, 10, 101, 114, 97, 115, 101, 32, 53, 32, 107, 10]
def T2 : Bs := [100, 111, 110, 101, 32, 49, 10, 100, 111, 110, 101, 32, 120]
def E1 : Ev := ⟨1, 2, [107], 3, 4, 0, [97, 32, 98], false⟩
def E2 : Ev := ⟨3, 0, [107], 5, 0, 0, [], false⟩
def E3 : Ev := ⟨4, 0, [], 1, 0, 0, [], false⟩
instance (n : Int) : Decidable (I64 n) := inferInstanceAs (Decidable (_ ∧ _))
theorem ok1 : okE E1 := ⟨by decide, by decide, by decide, by decide, by decide⟩
theorem ok2 : okE E2 := ⟨by decide, by decide, by decide, by decide, by decide⟩
theorem ok3 : okE E3 := ⟨by decide, by decide, by decide, by decide, by decide⟩
theorem okv1 : okV E1 := ⟨ok1, by decide, by decide⟩
theorem okv2 : okV E2 := ⟨ok2, by decide, by decide⟩
theorem ln1 : lineE E1 = [104, 105, 116, 32, 50, 32, 107, 32, 51, 32, 52, 32, 97, 37, 50, 48, 98] := by decide +kernel
theorem ln2 : lineE E2 = [101, 114, 97, 115, 101, 32, 53, 32, 107] := by decide +kernel
theorem ln3 : lineE E3 = [100, 111, 110, 101, 32, 49] := by decide +kernel
theorem dd1 : eventS [104, 105, 116, 32, 50, 32, 107, 32, 51, 32, 52, 32, 97, 37, 50, 48, 98] = some E1 := by rw [← ln1]; exact event_line ok1 (by decide)
theorem dd2 : eventS [101, 114, 97, 115, 101, 32, 53, 32, 107] = some E2 := by rw [← ln2]; exact event_line ok2 (by decide)
theorem dd3 : eventS [100, 111, 110, 101, 32, 49] = some E3 := by rw [← ln3]; exact event_line ok3 (by decide)
theorem sp1 : splitS 10 T1 = [[104, 105, 116, 32, 50, 32, 107, 32, 51, 32, 52, 32, 97, 37, 50, 48, 98], [], [101, 114, 97, 115, 101, 32, 53, 32, 107], []] := by decide +kernel
theorem sp2 : splitS 10 T2 = [[100, 111, 110, 101, 32, 49], [100, 111, 110, 101, 32, 120]] := by decide +kernel
theorem bad1 : eventS [100, 111, 110, 101, 32, 120] = none := by
  have h : splitS 32 [100, 111, 110, 101, 32, 120] = [doneW, [120]] := by decide +kernel
  have hn : numS [120] = none := by decide +kernel
  rw [eventS, h]
  show doneR [[120]] = none
  rw [doneR, hn]
  rfl
theorem rd1 : readSE T1 = ([E1, E2], 0, 0) := by
  rw [readSE, sp1, readGE_some (by decide) dd1, readGE_skip rfl, readGE_some (by decide) dd2, readGE_skip rfl, readGE]
  rfl
theorem rd2 : readSE T2 = ([], 16, 1) := by
  rw [readSE, sp2, readGE_some (by decide) dd3, readGE_none (by decide) bad1]
  rfl
theorem tx1 : textE [E1, E2] = [104, 105, 116, 32, 50, 32, 107, 32, 51, 32, 52, 32, 97, 37, 50, 48, 98, 10, 101, 114, 97, 115, 101, 32, 53, 32, 107, 10] := by decide +kernel
theorem sm1 : sumS [E1, E2] = [104, 105, 116, 32, 49, 44, 32, 109, 105, 115, 115, 32, 48, 44, 32, 119, 114, 105, 116, 101, 32, 49, 44, 32, 100, 111, 110, 101, 32, 48] := by decide +kernel
theorem w_read1 (w : World) (hm : MX w) : Calls Tryd.prog 15 #[.string ⟨#[104, 105, 116, 32, 50, 32, 107, 32, 51, 32, 52, 32, 97, 37, 50, 48, 98, 10, 10, 101, 114, 97, 115, 101, 32, 53, 32, 107, 10]⟩] w fun e w' => ∃ g c, e = .returned (.tuple #[.slice (some ⟨g, 0, none⟩) 2 c, .nilIface]) ∧ kV.C w' (some ⟨g, 0, none⟩) 2 [E1, E2] ∧ 2 ≤ c ∧ Below w.heap.size w w' := by
  refine (show Calls Tryd.prog 15 #[.string ⟨#[104, 105, 116, 32, 50, 32, 107, 32, 51, 32, 52, 32, 97, 37, 50, 48, 98, 10, 10, 101, 114, 97, 115, 101, 32, 53, 32, 107, 10]⟩] w (ReadPostE T1 w) from readE_any T1 w (by decide) hm).mono ?_
  intro e w' h
  unfold ReadPostE at h
  rw [rd1] at h
  obtain ⟨A, c, ev, he, h1, h2, h3⟩ := h
  rcases h2 with ⟨_, rfl⟩ | ⟨h2, _⟩
  · obtain ⟨inner, ho⟩ := Kd.R_own h1
    obtain ⟨g, cap, e1, _, _⟩ := ho.form (by simp)
    injection e1 with e1 e2 e3
    subst e1
    obtain ⟨hn, hc, hC⟩ := Kd.R_reads' h1
    exact ⟨g, c, he, hC, hc, h3⟩
  · exact absurd rfl h2
theorem w_read2 (w : World) (hm : MX w) : Calls Tryd.prog 15 #[.string ⟨#[100, 111, 110, 101, 32, 49, 10, 100, 111, 110, 101, 32, 120]⟩] w fun e w' => ∃ A c b op, e = .returned (.tuple #[.slice A 0 c, .iface 84 (.pointer (some ⟨b, 0, none⟩))]) ∧ w'.heap[b]? = some (faultO op 1 16 .nilIface) ∧ Below w.heap.size w w' := by
  refine (show Calls Tryd.prog 15 #[.string ⟨#[100, 111, 110, 101, 32, 49, 10, 100, 111, 110, 101, 32, 120]⟩] w (ReadPostE T2 w) from readE_any T2 w (by decide) hm).mono ?_
  intro e w' h
  unfold ReadPostE at h
  rw [rd2] at h
  obtain ⟨A, c, ev, he, _, h2, h3⟩ := h
  rcases h2 with ⟨h2, _⟩ | ⟨_, b, op, rfl, h4⟩
  · exact absurd h2 (by show ¬ (16 : Int) = 0; decide)
  · exact ⟨A, c, b, op, he, h4, h3⟩
theorem lit_u8 (W : World) : (Kd.int .u8).C (W.alloc (.cells #[.int .u8 97, .int .u8 32, .int .u8 98] 5 (3, 4))) (some ⟨W.heap.size, 0, none⟩) 3 (bI [97, 32, 98]) := by
  refine Kd.C_of_reads (d := (0 : Int)) ⟨rfl, by decide, fun _ => ⟨_, rfl, fun j hj => ?_⟩⟩
  have h := heap_alloc_new W (.cells #[.int .u8 97, .int .u8 32, .int .u8 98] 5 (3, 4))
  match j, hj with
  | 0, _ => rw [add_plain, World.cell?, h]; rfl
  | 1, _ => rw [add_plain, World.cell?, h]; rfl
  | 2, _ => rw [add_plain, World.cell?, h]; rfl
def wk7_T : Bool × List (List Nat × List Nat) := (true, [([], []), ([0], [0]), ([1], [1]), ([2], [2]), ([3, 2], [2, 3]), ([4, 2], [2, 4]), ([2], [2]), ([5, 6, 2, 2], [2, 5, 6]), ([2, 7], [2, 7]), ([8, 7], [8]), ([9], [9]), ([10, 9], [9, 10]), ([11, 9], [9, 11]), ([12, 9], [9, 12]), ([13, 9], [9, 13]), ([9, 14], [9, 14]), ([15, 9], [15]), ([16], [16]), ([17, 16], [16, 17]), ([18, 16], [16, 18]), ([19, 16], [16, 19]), ([20, 16], [16, 20]), ([16, 21], [16, 21]), ([22, 16], [22]), ([23], [23]), ([24, 23, 23], [23, 24]), ([25, 23], [23, 25]), ([23, 26], [23, 26]), ([27, 25], [27]), ([28], [28]), ([28, 29], [28, 29]), ([30, 28], [30]), ([31], [31]), ([32, 31], [31, 32]), ([31, 33], [31, 33]), ([34, 31], [34]), ([35], [35]), ([36, 35, 35], [35, 36]), ([37, 35], [35, 37]), ([35, 38], [35, 38]), ([39, 37], [39]), ([40], [40]), ([41, 40, 40], [40, 41]), ([42, 40], [40, 42]), ([40, 43], [40, 43]), ([44, 42], [44]), ([45], [45]), ([46, 45, 45], [45, 46]), ([47, 45], [45, 47]), ([45, 48], [45, 48]), ([49, 47, 0, 1, 2, 3, 4, 5, 6, 7, 8, 9, 10, 11, 12, 13, 14, 15, 16, 17, 18, 19, 20, 21, 22, 23, 24, 25, 26, 27, 28, 29, 30, 31, 32, 33, 34, 35, 36, 37, 38, 39, 40, 41, 42, 43, 44, 45, 46, 47, 48, 49], [49])])
def wk7_B : List Nat := [0, 1, 3, 7, 15, 31, 7, 127, 255, 511, 1023, 2047, 4095, 8191, 16383, 32767, 65535, 131071, 262143, 524287, 1048575, 2097151, 4194303, 8388607, 16777215, 33554431, 67108863, 134217727, 268435455, 536870911, 1073741823, 2147483647, 4294967295, 8589934591, 17179869183, 34359738367, 68719476735, 137438953471, 274877906943, 549755813887, 1099511627775, 2199023255551, 4398046511103, 8796093022207, 17592186044415, 35184372088831, 70368744177663, 140737488355327, 281474976710655, 562949953421311, 1125899906842623]
theorem wk7_tab : rtab .any (opsOf Tryd.f8 7) = wk7_T := by kernel_rfl
theorem wk7_bits : waitsOk wk7_T.2 wk7_B = true := by kernel_rfl
structure WS (q g : Nat) (A1 B1 : Option Addr) (c1 e1 : Nat) (W : World) : Prop where
  fc0 : W.cell? ⟨g, 0, none⟩ = some (.int .i64 1)
  fc1 : W.cell? ⟨g, 1, none⟩ = some (.int .i64 2)
  fc2 : W.cell? ⟨g, 2, none⟩ = some (.string ⟨#[107]⟩)
  fc3 : W.cell? ⟨g, 3, none⟩ = some (.int .i64 3)
  fc4 : W.cell? ⟨g, 4, none⟩ = some (.int .i64 4)
  fc5 : W.cell? ⟨g, 5, none⟩ = some (.int .i64 0)
  fc6 : W.cell? ⟨g, 6, none⟩ = some (.slice A1 3 c1)
  fc7 : W.cell? ⟨g, 7, none⟩ = some (.bool false)
  fc8 : W.cell? ⟨g, 8, none⟩ = some (.int .i64 3)
  fc9 : W.cell? ⟨g, 9, none⟩ = some (.int .i64 0)
  fc10 : W.cell? ⟨g, 10, none⟩ = some (.string ⟨#[107]⟩)
  fc11 : W.cell? ⟨g, 11, none⟩ = some (.int .i64 5)
  fc12 : W.cell? ⟨g, 12, none⟩ = some (.int .i64 0)
  fc13 : W.cell? ⟨g, 13, none⟩ = some (.int .i64 0)
  fc14 : W.cell? ⟨g, 14, none⟩ = some (.slice B1 0 e1)
  fc15 : W.cell? ⟨g, 15, none⟩ = some (.bool false)
  fb0 : W.cell? ⟨q + 1, 0, none⟩ = some (.int .i64 1)
  fb1 : W.cell? ⟨q + 1, 1, none⟩ = some (.int .i64 2)
  fb2 : W.cell? ⟨q + 1, 2, none⟩ = some (.string ⟨#[107]⟩)
  fb3 : W.cell? ⟨q + 1, 3, none⟩ = some (.int .i64 3)
  fb4 : W.cell? ⟨q + 1, 4, none⟩ = some (.int .i64 4)
  fb5 : W.cell? ⟨q + 1, 5, none⟩ = some (.int .i64 0)
  fb6 : W.cell? ⟨q + 1, 6, none⟩ = some (.slice (some ⟨q, 0, none⟩) 3 3)
  fb7 : W.cell? ⟨q + 1, 7, none⟩ = some (.bool false)
theorem exec_load {P : Program} {o : Oper} {ev : Operand → Value} {T : TypeId} {x : Operand} {p : Addr} {v : Value} {W : World} {d : TypeDesc} (ho : o.op = .load T x) (hx : ev x = .pointer (some p)) (hu : P.underlying T = some d) (hd : (match d with | .struct _ | .array _ _ => true | _ => false) = false) (hc : W.cell? p = some v) : (execOp ev o).run P W = .ok (.value v) W := by
  have hagg : (isAgg T).run P W = .ok false W := by
    unfold isAgg
    rw [Sem.run_bind, run_underlying hu W]
    cases d <;> simp_all
  unfold execOp
  simp [ho, hx, Instr.loadAt, Instr.sureAddr, Sem.run_bind, Sem.run_pure, Result.andThen_ok, loadVar, hagg, hc]
theorem exec_load8 {o : Oper} {ev : Operand → Value} {x : Operand} {g q : Nat} {x0 x1 x2 x3 x4 x5 x6 x7 : Value} {W : World} (ho : o.op = .load 30 x) (hx : ev x = .pointer (some ⟨g, q, none⟩)) (h0 : W.cell? ⟨g, q + 0, none⟩ = some x0) (h1 : W.cell? ⟨g, q + 1, none⟩ = some x1) (h2 : W.cell? ⟨g, q + 2, none⟩ = some x2) (h3 : W.cell? ⟨g, q + 3, none⟩ = some x3) (h4 : W.cell? ⟨g, q + 4, none⟩ = some x4) (h5 : W.cell? ⟨g, q + 5, none⟩ = some x5) (h6 : W.cell? ⟨g, q + 6, none⟩ = some x6) (h7 : W.cell? ⟨g, q + 7, none⟩ = some x7) : (execOp ev o).run Tryd.prog W = .ok (.value (.agg #[x0, x1, x2, x3, x4, x5, x6, x7])) W := by
  have hr : W.rangeAt g q [x0, x1, x2, x3, x4, x5, x6, x7] := by
    intro j v hj
    match j, hj with
    | 0, hj => exact (by have e : x0 = v := (by simpa using hj); rw [← e]; exact h0)
    | 1, hj => exact (by have e : x1 = v := (by simpa using hj); rw [← e]; exact h1)
    | 2, hj => exact (by have e : x2 = v := (by simpa using hj); rw [← e]; exact h2)
    | 3, hj => exact (by have e : x3 = v := (by simpa using hj); rw [← e]; exact h3)
    | 4, hj => exact (by have e : x4 = v := (by simpa using hj); rw [← e]; exact h4)
    | 5, hj => exact (by have e : x5 = v := (by simpa using hj); rw [← e]; exact h5)
    | 6, hj => exact (by have e : x6 = v := (by simpa using hj); rw [← e]; exact h6)
    | 7, hj => exact (by have e : x7 = v := (by simpa using hj); rw [← e]; exact h7)
    | j + 8, hj => simp at hj
  have h := run_loadAt_mid (P := Tryd.prog) W g q 30 [x0, x1, x2, x3, x4, x5, x6, x7] _ hr Tryd.underlying30 rfl (by kernel_rfl)
  unfold execOp
  simp only [ho, hx, h, Sem.run_bind, Sem.run_pure, Result.andThen_ok]
set_option maxHeartbeats 8000000 in
set_option maxRecDepth 100000 in
theorem works_any (w : World) (hg : HG w) (hm : MX w) : Calls Tryd.prog 8 #[] w fun e w' => e = .returned (.bool true) ∧ Below w.heap.size w w' := by
  have HH := Lib.hid hg
  have HM := Lib.hid hm
  clear hg hm
  have HL0 := Lib.hid (lit_u8 w)
  have HB0 := Lib.hid (bel_alloc w (.cells #[.int .u8 97, .int .u8 32, .int .u8 98] 5 (3, 4)))
  have HS0 := Lib.hid (show (w.alloc (.cells #[.int .u8 97, .int .u8 32, .int .u8 98] 5 (3, 4))).heap.size = w.heap.size + 1 by simp)
  have hcv : (convert 26 26 (.slice (some ⟨w.heap.size, 0, none⟩) 3 3)).run Tryd.prog (w.alloc (.cells #[.int .u8 97, .int .u8 32, .int .u8 98] 5)) = .ok (.slice (some ⟨w.heap.size, 0, none⟩) 3 3) (w.alloc (.cells #[.int .u8 97, .int .u8 32, .int .u8 98] 5 (3, 4))) := Lib.run_convert_bytes_const w 26 5 #[.int .u8 97, .int .u8 32, .int .u8 98] 3 3 Tryd.underlying26 Tryd.underlying5
  go_enter Tryd.func8, Tryd.ntmps8
  go_upto_region 2 with (fail)
  have HBA := Lib.hid (bel_alloc (w.alloc (.cells #[.int .u8 97, .int .u8 32, .int .u8 98] 5 (3, 4))) (.cells #[.int .i64 1, .int .i64 2, .string ⟨#[107]⟩, .int .i64 3, .int .i64 4, .int .i64 0, .slice (some ⟨w.heap.size, 0, none⟩) 3 3, .bool false] 30))
  have HXA := Lib.hid (heap_alloc_new (w.alloc (.cells #[.int .u8 97, .int .u8 32, .int .u8 98] 5 (3, 4))) (.cells #[.int .i64 1, .int .i64 2, .string ⟨#[107]⟩, .int .i64 3, .int .i64 4, .int .i64 0, .slice (some ⟨w.heap.size, 0, none⟩) 3 3, .bool false] 30))
  rw [HS0.out] at HXA
  generalize hw0 : w.alloc (.cells #[.int .u8 97, .int .u8 32, .int .u8 98] 5 (3, 4)) = w0 at *
  clear hw0 hcv
  generalize w0.alloc (.cells #[.int .i64 1, .int .i64 2, .string ⟨#[107]⟩, .int .i64 3, .int .i64 4, .int .i64 0, .slice (some ⟨w.heap.size, 0, none⟩) 3 3, .bool false] 30) = w1 at *
  have HB1 := Lib.hid (HB0.out.trans (HBA.out.mono HB0.out.size))
  have HL1 := Lib.hid (Kd.C_below HL0.out HBA.out)
  clear HL0 HBA HB0 HS0
  go_wp2_with fail
  refine (w_read1 w1 (HM.out.later HB1.out)).mono ?_
  rintro e w2 ⟨g, cg, rfl, hC, hcg, hb⟩
  have HB2 := Lib.hid (HB1.out.trans (hb.mono HB1.out.size))
  have HC2 := Lib.hid hC
  have HL2 := Lib.hid (Kd.C_below HL1.out hb)
  have HX2 := Lib.hid ((hb.block _ (Array.getElem?_eq_some_iff.1 HXA.out).1).trans HXA.out)
  clear hb hC HB1 HL1 HXA
  go_wp2_with fail
  refine (w_read2 w2 (HM.out.later HB2.out)).mono ?_
  rintro e w3 ⟨A, c, b, op, rfl, hbk, hb⟩
  have HB3 := Lib.hid (HB2.out.trans (hb.mono HB2.out.size))
  have HF3 := Lib.hid hbk
  have HC3 := Lib.hid (Kd.C_below HC2.out hb)
  have HL3 := Lib.hid (Kd.C_below HL2.out hb)
  have HX3 := Lib.hid ((hb.block _ (Array.getElem?_eq_some_iff.1 HX2.out).1).trans HX2.out)
  clear hb hbk HB2 HC2 HL2 HX2
  have HWH := Lib.hid (where_any (.iface 84 (.pointer (some ⟨b, 0, none⟩))) 16 1 w3 (.inr ⟨by decide, b, op, rfl, HF3.out⟩) (hg_later HH.out HB3.out))
  go_wp2_with fail
  refine HWH.out.mono ?_
  rintro e w4 ⟨⟨x, rfl, hx⟩, hb⟩
  obtain rfl := hx (by decide)
  have hd16 : decide ((16 : Int) ≠ 0) = true := by decide
  rw [hd16]
  have HB4 := Lib.hid (HB3.out.trans (hb.mono HB3.out.size))
  have HF4 := Lib.hid ((hb.block b (Array.getElem?_eq_some_iff.1 HF3.out).1).trans HF3.out)
  have HC4 := Lib.hid (Kd.C_below HC3.out hb)
  have HL4 := Lib.hid (Kd.C_below HL3.out hb)
  have HX4 := Lib.hid ((hb.block _ (Array.getElem?_eq_some_iff.1 HX3.out).1).trans HX3.out)
  clear hb hx hd16 HB3 HF3 HC3 HL3 HX3 HWH
  obtain ⟨ad, A1, c1, ee, hD1, k0, k1, k2, k3, k4, k5, k6, k7⟩ := event_at HC4.out (i := 0) (by decide) rfl okv1
  injection ee with ee
  subst ee
  obtain ⟨ad, B1, e1, ee, hD2, m0, m1, m2, m3, m4, m5, m6, m7⟩ := event_at HC4.out (i := 1) (by decide) rfl okv2
  injection ee with ee
  subst ee
  have HD1 := Lib.hid hD1
  have HDH := Lib.hid (show EM w4 E1 (some ⟨w.heap.size, 0, none⟩) 3 from ⟨Nat.le_refl _, HL4.out, ok1, by decide, by decide⟩)
  have hS4 : WS w.heap.size g A1 B1 c1 e1 w4 := ⟨k0, k1, k2, k3, k4, k5, k6, k7, m0, m1, m2, m3, m4, m5, m6, m7, cell_of_row w4 _ 0 _ _ (0, 0) HX4.out, cell_of_row w4 _ 1 _ _ (0, 0) HX4.out, cell_of_row w4 _ 2 _ _ (0, 0) HX4.out, cell_of_row w4 _ 3 _ _ (0, 0) HX4.out, cell_of_row w4 _ 4 _ _ (0, 0) HX4.out, cell_of_row w4 _ 5 _ _ (0, 0) HX4.out, cell_of_row w4 _ 6 _ _ (0, 0) HX4.out, cell_of_row w4 _ 7 _ _ (0, 0) HX4.out⟩
  have HSW := Lib.hid (show ∀ W, Below w4.heap.size w4 W → WS w.heap.size g A1 B1 c1 e1 W from fun W hW => by
    have hc : ∀ (p : Addr) (v : Value), w4.cell? p = some v → W.cell? p = some v := fun p v h => (hW.cell (World.block_lt_of_cell? w4 _ h)).trans h
    exact ⟨hc _ _ k0, hc _ _ k1, hc _ _ k2, hc _ _ k3, hc _ _ k4, hc _ _ k5, hc _ _ k6, hc _ _ k7, hc _ _ m0, hc _ _ m1, hc _ _ m2, hc _ _ m3, hc _ _ m4, hc _ _ m5, hc _ _ m6, hc _ _ m7, hc _ _ (cell_of_row w4 _ 0 _ _ (0, 0) HX4.out), hc _ _ (cell_of_row w4 _ 1 _ _ (0, 0) HX4.out), hc _ _ (cell_of_row w4 _ 2 _ _ (0, 0) HX4.out), hc _ _ (cell_of_row w4 _ 3 _ _ (0, 0) HX4.out), hc _ _ (cell_of_row w4 _ 4 _ _ (0, 0) HX4.out), hc _ _ (cell_of_row w4 _ 5 _ _ (0, 0) HX4.out), hc _ _ (cell_of_row w4 _ 6 _ _ (0, 0) HX4.out), hc _ _ (cell_of_row w4 _ 7 _ _ (0, 0) HX4.out)⟩)
  clear k0 k1 k2 k3 k4 k5 k6 k7 m0 m1 m2 m3 m4 m5 m6 m7 hD1 hD2 hS4
  have HOF := Lib.hid (show ∀ W, Below w4.heap.size w4 W → Calls Tryd.prog 19 #[.iface 84 (.pointer (some ⟨b, 0, none⟩))] W fun e w' => e = .returned (.int .i64 16) ∧ Below w4.heap.size w4 w' from fun W hW => (of_one _ 16 1 W (.inr ⟨by decide, b, op, rfl, (hW.block b (Array.getElem?_eq_some_iff.1 HF4.out).1).trans HF4.out⟩) (hg_later HH.out (HB4.out.trans (hW.mono HB4.out.size)))).mono fun e w' ⟨he, hb⟩ => ⟨he, hW.trans (hb.mono hW.size)⟩)
  have HLI := Lib.hid (show ∀ W, Below w4.heap.size w4 W → Calls Tryd.prog 9 #[.agg #[.int .i64 1, .int .i64 2, .string ⟨#[107]⟩, .int .i64 3, .int .i64 4, .int .i64 0, .slice (some ⟨w.heap.size, 0, none⟩) 3 3, .bool false]] W fun e w' => e = .returned (.string ⟨#[104, 105, 116, 32, 50, 32, 107, 32, 51, 32, 52, 32, 97, 37, 50, 48, 98]⟩) ∧ Below w4.heap.size w4 w' from fun W hW => (show Calls Tryd.prog 9 #[.agg #[.int .i64 1, .int .i64 2, .string ⟨#[107]⟩, .int .i64 3, .int .i64 4, .int .i64 0, .slice (some ⟨w.heap.size, 0, none⟩) 3 3, .bool false]] W _ from repLine_any E1 _ 3 W (HDH.out.later hW)).mono fun e w' ⟨he, hb⟩ => ⟨by rw [he, ln1]; rfl, hW.trans (hb.mono hW.size)⟩)
  have HTX := Lib.hid (show ∀ W, Below w4.heap.size w4 W → Calls Tryd.prog 11 #[.slice (some ⟨g, 0, none⟩) 2 cg] W fun e w' => e = .returned (.string ⟨#[104, 105, 116, 32, 50, 32, 107, 32, 51, 32, 52, 32, 97, 37, 50, 48, 98, 10, 101, 114, 97, 115, 101, 32, 53, 32, 107, 10]⟩) ∧ Below w4.heap.size w4 w' from fun W hW => (show Calls Tryd.prog 11 #[.slice (some ⟨g, 0, none⟩) 2 cg] W _ from repText_any [E1, E2] _ cg W (Kd.C_below HC4.out hW) hcg (fun d hd => by rcases List.mem_cons.1 hd with rfl | hd; exact okv1; rw [List.mem_singleton.1 hd]; exact okv2) (by rw [tx1]; decide) (by decide)).mono fun e w' ⟨he, hb⟩ => ⟨by rw [he, tx1]; rfl, hW.trans (hb.mono hW.size)⟩)
  have HSM := Lib.hid (show ∀ W, Below w4.heap.size w4 W → Calls Tryd.prog 13 #[.slice (some ⟨g, 0, none⟩) 2 cg] W fun e w' => e = .returned (.string ⟨#[104, 105, 116, 32, 49, 44, 32, 109, 105, 115, 115, 32, 48, 44, 32, 119, 114, 105, 116, 101, 32, 49, 44, 32, 100, 111, 110, 101, 32, 48]⟩) ∧ Below w4.heap.size w4 w' from fun W hW => (show Calls Tryd.prog 13 #[.slice (some ⟨g, 0, none⟩) 2 cg] W _ from sum_any [E1, E2] _ cg W (Kd.C_below HC4.out hW) hcg (fun d hd => by rcases List.mem_cons.1 hd with rfl | hd; exact okv1; rw [List.mem_singleton.1 hd]; exact okv2) (by decide)).mono fun e w' ⟨he, hb⟩ => ⟨by rw [he, sm1]; rfl, hW.trans (hb.mono hW.size)⟩)
  have HSA := Lib.hid (show ∀ W, Below w4.heap.size w4 W → Calls Tryd.prog 31 #[.agg #[.int .i64 1, .int .i64 2, .string ⟨#[107]⟩, .int .i64 3, .int .i64 4, .int .i64 0, .slice A1 3 c1, .bool false], .agg #[.int .i64 1, .int .i64 2, .string ⟨#[107]⟩, .int .i64 3, .int .i64 4, .int .i64 0, .slice (some ⟨w.heap.size, 0, none⟩) 3 3, .bool false]] W fun e w' => e = .returned (.bool true) ∧ Below w4.heap.size w4 w' from fun W hW => (show Calls Tryd.prog 31 #[.agg #[.int .i64 1, .int .i64 2, .string ⟨#[107]⟩, .int .i64 3, .int .i64 4, .int .i64 0, .slice A1 3 c1, .bool false], .agg #[.int .i64 1, .int .i64 2, .string ⟨#[107]⟩, .int .i64 3, .int .i64 4, .int .i64 0, .slice (some ⟨w.heap.size, 0, none⟩) 3 3, .bool false]] W _ from repSame_any E1 E1 A1 _ c1 3 W (HD1.out.later hW) (HDH.out.later hW)).mono fun e w' ⟨he, hb⟩ => ⟨by rw [he, sameE_refl], hW.trans (hb.mono hW.size)⟩)
  have z0 : Hid (Below w4.heap.size w4 w4.drew) := Drawn0.below ⟨1, rfl⟩
  go_wp2_with fail
  try simp only [List.append_eq, List.cons_append, List.nil_append]
  refine start_ (n := 51) (S := WS w.heap.size g A1 B1 c1 e1) (ds := []) #[false, false, false, false, false, false, false, false, false, false, false, false, false, false, false, false, false, false, false, false, false, false, false, false, false, false, false, false, false, false, false, false, false, false, false, false, false, false, false, false, false, false, false, false, false, false, false, false, false, false, false] (by kernel_rfl) rfl rfl (HSW.out _ z0.out) (fun hHeld => ?_)
  refine with_tabW wk7_tab wk7_bits (fun HT_ HW_ => ?_)
  refine pure_ (i := 0) (N := some 28) (v := .nilIface) #[true, false, false, false, false, false, false, false, false, false, false, false, false, false, false, false, false, false, false, false, false, false, false, false, false, false, false, false, false, false, false, false, false, false, false, false, false, false, false, false, false, false, false, false, false, false, false, false, false, false, false] rfl rfl (any_of HT_.out (by kernel_rfl)) (fun _ _ _ h => h) (Or.inl ⟨by kernel_rfl, fun W => by kernel_rfl⟩) rfl ?_
  refine pure_ (i := 1) (N := some 29) (v := .bool true) #[true, true, false, false, false, false, false, false, false, false, false, false, false, false, false, false, false, false, false, false, false, false, false, false, false, false, false, false, false, false, false, false, false, false, false, false, false, false, false, false, false, false, false, false, false, false, false, false, false, false, false] rfl rfl (any_of HT_.out (by kernel_rfl)) (fun _ _ _ h => h) (Or.inl ⟨by kernel_rfl, fun W => by kernel_rfl⟩) rfl ?_
  refine pure_ (i := 2) (N := some 30) (v := .bool true) #[true, true, true, false, false, false, false, false, false, false, false, false, false, false, false, false, false, false, false, false, false, false, false, false, false, false, false, false, false, false, false, false, false, false, false, false, false, false, false, false, false, false, false, false, false, false, false, false, false, false, false] rfl rfl (any_of HT_.out (by kernel_rfl)) (fun _ _ _ h => h) (Or.inl ⟨by kernel_rfl, fun W => by kernel_rfl⟩) rfl ?_
  refine pure_ (i := 3) (N := some 31) (v := .slice (some ⟨g, 0, none⟩) 2 cg) #[true, true, true, true, false, false, false, false, false, false, false, false, false, false, false, false, false, false, false, false, false, false, false, false, false, false, false, false, false, false, false, false, false, false, false, false, false, false, false, false, false, false, false, false, false, false, false, false, false, false, false] rfl rfl (any_of HT_.out (by kernel_rfl)) (fun _ _ _ h => h) (Or.inl ⟨by kernel_rfl, fun W => by kernel_rfl⟩) rfl ?_
  refine pure_ (i := 4) (N := some 32) (v := .pointer (some ⟨g, 0, none⟩)) #[true, true, true, true, true, false, false, false, false, false, false, false, false, false, false, false, false, false, false, false, false, false, false, false, false, false, false, false, false, false, false, false, false, false, false, false, false, false, false, false, false, false, false, false, false, false, false, false, false, false, false] rfl rfl (any_of HT_.out (by kernel_rfl)) (fun _ _ _ h => h) (Or.inl ⟨by kernel_rfl, fun W => by kernel_rfl⟩) rfl ?_
  refine take_ (i := 5) (N := some 33) (v := .agg #[.int .i64 1, .int .i64 2, .string ⟨#[107]⟩, .int .i64 3, .int .i64 4, .int .i64 0, .slice A1 3 c1, .bool false]) #[true, true, true, true, true, true, false, false, false, false, false, false, false, false, false, false, false, false, false, false, false, false, false, false, false, false, false, false, false, false, false, false, false, false, false, false, false, false, false, false, false, false, false, false, false, false, false, false, false, false, false] rfl rfl (take_ofW HT_.out HW_.out (by kernel_rfl)) (fun _ _ _ h => h) (Or.inl ⟨by kernel_rfl, fun W hS => exec_load8 rfl (by kernel_rfl) hS.fc0 hS.fc1 hS.fc2 hS.fc3 hS.fc4 hS.fc5 hS.fc6 hS.fc7⟩) hHeld rfl ?_
  refine take_ (i := 6) (N := some 34) (v := .agg #[.int .i64 1, .int .i64 2, .string ⟨#[107]⟩, .int .i64 3, .int .i64 4, .int .i64 0, .slice (some ⟨w.heap.size, 0, none⟩) 3 3, .bool false]) #[true, true, true, true, true, true, true, false, false, false, false, false, false, false, false, false, false, false, false, false, false, false, false, false, false, false, false, false, false, false, false, false, false, false, false, false, false, false, false, false, false, false, false, false, false, false, false, false, false, false, false] rfl rfl (take_ofW HT_.out HW_.out (by kernel_rfl)) (fun _ _ _ h => h) (Or.inl ⟨by kernel_rfl, fun W hS => exec_load8 rfl (by kernel_rfl) hS.fb0 hS.fb1 hS.fb2 hS.fb3 hS.fb4 hS.fb5 hS.fb6 hS.fb7⟩) hHeld rfl ?_
  refine norm_ (a' := { tmps := #[.bool false, .pointer (some ⟨w.heap.size + 1, 0, none⟩), .slice (some ⟨g, 0, none⟩) 2 cg, .nilIface, .slice A 0 c, .iface 84 (.pointer (some ⟨b, 0, none⟩)), .int .i64 1, .bool true, .slice (some ⟨w.heap.size, 0, none⟩) 3 3, .slice (some ⟨w.heap.size, 0, none⟩) 3 3, .agg #[.string ⟨#[107]⟩, .int .i64 3, .int .i64 4, .int .i64 0, .slice (some ⟨w.heap.size, 0, none⟩) 3 3], .agg #[.int .i64 1, .int .i64 2, .string ⟨#[107]⟩, .int .i64 3, .int .i64 4, .int .i64 0, .slice (some ⟨w.heap.size, 0, none⟩) 3 3, .bool false], .tuple #[.slice (some ⟨g, 0, none⟩) 2 cg, .nilIface], .tuple #[.slice (some ⟨g, 0, none⟩) 2 cg, .nilIface], .slice (some ⟨g, 0, none⟩) 2 cg, .nilIface, .tuple #[.slice A 0 c, .iface 84 (.pointer (some ⟨b, 0, none⟩))], .tuple #[.slice A 0 c, .iface 84 (.pointer (some ⟨b, 0, none⟩))], .slice A 0 c, .iface 84 (.pointer (some ⟨b, 0, none⟩)), .tuple #[.int .i64 1, .bool true], .iface 84 (.pointer (some ⟨b, 0, none⟩)), .tuple #[.int .i64 1, .bool true], .int .i64 1, .bool true, .slice (some ⟨g, 0, none⟩) 2 cg, .int .i64 2, .bool false, .nilIface, .bool true, .bool true, .slice (some ⟨g, 0, none⟩) 2 cg, .pointer (some ⟨g, 0, none⟩), .agg #[.int .i64 1, .int .i64 2, .string ⟨#[107]⟩, .int .i64 3, .int .i64 4, .int .i64 0, .slice A1 3 c1, .bool false], .agg #[.int .i64 1, .int .i64 2, .string ⟨#[107]⟩, .int .i64 3, .int .i64 4, .int .i64 0, .slice (some ⟨w.heap.size, 0, none⟩) 3 3, .bool false], undef, undef, undef, undef, undef, undef, undef, undef, undef, undef, undef, undef, undef, undef, undef, undef, undef, undef, undef, undef, undef, undef, undef, undef, undef, undef, undef, undef, undef, undef, undef, undef, undef, undef, undef, undef, undef, undef, undef, undef, undef, undef, undef], defers := [] }) (by kernel_rfl) ?_
  refine one_ (i := 7) (N := some 35) #[true, true, true, true, true, true, true, true, false, false, false, false, false, false, false, false, false, false, false, false, false, false, false, false, false, false, false, false, false, false, false, false, false, false, false, false, false, false, false, false, false, false, false, false, false, false, false, false, false, false, false] rfl rfl (one_of HT_.out (by kernel_rfl)) (by simp) (fun K hK => ?_)
  refine goes_ Tryd.func31 (by kernel_rfl) rfl #[.agg #[.int .i64 1, .int .i64 2, .string ⟨#[107]⟩, .int .i64 3, .int .i64 4, .int .i64 0, .slice A1 3 c1, .bool false], .agg #[.int .i64 1, .int .i64 2, .string ⟨#[107]⟩, .int .i64 3, .int .i64 4, .int .i64 0, .slice (some ⟨w.heap.size, 0, none⟩) 3 3, .bool false]] (by kernel_rfl) rfl rfl (by kernel_rfl) ?_
  refine (HSA.out _ z0.out).mono ?_
  rintro e y1 ⟨rfl, hb⟩
  have z1 := Lib.hid hb
  clear hb
  refine ⟨_, rfl, hK.out _ _ (HSW.out _ z1.out) (fun hHeld => ?_)⟩
  clear hK K
  refine pure_ (i := 8) (N := some 36) (v := .bool true) #[true, true, true, true, true, true, true, true, true, false, false, false, false, false, false, false, false, false, false, false, false, false, false, false, false, false, false, false, false, false, false, false, false, false, false, false, false, false, false, false, false, false, false, false, false, false, false, false, false, false, false] rfl rfl (any_of HT_.out (by kernel_rfl)) (fun _ _ _ h => h) (Or.inl ⟨by kernel_rfl, fun W => by kernel_rfl⟩) rfl ?_
  refine pure_ (i := 9) (N := some 37) (v := .bool true) #[true, true, true, true, true, true, true, true, true, true, false, false, false, false, false, false, false, false, false, false, false, false, false, false, false, false, false, false, false, false, false, false, false, false, false, false, false, false, false, false, false, false, false, false, false, false, false, false, false, false, false] rfl rfl (any_of HT_.out (by kernel_rfl)) (fun _ _ _ h => h) (Or.inl ⟨by kernel_rfl, fun W => by kernel_rfl⟩) rfl ?_
  refine pure_ (i := 10) (N := some 38) (v := .slice (some ⟨g, 0, none⟩) 2 cg) #[true, true, true, true, true, true, true, true, true, true, true, false, false, false, false, false, false, false, false, false, false, false, false, false, false, false, false, false, false, false, false, false, false, false, false, false, false, false, false, false, false, false, false, false, false, false, false, false, false, false, false] rfl rfl (any_of HT_.out (by kernel_rfl)) (fun _ _ _ h => h) (Or.inl ⟨by kernel_rfl, fun W => by kernel_rfl⟩) rfl ?_
  refine pure_ (i := 11) (N := some 39) (v := .pointer (some ⟨g, 8, none⟩)) #[true, true, true, true, true, true, true, true, true, true, true, true, false, false, false, false, false, false, false, false, false, false, false, false, false, false, false, false, false, false, false, false, false, false, false, false, false, false, false, false, false, false, false, false, false, false, false, false, false, false, false] rfl rfl (any_of HT_.out (by kernel_rfl)) (fun _ _ _ h => h) (Or.inl ⟨by kernel_rfl, fun W => by kernel_rfl⟩) rfl ?_
  refine pure_ (i := 12) (N := some 40) (v := .pointer (some ⟨g, 8, none⟩)) #[true, true, true, true, true, true, true, true, true, true, true, true, true, false, false, false, false, false, false, false, false, false, false, false, false, false, false, false, false, false, false, false, false, false, false, false, false, false, false, false, false, false, false, false, false, false, false, false, false, false, false] rfl rfl (any_of HT_.out (by kernel_rfl)) (fun _ _ _ h => h) (Or.inl ⟨by kernel_rfl, fun W => by kernel_rfl⟩) rfl ?_
  refine take_ (i := 13) (N := some 41) (v := .int .i64 3) #[true, true, true, true, true, true, true, true, true, true, true, true, true, true, false, false, false, false, false, false, false, false, false, false, false, false, false, false, false, false, false, false, false, false, false, false, false, false, false, false, false, false, false, false, false, false, false, false, false, false, false] rfl rfl (take_ofW HT_.out HW_.out (by kernel_rfl)) (fun _ _ _ h => h) (Or.inl ⟨by kernel_rfl, fun W hS => exec_load rfl (by kernel_rfl) Tryd.underlying3 rfl hS.fc8⟩) hHeld rfl ?_
  refine pure_ (i := 14) (N := some 42) (v := .bool true) #[true, true, true, true, true, true, true, true, true, true, true, true, true, true, true, false, false, false, false, false, false, false, false, false, false, false, false, false, false, false, false, false, false, false, false, false, false, false, false, false, false, false, false, false, false, false, false, false, false, false, false] rfl rfl (any_of HT_.out (by kernel_rfl)) (fun _ _ _ h => h) (Or.inl ⟨by kernel_rfl, fun W => by kernel_rfl⟩) rfl ?_
  refine pure_ (i := 15) (N := some 43) (v := .bool true) #[true, true, true, true, true, true, true, true, true, true, true, true, true, true, true, true, false, false, false, false, false, false, false, false, false, false, false, false, false, false, false, false, false, false, false, false, false, false, false, false, false, false, false, false, false, false, false, false, false, false, false] rfl rfl (any_of HT_.out (by kernel_rfl)) (fun _ _ _ h => h) (Or.inl ⟨by kernel_rfl, fun W => by kernel_rfl⟩) rfl ?_
  refine pure_ (i := 16) (N := some 44) (v := .bool true) #[true, true, true, true, true, true, true, true, true, true, true, true, true, true, true, true, true, false, false, false, false, false, false, false, false, false, false, false, false, false, false, false, false, false, false, false, false, false, false, false, false, false, false, false, false, false, false, false, false, false, false] rfl rfl (any_of HT_.out (by kernel_rfl)) (fun _ _ _ h => h) (Or.inl ⟨by kernel_rfl, fun W => by kernel_rfl⟩) rfl ?_
  refine pure_ (i := 17) (N := some 45) (v := .slice (some ⟨g, 0, none⟩) 2 cg) #[true, true, true, true, true, true, true, true, true, true, true, true, true, true, true, true, true, true, false, false, false, false, false, false, false, false, false, false, false, false, false, false, false, false, false, false, false, false, false, false, false, false, false, false, false, false, false, false, false, false, false] rfl rfl (any_of HT_.out (by kernel_rfl)) (fun _ _ _ h => h) (Or.inl ⟨by kernel_rfl, fun W => by kernel_rfl⟩) rfl ?_
  refine pure_ (i := 18) (N := some 46) (v := .pointer (some ⟨g, 8, none⟩)) #[true, true, true, true, true, true, true, true, true, true, true, true, true, true, true, true, true, true, true, false, false, false, false, false, false, false, false, false, false, false, false, false, false, false, false, false, false, false, false, false, false, false, false, false, false, false, false, false, false, false, false] rfl rfl (any_of HT_.out (by kernel_rfl)) (fun _ _ _ h => h) (Or.inl ⟨by kernel_rfl, fun W => by kernel_rfl⟩) rfl ?_
  refine pure_ (i := 19) (N := some 47) (v := .pointer (some ⟨g, 15, none⟩)) #[true, true, true, true, true, true, true, true, true, true, true, true, true, true, true, true, true, true, true, true, false, false, false, false, false, false, false, false, false, false, false, false, false, false, false, false, false, false, false, false, false, false, false, false, false, false, false, false, false, false, false] rfl rfl (any_of HT_.out (by kernel_rfl)) (fun _ _ _ h => h) (Or.inl ⟨by kernel_rfl, fun W => by kernel_rfl⟩) rfl ?_
  refine take_ (i := 20) (N := some 48) (v := .bool false) #[true, true, true, true, true, true, true, true, true, true, true, true, true, true, true, true, true, true, true, true, true, false, false, false, false, false, false, false, false, false, false, false, false, false, false, false, false, false, false, false, false, false, false, false, false, false, false, false, false, false, false] rfl rfl (take_ofW HT_.out HW_.out (by kernel_rfl)) (fun _ _ _ h => h) (Or.inl ⟨by kernel_rfl, fun W hS => exec_load rfl (by kernel_rfl) Tryd.underlying4 rfl hS.fc15⟩) hHeld rfl ?_
  refine pure_ (i := 21) (N := some 49) (v := .bool true) #[true, true, true, true, true, true, true, true, true, true, true, true, true, true, true, true, true, true, true, true, true, true, false, false, false, false, false, false, false, false, false, false, false, false, false, false, false, false, false, false, false, false, false, false, false, false, false, false, false, false, false] rfl rfl (any_of HT_.out (by kernel_rfl)) (fun _ _ _ h => h) (Or.inl ⟨by kernel_rfl, fun W => by kernel_rfl⟩) rfl ?_
  refine pure_ (i := 22) (N := some 50) (v := .bool true) #[true, true, true, true, true, true, true, true, true, true, true, true, true, true, true, true, true, true, true, true, true, true, true, false, false, false, false, false, false, false, false, false, false, false, false, false, false, false, false, false, false, false, false, false, false, false, false, false, false, false, false] rfl rfl (any_of HT_.out (by kernel_rfl)) (fun _ _ _ h => h) (Or.inl ⟨by kernel_rfl, fun W => by kernel_rfl⟩) rfl ?_
  refine pure_ (i := 23) (N := some 51) (v := .bool true) #[true, true, true, true, true, true, true, true, true, true, true, true, true, true, true, true, true, true, true, true, true, true, true, true, false, false, false, false, false, false, false, false, false, false, false, false, false, false, false, false, false, false, false, false, false, false, false, false, false, false, false] rfl rfl (any_of HT_.out (by kernel_rfl)) (fun _ _ _ h => h) (Or.inl ⟨by kernel_rfl, fun W => by kernel_rfl⟩) rfl ?_
  refine pure_ (i := 24) (N := some 52) (v := .iface 84 (.pointer (some ⟨b, 0, none⟩))) #[true, true, true, true, true, true, true, true, true, true, true, true, true, true, true, true, true, true, true, true, true, true, true, true, true, false, false, false, false, false, false, false, false, false, false, false, false, false, false, false, false, false, false, false, false, false, false, false, false, false, false] rfl rfl (any_of HT_.out (by kernel_rfl)) (fun _ _ _ h => h) (Or.inl ⟨by kernel_rfl, fun W => by kernel_rfl⟩) rfl ?_
  refine norm_ (a' := { tmps := #[.bool false, .pointer (some ⟨w.heap.size + 1, 0, none⟩), .slice (some ⟨g, 0, none⟩) 2 cg, .nilIface, .slice A 0 c, .iface 84 (.pointer (some ⟨b, 0, none⟩)), .int .i64 1, .bool true, .slice (some ⟨w.heap.size, 0, none⟩) 3 3, .slice (some ⟨w.heap.size, 0, none⟩) 3 3, .agg #[.string ⟨#[107]⟩, .int .i64 3, .int .i64 4, .int .i64 0, .slice (some ⟨w.heap.size, 0, none⟩) 3 3], .agg #[.int .i64 1, .int .i64 2, .string ⟨#[107]⟩, .int .i64 3, .int .i64 4, .int .i64 0, .slice (some ⟨w.heap.size, 0, none⟩) 3 3, .bool false], .tuple #[.slice (some ⟨g, 0, none⟩) 2 cg, .nilIface], .tuple #[.slice (some ⟨g, 0, none⟩) 2 cg, .nilIface], .slice (some ⟨g, 0, none⟩) 2 cg, .nilIface, .tuple #[.slice A 0 c, .iface 84 (.pointer (some ⟨b, 0, none⟩))], .tuple #[.slice A 0 c, .iface 84 (.pointer (some ⟨b, 0, none⟩))], .slice A 0 c, .iface 84 (.pointer (some ⟨b, 0, none⟩)), .tuple #[.int .i64 1, .bool true], .iface 84 (.pointer (some ⟨b, 0, none⟩)), .tuple #[.int .i64 1, .bool true], .int .i64 1, .bool true, .slice (some ⟨g, 0, none⟩) 2 cg, .int .i64 2, .bool false, .nilIface, .bool true, .bool true, .slice (some ⟨g, 0, none⟩) 2 cg, .pointer (some ⟨g, 0, none⟩), .agg #[.int .i64 1, .int .i64 2, .string ⟨#[107]⟩, .int .i64 3, .int .i64 4, .int .i64 0, .slice A1 3 c1, .bool false], .agg #[.int .i64 1, .int .i64 2, .string ⟨#[107]⟩, .int .i64 3, .int .i64 4, .int .i64 0, .slice (some ⟨w.heap.size, 0, none⟩) 3 3, .bool false], .bool true, .bool true, .bool true, .slice (some ⟨g, 0, none⟩) 2 cg, .pointer (some ⟨g, 8, none⟩), .pointer (some ⟨g, 8, none⟩), .int .i64 3, .bool true, .bool true, .bool true, .slice (some ⟨g, 0, none⟩) 2 cg, .pointer (some ⟨g, 8, none⟩), .pointer (some ⟨g, 15, none⟩), .bool false, .bool true, .bool true, .bool true, .iface 84 (.pointer (some ⟨b, 0, none⟩)), undef, undef, undef, undef, undef, undef, undef, undef, undef, undef, undef, undef, undef, undef, undef, undef, undef, undef, undef, undef, undef, undef, undef, undef, undef], defers := [] }) (by kernel_rfl) ?_
  refine one_ (i := 25) (N := some 53) #[true, true, true, true, true, true, true, true, true, true, true, true, true, true, true, true, true, true, true, true, true, true, true, true, true, true, false, false, false, false, false, false, false, false, false, false, false, false, false, false, false, false, false, false, false, false, false, false, false, false, false] rfl rfl (one_of HT_.out (by kernel_rfl)) (by simp) (fun K hK => ?_)
  refine goes_ Tryd.func19 (by kernel_rfl) rfl #[.iface 84 (.pointer (some ⟨b, 0, none⟩))] (by kernel_rfl) rfl rfl (by kernel_rfl) ?_
  refine (HOF.out _ z1.out).mono ?_
  rintro e y2 ⟨rfl, hb⟩
  have z2 := Lib.hid hb
  clear hb
  refine ⟨_, rfl, hK.out _ _ (HSW.out _ z2.out) (fun hHeld => ?_)⟩
  clear hK K
  refine pure_ (i := 26) (N := some 54) (v := .bool true) #[true, true, true, true, true, true, true, true, true, true, true, true, true, true, true, true, true, true, true, true, true, true, true, true, true, true, true, false, false, false, false, false, false, false, false, false, false, false, false, false, false, false, false, false, false, false, false, false, false, false, false] rfl rfl (any_of HT_.out (by kernel_rfl)) (fun _ _ _ h => h) (Or.inl ⟨by kernel_rfl, fun W => by kernel_rfl⟩) rfl ?_
  refine pure_ (i := 27) (N := some 55) (v := .bool true) #[true, true, true, true, true, true, true, true, true, true, true, true, true, true, true, true, true, true, true, true, true, true, true, true, true, true, true, true, false, false, false, false, false, false, false, false, false, false, false, false, false, false, false, false, false, false, false, false, false, false, false] rfl rfl (any_of HT_.out (by kernel_rfl)) (fun _ _ _ h => h) (Or.inl ⟨by kernel_rfl, fun W => by kernel_rfl⟩) rfl ?_
  refine pure_ (i := 28) (N := some 56) (v := .bool true) #[true, true, true, true, true, true, true, true, true, true, true, true, true, true, true, true, true, true, true, true, true, true, true, true, true, true, true, true, true, false, false, false, false, false, false, false, false, false, false, false, false, false, false, false, false, false, false, false, false, false, false] rfl rfl (any_of HT_.out (by kernel_rfl)) (fun _ _ _ h => h) (Or.inl ⟨by kernel_rfl, fun W => by kernel_rfl⟩) rfl ?_
  refine pure_ (i := 29) (N := some 57) (v := .bool true) #[true, true, true, true, true, true, true, true, true, true, true, true, true, true, true, true, true, true, true, true, true, true, true, true, true, true, true, true, true, true, false, false, false, false, false, false, false, false, false, false, false, false, false, false, false, false, false, false, false, false, false] rfl rfl (any_of HT_.out (by kernel_rfl)) (fun _ _ _ h => h) (Or.inl ⟨by kernel_rfl, fun W => by kernel_rfl⟩) rfl ?_
  refine pure_ (i := 30) (N := some 58) (v := .bool true) #[true, true, true, true, true, true, true, true, true, true, true, true, true, true, true, true, true, true, true, true, true, true, true, true, true, true, true, true, true, true, true, false, false, false, false, false, false, false, false, false, false, false, false, false, false, false, false, false, false, false, false] rfl rfl (any_of HT_.out (by kernel_rfl)) (fun _ _ _ h => h) (Or.inl ⟨by kernel_rfl, fun W => by kernel_rfl⟩) rfl ?_
  refine pure_ (i := 31) (N := some 59) (v := .bool true) #[true, true, true, true, true, true, true, true, true, true, true, true, true, true, true, true, true, true, true, true, true, true, true, true, true, true, true, true, true, true, true, true, false, false, false, false, false, false, false, false, false, false, false, false, false, false, false, false, false, false, false] rfl rfl (any_of HT_.out (by kernel_rfl)) (fun _ _ _ h => h) (Or.inl ⟨by kernel_rfl, fun W => by kernel_rfl⟩) rfl ?_
  refine pure_ (i := 32) (N := some 60) (v := .int .i64 1) #[true, true, true, true, true, true, true, true, true, true, true, true, true, true, true, true, true, true, true, true, true, true, true, true, true, true, true, true, true, true, true, true, true, false, false, false, false, false, false, false, false, false, false, false, false, false, false, false, false, false, false] rfl rfl (any_of HT_.out (by kernel_rfl)) (fun _ _ _ h => h) (Or.inl ⟨by kernel_rfl, fun W => by kernel_rfl⟩) rfl ?_
  refine pure_ (i := 33) (N := some 61) (v := .bool true) #[true, true, true, true, true, true, true, true, true, true, true, true, true, true, true, true, true, true, true, true, true, true, true, true, true, true, true, true, true, true, true, true, true, true, false, false, false, false, false, false, false, false, false, false, false, false, false, false, false, false, false] rfl rfl (any_of HT_.out (by kernel_rfl)) (fun _ _ _ h => h) (Or.inl ⟨by kernel_rfl, fun W => by kernel_rfl⟩) rfl ?_
  refine pure_ (i := 34) (N := some 62) (v := .bool true) #[true, true, true, true, true, true, true, true, true, true, true, true, true, true, true, true, true, true, true, true, true, true, true, true, true, true, true, true, true, true, true, true, true, true, true, false, false, false, false, false, false, false, false, false, false, false, false, false, false, false, false] rfl rfl (any_of HT_.out (by kernel_rfl)) (fun _ _ _ h => h) (Or.inl ⟨by kernel_rfl, fun W => by kernel_rfl⟩) rfl ?_
  refine pure_ (i := 35) (N := some 63) (v := .bool true) #[true, true, true, true, true, true, true, true, true, true, true, true, true, true, true, true, true, true, true, true, true, true, true, true, true, true, true, true, true, true, true, true, true, true, true, true, false, false, false, false, false, false, false, false, false, false, false, false, false, false, false] rfl rfl (any_of HT_.out (by kernel_rfl)) (fun _ _ _ h => h) (Or.inl ⟨by kernel_rfl, fun W => by kernel_rfl⟩) rfl ?_
  refine take_ (i := 36) (N := some 64) (v := .agg #[.int .i64 1, .int .i64 2, .string ⟨#[107]⟩, .int .i64 3, .int .i64 4, .int .i64 0, .slice (some ⟨w.heap.size, 0, none⟩) 3 3, .bool false]) #[true, true, true, true, true, true, true, true, true, true, true, true, true, true, true, true, true, true, true, true, true, true, true, true, true, true, true, true, true, true, true, true, true, true, true, true, true, false, false, false, false, false, false, false, false, false, false, false, false, false, false] rfl rfl (take_ofW HT_.out HW_.out (by kernel_rfl)) (fun _ _ _ h => h) (Or.inl ⟨by kernel_rfl, fun W hS => exec_load8 rfl (by kernel_rfl) hS.fb0 hS.fb1 hS.fb2 hS.fb3 hS.fb4 hS.fb5 hS.fb6 hS.fb7⟩) hHeld rfl ?_
  refine norm_ (a' := { tmps := #[.bool false, .pointer (some ⟨w.heap.size + 1, 0, none⟩), .slice (some ⟨g, 0, none⟩) 2 cg, .nilIface, .slice A 0 c, .iface 84 (.pointer (some ⟨b, 0, none⟩)), .int .i64 1, .bool true, .slice (some ⟨w.heap.size, 0, none⟩) 3 3, .slice (some ⟨w.heap.size, 0, none⟩) 3 3, .agg #[.string ⟨#[107]⟩, .int .i64 3, .int .i64 4, .int .i64 0, .slice (some ⟨w.heap.size, 0, none⟩) 3 3], .agg #[.int .i64 1, .int .i64 2, .string ⟨#[107]⟩, .int .i64 3, .int .i64 4, .int .i64 0, .slice (some ⟨w.heap.size, 0, none⟩) 3 3, .bool false], .tuple #[.slice (some ⟨g, 0, none⟩) 2 cg, .nilIface], .tuple #[.slice (some ⟨g, 0, none⟩) 2 cg, .nilIface], .slice (some ⟨g, 0, none⟩) 2 cg, .nilIface, .tuple #[.slice A 0 c, .iface 84 (.pointer (some ⟨b, 0, none⟩))], .tuple #[.slice A 0 c, .iface 84 (.pointer (some ⟨b, 0, none⟩))], .slice A 0 c, .iface 84 (.pointer (some ⟨b, 0, none⟩)), .tuple #[.int .i64 1, .bool true], .iface 84 (.pointer (some ⟨b, 0, none⟩)), .tuple #[.int .i64 1, .bool true], .int .i64 1, .bool true, .slice (some ⟨g, 0, none⟩) 2 cg, .int .i64 2, .bool false, .nilIface, .bool true, .bool true, .slice (some ⟨g, 0, none⟩) 2 cg, .pointer (some ⟨g, 0, none⟩), .agg #[.int .i64 1, .int .i64 2, .string ⟨#[107]⟩, .int .i64 3, .int .i64 4, .int .i64 0, .slice A1 3 c1, .bool false], .agg #[.int .i64 1, .int .i64 2, .string ⟨#[107]⟩, .int .i64 3, .int .i64 4, .int .i64 0, .slice (some ⟨w.heap.size, 0, none⟩) 3 3, .bool false], .bool true, .bool true, .bool true, .slice (some ⟨g, 0, none⟩) 2 cg, .pointer (some ⟨g, 8, none⟩), .pointer (some ⟨g, 8, none⟩), .int .i64 3, .bool true, .bool true, .bool true, .slice (some ⟨g, 0, none⟩) 2 cg, .pointer (some ⟨g, 8, none⟩), .pointer (some ⟨g, 15, none⟩), .bool false, .bool true, .bool true, .bool true, .iface 84 (.pointer (some ⟨b, 0, none⟩)), .int .i64 16, .bool true, .bool true, .bool true, .bool true, .bool true, .bool true, .int .i64 1, .bool true, .bool true, .bool true, .agg #[.int .i64 1, .int .i64 2, .string ⟨#[107]⟩, .int .i64 3, .int .i64 4, .int .i64 0, .slice (some ⟨w.heap.size, 0, none⟩) 3 3, .bool false], undef, undef, undef, undef, undef, undef, undef, undef, undef, undef, undef, undef, undef], defers := [] }) (by kernel_rfl) ?_
  refine one_ (i := 37) (N := some 65) #[true, true, true, true, true, true, true, true, true, true, true, true, true, true, true, true, true, true, true, true, true, true, true, true, true, true, true, true, true, true, true, true, true, true, true, true, true, true, false, false, false, false, false, false, false, false, false, false, false, false, false] rfl rfl (one_of HT_.out (by kernel_rfl)) (by simp) (fun K hK => ?_)
  refine goes_ Tryd.func9 (by kernel_rfl) rfl #[.agg #[.int .i64 1, .int .i64 2, .string ⟨#[107]⟩, .int .i64 3, .int .i64 4, .int .i64 0, .slice (some ⟨w.heap.size, 0, none⟩) 3 3, .bool false]] (by kernel_rfl) rfl rfl (by kernel_rfl) ?_
  refine (HLI.out _ z2.out).mono ?_
  rintro e y3 ⟨rfl, hb⟩
  have z3 := Lib.hid hb
  clear hb
  refine ⟨_, rfl, hK.out _ _ (HSW.out _ z3.out) (fun hHeld => ?_)⟩
  clear hK K
  refine pure_ (i := 38) (N := some 66) (v := .bool true) #[true, true, true, true, true, true, true, true, true, true, true, true, true, true, true, true, true, true, true, true, true, true, true, true, true, true, true, true, true, true, true, true, true, true, true, true, true, true, true, false, false, false, false, false, false, false, false, false, false, false, false] rfl rfl (any_of HT_.out (by kernel_rfl)) (fun _ _ _ h => h) (Or.inl ⟨by kernel_rfl, fun W => by kernel_rfl⟩) rfl ?_
  refine pure_ (i := 39) (N := some 67) (v := .bool true) #[true, true, true, true, true, true, true, true, true, true, true, true, true, true, true, true, true, true, true, true, true, true, true, true, true, true, true, true, true, true, true, true, true, true, true, true, true, true, true, true, false, false, false, false, false, false, false, false, false, false, false] rfl rfl (any_of HT_.out (by kernel_rfl)) (fun _ _ _ h => h) (Or.inl ⟨by kernel_rfl, fun W => by kernel_rfl⟩) rfl ?_
  refine pure_ (i := 40) (N := some 68) (v := .bool true) #[true, true, true, true, true, true, true, true, true, true, true, true, true, true, true, true, true, true, true, true, true, true, true, true, true, true, true, true, true, true, true, true, true, true, true, true, true, true, true, true, true, false, false, false, false, false, false, false, false, false, false] rfl rfl (any_of HT_.out (by kernel_rfl)) (fun _ _ _ h => h) (Or.inl ⟨by kernel_rfl, fun W => by kernel_rfl⟩) rfl ?_
  refine pure_ (i := 41) (N := some 69) (v := .slice (some ⟨g, 0, none⟩) 2 cg) #[true, true, true, true, true, true, true, true, true, true, true, true, true, true, true, true, true, true, true, true, true, true, true, true, true, true, true, true, true, true, true, true, true, true, true, true, true, true, true, true, true, true, false, false, false, false, false, false, false, false, false] rfl rfl (any_of HT_.out (by kernel_rfl)) (fun _ _ _ h => h) (Or.inl ⟨by kernel_rfl, fun W => by kernel_rfl⟩) rfl ?_
  refine norm_ (a' := { tmps := #[.bool false, .pointer (some ⟨w.heap.size + 1, 0, none⟩), .slice (some ⟨g, 0, none⟩) 2 cg, .nilIface, .slice A 0 c, .iface 84 (.pointer (some ⟨b, 0, none⟩)), .int .i64 1, .bool true, .slice (some ⟨w.heap.size, 0, none⟩) 3 3, .slice (some ⟨w.heap.size, 0, none⟩) 3 3, .agg #[.string ⟨#[107]⟩, .int .i64 3, .int .i64 4, .int .i64 0, .slice (some ⟨w.heap.size, 0, none⟩) 3 3], .agg #[.int .i64 1, .int .i64 2, .string ⟨#[107]⟩, .int .i64 3, .int .i64 4, .int .i64 0, .slice (some ⟨w.heap.size, 0, none⟩) 3 3, .bool false], .tuple #[.slice (some ⟨g, 0, none⟩) 2 cg, .nilIface], .tuple #[.slice (some ⟨g, 0, none⟩) 2 cg, .nilIface], .slice (some ⟨g, 0, none⟩) 2 cg, .nilIface, .tuple #[.slice A 0 c, .iface 84 (.pointer (some ⟨b, 0, none⟩))], .tuple #[.slice A 0 c, .iface 84 (.pointer (some ⟨b, 0, none⟩))], .slice A 0 c, .iface 84 (.pointer (some ⟨b, 0, none⟩)), .tuple #[.int .i64 1, .bool true], .iface 84 (.pointer (some ⟨b, 0, none⟩)), .tuple #[.int .i64 1, .bool true], .int .i64 1, .bool true, .slice (some ⟨g, 0, none⟩) 2 cg, .int .i64 2, .bool false, .nilIface, .bool true, .bool true, .slice (some ⟨g, 0, none⟩) 2 cg, .pointer (some ⟨g, 0, none⟩), .agg #[.int .i64 1, .int .i64 2, .string ⟨#[107]⟩, .int .i64 3, .int .i64 4, .int .i64 0, .slice A1 3 c1, .bool false], .agg #[.int .i64 1, .int .i64 2, .string ⟨#[107]⟩, .int .i64 3, .int .i64 4, .int .i64 0, .slice (some ⟨w.heap.size, 0, none⟩) 3 3, .bool false], .bool true, .bool true, .bool true, .slice (some ⟨g, 0, none⟩) 2 cg, .pointer (some ⟨g, 8, none⟩), .pointer (some ⟨g, 8, none⟩), .int .i64 3, .bool true, .bool true, .bool true, .slice (some ⟨g, 0, none⟩) 2 cg, .pointer (some ⟨g, 8, none⟩), .pointer (some ⟨g, 15, none⟩), .bool false, .bool true, .bool true, .bool true, .iface 84 (.pointer (some ⟨b, 0, none⟩)), .int .i64 16, .bool true, .bool true, .bool true, .bool true, .bool true, .bool true, .int .i64 1, .bool true, .bool true, .bool true, .agg #[.int .i64 1, .int .i64 2, .string ⟨#[107]⟩, .int .i64 3, .int .i64 4, .int .i64 0, .slice (some ⟨w.heap.size, 0, none⟩) 3 3, .bool false], .string ⟨#[104, 105, 116, 32, 50, 32, 107, 32, 51, 32, 52, 32, 97, 37, 50, 48, 98]⟩, .bool true, .bool true, .bool true, .slice (some ⟨g, 0, none⟩) 2 cg, undef, undef, undef, undef, undef, undef, undef, undef], defers := [] }) (by kernel_rfl) ?_
  refine one_ (i := 42) (N := some 70) #[true, true, true, true, true, true, true, true, true, true, true, true, true, true, true, true, true, true, true, true, true, true, true, true, true, true, true, true, true, true, true, true, true, true, true, true, true, true, true, true, true, true, true, false, false, false, false, false, false, false, false] rfl rfl (one_of HT_.out (by kernel_rfl)) (by simp) (fun K hK => ?_)
  refine goes_ Tryd.func11 (by kernel_rfl) rfl #[.slice (some ⟨g, 0, none⟩) 2 cg] (by kernel_rfl) rfl rfl (by kernel_rfl) ?_
  refine (HTX.out _ z3.out).mono ?_
  rintro e y4 ⟨rfl, hb⟩
  have z4 := Lib.hid hb
  clear hb
  refine ⟨_, rfl, hK.out _ _ (HSW.out _ z4.out) (fun hHeld => ?_)⟩
  clear hK K
  refine pure_ (i := 43) (N := some 71) (v := .bool true) #[true, true, true, true, true, true, true, true, true, true, true, true, true, true, true, true, true, true, true, true, true, true, true, true, true, true, true, true, true, true, true, true, true, true, true, true, true, true, true, true, true, true, true, true, false, false, false, false, false, false, false] rfl rfl (any_of HT_.out (by kernel_rfl)) (fun _ _ _ h => h) (Or.inl ⟨by kernel_rfl, fun W => by kernel_rfl⟩) rfl ?_
  refine pure_ (i := 44) (N := some 72) (v := .bool true) #[true, true, true, true, true, true, true, true, true, true, true, true, true, true, true, true, true, true, true, true, true, true, true, true, true, true, true, true, true, true, true, true, true, true, true, true, true, true, true, true, true, true, true, true, true, false, false, false, false, false, false] rfl rfl (any_of HT_.out (by kernel_rfl)) (fun _ _ _ h => h) (Or.inl ⟨by kernel_rfl, fun W => by kernel_rfl⟩) rfl ?_
  refine pure_ (i := 45) (N := some 73) (v := .bool true) #[true, true, true, true, true, true, true, true, true, true, true, true, true, true, true, true, true, true, true, true, true, true, true, true, true, true, true, true, true, true, true, true, true, true, true, true, true, true, true, true, true, true, true, true, true, true, false, false, false, false, false] rfl rfl (any_of HT_.out (by kernel_rfl)) (fun _ _ _ h => h) (Or.inl ⟨by kernel_rfl, fun W => by kernel_rfl⟩) rfl ?_
  refine pure_ (i := 46) (N := some 74) (v := .slice (some ⟨g, 0, none⟩) 2 cg) #[true, true, true, true, true, true, true, true, true, true, true, true, true, true, true, true, true, true, true, true, true, true, true, true, true, true, true, true, true, true, true, true, true, true, true, true, true, true, true, true, true, true, true, true, true, true, true, false, false, false, false] rfl rfl (any_of HT_.out (by kernel_rfl)) (fun _ _ _ h => h) (Or.inl ⟨by kernel_rfl, fun W => by kernel_rfl⟩) rfl ?_
  refine norm_ (a' := { tmps := #[.bool false, .pointer (some ⟨w.heap.size + 1, 0, none⟩), .slice (some ⟨g, 0, none⟩) 2 cg, .nilIface, .slice A 0 c, .iface 84 (.pointer (some ⟨b, 0, none⟩)), .int .i64 1, .bool true, .slice (some ⟨w.heap.size, 0, none⟩) 3 3, .slice (some ⟨w.heap.size, 0, none⟩) 3 3, .agg #[.string ⟨#[107]⟩, .int .i64 3, .int .i64 4, .int .i64 0, .slice (some ⟨w.heap.size, 0, none⟩) 3 3], .agg #[.int .i64 1, .int .i64 2, .string ⟨#[107]⟩, .int .i64 3, .int .i64 4, .int .i64 0, .slice (some ⟨w.heap.size, 0, none⟩) 3 3, .bool false], .tuple #[.slice (some ⟨g, 0, none⟩) 2 cg, .nilIface], .tuple #[.slice (some ⟨g, 0, none⟩) 2 cg, .nilIface], .slice (some ⟨g, 0, none⟩) 2 cg, .nilIface, .tuple #[.slice A 0 c, .iface 84 (.pointer (some ⟨b, 0, none⟩))], .tuple #[.slice A 0 c, .iface 84 (.pointer (some ⟨b, 0, none⟩))], .slice A 0 c, .iface 84 (.pointer (some ⟨b, 0, none⟩)), .tuple #[.int .i64 1, .bool true], .iface 84 (.pointer (some ⟨b, 0, none⟩)), .tuple #[.int .i64 1, .bool true], .int .i64 1, .bool true, .slice (some ⟨g, 0, none⟩) 2 cg, .int .i64 2, .bool false, .nilIface, .bool true, .bool true, .slice (some ⟨g, 0, none⟩) 2 cg, .pointer (some ⟨g, 0, none⟩), .agg #[.int .i64 1, .int .i64 2, .string ⟨#[107]⟩, .int .i64 3, .int .i64 4, .int .i64 0, .slice A1 3 c1, .bool false], .agg #[.int .i64 1, .int .i64 2, .string ⟨#[107]⟩, .int .i64 3, .int .i64 4, .int .i64 0, .slice (some ⟨w.heap.size, 0, none⟩) 3 3, .bool false], .bool true, .bool true, .bool true, .slice (some ⟨g, 0, none⟩) 2 cg, .pointer (some ⟨g, 8, none⟩), .pointer (some ⟨g, 8, none⟩), .int .i64 3, .bool true, .bool true, .bool true, .slice (some ⟨g, 0, none⟩) 2 cg, .pointer (some ⟨g, 8, none⟩), .pointer (some ⟨g, 15, none⟩), .bool false, .bool true, .bool true, .bool true, .iface 84 (.pointer (some ⟨b, 0, none⟩)), .int .i64 16, .bool true, .bool true, .bool true, .bool true, .bool true, .bool true, .int .i64 1, .bool true, .bool true, .bool true, .agg #[.int .i64 1, .int .i64 2, .string ⟨#[107]⟩, .int .i64 3, .int .i64 4, .int .i64 0, .slice (some ⟨w.heap.size, 0, none⟩) 3 3, .bool false], .string ⟨#[104, 105, 116, 32, 50, 32, 107, 32, 51, 32, 52, 32, 97, 37, 50, 48, 98]⟩, .bool true, .bool true, .bool true, .slice (some ⟨g, 0, none⟩) 2 cg, .string ⟨#[104, 105, 116, 32, 50, 32, 107, 32, 51, 32, 52, 32, 97, 37, 50, 48, 98, 10, 101, 114, 97, 115, 101, 32, 53, 32, 107, 10]⟩, .bool true, .bool true, .bool true, .slice (some ⟨g, 0, none⟩) 2 cg, undef, undef, undef], defers := [] }) (by kernel_rfl) ?_
  refine one_ (i := 47) (N := some 75) #[true, true, true, true, true, true, true, true, true, true, true, true, true, true, true, true, true, true, true, true, true, true, true, true, true, true, true, true, true, true, true, true, true, true, true, true, true, true, true, true, true, true, true, true, true, true, true, true, false, false, false] rfl rfl (one_of HT_.out (by kernel_rfl)) (by simp) (fun K hK => ?_)
  refine goes_ Tryd.func13 (by kernel_rfl) rfl #[.slice (some ⟨g, 0, none⟩) 2 cg] (by kernel_rfl) rfl rfl (by kernel_rfl) ?_
  refine (HSM.out _ z4.out).mono ?_
  rintro e y5 ⟨rfl, hb⟩
  have z5 := Lib.hid hb
  clear hb
  refine ⟨_, rfl, hK.out _ _ (HSW.out _ z5.out) (fun hHeld => ?_)⟩
  clear hK K
  refine pure_ (i := 48) (N := some 76) (v := .bool true) #[true, true, true, true, true, true, true, true, true, true, true, true, true, true, true, true, true, true, true, true, true, true, true, true, true, true, true, true, true, true, true, true, true, true, true, true, true, true, true, true, true, true, true, true, true, true, true, true, true, false, false] rfl rfl (any_of HT_.out (by kernel_rfl)) (fun _ _ _ h => h) (Or.inl ⟨by kernel_rfl, fun W => by kernel_rfl⟩) rfl ?_
  refine pure_ (i := 49) (N := some 77) (v := .bool true) #[true, true, true, true, true, true, true, true, true, true, true, true, true, true, true, true, true, true, true, true, true, true, true, true, true, true, true, true, true, true, true, true, true, true, true, true, true, true, true, true, true, true, true, true, true, true, true, true, true, true, false] rfl rfl (any_of HT_.out (by kernel_rfl)) (fun _ _ _ h => h) (Or.inl ⟨by kernel_rfl, fun W => by kernel_rfl⟩) rfl ?_
  refine pure_ (i := 50) (N := some 0) (v := .bool true) #[true, true, true, true, true, true, true, true, true, true, true, true, true, true, true, true, true, true, true, true, true, true, true, true, true, true, true, true, true, true, true, true, true, true, true, true, true, true, true, true, true, true, true, true, true, true, true, true, true, true, true] rfl rfl (any_of HT_.out (by kernel_rfl)) (fun _ _ _ h => h) (Or.inl ⟨by kernel_rfl, fun W => by kernel_rfl⟩) rfl ?_
  refine done_ (done_of HT_.out (by kernel_rfl)) ?_
  go_wp2_with fail
  go_ret
  exact ⟨rfl, HB4.out.trans (z5.out.mono HB4.out.size)⟩
end Go.Proofs.YtgfljpchdiapeaaDoor
namespace Go.Proofs.YtgfljpchdiapeaaDoor
set_option linter.unusedVariables false
set_option linter.unusedSimpArgs false
open Go.RowKit Go.Proofs.YtgfljpchdiapeaaDoorW.PrintWords
attribute [local go_sem ↓] Go.wp_at_zero Go.wp_at_succ
attribute [local go_sem] bsV_get bsV_size bsV_toList
theorem works_later {w : World} (hg : HG w) (hm : MX w) (W : World) (hW : Below w.heap.size w W) : Calls Tryd.prog 8 #[] W fun e w' => e = .returned (.bool true) ∧ Below w.heap.size w w' :=
  (works_any W (hg_later hg hW) (hm.later hW)).mono fun e w' ⟨he, hb⟩ => ⟨he, hW.trans (hb.mono hW.size)⟩
theorem wordE_key {e : Ev} {w : Bs} {l : List Bs} (h : readE w l = some e) : (e.key = [] ∨ quoS e.key ∈ l) ∧ (e.value = [] ∨ quoS e.value ∈ l) := by
  unfold readE at h
  by_cases k1 : w = hitW
  · rw [if_pos k1] at h
    unfold hitR at h
    split at h
    · obtain ⟨n, hn, h⟩ := bind_some h
      obtain ⟨k, hk, h⟩ := bind_some h
      obtain ⟨v, hv, h⟩ := bind_some h
      obtain ⟨o, ho, h⟩ := bind_some h
      obtain ⟨x, hx, h⟩ := bind_some h
      injection h with h
      rw [← h]
      exact ⟨.inr (by rw [unqS_some hk]; simp), .inr (by rw [unqS_some hx]; simp)⟩
    · cases h
  rw [if_neg k1] at h
  by_cases k2 : w = missW
  · rw [if_pos k2] at h
    unfold missR at h
    split at h
    · obtain ⟨n, hn, h⟩ := bind_some h
      obtain ⟨k, hk, h⟩ := bind_some h
      injection h with h
      rw [← h]
      exact ⟨.inr (by rw [unqS_some hk]; simp), .inl rfl⟩
    · cases h
  rw [if_neg k2] at h
  by_cases k3 : w = writeW
  · rw [if_pos k3] at h
    unfold writeR at h
    split at h
    · obtain ⟨v, hv, h⟩ := bind_some h
      obtain ⟨k, hk, h⟩ := bind_some h
      obtain ⟨x, hx, h⟩ := bind_some h
      injection h with h
      rw [← h]
      exact ⟨.inr (by rw [unqS_some hk]; simp), .inr (by rw [unqS_some hx]; simp)⟩
    · cases h
  rw [if_neg k3] at h
  by_cases k4 : w = eraseW
  · rw [if_pos k4] at h
    unfold eraseR at h
    split at h
    · obtain ⟨v, hv, h⟩ := bind_some h
      obtain ⟨k, hk, h⟩ := bind_some h
      injection h with h
      rw [← h]
      exact ⟨.inr (by rw [unqS_some hk]; simp), .inl rfl⟩
    · cases h
  rw [if_neg k4] at h
  by_cases k5 : w = doneW
  · rw [if_pos k5] at h
    unfold doneR at h
    split at h
    · obtain ⟨v, hv, h⟩ := bind_some h
      injection h with h
      rw [← h]
      exact ⟨.inl rfl, .inl rfl⟩
    · cases h
  rw [if_neg k5] at h
  cases h
theorem okv_of {s : Bs} {e : Ev} (h : eventS s = some e) (hl : s.length ≤ 9000) : okV e := by
  obtain ⟨_, _, hk⟩ := lineE_of h
  unfold eventS at h
  split at h
  · rename_i w r hs
    have hm : ∀ x ∈ r, x.length ≤ s.length := fun x hx => mem_split_len (c := 32) (by rw [hs]; exact List.mem_cons_of_mem _ hx)
    obtain ⟨h1, h2⟩ := wordE_key h
    refine ⟨hk, ?_, ?_⟩
    · rcases h1 with h1 | h1
      · rw [h1]; decide
      · have := hm _ h1
        have := quo_ge e.key
        omega
    · rcases h2 with h2 | h2
      · rw [h2]; decide
      · have := hm _ h2
        have := quo_ge e.value
        omega
  · cases h
theorem okv_zero : okV zE := ⟨⟨z64, z64, z64, z64, z64⟩, by decide, by decide⟩
theorem evD_ok {s : Bs} (hl : s.length ≤ 9000) : okV (evD s) := by
  unfold evD
  cases h : eventS s with
  | none => exact okv_zero
  | some e => exact okv_of h hl
theorem readGE_ok {P : Ev → Prop} : ∀ (rs : List Bs) (i : Nat) (L : List Ev), (∀ r ∈ rs, ∀ d, eventS r = some d → P d) → readGE i rs = .inr L → (∀ d ∈ L, P d) ∧ L.length ≤ rs.length
  | [], i, L, _, h => by
    rw [readGE] at h
    injection h with h
    subst h
    exact ⟨fun d hd => by simp at hd, Nat.le_refl _⟩
  | r :: rs, i, L, hp, h => by
    have hp' : ∀ x ∈ rs, ∀ d, eventS x = some d → P d := fun x hx => hp x (List.mem_cons_of_mem _ hx)
    by_cases he : r = []
    · rw [readGE_skip he] at h
      obtain ⟨h1, h2⟩ := readGE_ok rs (i + 1) L hp' h
      exact ⟨h1, by rw [List.length_cons]; omega⟩
    · cases hd : eventS r with
      | none => rw [readGE_none he hd] at h; cases h
      | some d =>
        rw [readGE_some he hd] at h
        cases hr : readGE (i + 1) rs with
        | inl j => rw [hr] at h; cases h
        | inr T =>
          rw [hr] at h
          injection h with h
          subst h
          obtain ⟨h1, h2⟩ := readGE_ok rs (i + 1) T hp' hr
          refine ⟨fun x hx => ?_, by simp; omega⟩
          rcases List.mem_cons.1 hx with hx | hx
          · subst hx
            exact hp r List.mem_cons_self _ hd
          · exact h1 x hx
theorem readSE_ok {s : Bs} (hl : s.length ≤ 9000) : (∀ d ∈ (readSE s).1, okV d) ∧ (readSE s).1.length ≤ s.length + 1 := by
  unfold readSE
  cases h : readGE 0 (splitS 10 s) with
  | inl i => exact ⟨fun d hd => by simp [outGE] at hd, by simp [outGE]⟩
  | inr L =>
    obtain ⟨h1, h2⟩ := readGE_ok (P := okV) _ _ L (fun r hr d hd => okv_of hd (Nat.le_trans (mem_split_len hr) hl)) h
    exact ⟨h1, Nat.le_trans h2 (split_len 10 s)⟩
theorem lit_kV {W : World} {e : Ev} {A : Option Addr} {c : Nat} (h : EM W e A c) : kV.C (W.alloc (.cells (eC e A c) 30)) (some ⟨W.heap.size, 0, none⟩) 1 [e] := by
  refine ⟨rfl, by decide, fun _ => ⟨_, rfl, fun j p hj => ?_⟩⟩
  rcases j with _ | j
  · have hp : e = p := by simpa using hj
    subst hp
    refine ⟨(eC e A c).toList, rfl, ?_, fun i u hu => ?_⟩
    · have hv : (Kd.int .u8).C (W.alloc (.cells (eC e A c) 30)) A (bI e.value).length (bI e.value) := by rw [bI_len]; exact Kd.C_below h.val (bel_alloc W _)
      have := PR.k30_mk (W.alloc (.cells (eC e A c) 30)) (evOf e) (A6 := A) (c6 := c) (by show (bI e.value).length ≤ c; rw [bI_len]; exact h.cap) hv
      have e2 : (evOf e).f2.f4.length = e.value.length := bI_len e.value
      rw [e2] at this
      exact this
    · rw [add_plain, World.cell?, heap_alloc_new]
      show (eC e A c)[0 * kV.sz + i]? = some u
      rw [Nat.zero_mul, Nat.zero_add, ← Array.getElem?_toList]
      exact hu
  · simp at hj
end Go.Proofs.YtgfljpchdiapeaaDoor
