/- The walk of the document's Deed. Where a fault is: trouble.Chain and Where at one link. The deeds of a text: deeds.Read. The deeds of a text, by the document: Read. -/
import Derived.Test.YtbckbpimabmacaaDoorG7
import Derived.Test.YtbckbpimabmacaaDoorErr2
namespace Go.Proofs.YtbckbpimabmacaaDoor
set_option linter.unusedVariables false
set_option linter.unusedSimpArgs false
open Go.RowKit Go.Proofs.YtbckbpimabmacaaDoorW.PrintWords
attribute [local go_sem ↓] Go.wp_at_zero Go.wp_at_succ
attribute [local go_sem] bsV_get bsV_size bsV_toList

theorem info_str1 : ∃ i, Tryd.prog.info? 9 = some i ∧ i.size = 1 := by
  obtain ⟨i, h, e⟩ := Option.map_eq_some_iff.1 info_str
  injection e with _ e
  injection e with e _
  exact ⟨i, h, e⟩
theorem info_int1 : ∃ i, Tryd.prog.info? 3 = some i ∧ i.size = 1 := by
  obtain ⟨i, h, e⟩ := Option.map_eq_some_iff.1 info_int
  injection e with _ e
  injection e with e _
  exact ⟨i, h, e⟩
theorem row_form {k : IntKind} {e : Nat} {W : World} {base : Nat} {B : Option Addr} {n c : Nat} {xs : List Int} (h : Kd.R (Kd.int k) e W base (fun _ => True) (.slice B n c) xs) (hp : 0 < xs.length) : ∃ g, B = some ⟨g, 0, none⟩ ∧ g < W.heap.size ∧ ∀ (j : Nat) (hj : j < xs.length), W.cell? ⟨g, j, none⟩ = some (.int k xs[j]) := by
  have ho := Kd.own_of_R h
  obtain ⟨g, cap, e1, _, hlt⟩ := ho.form hp
  injection e1 with e1 e2 e3
  subst e1
  refine ⟨g, rfl, hlt, fun j hj => ?_⟩
  have hc := ho.cells (g := g) rfl j (.int k xs[j]) (by rw [encs, List.getElem?_map, List.getElem?_eq_getElem hj]; rfl)
  rwa [add_plain] at hc
theorem sub_off {k : IntKind} {e t b : Nat} {w W : World} {base : Nat} {xs : List Int} {cs : List Value} {bc : Array Value} (h : (subK k e).M w base (fun _ => True) xs cs) (hb : w.heap[b]? = some (.cells bc t (0, 0))) (ht : e ≠ t) (hm : ∀ j, j ≠ b → j < w.heap.size → W.heap[j]? = w.heap[j]?) : (subK k e).M W base (fun _ => True) xs cs :=
  (subK k e).M_mono (fun _ _ => trivial) (Kd.M_step (Kd.M_types h hb (fun q hq => by rw [List.mem_singleton.1 hq]; exact ht)) (fun j hj hlt => hm j hj.2 hlt))
theorem len1 {α : Type} {l : List α} (h : l.length = 1) : ∃ x, l = [x] := List.length_eq_one_iff.1 h
theorem len2 {α : Type} {l : List α} (h : l.length = 2) : ∃ x y, l = [x, y] := by
  rcases l with _ | ⟨a, _ | ⟨b, _ | ⟨c, r⟩⟩⟩ <;> simp at h
  exact ⟨a, b, rfl⟩
theorem len3 {α : Type} {l : List α} (h : l.length = 3) : ∃ x y z, l = [x, y, z] := by
  rcases l with _ | ⟨a, _ | ⟨b, _ | ⟨c, _ | ⟨d, r⟩⟩⟩⟩ <;> simp at h
  exact ⟨a, b, c, rfl⟩
set_option maxHeartbeats 8000000 in
set_option maxRecDepth 100000 in
theorem refDeed_any (s : Bs) (w : World) (hl : s.length ≤ 1000000) : Calls Tryd.prog 25 #[.string (bsV s)] w (DP (deedS s) w) := by
  obtain ⟨wd, ws0, hsp⟩ := split_cons 32 s
  have HDS := Lib.hid (deedS_eq hsp)
  have HW0 := Lib.hid (show ∀ x ∈ wd :: ws0, x.length < 100000000 from fun x hx => by have := mem_split_len (c := 32) (s := s) (by rw [hsp]; exact hx); omega)
  have HWL := Lib.hid (show (wd :: ws0).length ≤ 1000001 by rw [← hsp]; have := split_len 32 s; omega)
  have HB0 := Lib.hid (bel_alloc w (.cells z9 45))
  have HR0 := Lib.hid (heap_alloc_new w (.cells z9 45))
  have hWC := words_any s (by omega) (w.alloc (.cells z9 45))
  rw [hsp] at hWC
  have HWC := Lib.hid hWC
  clear hWC hsp hl
  unfold z9 at HWC HB0
  go_enter Tryd.func25, Tryd.ntmps25
  go_wp2_with fail
  refine HWC.out.mono ?_
  rintro e w1 ⟨A, c, rfl, hc, hC, hb⟩
  have HB1 := Lib.hid (HB0.out.trans (hb.mono HB0.out.size))
  have HR1 := Lib.hid ((hb.block w.heap.size (by simp)).trans HR0.out)
  have HC := Lib.hid hC
  have hcc : ws0.length + 1 ≤ c := hc
  obtain ⟨ad, rfl, hc0⟩ := str_at hC (i := 0) (by simp)
  have HC0 := Lib.hid (show w1.cell? ad = some (.string (bsV wd)) from hc0)
  have HFB := Lib.hid (find_le wd)
  clear hb hC hc hc0 HWC HB0 HR0
  obtain ⟨kf, hkf⟩ : ∃ kf, kf = findS wd := ⟨_, rfl⟩
  rw [← hkf] at HDS HFB
  have HKF := Lib.hid hkf
  clear hkf
  go_wp2_with fail
  go_loopw [5, 6] (fun kv iv wr => ∃ (k : Nat) (q : Int), 1 ≤ k ∧ k ≤ 20 ∧ iv = .int .i64 k ∧ kv = .int .i64 q ∧ Hid (q = (if kf < k then kf else 0) ∧ Below w1.heap.size w1 wr)) (fun _ iv _ => 20 - (intOf iv).toNat)
  case atStart => exact ⟨1, 0, by omega, by omega, rfl, rfl, by have := HFB.out; split <;> omega, Below.refl _ _⟩
  case round =>
    obtain ⟨k, q, hk1, hk2, rfl, rfl, HI⟩ := hrel
    have q0 : wr.cell? ad = some (.string (bsV wd)) := (HI.out.2.cell (World.block_lt_of_cell? w1 _ HC0.out)).trans HC0.out
    by_cases hlt : k ≤ 19
    · have i1 : (k : Int) ≤ 19 := by omega
      have hwk : IntKind.i64.wrap ((k : Int) + 1) = (k : Int) + 1 := by rw [IntKind.wrap_i64]; omega
      have HCW := Lib.hid (show ∀ W, Below wr.heap.size wr W → Calls Tryd.prog 14 #[.int .i64 (k : Int)] W fun e w' => e = .returned (.string (bsV (wordS k))) ∧ Below wr.heap.size wr w' from fun W hW => (refWord_any _ W).mono fun e w' ⟨he, hb⟩ => ⟨he, hW.trans (hb.mono hW.size)⟩)
      have HQ0 := Lib.hid (show ∀ W, Below wr.heap.size wr W → W.cell? ad = some (.string (bsV wd)) from fun W hW => (hW.cell (World.block_lt_of_cell? wr _ q0)).trans q0)
      have z0 : Hid (Below wr.heap.size wr wr.drew) := (Drawn0.below ⟨1, rfl⟩)
      have HBW := Lib.hid HI.out.2
      by_cases heq : wordS k = wd
      · have HF := Lib.hid (show ((k : Nat) : Int) = (if kf < ((k + 1 : Nat) : Int) then kf else 0) by rw [HKF.out, ← heq, find_word (by omega) (by omega), if_pos (by omega)])
        have hbq : (wordS (k : Int) == wd) = true := by simpa using heq
        clear heq HI
        go_wp2_with fail
        go_region_held3 (fun w' => w'.cell? ad = some (.string (bsV wd)))
          (first | exact q0 | exact HQ0.out _ z0.out | exact HQ0.out _ z1.out)
          ((go_at_call 14; ((with_reducible refine (HCW.out _ ?_).mono ?_)); (case refine_1 => exact z0.out); rintro e y1 ⟨rfl, hb⟩; have z1 := Lib.hid hb; clear hb))
        all_goals
          go_wp2_with fail
          go_roundw
          case rel => exact ⟨k + 1, k, by omega, by omega, by go_num, rfl, HF.out, HBW.out.trans (z1.out.mono HBW.out.size)⟩
          case measure => simp [intOf]; omega
      · have HF := Lib.hid (show q = (if kf < ((k + 1 : Nat) : Int) then kf else 0) by
          have hne : kf ≠ (k : Int) := fun e => heq (by
            have h1 := find_some (w := wd) (by rw [← HKF.out]; omega)
            rw [← HKF.out, e] at h1
            exact h1)
          rw [HI.out.1]
          by_cases h1 : kf < (k : Int)
          · rw [if_pos h1, if_pos (by omega)]
          · rw [if_neg h1, if_neg (by omega)])
        have hbq : (wordS (k : Int) == wd) = false := by simpa using heq
        clear heq HI
        go_wp2_with fail
        go_region_held3 (fun w' => w'.cell? ad = some (.string (bsV wd)))
          (first | exact q0 | exact HQ0.out _ z0.out | exact HQ0.out _ z1.out)
          ((go_at_call 14; ((with_reducible refine (HCW.out _ ?_).mono ?_)); (case refine_1 => exact z0.out); rintro e y1 ⟨rfl, hb⟩; have z1 := Lib.hid hb; clear hb))
        all_goals
          go_wp2_with fail
          go_roundw
          case rel => exact ⟨k + 1, q, by omega, by omega, by go_num, rfl, HF.out, HBW.out.trans (z1.out.mono HBW.out.size)⟩
          case measure => simp [intOf]; omega
    · obtain rfl : k = 20 := by omega
      have i1 : ¬ ((20 : Nat) : Int) ≤ 19 := by omega
      have hq : q = kf := by
        rw [HI.out.1, if_pos (by have := HFB.out; omega)]
      subst hq
      have HBW := Lib.hid (HB1.out.trans (HI.out.2.mono HB1.out.size))
      have HZ := Lib.hid ((HI.out.2.block w.heap.size (Array.getElem?_eq_some_iff.1 HR1.out).1).trans HR1.out)
      have HCR := Lib.hid (Kd.C_below HC.out HI.out.2)
      clear HI HB1 HR1 HC q0 HC0
      by_cases h0 : q = 0
      · have HN := Lib.hid (show deedS s = none by rw [HDS.out, if_pos h0])
        subst h0
        obtain ⟨y0, y1, y2, y3, y4, y5, y6, y7, y8, x0, x1, x2, x3, x4, x5, x6, x7, x8⟩ := z9_facts HZ.out
        go_wp2_with fail
        obtain ⟨q1, q2, q3⟩ := set9 HZ.out (.int .i64 0) (.int .i64 0) (.string ⟨#[]⟩) (.slice none 0 0) (.int .i64 0) (.int .i64 0) (.int .u8 0) (.int .u8 0) (.slice none 0 0)
        refine bodyPost_ret (results_ct rfl _ _ w.heap.size 45 #[.int .i64 0, .int .i64 0, .string ⟨#[]⟩, .slice none 0 0, .int .i64 0, .int .i64 0, .int .u8 0, .int .u8 0, .slice none 0 0] (0, 0) _ rfl q1 Tryd.underlying45 rfl (by kernel_rfl)) rfl ?_
        exact dp_none (HN.out) rfl (q3 HBW.out (Nat.le_refl _))
      · have h0b : (q == 0) = false := by simpa using h0
        have HDS2 := Lib.hid (show deedS s = readD q ws0 by rw [HDS.out, if_neg h0])
        have hq1 : 1 ≤ q := by have := HFB.out; omega
        have hq2 : q ≤ 19 := HFB.out.2
        obtain ⟨m, hm⟩ : ∃ m, m = manyS q := ⟨_, rfl⟩
        have HM := Lib.hid hm
        have HMA := Lib.hid (show ∀ W, Calls Tryd.prog 54 #[.int .i64 q] W fun e w' => e = .returned (.int .i64 m) ∧ Below W.heap.size W w' from fun W => by rw [hm]; exact many_any q W)
        have hwl : (ws0.length : Int) + 1 ≤ 1000001 := by have := HWL.out; simp at this; omega
        clear hm h0 HDS
        by_cases hlt : (ws0.length : Int) < m
        · have HN := Lib.hid (show deedS s = none by
            rw [HDS2.out]
            refine Classical.byContradiction fun h => ?_
            have := (read_len h hq1).1
            rw [← HM.out] at this
            omega)
          go_wp2_with fail
          refine (HMA.out _).mono ?_
          rintro e w2 ⟨rfl, hb⟩
          have HZ2 := Lib.hid ((hb.block w.heap.size (Array.getElem?_eq_some_iff.1 HZ.out).1).trans HZ.out)
          have HB2 := Lib.hid (HBW.out.trans (hb.mono HBW.out.size))
          clear hb
          obtain ⟨y0, y1, y2, y3, y4, y5, y6, y7, y8, x0, x1, x2, x3, x4, x5, x6, x7, x8⟩ := z9_facts HZ2.out
          go_wp2_with fail
          obtain ⟨q1, q2, q3⟩ := set9 HZ2.out (.int .i64 0) (.int .i64 0) (.string ⟨#[]⟩) (.slice none 0 0) (.int .i64 0) (.int .i64 0) (.int .u8 0) (.int .u8 0) (.slice none 0 0)
          refine bodyPost_ret (results_ct rfl _ _ w.heap.size 45 #[.int .i64 0, .int .i64 0, .string ⟨#[]⟩, .slice none 0 0, .int .i64 0, .int .i64 0, .int .u8 0, .int .u8 0, .slice none 0 0] (0, 0) _ rfl q1 Tryd.underlying45 rfl (by kernel_rfl)) rfl ?_
          exact dp_none (HN.out) rfl (q3 HB2.out (Nat.le_refl _))
        · by_cases hgt : q ≠ 16 ∧ m < (ws0.length : Int)
          · obtain ⟨hg1, hg2⟩ := hgt
            have hg3 : (q != 16) = true := by simpa using hg1
            have HN := Lib.hid (show deedS s = none by
              rw [HDS2.out]
              refine Classical.byContradiction fun h => ?_
              have := (read_len h hq1).2 hg1
              rw [← HM.out] at this
              omega)
            clear hg1
            go_wp2_with fail
            refine (HMA.out _).mono ?_
            rintro e w2 ⟨rfl, hb⟩
            have HZ2 := Lib.hid ((hb.block w.heap.size (Array.getElem?_eq_some_iff.1 HZ.out).1).trans HZ.out)
            have HB2 := Lib.hid (HBW.out.trans (hb.mono HBW.out.size))
            clear hb
            go_wp2_with fail
            refine (HMA.out _).mono ?_
            rintro e w3 ⟨rfl, hb⟩
            have HZ3 := Lib.hid ((hb.block w.heap.size (Array.getElem?_eq_some_iff.1 HZ2.out).1).trans HZ2.out)
            have HB3 := Lib.hid (HB2.out.trans (hb.mono HB2.out.size))
            clear hb
            obtain ⟨y0, y1, y2, y3, y4, y5, y6, y7, y8, x0, x1, x2, x3, x4, x5, x6, x7, x8⟩ := z9_facts HZ3.out
            go_wp2_with fail
            obtain ⟨q1, q2, q3⟩ := set9 HZ3.out (.int .i64 0) (.int .i64 0) (.string ⟨#[]⟩) (.slice none 0 0) (.int .i64 0) (.int .i64 0) (.int .u8 0) (.int .u8 0) (.slice none 0 0)
            refine bodyPost_ret (results_ct rfl _ _ w.heap.size 45 #[.int .i64 0, .int .i64 0, .string ⟨#[]⟩, .slice none 0 0, .int .i64 0, .int .i64 0, .int .u8 0, .int .u8 0, .slice none 0 0] (0, 0) _ rfl q1 Tryd.underlying45 rfl (by kernel_rfl)) rfl ?_
            exact dp_none (HN.out) rfl (q3 HB3.out (Nat.le_refl _))
          · have HSH := Lib.hid (show m ≤ (ws0.length : Int) ∧ (q = 16 ∨ (ws0.length : Int) ≤ m) by
              refine ⟨by omega, ?_⟩
              by_cases e : q = 16
              · exact .inl e
              · exact .inr (by
                  have : ¬ m < (ws0.length : Int) := fun h => hgt ⟨e, h⟩
                  omega))
            obtain ⟨istr, hi1, hi2⟩ := info_str1
            obtain ⟨A', hct, hcC, hcB⟩ := cut_row 50 9 Tryd.underlying50 hi1 hi2 (some ad) (ws0.length + 1) c 1 (by omega) hcc
            have HCUT := Lib.hid (show ∀ W : World, (Instr.slice 50 (.slice (some ad) (ws0.length + 1) c) (some (.int .i64 1)) none none).run Tryd.prog W = .ok (.slice A' ws0.length (c - 1)) W from hct)
            have HCC := Lib.hid (fun (W : World) (xs : List ByteArray) (h : Kd.string.C W (some ad) (ws0.length + 1) xs) => hcC Kd.string W xs rfl h)
            clear hct hcC hcB hi1 hi2
            by_cases h16 : q = 16
            · subst h16
              go_wp2_with fail
              refine (HMA.out _).mono ?_
              rintro e wq ⟨rfl, hb⟩
              have HZQ := Lib.hid ((hb.block w.heap.size (Array.getElem?_eq_some_iff.1 HZ.out).1).trans HZ.out)
              have HBQ := Lib.hid (HBW.out.trans (hb.mono HBW.out.size))
              have HCQ := Lib.hid (Kd.C_below HCR.out hb)
              clear hb HZ HBW HCR hgt
              have HNB := Lib.hid (numbers_any ws0 A' (c - 1) wq (HCC.out wq ((wd :: ws0).map bsV) HCQ.out) (by omega) (by omega) (fun x hx => HW0.out x (List.mem_cons_of_mem _ hx)))
              have hcut3 := HCUT.out
              clear HMA hwl hq1 hq2
              go_wp2_with fail
              refine HNB.out.mono ?_
              rintro e w5 ⟨B, cb, l, ok, rfl, hl, hR, hb⟩
              have HZ5 := Lib.hid ((hb.block w.heap.size (Array.getElem?_eq_some_iff.1 HZQ.out).1).trans HZQ.out)
              have HB5 := Lib.hid (HBQ.out.trans (hb.mono HBQ.out.size))
              have HR5 := Lib.hid (Kd.R_lower hR HBQ.out.size)
              have HL5 := Lib.hid hl
              have hz5 : w.heap.size < w5.heap.size := (Array.getElem?_eq_some_iff.1 HZ5.out).1
              clear hb hR hl HNB hcut3
              obtain ⟨y0, y1, y2, y3, y4, y5, y6, y7, y8, x0, x1, x2, x3, x4, x5, x6, x7, x8⟩ := z9_facts HZ5.out
              cases ok with
              | false =>
                have HN := Lib.hid (show deedS s = none by
                  rw [HDS2.out]
                  rcases HL5.out with ⟨e, _⟩ | ⟨_, e⟩
                  · cases e
                  · exact read_nums_none (by omega) e)
                go_wp2_with fail
                obtain ⟨q1, q2, q3⟩ := set9 HZ5.out (.int .i64 0) (.int .i64 0) (.string ⟨#[]⟩) (.slice none 0 0) (.int .i64 0) (.int .i64 0) (.int .u8 0) (.int .u8 0) (.slice none 0 0)
                refine bodyPost_ret (results_ct rfl _ _ w.heap.size 45 #[.int .i64 0, .int .i64 0, .string ⟨#[]⟩, .slice none 0 0, .int .i64 0, .int .i64 0, .int .u8 0, .int .u8 0, .slice none 0 0] (0, 0) _ rfl q1 Tryd.underlying45 rfl (by kernel_rfl)) rfl ?_
                exact dp_none HN.out rfl (q3 HB5.out (Nat.le_refl _))
              | true =>
                have hnl : numsS ws0 = some l := by
                  rcases HL5.out with ⟨_, e⟩ | ⟨e, _⟩
                  · exact e
                  · cases e
                have HLL := Lib.hid (nums_len hnl)
                have HE0 := Lib.hid (show deedS s = nrd 16 l by rw [HDS2.out, read_nums (by omega) hnl])
                clear hnl HL5
                obtain ⟨x, r, rfl⟩ : ∃ x r, l = x :: r := by
                  cases l with
                  | nil =>
                    have h1 := HLL.out
                    have h2 := HSH.out.1
                    have h3 := HM.out
                    simp [manyS] at h1 h2 h3
                    omega
                  | cons x r => exact ⟨x, r, rfl⟩
                obtain ⟨iint, hi1, hi2⟩ := info_int1
                obtain ⟨g, rfl, hg, hcl⟩ := row_form HR5.out (by simp)
                have hne : g ≠ w5.heap.size := Nat.ne_of_lt hg
                have n0 : w5.cell? ⟨g, 0, none⟩ = some (.int .i64 x) := hcl 0 (by simp)
                have hcb : r.length + 1 ≤ cb := (Kd.R_reads' HR5.out).2.1
                obtain ⟨A2, hct, hcC, hcB⟩ := cut_row 43 3 Tryd.underlying43 hi1 hi2 (some ⟨g, 0, none⟩) (r.length + 1) cb 1 (by omega) hcb
                have HKM := Lib.hid (show (subK .i64 3).M w5 w.heap.size (fun _ => True) r [.slice A2 r.length (cb - 1)] from sub_cut HR5.out (by simp) hcC hcB)
                have hct2 : ∀ W : World, (Instr.slice 43 (.slice (some ⟨g, 0, none⟩) (r.length + 1) cb) (some (.int .i64 1)) none none).run Tryd.prog W = .ok (.slice A2 r.length (cb - 1)) W := hct
                have HE := Lib.hid (show deedS s = some { zD with kind := 16, node := x, keep := r } from HE0.out)
                clear hcl hct hcC hcB hi1 hi2
                go_wp2_with fail
                obtain ⟨q1, q2, q3⟩ := set9 HZ5.out (.int .i64 16) (.int .i64 x) (.string ⟨#[]⟩) (.slice none 0 0) (.int .i64 0) (.int .i64 0) (.int .u8 0) (.int .u8 0) (.slice A2 r.length (cb - 1))
                have q4 := (q3 (Below.refl w.heap.size w5) (Nat.le_refl _)).size
                refine bodyPost_ret (results_ct rfl _ _ w.heap.size 45 #[.int .i64 16, .int .i64 x, .string ⟨#[]⟩, .slice none 0 0, .int .i64 0, .int .i64 0, .int .u8 0, .int .u8 0, .slice A2 r.length (cb - 1)] (0, 0) _ rfl ((Below.heap_alloc _ _ _ (by omega)).trans q1) Tryd.underlying45 rfl (by kernel_rfl)) rfl ?_
                exact dp_some (d := { zD with kind := 16, node := x, keep := r }) HE.out rfl sub_nil (sub_off HKM.out HZ5.out (by decide) (fun j hj hlt => (Below.heap_alloc _ _ _ (by omega)).trans (q2 j hj))) ((q3 HB5.out (Nat.le_refl _)).alloc (by omega) _)
            · have h16b : (q != 16) = true := by simpa using h16
              have hgt2 : ¬ m < (ws0.length : Int) := fun h => hgt ⟨h16, h⟩
              have HSH2 := Lib.hid (show (ws0.length : Int) = m from by have := HSH.out; omega)
              go_wp2_with fail
              refine (HMA.out _).mono ?_
              rintro e w2 ⟨rfl, hb⟩
              have HZ2 := Lib.hid ((hb.block w.heap.size (Array.getElem?_eq_some_iff.1 HZ.out).1).trans HZ.out)
              have HB2 := Lib.hid (HBW.out.trans (hb.mono HBW.out.size))
              have HC2 := Lib.hid (Kd.C_below HCR.out hb)
              clear hb HZ HBW HCR
              go_wp2_with fail
              refine (HMA.out _).mono ?_
              rintro e wq ⟨rfl, hb⟩
              have HZQ := Lib.hid ((hb.block w.heap.size (Array.getElem?_eq_some_iff.1 HZ2.out).1).trans HZ2.out)
              have HBQ := Lib.hid (HB2.out.trans (hb.mono HB2.out.size))
              have HCQ := Lib.hid (Kd.C_below HC2.out hb)
              clear hb HZ2 HB2 HC2 hgt
              by_cases h3 : q ≤ 3
              · clear hwl
                obtain rfl | rfl | rfl : q = 1 ∨ q = 2 ∨ q = 3 := by omega
                · obtain rfl : m = 2 := by have := HM.out; simpa [manyS] using this
                  obtain ⟨a, b, rfl⟩ := len2 (l := ws0) (by have := HSH2.out; omega)
                  have hcut3 : ∀ W : World, (Instr.slice 50 (.slice (some ad) 3 c) (some (.int .i64 1)) none none).run Tryd.prog W = .ok (.slice A' 2 (c - 1)) W := HCUT.out
                  have HKY := Lib.hid (show Calls Tryd.prog 55 #[.int .i64 1, .slice A' 2 (c - 1)] wq (DP (readD 1 [a, b]) wq) from keyed1 a b A' (c - 1) wq (HCC.out wq ((wd :: [a, b]).map bsV) HCQ.out) (by show 2 ≤ c - 1; simp at hcc; omega) (fun x hx => HW0.out x (List.mem_cons_of_mem _ hx)))
                  obtain ⟨r, hr⟩ : ∃ r, r = readD 1 [a, b] := ⟨_, rfl⟩
                  rw [← hr] at HKY
                  have HE := Lib.hid (show deedS s = r by rw [HDS2.out, hr])
                  clear hr HMA
                  go_wp2_with fail
                  refine HKY.out.mono ?_
                  rintro e w5 ⟨A1, A2, c1, c2, rfl, hM, hb⟩
                  obtain ⟨d, hd⟩ : ∃ d, d = r.getD zD := ⟨_, rfl⟩
                  obtain ⟨ob, hob⟩ : ∃ ob, ob = r.isSome := ⟨_, rfl⟩
                  rw [← hd] at hM ⊢
                  rw [← hob]
                  have HDD := Lib.hid hd
                  have HOB := Lib.hid hob
                  have HMM := Lib.hid (kE.M_lower HBQ.out.size hM)
                  have HZ5 := Lib.hid ((hb.block w.heap.size (Array.getElem?_eq_some_iff.1 HZQ.out).1).trans HZQ.out)
                  have HB5 := Lib.hid (HBQ.out.trans (hb.mono HBQ.out.size))
                  clear hd hob hM hb
                  unfold dC
                  obtain ⟨y0, y1, y2, y3, y4, y5, y6, y7, y8, x0, x1, x2, x3, x4, x5, x6, x7, x8⟩ := z9_facts HZ5.out
                  go_wp2_with fail
                  obtain ⟨q1, q2, q3⟩ := set9 HZ5.out (.int .i64 d.kind) (.int .i64 d.node) (.string (bsV d.key)) (.slice A1 d.value.length c1) (.int .i64 d.n) (.int .i64 d.at_) (.int .u8 d.by_) (.int .u8 d.draw) (.slice A2 d.keep.length c2)
                  refine bodyPost_ret (results_ct rfl _ _ w.heap.size 45 #[.int .i64 d.kind, .int .i64 d.node, .string (bsV d.key), .slice A1 d.value.length c1, .int .i64 d.n, .int .i64 d.at_, .int .u8 d.by_, .int .u8 d.draw, .slice A2 d.keep.length c2] (0, 0) _ rfl q1 Tryd.underlying45 rfl (by kernel_rfl)) rfl ?_
                  rw [HE.out]
                  refine ⟨A1, A2, c1, c2, ?_, ?_, q3 HB5.out (Nat.le_refl _)⟩
                  · rw [← HDD.out, ← HOB.out]
                    rfl
                  · rw [← HDD.out]
                    exact kE_off HMM.out HZ5.out q2
                · obtain rfl : m = 2 := by have := HM.out; simpa [manyS] using this
                  obtain ⟨a, b, rfl⟩ := len2 (l := ws0) (by have := HSH2.out; omega)
                  have hcut3 : ∀ W : World, (Instr.slice 50 (.slice (some ad) 3 c) (some (.int .i64 1)) none none).run Tryd.prog W = .ok (.slice A' 2 (c - 1)) W := HCUT.out
                  have HKY := Lib.hid (show Calls Tryd.prog 55 #[.int .i64 2, .slice A' 2 (c - 1)] wq (DP (readD 2 [a, b]) wq) from keyed2 a b A' (c - 1) wq (HCC.out wq ((wd :: [a, b]).map bsV) HCQ.out) (by show 2 ≤ c - 1; simp at hcc; omega) (fun x hx => HW0.out x (List.mem_cons_of_mem _ hx)))
                  obtain ⟨r, hr⟩ : ∃ r, r = readD 2 [a, b] := ⟨_, rfl⟩
                  rw [← hr] at HKY
                  have HE := Lib.hid (show deedS s = r by rw [HDS2.out, hr])
                  clear hr HMA
                  go_wp2_with fail
                  refine HKY.out.mono ?_
                  rintro e w5 ⟨A1, A2, c1, c2, rfl, hM, hb⟩
                  obtain ⟨d, hd⟩ : ∃ d, d = r.getD zD := ⟨_, rfl⟩
                  obtain ⟨ob, hob⟩ : ∃ ob, ob = r.isSome := ⟨_, rfl⟩
                  rw [← hd] at hM ⊢
                  rw [← hob]
                  have HDD := Lib.hid hd
                  have HOB := Lib.hid hob
                  have HMM := Lib.hid (kE.M_lower HBQ.out.size hM)
                  have HZ5 := Lib.hid ((hb.block w.heap.size (Array.getElem?_eq_some_iff.1 HZQ.out).1).trans HZQ.out)
                  have HB5 := Lib.hid (HBQ.out.trans (hb.mono HBQ.out.size))
                  clear hd hob hM hb
                  unfold dC
                  obtain ⟨y0, y1, y2, y3, y4, y5, y6, y7, y8, x0, x1, x2, x3, x4, x5, x6, x7, x8⟩ := z9_facts HZ5.out
                  go_wp2_with fail
                  obtain ⟨q1, q2, q3⟩ := set9 HZ5.out (.int .i64 d.kind) (.int .i64 d.node) (.string (bsV d.key)) (.slice A1 d.value.length c1) (.int .i64 d.n) (.int .i64 d.at_) (.int .u8 d.by_) (.int .u8 d.draw) (.slice A2 d.keep.length c2)
                  refine bodyPost_ret (results_ct rfl _ _ w.heap.size 45 #[.int .i64 d.kind, .int .i64 d.node, .string (bsV d.key), .slice A1 d.value.length c1, .int .i64 d.n, .int .i64 d.at_, .int .u8 d.by_, .int .u8 d.draw, .slice A2 d.keep.length c2] (0, 0) _ rfl q1 Tryd.underlying45 rfl (by kernel_rfl)) rfl ?_
                  rw [HE.out]
                  refine ⟨A1, A2, c1, c2, ?_, ?_, q3 HB5.out (Nat.le_refl _)⟩
                  · rw [← HDD.out, ← HOB.out]
                    rfl
                  · rw [← HDD.out]
                    exact kE_off HMM.out HZ5.out q2
                · obtain rfl : m = 1 := by have := HM.out; simpa [manyS] using this
                  obtain ⟨a, rfl⟩ := len1 (l := ws0) (by have := HSH2.out; omega)
                  have hcut3 : ∀ W : World, (Instr.slice 50 (.slice (some ad) 2 c) (some (.int .i64 1)) none none).run Tryd.prog W = .ok (.slice A' 1 (c - 1)) W := HCUT.out
                  have HKY := Lib.hid (show Calls Tryd.prog 55 #[.int .i64 3, .slice A' 1 (c - 1)] wq (DP (readD 3 [a]) wq) from keyed3 a A' (c - 1) wq (HCC.out wq ((wd :: [a]).map bsV) HCQ.out) (by show 1 ≤ c - 1; simp at hcc; omega) (fun x hx => HW0.out x (List.mem_cons_of_mem _ hx)))
                  obtain ⟨r, hr⟩ : ∃ r, r = readD 3 [a] := ⟨_, rfl⟩
                  rw [← hr] at HKY
                  have HE := Lib.hid (show deedS s = r by rw [HDS2.out, hr])
                  clear hr HMA
                  go_wp2_with fail
                  refine HKY.out.mono ?_
                  rintro e w5 ⟨A1, A2, c1, c2, rfl, hM, hb⟩
                  obtain ⟨d, hd⟩ : ∃ d, d = r.getD zD := ⟨_, rfl⟩
                  obtain ⟨ob, hob⟩ : ∃ ob, ob = r.isSome := ⟨_, rfl⟩
                  rw [← hd] at hM ⊢
                  rw [← hob]
                  have HDD := Lib.hid hd
                  have HOB := Lib.hid hob
                  have HMM := Lib.hid (kE.M_lower HBQ.out.size hM)
                  have HZ5 := Lib.hid ((hb.block w.heap.size (Array.getElem?_eq_some_iff.1 HZQ.out).1).trans HZQ.out)
                  have HB5 := Lib.hid (HBQ.out.trans (hb.mono HBQ.out.size))
                  clear hd hob hM hb
                  unfold dC
                  obtain ⟨y0, y1, y2, y3, y4, y5, y6, y7, y8, x0, x1, x2, x3, x4, x5, x6, x7, x8⟩ := z9_facts HZ5.out
                  go_wp2_with fail
                  obtain ⟨q1, q2, q3⟩ := set9 HZ5.out (.int .i64 d.kind) (.int .i64 d.node) (.string (bsV d.key)) (.slice A1 d.value.length c1) (.int .i64 d.n) (.int .i64 d.at_) (.int .u8 d.by_) (.int .u8 d.draw) (.slice A2 d.keep.length c2)
                  refine bodyPost_ret (results_ct rfl _ _ w.heap.size 45 #[.int .i64 d.kind, .int .i64 d.node, .string (bsV d.key), .slice A1 d.value.length c1, .int .i64 d.n, .int .i64 d.at_, .int .u8 d.by_, .int .u8 d.draw, .slice A2 d.keep.length c2] (0, 0) _ rfl q1 Tryd.underlying45 rfl (by kernel_rfl)) rfl ?_
                  rw [HE.out]
                  refine ⟨A1, A2, c1, c2, ?_, ?_, q3 HB5.out (Nat.le_refl _)⟩
                  · rw [← HDD.out, ← HOB.out]
                    rfl
                  · rw [← HDD.out]
                    exact kE_off HMM.out HZ5.out q2
              · have h3b : ¬ q ≤ 3 := h3
                have HNB := Lib.hid (numbers_any ws0 A' (c - 1) wq (HCC.out wq ((wd :: ws0).map bsV) HCQ.out) (by omega) (by omega) (fun x hx => HW0.out x (List.mem_cons_of_mem _ hx)))
                have hcut3 := HCUT.out
                clear HMA hwl hq1 hq2
                go_wp2_with fail
                refine HNB.out.mono ?_
                rintro e w5 ⟨B, cb, l, ok, rfl, hl, hR, hb⟩
                have HZ5 := Lib.hid ((hb.block w.heap.size (Array.getElem?_eq_some_iff.1 HZQ.out).1).trans HZQ.out)
                have HB5 := Lib.hid (HBQ.out.trans (hb.mono HBQ.out.size))
                have HR5 := Lib.hid (Kd.R_lower hR HBQ.out.size)
                have HL5 := Lib.hid hl
                have hz5 : w.heap.size < w5.heap.size := (Array.getElem?_eq_some_iff.1 HZ5.out).1
                clear hb hR hl HNB hcut3
                obtain ⟨y0, y1, y2, y3, y4, y5, y6, y7, y8, x0, x1, x2, x3, x4, x5, x6, x7, x8⟩ := z9_facts HZ5.out
                cases ok with
                | false =>
                  have HN := Lib.hid (show deedS s = none by
                    rw [HDS2.out]
                    rcases HL5.out with ⟨e, _⟩ | ⟨_, e⟩
                    · cases e
                    · exact read_nums_none (by omega) e)
                  go_wp2_with fail
                  obtain ⟨q1, q2, q3⟩ := set9 HZ5.out (.int .i64 0) (.int .i64 0) (.string ⟨#[]⟩) (.slice none 0 0) (.int .i64 0) (.int .i64 0) (.int .u8 0) (.int .u8 0) (.slice none 0 0)
                  refine bodyPost_ret (results_ct rfl _ _ w.heap.size 45 #[.int .i64 0, .int .i64 0, .string ⟨#[]⟩, .slice none 0 0, .int .i64 0, .int .i64 0, .int .u8 0, .int .u8 0, .slice none 0 0] (0, 0) _ rfl q1 Tryd.underlying45 rfl (by kernel_rfl)) rfl ?_
                  exact dp_none HN.out rfl (q3 HB5.out (Nat.le_refl _))
                | true =>
                  have hnl : numsS ws0 = some l := by
                    rcases HL5.out with ⟨_, e⟩ | ⟨e, _⟩
                    · exact e
                    · cases e
                  have HLL := Lib.hid (nums_len hnl)
                  have HE0 := Lib.hid (show deedS s = nrd q l by rw [HDS2.out, read_nums (by omega) hnl])
                  clear hnl HL5
                  rcases kind_cases q with rfl | rfl | rfl | rfl | rfl | rfl | rfl | rfl | rfl | rfl | rfl | ⟨n1, n2, n3, n4, n5, n6, n7, n8, n9, nA, nB⟩
                  · omega
                  · omega
                  · omega
                  · obtain ⟨x, rfl⟩ := len1 (l := l) (by have h1 := HLL.out; have h2 := HSH2.out; have h3 := HM.out; simp [manyS] at h3; omega)
                    obtain ⟨g, rfl, hg, hcl⟩ := row_form HR5.out (by simp)
                    have hne : g ≠ w5.heap.size := Nat.ne_of_lt hg
                    have n0 : w5.cell? ⟨g, 0, none⟩ = some (.int .i64 x) := hcl 0 (by simp)
                    clear hcl
                    have HE := Lib.hid (show deedS s = some { zD with kind := 4, n := x } from HE0.out)
                    go_wp2_with fail
                    obtain ⟨q1, q2, q3⟩ := set9 HZ5.out (.int .i64 4) (.int .i64 0) (.string ⟨#[]⟩) (.slice none 0 0) (.int .i64 x) (.int .i64 0) (.int .u8 0) (.int .u8 0) (.slice none 0 0)
                    have q4 := (q3 (Below.refl w.heap.size w5) (Nat.le_refl _)).size
                    refine bodyPost_ret (results_ct rfl _ _ w.heap.size 45 #[.int .i64 4, .int .i64 0, .string ⟨#[]⟩, .slice none 0 0, .int .i64 x, .int .i64 0, .int .u8 0, .int .u8 0, .slice none 0 0] (0, 0) _ rfl ((Below.heap_alloc _ _ _ (by omega)).trans q1) Tryd.underlying45 rfl (by kernel_rfl)) rfl ?_
                    exact dp_some (d := { zD with kind := 4, n := x }) HE.out rfl sub_nil sub_nil ((q3 HB5.out (Nat.le_refl _)).alloc (by omega) _)
                  · obtain ⟨x, rfl⟩ := len1 (l := l) (by have h1 := HLL.out; have h2 := HSH2.out; have h3 := HM.out; simp [manyS] at h3; omega)
                    obtain ⟨g, rfl, hg, hcl⟩ := row_form HR5.out (by simp)
                    have hne : g ≠ w5.heap.size := Nat.ne_of_lt hg
                    have n0 : w5.cell? ⟨g, 0, none⟩ = some (.int .i64 x) := hcl 0 (by simp)
                    clear hcl
                    have HE := Lib.hid (show deedS s = some { zD with kind := 5, n := x } from HE0.out)
                    go_wp2_with fail
                    obtain ⟨q1, q2, q3⟩ := set9 HZ5.out (.int .i64 5) (.int .i64 0) (.string ⟨#[]⟩) (.slice none 0 0) (.int .i64 x) (.int .i64 0) (.int .u8 0) (.int .u8 0) (.slice none 0 0)
                    have q4 := (q3 (Below.refl w.heap.size w5) (Nat.le_refl _)).size
                    refine bodyPost_ret (results_ct rfl _ _ w.heap.size 45 #[.int .i64 5, .int .i64 0, .string ⟨#[]⟩, .slice none 0 0, .int .i64 x, .int .i64 0, .int .u8 0, .int .u8 0, .slice none 0 0] (0, 0) _ rfl ((Below.heap_alloc _ _ _ (by omega)).trans q1) Tryd.underlying45 rfl (by kernel_rfl)) rfl ?_
                    exact dp_some (d := { zD with kind := 5, n := x }) HE.out rfl sub_nil sub_nil ((q3 HB5.out (Nat.le_refl _)).alloc (by omega) _)
                  · obtain ⟨x, rfl⟩ := len1 (l := l) (by have h1 := HLL.out; have h2 := HSH2.out; have h3 := HM.out; simp [manyS] at h3; omega)
                    obtain ⟨g, rfl, hg, hcl⟩ := row_form HR5.out (by simp)
                    have hne : g ≠ w5.heap.size := Nat.ne_of_lt hg
                    have n0 : w5.cell? ⟨g, 0, none⟩ = some (.int .i64 x) := hcl 0 (by simp)
                    clear hcl
                    have HE := Lib.hid (show deedS s = some { zD with kind := 6, n := x } from HE0.out)
                    go_wp2_with fail
                    obtain ⟨q1, q2, q3⟩ := set9 HZ5.out (.int .i64 6) (.int .i64 0) (.string ⟨#[]⟩) (.slice none 0 0) (.int .i64 x) (.int .i64 0) (.int .u8 0) (.int .u8 0) (.slice none 0 0)
                    have q4 := (q3 (Below.refl w.heap.size w5) (Nat.le_refl _)).size
                    refine bodyPost_ret (results_ct rfl _ _ w.heap.size 45 #[.int .i64 6, .int .i64 0, .string ⟨#[]⟩, .slice none 0 0, .int .i64 x, .int .i64 0, .int .u8 0, .int .u8 0, .slice none 0 0] (0, 0) _ rfl ((Below.heap_alloc _ _ _ (by omega)).trans q1) Tryd.underlying45 rfl (by kernel_rfl)) rfl ?_
                    exact dp_some (d := { zD with kind := 6, n := x }) HE.out rfl sub_nil sub_nil ((q3 HB5.out (Nat.le_refl _)).alloc (by omega) _)
                  · obtain ⟨x, y, z, rfl⟩ := len3 (l := l) (by have h1 := HLL.out; have h2 := HSH2.out; have h3 := HM.out; simp [manyS] at h3; omega)
                    obtain ⟨g, rfl, hg, hcl⟩ := row_form HR5.out (by simp)
                    have hne : g ≠ w5.heap.size := Nat.ne_of_lt hg
                    have n0 : w5.cell? ⟨g, 0, none⟩ = some (.int .i64 x) := hcl 0 (by simp)
                    have n1 : w5.cell? ⟨g, 1, none⟩ = some (.int .i64 y) := hcl 1 (by simp)
                    have n2 : w5.cell? ⟨g, 2, none⟩ = some (.int .i64 z) := hcl 2 (by simp)
                    clear hcl
                    by_cases hs : 0 ≤ z ∧ z ≤ 255
                    · have hs1 := hs.1
                      have hs2 := hs.2
                      have HE := Lib.hid (show deedS s = some { zD with kind := 7, n := x, at_ := y, by_ := z } by
                        have h := HE0.out
                        rw [h]
                        show (small z).bind _ = _
                        rw [small_ok hs]
                        rfl)
                      clear hs
                      go_wp2_with fail
                      obtain ⟨q1, q2, q3⟩ := set9 HZ5.out (.int .i64 7) (.int .i64 0) (.string ⟨#[]⟩) (.slice none 0 0) (.int .i64 x) (.int .i64 y) (.int .u8 z) (.int .u8 0) (.slice none 0 0)
                      have q4 := (q3 (Below.refl w.heap.size w5) (Nat.le_refl _)).size
                      refine bodyPost_ret (results_ct rfl _ _ w.heap.size 45 #[.int .i64 7, .int .i64 0, .string ⟨#[]⟩, .slice none 0 0, .int .i64 x, .int .i64 y, .int .u8 z, .int .u8 0, .slice none 0 0] (0, 0) _ rfl ((Below.heap_alloc _ _ _ (by omega)).trans q1) Tryd.underlying45 rfl (by kernel_rfl)) rfl ?_
                      exact dp_some (d := { zD with kind := 7, n := x, at_ := y, by_ := z }) HE.out rfl sub_nil sub_nil ((q3 HB5.out (Nat.le_refl _)).alloc (by omega) _)
                    · have HE := Lib.hid (show deedS s = none by
                        have h := HE0.out
                        rw [h]
                        show (small z).bind _ = _
                        rw [small, if_neg hs]
                        rfl)
                      by_cases hs1 : z < 0
                      · clear hs
                        go_wp2_with fail
                        obtain ⟨q1, q2, q3⟩ := set9 HZ5.out (.int .i64 0) (.int .i64 0) (.string ⟨#[]⟩) (.slice none 0 0) (.int .i64 0) (.int .i64 0) (.int .u8 0) (.int .u8 0) (.slice none 0 0)
                        have q4 := (q3 (Below.refl w.heap.size w5) (Nat.le_refl _)).size
                        refine bodyPost_ret (results_ct rfl _ _ w.heap.size 45 #[.int .i64 0, .int .i64 0, .string ⟨#[]⟩, .slice none 0 0, .int .i64 0, .int .i64 0, .int .u8 0, .int .u8 0, .slice none 0 0] (0, 0) _ rfl ((Below.heap_alloc _ _ _ (by omega)).trans q1) Tryd.underlying45 rfl (by kernel_rfl)) rfl ?_
                        exact dp_none HE.out rfl ((q3 HB5.out (Nat.le_refl _)).alloc (by omega) _)
                      · have hs2 : 255 < z := by omega
                        clear hs
                        go_wp2_with fail
                        obtain ⟨q1, q2, q3⟩ := set9 HZ5.out (.int .i64 0) (.int .i64 0) (.string ⟨#[]⟩) (.slice none 0 0) (.int .i64 0) (.int .i64 0) (.int .u8 0) (.int .u8 0) (.slice none 0 0)
                        have q4 := (q3 (Below.refl w.heap.size w5) (Nat.le_refl _)).size
                        refine bodyPost_ret (results_ct rfl _ _ w.heap.size 45 #[.int .i64 0, .int .i64 0, .string ⟨#[]⟩, .slice none 0 0, .int .i64 0, .int .i64 0, .int .u8 0, .int .u8 0, .slice none 0 0] (0, 0) _ rfl ((Below.heap_alloc _ _ _ (by omega)).trans q1) Tryd.underlying45 rfl (by kernel_rfl)) rfl ?_
                        exact dp_none HE.out rfl ((q3 HB5.out (Nat.le_refl _)).alloc (by omega) _)
                  · obtain rfl := List.length_eq_zero_iff.1 (show l.length = 0 from (by have h1 := HLL.out; have h2 := HSH2.out; have h3 := HM.out; simp [manyS] at h3; omega))
                    have HE := Lib.hid (show deedS s = some { zD with kind := 8 } from HE0.out)
                    go_wp2_with fail
                    obtain ⟨q1, q2, q3⟩ := set9 HZ5.out (.int .i64 8) (.int .i64 0) (.string ⟨#[]⟩) (.slice none 0 0) (.int .i64 0) (.int .i64 0) (.int .u8 0) (.int .u8 0) (.slice none 0 0)
                    have q4 := (q3 (Below.refl w.heap.size w5) (Nat.le_refl _)).size
                    refine bodyPost_ret (results_ct rfl _ _ w.heap.size 45 #[.int .i64 8, .int .i64 0, .string ⟨#[]⟩, .slice none 0 0, .int .i64 0, .int .i64 0, .int .u8 0, .int .u8 0, .slice none 0 0] (0, 0) _ rfl ((Below.heap_alloc _ _ _ (by omega)).trans q1) Tryd.underlying45 rfl (by kernel_rfl)) rfl ?_
                    exact dp_some (d := { zD with kind := 8 }) HE.out rfl sub_nil sub_nil ((q3 HB5.out (Nat.le_refl _)).alloc (by omega) _)
                  · obtain ⟨x, y, rfl⟩ := len2 (l := l) (by have h1 := HLL.out; have h2 := HSH2.out; have h3 := HM.out; simp [manyS] at h3; omega)
                    obtain ⟨g, rfl, hg, hcl⟩ := row_form HR5.out (by simp)
                    have hne : g ≠ w5.heap.size := Nat.ne_of_lt hg
                    have n0 : w5.cell? ⟨g, 0, none⟩ = some (.int .i64 x) := hcl 0 (by simp)
                    have n1 : w5.cell? ⟨g, 1, none⟩ = some (.int .i64 y) := hcl 1 (by simp)
                    clear hcl
                    by_cases hs : 0 ≤ y ∧ y ≤ 255
                    · have hs1 := hs.1
                      have hs2 := hs.2
                      have HE := Lib.hid (show deedS s = some { zD with kind := 10, node := x, draw := y } by
                        have h := HE0.out
                        rw [h]
                        show (small y).bind _ = _
                        rw [small_ok hs]
                        rfl)
                      clear hs
                      go_wp2_with fail
                      obtain ⟨q1, q2, q3⟩ := set9 HZ5.out (.int .i64 10) (.int .i64 x) (.string ⟨#[]⟩) (.slice none 0 0) (.int .i64 0) (.int .i64 0) (.int .u8 0) (.int .u8 y) (.slice none 0 0)
                      have q4 := (q3 (Below.refl w.heap.size w5) (Nat.le_refl _)).size
                      refine bodyPost_ret (results_ct rfl _ _ w.heap.size 45 #[.int .i64 10, .int .i64 x, .string ⟨#[]⟩, .slice none 0 0, .int .i64 0, .int .i64 0, .int .u8 0, .int .u8 y, .slice none 0 0] (0, 0) _ rfl ((Below.heap_alloc _ _ _ (by omega)).trans q1) Tryd.underlying45 rfl (by kernel_rfl)) rfl ?_
                      exact dp_some (d := { zD with kind := 10, node := x, draw := y }) HE.out rfl sub_nil sub_nil ((q3 HB5.out (Nat.le_refl _)).alloc (by omega) _)
                    · have HE := Lib.hid (show deedS s = none by
                        have h := HE0.out
                        rw [h]
                        show (small y).bind _ = _
                        rw [small, if_neg hs]
                        rfl)
                      by_cases hs1 : y < 0
                      · clear hs
                        go_wp2_with fail
                        obtain ⟨q1, q2, q3⟩ := set9 HZ5.out (.int .i64 0) (.int .i64 0) (.string ⟨#[]⟩) (.slice none 0 0) (.int .i64 0) (.int .i64 0) (.int .u8 0) (.int .u8 0) (.slice none 0 0)
                        have q4 := (q3 (Below.refl w.heap.size w5) (Nat.le_refl _)).size
                        refine bodyPost_ret (results_ct rfl _ _ w.heap.size 45 #[.int .i64 0, .int .i64 0, .string ⟨#[]⟩, .slice none 0 0, .int .i64 0, .int .i64 0, .int .u8 0, .int .u8 0, .slice none 0 0] (0, 0) _ rfl ((Below.heap_alloc _ _ _ (by omega)).trans q1) Tryd.underlying45 rfl (by kernel_rfl)) rfl ?_
                        exact dp_none HE.out rfl ((q3 HB5.out (Nat.le_refl _)).alloc (by omega) _)
                      · have hs2 : 255 < y := by omega
                        clear hs
                        go_wp2_with fail
                        obtain ⟨q1, q2, q3⟩ := set9 HZ5.out (.int .i64 0) (.int .i64 0) (.string ⟨#[]⟩) (.slice none 0 0) (.int .i64 0) (.int .i64 0) (.int .u8 0) (.int .u8 0) (.slice none 0 0)
                        have q4 := (q3 (Below.refl w.heap.size w5) (Nat.le_refl _)).size
                        refine bodyPost_ret (results_ct rfl _ _ w.heap.size 45 #[.int .i64 0, .int .i64 0, .string ⟨#[]⟩, .slice none 0 0, .int .i64 0, .int .i64 0, .int .u8 0, .int .u8 0, .slice none 0 0] (0, 0) _ rfl ((Below.heap_alloc _ _ _ (by omega)).trans q1) Tryd.underlying45 rfl (by kernel_rfl)) rfl ?_
                        exact dp_none HE.out rfl ((q3 HB5.out (Nat.le_refl _)).alloc (by omega) _)
                  · obtain ⟨x, y, rfl⟩ := len2 (l := l) (by have h1 := HLL.out; have h2 := HSH2.out; have h3 := HM.out; simp [manyS] at h3; omega)
                    obtain ⟨g, rfl, hg, hcl⟩ := row_form HR5.out (by simp)
                    have hne : g ≠ w5.heap.size := Nat.ne_of_lt hg
                    have n0 : w5.cell? ⟨g, 0, none⟩ = some (.int .i64 x) := hcl 0 (by simp)
                    have n1 : w5.cell? ⟨g, 1, none⟩ = some (.int .i64 y) := hcl 1 (by simp)
                    clear hcl
                    have HE := Lib.hid (show deedS s = some { zD with kind := 15, node := x, n := y } from HE0.out)
                    go_wp2_with fail
                    obtain ⟨q1, q2, q3⟩ := set9 HZ5.out (.int .i64 15) (.int .i64 x) (.string ⟨#[]⟩) (.slice none 0 0) (.int .i64 y) (.int .i64 0) (.int .u8 0) (.int .u8 0) (.slice none 0 0)
                    have q4 := (q3 (Below.refl w.heap.size w5) (Nat.le_refl _)).size
                    refine bodyPost_ret (results_ct rfl _ _ w.heap.size 45 #[.int .i64 15, .int .i64 x, .string ⟨#[]⟩, .slice none 0 0, .int .i64 y, .int .i64 0, .int .u8 0, .int .u8 0, .slice none 0 0] (0, 0) _ rfl ((Below.heap_alloc _ _ _ (by omega)).trans q1) Tryd.underlying45 rfl (by kernel_rfl)) rfl ?_
                    exact dp_some (d := { zD with kind := 15, node := x, n := y }) HE.out rfl sub_nil sub_nil ((q3 HB5.out (Nat.le_refl _)).alloc (by omega) _)
                  · exact absurd rfl h16
                  · obtain ⟨x, rfl⟩ := len1 (l := l) (by have h1 := HLL.out; have h2 := HSH2.out; have h3 := HM.out; simp [manyS, n1, n2, n9, nA, n7, n8] at h3; omega)
                    obtain ⟨g, rfl, hg, hcl⟩ := row_form HR5.out (by simp)
                    have hne : g ≠ w5.heap.size := Nat.ne_of_lt hg
                    have n0 : w5.cell? ⟨g, 0, none⟩ = some (.int .i64 x) := hcl 0 (by simp)
                    clear hcl
                    have HE := Lib.hid (show deedS s = some { zD with kind := q, node := x } by rw [HE0.out, nrd]; simp [n4, n5, n6, n7, n8, n9, nA, nB])
                    have m4 : (q == 4) = false := by simpa using n4
                    have m5 : (q == 5) = false := by simpa using n5
                    have m6 : (q == 6) = false := by simpa using n6
                    have m7 : (q == 7) = false := by simpa using n7
                    have m8 : (q == 8) = false := by simpa using n8
                    have m9 : (q == 10) = false := by simpa using n9
                    have mA : (q == 15) = false := by simpa using nA
                    have mB : (q == 16) = false := by simpa using nB
                    clear n1 n2 n3 n4 n5 n6 n7 n8 n9 nA nB
                    go_wp2_with fail
                    obtain ⟨q1, q2, q3⟩ := set9 HZ5.out (.int .i64 q) (.int .i64 x) (.string ⟨#[]⟩) (.slice none 0 0) (.int .i64 0) (.int .i64 0) (.int .u8 0) (.int .u8 0) (.slice none 0 0)
                    have q4 := (q3 (Below.refl w.heap.size w5) (Nat.le_refl _)).size
                    refine bodyPost_ret (results_ct rfl _ _ w.heap.size 45 #[.int .i64 q, .int .i64 x, .string ⟨#[]⟩, .slice none 0 0, .int .i64 0, .int .i64 0, .int .u8 0, .int .u8 0, .slice none 0 0] (0, 0) _ rfl ((Below.heap_alloc _ _ _ (by omega)).trans q1) Tryd.underlying45 rfl (by kernel_rfl)) rfl ?_
                    exact dp_some (d := { zD with kind := q, node := x }) HE.out rfl sub_nil sub_nil ((q3 HB5.out (Nat.le_refl _)).alloc (by omega) _)
end Go.Proofs.YtbckbpimabmacaaDoor
namespace Go.Proofs.YtbckbpimabmacaaDoor
set_option linter.unusedVariables false
set_option linter.unusedSimpArgs false
open Go.RowKit Go.Proofs.YtbckbpimabmacaaDoorW.PrintWords
attribute [local go_sem ↓] Go.wp_at_zero Go.wp_at_succ

/-- A link of a chain. -/
def kS : Kd (ByteArray × Int × Int) := Kd.pair Kd.string (Kd.pair (Kd.int .i64) (Kd.int .i64))
theorem info_step : (Tryd.prog.info? 75).map (fun i => (i.zero, i.size, i.bytes)) = some (some (.agg #[.string ⟨#[]⟩, .int .i64 0, .int .i64 0]), kS.sz, 32) := by kernel_rfl
/-- A code's fault, or none. -/
def ErrOne (W : World) (v : Value) (c at_ : Int) : Prop := (c = 0 ∧ v = .nilIface) ∨ (c ≠ 0 ∧ ∃ b op, v = faultV b ∧ W.heap[b]? = some (faultO op at_ c .nilIface))
theorem ErrOne.later {W W' : World} {v : Value} {c at_ : Int} (h : ErrOne W v c at_) (hb : Below W.heap.size W W') : ErrOne W' v c at_ := h.imp id fun ⟨h1, b, op, h2, h3⟩ => ⟨h1, b, op, h2, (hb.block b (Array.getElem?_eq_some_iff.1 h3).1).trans h3⟩
theorem chain_nil (w : World) : Calls Tryd.prog 45 #[.nilIface] w fun e w' => e = .returned (.slice none 0 0) ∧ w' = w := by
  go_enter Tryd.func45, Tryd.ntmps45
  go_wp2_with fail
  go_loopg [0, 3] 0 (fun k u lv wr => u = .nilIface ∧ lv = .slice none 0 0 ∧ w = wr)
  case atStart => exact ⟨rfl, rfl, rfl⟩
  case round =>
    obtain ⟨rfl, rfl, rfl⟩ := hrel
    go_wp2_with fail
    go_ret
    exact ⟨rfl, rfl⟩
set_option maxHeartbeats 2000000 in
set_option maxRecDepth 100000 in
theorem chain_new (b : Nat) (op : ByteArray) (at_ c : Int) (w : World) (hb : w.heap[b]? = some (faultO op at_ c .nilIface)) (hg : HG w) : Calls Tryd.prog 45 #[faultV b] w fun e w' => ∃ g cap, e = .returned (.slice (some ⟨g, 0, none⟩) 1 cap) ∧ w'.cell? ⟨g, 1, none⟩ = some (.int .i64 at_) ∧ Below w.heap.size w w' := by
  have HB := Lib.hid hb
  have HH := Lib.hid hg
  clear hb hg
  unfold faultV
  go_enter Tryd.func45, Tryd.ntmps45
  go_wp2_with fail
  go_loopg [0, 3] 1 (fun k u lv wr => Hid (Below w.heap.size w wr) ∧ ((k = 1 ∧ u = .iface 76 (.pointer (some ⟨b, 0, none⟩)) ∧ lv = .slice none 0 0) ∨ (k = 0 ∧ u = .nilIface ∧ ∃ g cap, lv = .slice (some ⟨g, 0, none⟩) 1 cap ∧ Hid (wr.cell? ⟨g, 1, none⟩ = some (.int .i64 at_)))))
  case atStart => exact ⟨Below.refl _ _, .inl ⟨rfl, rfl, rfl⟩⟩
  case round =>
    obtain ⟨HW, ⟨rfl, rfl, rfl⟩ | ⟨rfl, rfl, g, cap, rfl, HC⟩⟩ := hrel
    · have HBL := Lib.hid ((HW.out.block b (Array.getElem?_eq_some_iff.1 HB.out).1).trans HB.out)
      have HGr : Hid (HG wr) := hg_later HH.out HW.out
      have HT := Lib.hid (show ∀ w1 : World, Below wr.heap.size wr w1 → w1.cell? ⟨b, 0, none⟩ = some (.string op) ∧ w1.cell? ⟨b, 1, none⟩ = some (.int .i64 at_) ∧ w1.cell? ⟨b, 2, none⟩ = some (.int .i64 c) ∧ w1.cell? ⟨b, 3, none⟩ = some .nilIface from fun w1 h => by
        rw [h.cell (p := ⟨b, 0, none⟩) (lt_of_block HBL.out), h.cell (p := ⟨b, 1, none⟩) (lt_of_block HBL.out), h.cell (p := ⟨b, 2, none⟩) (lt_of_block HBL.out), h.cell (p := ⟨b, 3, none⟩) (lt_of_block HBL.out)]
        simp [World.cell?, HBL.out, faultO])
      have HAS := Lib.hid (as_new b wr HGr.out _ rfl)
      go_wp2_with fail
      refine HAS.out.mono ?_
      rintro e w1 ⟨rfl, hb1, ht1, hs1⟩
      have HB1 := Lib.hid hb1
      obtain ⟨k0, k1, k2, k3⟩ := HT.out w1 hb1
      clear hb1 HAS HT
      go_wp2_with fail
      have BD := Lib.hid (show Below w1.heap.size w1 w1.drew from Drawn0.below ⟨1, rfl⟩)
      have HKS := Lib.hid (show ∀ W, Below w1.heap.size w1 W → W.cell? ⟨wr.heap.size, 0, none⟩ = some (.pointer (some ⟨b, 0, none⟩)) ∧ W.cell? ⟨b, 0, none⟩ = some (.string op) ∧ W.cell? ⟨b, 1, none⟩ = some (.int .i64 at_) ∧ W.cell? ⟨b, 2, none⟩ = some (.int .i64 c) from fun W hW =>
        ⟨(hW.cell (p := ⟨wr.heap.size, 0, none⟩) hs1).trans ht1, (hW.cell (p := ⟨b, 0, none⟩) (World.block_lt_of_cell? w1 _ k0)).trans k0, (hW.cell (p := ⟨b, 1, none⟩) (World.block_lt_of_cell? w1 _ k1)).trans k1, (hW.cell (p := ⟨b, 2, none⟩) (World.block_lt_of_cell? w1 _ k2)).trans k2⟩)
      go_region_held3 (fun w' => w'.cell? ⟨wr.heap.size, 0, none⟩ = some (.pointer (some ⟨b, 0, none⟩)) ∧ w'.cell? ⟨b, 0, none⟩ = some (.string op) ∧ w'.cell? ⟨b, 1, none⟩ = some (.int .i64 at_) ∧ w'.cell? ⟨b, 2, none⟩ = some (.int .i64 c))
        (first | exact ⟨ht1, k0, k1, k2⟩ | exact HKS.out _ BD.out | exact HKS.out _ HB7.out | exact HKS.out _ (BD.out.alloc (Nat.le_refl _) _))
        ((refine Kd.R_append_step kS (w0 := w1) (W := w1.drew) w1.heap.size (by rfl) (.tmp 11) (.tmp 25) 72 75 (.agg #[.string ⟨#[]⟩, .int .i64 0, .int .i64 0]) 32 (by rfl) Tryd.underlying72 info_step rfl (by decide) (by omega) (.slice none 0 0) [] (op, at_, c) [.string op, .int .i64 at_, .int .i64 c] (fun _ => True) (fun _ => False) (by rfl) (by rfl) ⟨[.string op], [.int .i64 at_, .int .i64 c], rfl, rfl, [.int .i64 at_], [.int .i64 c], rfl, rfl, rfl⟩ (fun _ hk => hk.elim) (fun _ _ => trivial) (Kd.R_nil _ _ _ _ _) BD.out (Nat.le_refl _) (by simp) ?_; intro v1 w7 ho hb7 hg7 hat; obtain ⟨inner, hown⟩ := Kd.R_own ho; obtain ⟨g, cap, hv1, _, hlt⟩ := hown.form (by simp); have HO := Lib.hid ho; have HB7 := Lib.hid hb7; subst hv1; have kt : w7.cell? ⟨wr.heap.size, 0, none⟩ = some (.pointer (some ⟨b, 0, none⟩)) := (hb7.cell (p := ⟨wr.heap.size, 0, none⟩) hs1).trans ht1; have kb3 : w7.cell? ⟨b, 3, none⟩ = some .nilIface := (hb7.cell (p := ⟨b, 3, none⟩) (World.block_lt_of_cell? w1 _ k3)).trans k3; clear ho hown hb7 hg7 hat hlt))
      all_goals
        go_wp2_with fail
        go_roundg 0
        case measure => omega
        case rel =>
          refine ⟨HW.out.trans ((HB1.out.trans (HB7.out.mono HB1.out.size)).mono HW.out.size), .inr ⟨rfl, rfl, g, cap, rfl, ?_⟩⟩
          obtain ⟨A, c', e1, _, hC⟩ := Kd.R_reads HO.out
          injection e1 with e1 _ _
          obtain ⟨ad, cs, e2, _, hK, hcell⟩ := Kd.C_get hC (op, at_, c) 0 (by omega) (by simp)
          rw [← e1] at e2
          injection e2 with e2
          subst e2
          obtain ⟨x0, x1, rfl, rfl, y0, y1, rfl, rfl, rfl⟩ := hK
          have := hcell 1 _ rfl
          rw [add_plain] at this
          exact this
    · go_wp2_with fail
      go_ret
      exact ⟨g, cap, rfl, HC.out, HW.out⟩
theorem where_any (v : Value) (c at_ : Int) (w : World) (h : ErrOne w v c at_) (hg : HG w) : Calls Tryd.prog 21 #[v] w fun e w' => (∃ x, e = .returned (.tuple #[.int .i64 x, .bool (decide (c ≠ 0))]) ∧ (c ≠ 0 → x = at_)) ∧ Below w.heap.size w w' := by
  rcases h with ⟨rfl, rfl⟩ | ⟨hc, b, op, rfl, hb⟩
  · go_enter Tryd.func21, Tryd.ntmps21
    go_wp2_with (go_at_call 45; refine (chain_nil _).mono ?_; rintro e w1 ⟨rfl, rfl⟩)
    go_ret2
    exact ⟨⟨0, rfl, fun h => absurd rfl h⟩, Below.refl _ _⟩
  · have HD := Lib.hid (decide_eq_true hc)
    have HCH := Lib.hid (chain_new b op at_ c w hb hg)
    clear hb hc hg
    unfold faultV at HCH ⊢
    go_enter Tryd.func21, Tryd.ntmps21
    go_wp2_with fail
    refine HCH.out.mono ?_
    rintro e w1 ⟨g, cap, rfl, hc1, hb⟩
    have HB := Lib.hid hb
    clear hb
    go_wp2_with fail
    go_ret2
    exact ⟨⟨at_, by rw [HD.out]; rfl, fun _ => rfl⟩, HB.out⟩
theorem of_one (v : Value) (c at_ : Int) (w : World) (h : ErrOne w v c at_) (hg : HG w) : Calls Tryd.prog 23 #[v] w fun e w' => e = .returned (.int .i64 c) ∧ Below w.heap.size w w' := by
  rcases h with ⟨rfl, rfl⟩ | ⟨hc, b, op, rfl, hb⟩
  · exact of_code _ [] w .nil hg
  · refine (of_code _ [(op, at_, c)] w (.new hb hc) hg).mono fun e w' ⟨h1, h2⟩ => ⟨?_, h2⟩
    rw [h1]
    simp [codeOf, hc]
end Go.Proofs.YtbckbpimabmacaaDoor
namespace Go.Proofs.YtbckbpimabmacaaDoor
set_option linter.unusedVariables false
set_option linter.unusedSimpArgs false
open Go.RowKit Go.Proofs.YtbckbpimabmacaaDoorW.PrintWords
attribute [local go_sem ↓] Go.wp_at_zero Go.wp_at_succ
attribute [local go_sem] bsV_get bsV_size bsV_toList

/-- The deeds of rows, or which row is none. -/
def readG : Nat → List Bs → Nat ⊕ List Dd
  | _, [] => .inr []
  | i, r :: rs => if r = [] ∨ r.head? = some 35 then readG (i + 1) rs else match deedS r with
    | none => .inl i
    | some d => (readG (i + 1) rs).map id (d :: ·)
def preG (L : List Dd) (r : Nat ⊕ List Dd) : Nat ⊕ List Dd := r.map id (L ++ ·)
theorem preG_nil (r : Nat ⊕ List Dd) : preG [] r = r := by cases r <;> rfl
theorem preG_snoc (L : List Dd) (d : Dd) (r : Nat ⊕ List Dd) : preG L (r.map id (d :: ·)) = preG (L ++ [d]) r := by cases r <;> simp [preG]
theorem readG_skip {i : Nat} {r : Bs} {rs : List Bs} (h : r = [] ∨ r.head? = some 35) : readG i (r :: rs) = readG (i + 1) rs := by rw [readG, if_pos h]
theorem readG_none {i : Nat} {r : Bs} {rs : List Bs} (h : ¬ (r = [] ∨ r.head? = some 35)) (h2 : deedS r = none) : readG i (r :: rs) = .inl i := by rw [readG, if_neg h, h2]
theorem readG_some {i : Nat} {r : Bs} {rs : List Bs} {d : Dd} (h : ¬ (r = [] ∨ r.head? = some 35)) (h2 : deedS r = some d) : readG i (r :: rs) = (readG (i + 1) rs).map id (d :: ·) := by rw [readG, if_neg h, h2]
/-- The deeds of a text, the code, and where. -/
def outG : Nat ⊕ List Dd → List Dd × Int × Int
  | .inl i => ([], 16, i)
  | .inr L => (L, 0, 0)
def readS (s : Bs) : List Dd × Int × Int := if 4096 < (splitS 10 s).length then ([], 17, (splitS 10 s).length) else outG (readG 0 (splitS 10 s))
theorem info_deed : (Tryd.prog.info? 45).map (fun i => (i.zero, i.size, i.bytes)) = some (some (.agg z9), kE.sz, 104) := by kernel_rfl
def ReadPost (s : Bs) (w : World) (e : Ending) (w' : World) : Prop := ∃ A c ev, e = .returned (.tuple #[.slice A (readS s).1.length c, ev]) ∧ kE.R 45 w' w.heap.size (fun _ => True) (.slice A (readS s).1.length c) (readS s).1 ∧ ErrOne w' ev (readS s).2.1 (readS s).2.2 ∧ Below w.heap.size w w'
theorem split_row {s : Bs} {c : UInt8} (w : World) : Kd.string.C (w.alloc (.cells (((splitS c s).map bsV).map Value.string).toArray 9)) (some ⟨w.heap.size, 0, none⟩) (splitS c s).length ((splitS c s).map bsV) ∨ 9223372036854775807 < (splitS c s).length := by
  rcases Nat.lt_or_ge 9223372036854775807 (splitS c s).length with h | h
  · exact .inr h
  · refine .inl ⟨List.length_map .., h, fun _ => ⟨_, rfl, fun j p hj => ⟨[.string p], rfl, rfl, fun i u hu => ?_⟩⟩⟩
    rcases i with _ | i
    · have e : Value.string p = u := by simpa using hu
      rw [← e, add_plain, World.cell?, heap_alloc_new]
      show ((((splitS c s).map bsV).map Value.string).toArray)[j * 1 + 0]? = _
      rw [List.getElem?_toArray, Nat.mul_one, Nat.add_zero, List.getElem?_map, hj]
      rfl
    · simp at hu
theorem new_one (op : ByteArray) (at_ c : Int) (hc : (c == 0) = false) (w : World) : Calls Tryd.prog 44 #[.string op, .int .i64 at_, .int .i64 c] w fun e w' => ∃ b, e = .returned (.iface 76 (.pointer (some ⟨b, 0, none⟩))) ∧ w'.heap[b]? = some (faultO op at_ c .nilIface) ∧ Below w.heap.size w w' :=
  (new_any op at_ c hc w).mono fun e w' ⟨h1, h2⟩ => ⟨_, h1, by rw [h2]; exact heap_alloc_new _ _, by rw [h2]; exact bel_alloc _ _⟩
set_option maxHeartbeats 4000000 in
set_option maxRecDepth 100000 in
theorem read_any (s : Bs) (w : World) (hl : s.length ≤ 1000000) (hm : MX w) : Calls Tryd.prog 19 #[.string (bsV s)] w (ReadPost s w) := by
  have HSR := Lib.hid ((split_row (s := s) (c := 10) w).resolve_right (by have := split_len 10 s; omega))
  have HWL := Lib.hid (show ∀ x ∈ splitS 10 s, x.length ≤ 1000000 from fun x hx => Nat.le_trans (mem_split_len hx) hl)
  have HLN := Lib.hid (show (splitS 10 s).length ≤ 1000001 by have := split_len 10 s; omega)
  have HMX := Lib.hid hm
  have hSP := split_any 10 s w (by omega) hm
  have hrs : readS s = if 4096 < (splitS 10 s).length then (([], 17, ((splitS 10 s).length : Int)) : List Dd × Int × Int) else outG (readG 0 (splitS 10 s)) := rfl
  obtain ⟨rows, hrows⟩ : ∃ rows, rows = splitS 10 s := ⟨_, rfl⟩
  rw [← hrows] at HSR HWL HLN hSP hrs
  have HRS := Lib.hid hrs
  have HSP := Lib.hid (show Calls Tryd.prog 43 #[.string (bsV s), .string ⟨#[10]⟩] w _ from hSP)
  clear hSP hrs hrows hm hl
  have hln : rows.length ≤ 1000001 := HLN.out
  go_enter Tryd.func19, Tryd.ntmps19
  go_wp2_with fail
  refine HSP.out.mono ?_
  rintro e w1 ⟨rfl, hw1⟩
  have HC := Lib.hid (show Kd.string.C w1 (some ⟨w.heap.size, 0, none⟩) rows.length (rows.map bsV) by rw [hw1]; exact HSR.out)
  have HB1 := Lib.hid (show Below w.heap.size w w1 by rw [hw1]; exact bel_alloc _ _)
  clear hw1 HSP HSR
  by_cases hbig : 4096 < rows.length
  · have hb1 : (4096 : Int) < (rows.length : Int) := by omega
    have HRE := Lib.hid (show readS s = ([], 17, (rows.length : Int)) by rw [HRS.out, if_pos hbig])
    clear hbig
    go_wp2_with (go_at_call 44; refine (new_one _ _ _ rfl _).mono ?_; rintro e w2 ⟨b2, rfl, hw2, hb2⟩; have HW2 := Lib.hid hw2; have HB2 := Lib.hid hb2; clear hw2 hb2)
    go_ret2
    unfold ReadPost
    rw [HRE.out]
    exact ⟨none, 0, _, rfl, Kd.R_nil _ _ _ _ _, .inr ⟨by show (17 : Int) ≠ 0; decide, b2, _, rfl, HW2.out⟩, HB1.out.trans (HB2.out.mono HB1.out.size)⟩
  · have hb1 : ¬ (4096 : Int) < (rows.length : Int) := by omega
    have HRE := Lib.hid (show readS s = outG (readG 0 rows) by rw [HRS.out, if_neg hbig])
    clear hbig HRS
    go_wp2_with fail
    go_loopw [5, 20] (fun ov iv wr => ∃ (i : Nat) (B : Option Addr) (n k : Nat) (L : List Dd), i ≤ rows.length ∧ iv = .int .i64 i ∧ ov = .slice B n k ∧ Hid (n = L.length ∧ readG 0 rows = preG L (readG i (rows.drop i)) ∧ L.length ≤ i ∧ kE.R 45 wr w1.heap.size (fun _ => True) (.slice B n k) L ∧ Below w1.heap.size w1 wr)) (fun _ iv _ => rows.length - (intOf iv).toNat)
    case atStart => exact ⟨0, none, 0, 0, [], Nat.zero_le _, rfl, rfl, rfl, by rw [List.drop_zero, preG_nil], Nat.le_refl _, Kd.R_nil _ _ _ _ _, Below.refl _ _⟩
    case round =>
      obtain ⟨i, B, n, k, L, hi, rfl, rfl, HI⟩ := hrel
      by_cases hlt : i < rows.length
      · have i1 : (0 : Int) ≤ (i : Int) := by omega
        have i2 : (i : Int) < (rows.length : Int) := by omega
        have hwi : IntKind.i64.wrap ((i : Int) + 1) = (i : Int) + 1 := by rw [IntKind.wrap_i64]; omega
        obtain ⟨ad, e1, hcell⟩ := str_at (Kd.C_below HC.out HI.out.2.2.2.2) hlt
        injection e1 with e1
        subst e1
        obtain ⟨r, hr⟩ : ∃ r, r = rows[i] := ⟨_, rfl⟩
        rw [← hr, add_plain] at hcell
        have HDR := Lib.hid (show rows.drop i = r :: rows.drop (i + 1) by rw [List.drop_eq_getElem_cons hlt, hr])
        have HRL := Lib.hid (show r.length ≤ 1000000 from HWL.out r (by rw [hr]; exact List.getElem_mem hlt))
        clear hr
        cases r with
        | nil =>
          have HN := Lib.hid (show readG 0 rows = preG L (readG (i + 1) (rows.drop (i + 1))) by rw [HI.out.2.1, HDR.out, readG_skip (.inl rfl)])
          have HI2 := Lib.hid HI.out
          clear HI
          go_wp2_with fail
          go_roundw
          case rel => exact ⟨i + 1, B, n, k, L, by omega, by go_num, rfl, HI2.out.1, HN.out, by have := HI2.out.2.2.1; omega, HI2.out.2.2.2⟩
          case measure => simp [intOf]; omega
        | cons ch t =>
          have hne : ((ch :: t : Bs) == []) = false := by simp
          have hlt0 : (0 : Int) < (((ch :: t : Bs).length : Nat) : Int) := by rw [List.length_cons]; omega
          by_cases h35 : ch = 35
          · subst h35
            have HN := Lib.hid (show readG 0 rows = preG L (readG (i + 1) (rows.drop (i + 1))) by rw [HI.out.2.1, HDR.out, readG_skip (.inr rfl)])
            have HI2 := Lib.hid HI.out
            clear HI
            go_wp2_with fail
            go_roundw
            case rel => exact ⟨i + 1, B, n, k, L, by omega, by go_num, rfl, HI2.out.1, HN.out, by have := HI2.out.2.2.1; omega, HI2.out.2.2.2⟩
            case measure => simp [intOf]; omega
          · have hcb : ((ch.toNat : Int) == 35) = false := by
              simp
              intro e
              exact h35 (UInt8.toNat_inj.1 (by rw [show (35 : UInt8).toNat = 35 from rfl]; omega))
            have HNS := Lib.hid (show ¬ ((ch :: t : Bs) = [] ∨ (ch :: t : Bs).head? = some 35) by simp [h35])
            have HB := Lib.hid (HB1.out.trans (HI.out.2.2.2.2.mono HB1.out.size))
            have HDE := Lib.hid ((deed_any (ch :: t) wr HRL.out (HMX.out.later HB.out)).mono fun e w' h => dp_deed h)
            obtain ⟨rd, hrd⟩ : ∃ rd, rd = deedS (ch :: t) := ⟨_, rfl⟩
            rw [← hrd] at HDE
            have HRD := Lib.hid hrd
            have HI2 := Lib.hid HI.out
            clear hrd h35 HI
            go_wp2_with fail
            refine HDE.out.mono ?_
            rintro e w2 ⟨A1, A2, c1, c2, rfl, hM, hb⟩
            have HB2 := Lib.hid (HB.out.trans (hb.mono HB.out.size))
            have HBI := Lib.hid (HI2.out.2.2.2.2.trans (hb.mono HI2.out.2.2.2.2.size))
            have HRO := Lib.hid (Kd.R_below HI2.out.2.2.2.1 hb)
            obtain ⟨inner, hown⟩ := Kd.R_own HI2.out.2.2.2.1
            have HMM := Lib.hid (kE.M_lower HI2.out.2.2.2.2.size (Kd.M_new hM hown))
            clear hM hown
            cases rd with
            | none =>
              have HF := Lib.hid (show readS s = ([], 16, (i : Int)) by rw [HRE.out, HI2.out.2.1, HDR.out, readG_none HNS.out HRD.out.symm]; rfl)
              clear HMM hb
              simp only [Option.getD_none, Option.isSome_none, dC, zD]
              go_wp2_with (go_at_call 44; refine (new_one _ _ _ rfl _).mono ?_; rintro e w3 ⟨b3, rfl, hw3, hb3⟩; have HW3 := Lib.hid hw3; have HB3 := Lib.hid hb3; clear hw3 hb3)
              go_ret2
              unfold ReadPost
              rw [HF.out]
              exact ⟨none, 0, _, rfl, Kd.R_nil _ _ _ _ _, .inr ⟨by show (16 : Int) ≠ 0; decide, b3, _, rfl, HW3.out⟩, (HB2.out.alloc HB2.out.size _).trans (HB3.out.mono (by have := HB2.out.size; simp; omega))⟩
            | some d =>
              have HN := Lib.hid (show readG 0 rows = preG (L ++ [d]) (readG (i + 1) (rows.drop (i + 1))) by rw [HI2.out.2.1, HDR.out, readG_some HNS.out HRD.out.symm, preG_snoc])
              clear hb
              have hn0 : n = L.length := HI2.out.1
              subst hn0
              have hli : L.length ≤ 1000001 := by have := HI2.out.2.2.1; omega
              have HBA := Lib.hid (bel_alloc w2 (.cells #[.int .i64 d.kind, .int .i64 d.node, .string (bsV d.key), .slice A1 d.value.length c1, .int .i64 d.n, .int .i64 d.at_, .int .u8 d.by_, .int .u8 d.draw, .slice A2 d.keep.length c2] 45))
              have HX3 := Lib.hid (heap_alloc_new w2 (.cells #[.int .i64 d.kind, .int .i64 d.node, .string (bsV d.key), .slice A1 d.value.length c1, .int .i64 d.n, .int .i64 d.at_, .int .u8 d.by_, .int .u8 d.draw, .slice A2 d.keep.length c2] 45))
              simp only [Option.getD_some, Option.isSome_some, dC]
              simp only [Option.getD_some, dC] at HMM
              go_upto_region 12 with (fail)
              generalize w2.alloc (.cells #[.int .i64 d.kind, .int .i64 d.node, .string (bsV d.key), .slice A1 d.value.length c1, .int .i64 d.n, .int .i64 d.at_, .int .u8 d.by_, .int .u8 d.draw, .slice A2 d.keep.length c2] 45) = w3 at *
              have HM3 := Lib.hid (Kd.M_below HMM.out HBA.out)
              have HR3 := Lib.hid (Kd.R_below HRO.out HBA.out)
              have HB3 := Lib.hid (HB2.out.trans (HBA.out.mono HB2.out.size))
              have HBI3 := Lib.hid (HBI.out.trans (HBA.out.mono HBI.out.size))
              have k0 : w3.cell? ⟨w2.heap.size, 0, none⟩ = some (.int .i64 d.kind) := by rw [World.cell?, HX3.out]; rfl
              have k1 : w3.cell? ⟨w2.heap.size, 1, none⟩ = some (.int .i64 d.node) := by rw [World.cell?, HX3.out]; rfl
              have k2 : w3.cell? ⟨w2.heap.size, 2, none⟩ = some (.string (bsV d.key)) := by rw [World.cell?, HX3.out]; rfl
              have k3 : w3.cell? ⟨w2.heap.size, 3, none⟩ = some (.slice A1 d.value.length c1) := by rw [World.cell?, HX3.out]; rfl
              have k4 : w3.cell? ⟨w2.heap.size, 4, none⟩ = some (.int .i64 d.n) := by rw [World.cell?, HX3.out]; rfl
              have k5 : w3.cell? ⟨w2.heap.size, 5, none⟩ = some (.int .i64 d.at_) := by rw [World.cell?, HX3.out]; rfl
              have k6 : w3.cell? ⟨w2.heap.size, 6, none⟩ = some (.int .u8 d.by_) := by rw [World.cell?, HX3.out]; rfl
              have k7 : w3.cell? ⟨w2.heap.size, 7, none⟩ = some (.int .u8 d.draw) := by rw [World.cell?, HX3.out]; rfl
              have k8 : w3.cell? ⟨w2.heap.size, 8, none⟩ = some (.slice A2 d.keep.length c2) := by rw [World.cell?, HX3.out]; rfl
              clear HMM HRO HB2 HBI HBA HX3
              go_wp2_with (at_builtin; refine Kd.R_append kE (w0 := w1) (W := w3) w1.heap.size rfl (.tmp 41) (.tmp 43) 32 45 (.agg z9) 104 rfl Tryd.underlying32 info_deed rfl (by decide) (by omega) (.slice B L.length k) L d [.int .i64 d.kind, .int .i64 d.node, .string (bsV d.key), .slice A1 d.value.length c1, .int .i64 d.n, .int .i64 d.at_, .int .u8 d.by_, .int .u8 d.draw, .slice A2 d.keep.length c2] (fun _ => True) (fun j => True ∧ some j ≠ (Value.slice B L.length k).ownBlock) rfl rfl HM3.out (fun _ hk => ⟨trivial, hk.2⟩) (fun _ _ => trivial) HR3.out HBI3.out HBI3.out.size (by omega) ?_; intro v9 w9 ho9 hb9 hg9 hat9; obtain ⟨A9, c9, hv9⟩ := Kd.R_slice ho9; rw [List.length_append, List.length_singleton] at hv9; subst hv9; have HO9 := Lib.hid ho9; have HB9 := Lib.hid hb9; clear ho9 hb9 hg9 hat9)
              all_goals
                go_wp2_with fail
                go_roundw
                case rel => exact ⟨i + 1, A9, _, c9, L ++ [d], by omega, by go_num, rfl, by rw [List.length_append]; rfl, HN.out, by rw [List.length_append, List.length_singleton]; have := HI2.out.2.2.1; omega, HO9.out, HB9.out⟩
                case measure => simp [intOf]; omega
      · have hi3 : ¬ (i : Int) < (rows.length : Int) := by omega
        have HF := Lib.hid (show readS s = (L, 0, 0) by rw [HRE.out, HI.out.2.1, List.drop_of_length_le (by omega), readG]; simp [preG, outG])
        have hn0 : n = L.length := HI.out.1
        subst hn0
        go_wp2_with fail
        go_ret2
        unfold ReadPost
        rw [HF.out]
        exact ⟨B, k, _, rfl, Kd.R_lower HI.out.2.2.2.1 HB1.out.size, .inl ⟨rfl, rfl⟩, HB1.out.trans (HI.out.2.2.2.2.mono HB1.out.size)⟩
end Go.Proofs.YtbckbpimabmacaaDoor
namespace Go.Proofs.YtbckbpimabmacaaDoor
set_option linter.unusedVariables false
set_option linter.unusedSimpArgs false
open Go.RowKit Go.Proofs.YtbckbpimabmacaaDoorW.PrintWords
attribute [local go_sem ↓] Go.wp_at_zero Go.wp_at_succ
attribute [local go_sem] bsV_get bsV_size bsV_toList

def RReadPost (s : Bs) (w : World) (e : Ending) (w' : World) : Prop := ∃ A c, e = .returned (.tuple #[.slice A (readS s).1.length c, .int .i64 (readS s).2.1, .int .i64 (readS s).2.2]) ∧ kE.R 45 w' w.heap.size (fun _ => True) (.slice A (readS s).1.length c) (readS s).1 ∧ Below w.heap.size w w'
set_option maxHeartbeats 4000000 in
set_option maxRecDepth 100000 in
theorem refRead_any (s : Bs) (w : World) (hl : s.length ≤ 1000000) : Calls Tryd.prog 20 #[.string (bsV s)] w (RReadPost s w) := by
  have HWL := Lib.hid (show ∀ x ∈ splitS 10 s, x.length ≤ 1000000 from fun x hx => Nat.le_trans (mem_split_len hx) hl)
  have HLN := Lib.hid (show (splitS 10 s).length ≤ 1000001 by have := split_len 10 s; omega)
  have hSP := rows_any s (by omega) w
  have hrs : readS s = if 4096 < (splitS 10 s).length then (([], 17, ((splitS 10 s).length : Int)) : List Dd × Int × Int) else outG (readG 0 (splitS 10 s)) := rfl
  obtain ⟨rows, hrows⟩ : ∃ rows, rows = splitS 10 s := ⟨_, rfl⟩
  rw [← hrows] at HWL HLN hSP hrs
  have HRS := Lib.hid hrs
  have HSP := Lib.hid hSP
  clear hSP hrs hrows hl
  have hln : rows.length ≤ 1000001 := HLN.out
  go_enter Tryd.func20, Tryd.ntmps20
  go_wp2_with fail
  refine HSP.out.mono ?_
  rintro e w1 ⟨AR, cr, rfl, hcr, hC, hb1⟩
  have HC := Lib.hid hC
  have HB1 := Lib.hid hb1
  clear hC hb1 HSP
  by_cases hbig : 4096 < rows.length
  · have hb1 : (4096 : Int) < (rows.length : Int) := by omega
    have HRE := Lib.hid (show readS s = ([], 17, (rows.length : Int)) by rw [HRS.out, if_pos hbig])
    clear hbig
    go_wp2_with fail
    go_ret3
    unfold RReadPost
    rw [HRE.out]
    exact ⟨none, 0, rfl, Kd.R_nil _ _ _ _ _, HB1.out⟩
  · have hb1 : ¬ (4096 : Int) < (rows.length : Int) := by omega
    have HRE := Lib.hid (show readS s = outG (readG 0 rows) by rw [HRS.out, if_neg hbig])
    clear hbig HRS
    go_wp2_with fail
    go_loopw [6, 7] (fun ov iv wr => ∃ (i : Nat) (B : Option Addr) (n k : Nat) (L : List Dd), i ≤ rows.length ∧ iv = .int .i64 i ∧ ov = .slice B n k ∧ Hid (n = L.length ∧ readG 0 rows = preG L (readG i (rows.drop i)) ∧ L.length ≤ i ∧ kE.R 45 wr w1.heap.size (fun _ => True) (.slice B n k) L ∧ Below w1.heap.size w1 wr)) (fun _ iv _ => rows.length - (intOf iv).toNat)
    case atStart => exact ⟨0, none, 0, 0, [], Nat.zero_le _, rfl, rfl, rfl, by rw [List.drop_zero, preG_nil], Nat.le_refl _, Kd.R_nil _ _ _ _ _, Below.refl _ _⟩
    case round =>
      obtain ⟨i, B, n, k, L, hi, rfl, rfl, HI⟩ := hrel
      by_cases hlt : i < rows.length
      · have i1 : (0 : Int) ≤ (i : Int) := by omega
        have i2 : (i : Int) < (rows.length : Int) := by omega
        have hwi : IntKind.i64.wrap ((i : Int) + 1) = (i : Int) + 1 := by rw [IntKind.wrap_i64]; omega
        have i3 : i < cr := by omega
        obtain ⟨ad, e1, hcell⟩ := str_at (Kd.C_below HC.out HI.out.2.2.2.2) hlt
        subst e1
        obtain ⟨r, hr⟩ : ∃ r, r = rows[i] := ⟨_, rfl⟩
        rw [← hr] at hcell
        have HDR := Lib.hid (show rows.drop i = r :: rows.drop (i + 1) by rw [List.drop_eq_getElem_cons hlt, hr])
        have HRL := Lib.hid (show r.length ≤ 1000000 from HWL.out r (by rw [hr]; exact List.getElem_mem hlt))
        clear hr
        cases r with
        | nil =>
          have HN := Lib.hid (show readG 0 rows = preG L (readG (i + 1) (rows.drop (i + 1))) by rw [HI.out.2.1, HDR.out, readG_skip (.inl rfl)])
          have HI2 := Lib.hid HI.out
          clear HI
          go_wp2_with fail
          go_roundw
          case rel => exact ⟨i + 1, B, n, k, L, by omega, by go_num, rfl, HI2.out.1, HN.out, by have := HI2.out.2.2.1; omega, HI2.out.2.2.2⟩
          case measure => simp [intOf]; omega
        | cons ch t =>
          have hne : ((ch :: t : Bs) == []) = false := by simp
          have hlt0 : (0 : Int) < (((ch :: t : Bs).length : Nat) : Int) := by rw [List.length_cons]; omega
          by_cases h35 : ch = 35
          · subst h35
            have HN := Lib.hid (show readG 0 rows = preG L (readG (i + 1) (rows.drop (i + 1))) by rw [HI.out.2.1, HDR.out, readG_skip (.inr rfl)])
            have HI2 := Lib.hid HI.out
            clear HI
            go_wp2_with fail
            go_roundw
            case rel => exact ⟨i + 1, B, n, k, L, by omega, by go_num, rfl, HI2.out.1, HN.out, by have := HI2.out.2.2.1; omega, HI2.out.2.2.2⟩
            case measure => simp [intOf]; omega
          · have hcb : ((ch.toNat : Int) == 35) = false := by
              simp
              intro e
              exact h35 (UInt8.toNat_inj.1 (by rw [show (35 : UInt8).toNat = 35 from rfl]; omega))
            have HNS := Lib.hid (show ¬ ((ch :: t : Bs) = [] ∨ (ch :: t : Bs).head? = some 35) by simp [h35])
            have HB := Lib.hid (HB1.out.trans (HI.out.2.2.2.2.mono HB1.out.size))
            have HDE := Lib.hid (refDeed_any (ch :: t) wr HRL.out)
            obtain ⟨rd, hrd⟩ : ∃ rd, rd = deedS (ch :: t) := ⟨_, rfl⟩
            rw [← hrd] at HDE
            have HRD := Lib.hid hrd
            have HI2 := Lib.hid HI.out
            clear hrd h35 HI
            go_wp2_with fail
            refine HDE.out.mono ?_
            rintro e w2 ⟨A1, A2, c1, c2, rfl, hM, hb⟩
            have HB2 := Lib.hid (HB.out.trans (hb.mono HB.out.size))
            have HBI := Lib.hid (HI2.out.2.2.2.2.trans (hb.mono HI2.out.2.2.2.2.size))
            have HRO := Lib.hid (Kd.R_below HI2.out.2.2.2.1 hb)
            obtain ⟨inner, hown⟩ := Kd.R_own HI2.out.2.2.2.1
            have HMM := Lib.hid (kE.M_lower HI2.out.2.2.2.2.size (Kd.M_new hM hown))
            clear hM hown
            cases rd with
            | none =>
              have HF := Lib.hid (show readS s = ([], 16, (i : Int)) by rw [HRE.out, HI2.out.2.1, HDR.out, readG_none HNS.out HRD.out.symm]; rfl)
              clear HMM hb
              simp only [Option.getD_none, Option.isSome_none, dC, zD]
              go_wp2_with fail
              go_ret3
              unfold RReadPost
              rw [HF.out]
              exact ⟨none, 0, rfl, Kd.R_nil _ _ _ _ _, HB2.out.alloc HB2.out.size _⟩
            | some d =>
              have HN := Lib.hid (show readG 0 rows = preG (L ++ [d]) (readG (i + 1) (rows.drop (i + 1))) by rw [HI2.out.2.1, HDR.out, readG_some HNS.out HRD.out.symm, preG_snoc])
              clear hb
              have hn0 : n = L.length := HI2.out.1
              subst hn0
              have hli : L.length ≤ 1000001 := by have := HI2.out.2.2.1; omega
              have HBA := Lib.hid (bel_alloc w2 (.cells #[.int .i64 d.kind, .int .i64 d.node, .string (bsV d.key), .slice A1 d.value.length c1, .int .i64 d.n, .int .i64 d.at_, .int .u8 d.by_, .int .u8 d.draw, .slice A2 d.keep.length c2] 45))
              have HX3 := Lib.hid (heap_alloc_new w2 (.cells #[.int .i64 d.kind, .int .i64 d.node, .string (bsV d.key), .slice A1 d.value.length c1, .int .i64 d.n, .int .i64 d.at_, .int .u8 d.by_, .int .u8 d.draw, .slice A2 d.keep.length c2] 45))
              simp only [Option.getD_some, Option.isSome_some, dC]
              simp only [Option.getD_some, dC] at HMM
              go_upto_region 12 with (fail)
              generalize w2.alloc (.cells #[.int .i64 d.kind, .int .i64 d.node, .string (bsV d.key), .slice A1 d.value.length c1, .int .i64 d.n, .int .i64 d.at_, .int .u8 d.by_, .int .u8 d.draw, .slice A2 d.keep.length c2] 45) = w3 at *
              have HM3 := Lib.hid (Kd.M_below HMM.out HBA.out)
              have HR3 := Lib.hid (Kd.R_below HRO.out HBA.out)
              have HB3 := Lib.hid (HB2.out.trans (HBA.out.mono HB2.out.size))
              have HBI3 := Lib.hid (HBI.out.trans (HBA.out.mono HBI.out.size))
              have k0 : w3.cell? ⟨w2.heap.size, 0, none⟩ = some (.int .i64 d.kind) := by rw [World.cell?, HX3.out]; rfl
              have k1 : w3.cell? ⟨w2.heap.size, 1, none⟩ = some (.int .i64 d.node) := by rw [World.cell?, HX3.out]; rfl
              have k2 : w3.cell? ⟨w2.heap.size, 2, none⟩ = some (.string (bsV d.key)) := by rw [World.cell?, HX3.out]; rfl
              have k3 : w3.cell? ⟨w2.heap.size, 3, none⟩ = some (.slice A1 d.value.length c1) := by rw [World.cell?, HX3.out]; rfl
              have k4 : w3.cell? ⟨w2.heap.size, 4, none⟩ = some (.int .i64 d.n) := by rw [World.cell?, HX3.out]; rfl
              have k5 : w3.cell? ⟨w2.heap.size, 5, none⟩ = some (.int .i64 d.at_) := by rw [World.cell?, HX3.out]; rfl
              have k6 : w3.cell? ⟨w2.heap.size, 6, none⟩ = some (.int .u8 d.by_) := by rw [World.cell?, HX3.out]; rfl
              have k7 : w3.cell? ⟨w2.heap.size, 7, none⟩ = some (.int .u8 d.draw) := by rw [World.cell?, HX3.out]; rfl
              have k8 : w3.cell? ⟨w2.heap.size, 8, none⟩ = some (.slice A2 d.keep.length c2) := by rw [World.cell?, HX3.out]; rfl
              clear HMM HRO HB2 HBI HBA HX3
              go_wp2_with (at_builtin; refine Kd.R_append kE (w0 := w1) (W := w3) w1.heap.size rfl (.tmp 47) (.tmp 49) 32 45 (.agg z9) 104 rfl Tryd.underlying32 info_deed rfl (by decide) (by omega) (.slice B L.length k) L d [.int .i64 d.kind, .int .i64 d.node, .string (bsV d.key), .slice A1 d.value.length c1, .int .i64 d.n, .int .i64 d.at_, .int .u8 d.by_, .int .u8 d.draw, .slice A2 d.keep.length c2] (fun _ => True) (fun j => True ∧ some j ≠ (Value.slice B L.length k).ownBlock) rfl rfl HM3.out (fun _ hk => ⟨trivial, hk.2⟩) (fun _ _ => trivial) HR3.out HBI3.out HBI3.out.size (by omega) ?_; intro v9 w9 ho9 hb9 hg9 hat9; obtain ⟨A9, c9, hv9⟩ := Kd.R_slice ho9; rw [List.length_append, List.length_singleton] at hv9; subst hv9; have HO9 := Lib.hid ho9; have HB9 := Lib.hid hb9; clear ho9 hb9 hg9 hat9)
              all_goals
                go_wp2_with fail
                go_roundw
                case rel => exact ⟨i + 1, A9, _, c9, L ++ [d], by omega, by go_num, rfl, by rw [List.length_append]; rfl, HN.out, by rw [List.length_append, List.length_singleton]; have := HI2.out.2.2.1; omega, HO9.out, HB9.out⟩
                case measure => simp [intOf]; omega
      · have hi3 : ¬ (i : Int) < (rows.length : Int) := by omega
        have HF := Lib.hid (show readS s = (L, 0, 0) by rw [HRE.out, HI.out.2.1, List.drop_of_length_le (by omega), readG]; simp [preG, outG])
        have hn0 : n = L.length := HI.out.1
        subst hn0
        go_wp2_with fail
        go_ret3
        unfold RReadPost
        rw [HF.out]
        exact ⟨B, k, rfl, Kd.R_lower HI.out.2.2.2.1 HB1.out.size, HB1.out.trans (HI.out.2.2.2.2.mono HB1.out.size)⟩
end Go.Proofs.YtbckbpimabmacaaDoor
