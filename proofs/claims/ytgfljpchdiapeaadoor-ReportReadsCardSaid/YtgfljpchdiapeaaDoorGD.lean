/- ReportReads: any text's events, any line's event. -/
import Derived.Test.YtgfljpchdiapeaaDoorGB
import Derived.Test.YtgfljpchdiapeaaDoorG7
namespace Go.Proofs.YtgfljpchdiapeaaDoor
set_option linter.unusedVariables false
set_option linter.unusedSimpArgs false
open Go.RowKit Go.Proofs.YtgfljpchdiapeaaDoorW.PrintWords
attribute [local go_sem ↓] Go.wp_at_zero Go.wp_at_succ
attribute [local go_sem] bsV_get bsV_size bsV_toList
theorem works_later {w : World} (hg : HG w) (hm : MX w) (W : World) (hW : Below w.heap.size w W) : Calls Tryd.prog 8 #[] W fun e w' => e = .returned (.bool true) ∧ Below w.heap.size w w' :=
  (works_any W (hg_later hg hW) (hm.later hW)).mono fun e w' ⟨he, hb⟩ => ⟨he, hW.trans (hb.mono hW.size)⟩
theorem wordE_key {e : Ev} {w : Bs} {l : List Bs} (h : readE w l = some e) : (e.key = [] ∨ quoS e.key ∈ l) ∧ (e.value = [] ∨ quoS e.value ∈ l) := by
  unfold readE at h
  by_cases k1 : w = hitW
  · rw [if_pos k1] at h
    unfold hitR at h
    split at h
    · obtain ⟨n, hn, h⟩ := bind_some h
      obtain ⟨k, hk, h⟩ := bind_some h
      obtain ⟨v, hv, h⟩ := bind_some h
      obtain ⟨o, ho, h⟩ := bind_some h
      obtain ⟨x, hx, h⟩ := bind_some h
      injection h with h
      rw [← h]
      exact ⟨.inr (by rw [unqS_some hk]; simp), .inr (by rw [unqS_some hx]; simp)⟩
    · cases h
  rw [if_neg k1] at h
  by_cases k2 : w = missW
  · rw [if_pos k2] at h
    unfold missR at h
    split at h
    · obtain ⟨n, hn, h⟩ := bind_some h
      obtain ⟨k, hk, h⟩ := bind_some h
      injection h with h
      rw [← h]
      exact ⟨.inr (by rw [unqS_some hk]; simp), .inl rfl⟩
    · cases h
  rw [if_neg k2] at h
  by_cases k3 : w = writeW
  · rw [if_pos k3] at h
    unfold writeR at h
    split at h
    · obtain ⟨v, hv, h⟩ := bind_some h
      obtain ⟨k, hk, h⟩ := bind_some h
      obtain ⟨x, hx, h⟩ := bind_some h
      injection h with h
      rw [← h]
      exact ⟨.inr (by rw [unqS_some hk]; simp), .inr (by rw [unqS_some hx]; simp)⟩
    · cases h
  rw [if_neg k3] at h
  by_cases k4 : w = eraseW
  · rw [if_pos k4] at h
    unfold eraseR at h
    split at h
    · obtain ⟨v, hv, h⟩ := bind_some h
      obtain ⟨k, hk, h⟩ := bind_some h
      injection h with h
      rw [← h]
      exact ⟨.inr (by rw [unqS_some hk]; simp), .inl rfl⟩
    · cases h
  rw [if_neg k4] at h
  by_cases k5 : w = doneW
  · rw [if_pos k5] at h
    unfold doneR at h
    split at h
    · obtain ⟨v, hv, h⟩ := bind_some h
      injection h with h
      rw [← h]
      exact ⟨.inl rfl, .inl rfl⟩
    · cases h
  rw [if_neg k5] at h
  cases h
theorem okv_of {s : Bs} {e : Ev} (h : eventS s = some e) (hl : s.length ≤ 9000) : okV e := by
  obtain ⟨_, _, hk⟩ := lineE_of h
  unfold eventS at h
  split at h
  · rename_i w r hs
    have hm : ∀ x ∈ r, x.length ≤ s.length := fun x hx => mem_split_len (c := 32) (by rw [hs]; exact List.mem_cons_of_mem _ hx)
    obtain ⟨h1, h2⟩ := wordE_key h
    refine ⟨hk, ?_, ?_⟩
    · rcases h1 with h1 | h1
      · rw [h1]; decide
      · have := hm _ h1
        have := quo_ge e.key
        omega
    · rcases h2 with h2 | h2
      · rw [h2]; decide
      · have := hm _ h2
        have := quo_ge e.value
        omega
  · cases h
theorem okv_zero : okV zE := ⟨⟨z64, z64, z64, z64, z64⟩, by decide, by decide⟩
theorem evD_ok {s : Bs} (hl : s.length ≤ 9000) : okV (evD s) := by
  unfold evD
  cases h : eventS s with
  | none => exact okv_zero
  | some e => exact okv_of h hl
theorem readGE_ok {P : Ev → Prop} : ∀ (rs : List Bs) (i : Nat) (L : List Ev), (∀ r ∈ rs, ∀ d, eventS r = some d → P d) → readGE i rs = .inr L → (∀ d ∈ L, P d) ∧ L.length ≤ rs.length
  | [], i, L, _, h => by
    rw [readGE] at h
    injection h with h
    subst h
    exact ⟨fun d hd => by simp at hd, Nat.le_refl _⟩
  | r :: rs, i, L, hp, h => by
    have hp' : ∀ x ∈ rs, ∀ d, eventS x = some d → P d := fun x hx => hp x (List.mem_cons_of_mem _ hx)
    by_cases he : r = []
    · rw [readGE_skip he] at h
      obtain ⟨h1, h2⟩ := readGE_ok rs (i + 1) L hp' h
      exact ⟨h1, by rw [List.length_cons]; omega⟩
    · cases hd : eventS r with
      | none => rw [readGE_none he hd] at h; cases h
      | some d =>
        rw [readGE_some he hd] at h
        cases hr : readGE (i + 1) rs with
        | inl j => rw [hr] at h; cases h
        | inr T =>
          rw [hr] at h
          injection h with h
          subst h
          obtain ⟨h1, h2⟩ := readGE_ok rs (i + 1) T hp' hr
          refine ⟨fun x hx => ?_, by simp; omega⟩
          rcases List.mem_cons.1 hx with hx | hx
          · subst hx
            exact hp r List.mem_cons_self _ hd
          · exact h1 x hx
theorem readSE_ok {s : Bs} (hl : s.length ≤ 9000) : (∀ d ∈ (readSE s).1, okV d) ∧ (readSE s).1.length ≤ s.length + 1 := by
  unfold readSE
  cases h : readGE 0 (splitS 10 s) with
  | inl i => exact ⟨fun d hd => by simp [outGE] at hd, by simp [outGE]⟩
  | inr L =>
    obtain ⟨h1, h2⟩ := readGE_ok (P := okV) _ _ L (fun r hr d hd => okv_of hd (Nat.le_trans (mem_split_len hr) hl)) h
    exact ⟨h1, Nat.le_trans h2 (split_len 10 s)⟩
theorem lit_kV {W : World} {e : Ev} {A : Option Addr} {c : Nat} (h : EM W e A c) : kV.C (W.alloc (.cells (eC e A c) 30)) (some ⟨W.heap.size, 0, none⟩) 1 [e] := by
  refine ⟨rfl, by decide, fun _ => ⟨_, rfl, fun j p hj => ?_⟩⟩
  rcases j with _ | j
  · have hp : e = p := by simpa using hj
    subst hp
    refine ⟨(eC e A c).toList, rfl, ?_, fun i u hu => ?_⟩
    · have hv : (Kd.int .u8).C (W.alloc (.cells (eC e A c) 30)) A (bI e.value).length (bI e.value) := by rw [bI_len]; exact Kd.C_below h.val (bel_alloc W _)
      have := PR.k30_mk (W.alloc (.cells (eC e A c) 30)) (evOf e) (A6 := A) (c6 := c) (by show (bI e.value).length ≤ c; rw [bI_len]; exact h.cap) hv
      have e2 : (evOf e).f2.f4.length = e.value.length := bI_len e.value
      rw [e2] at this
      exact this
    · rw [add_plain, World.cell?, heap_alloc_new]
      show (eC e A c)[0 * kV.sz + i]? = some u
      rw [Nat.zero_mul, Nat.zero_add, ← Array.getElem?_toList]
      exact hu
  · simp at hj
set_option maxHeartbeats 4000000 in
set_option maxRecDepth 100000 in
theorem reads_law (s ln : Bs) (w : World) (hg : HG w) (hm : MX w) : Calls Tryd.prog 4 #[.string (bsV s), .string (bsV ln)] w fun e w' => e = .returned (.bool true) ∧ Below w.heap.size w w' := by
  have HW := Lib.hid (works_later hg hm)
  have HH := Lib.hid hg
  have HM := Lib.hid hm
  clear hg hm
  by_cases hgd : s.length ≤ 3000 ∧ ln.length ≤ 1000
  · obtain ⟨hs, hn⟩ := hgd
    have d1 : ¬ (3000 : Int) < (s.length : Int) := by omega
    have d2 : ¬ (1000 : Int) < (ln.length : Int) := by omega
    have hok := readSE_ok (s := s) (by omega)
    have hlo : (readSE s).1.length ≤ 3001 := by have := hok.2; omega
    have hok := hok.1
    have hrd := fun W (hW : MX W) => readE_any s W (by omega) hW
    have hrr := fun W => refReadE_any s W (by omega)
    have hde := fun W (hW : MX W) => event_any ln W (by omega) hW
    have hdr := fun W => refEvent_any ln W (by omega)
    have hdk := evD_ok (s := ln) (by omega)
    unfold ReadPostE at hrd
    unfold RRead at hrr
    unfold EvPost at hde
    unfold RefEv at hdr
    unfold eC at hde hdr
    generalize readSE s = r at hok hlo hrd hrr
    obtain ⟨L, cd, pos⟩ := r
    dsimp only at hok hlo hrd hrr
    generalize evD ln = ev at hde hdr hdk
    generalize (eventS ln).isSome = db at hde hdr
    have HRD := Lib.hid hrd
    have HRR := Lib.hid hrr
    have HDE := Lib.hid hde
    have HDR := Lib.hid hdr
    have HOK := Lib.hid hok
    have HDK := Lib.hid hdk
    clear hrd hrr hde hdr hok hdk hs hn
    go_enter Tryd.func4, Tryd.ntmps4
    go_wp2_with fail
    refine (HRD.out w HM.out).mono ?_
    rintro e w1 ⟨A, c, er, rfl, hR, hE, hb⟩
    obtain ⟨_, hc, hC⟩ := Kd.R_reads' hR
    have HB1 := Lib.hid hb
    have HE1 := Lib.hid hE
    have HC1 := Lib.hid hC
    clear hb hE hC hR HRD
    go_wp2_with fail
    refine (HRR.out w1).mono ?_
    rintro e w2 ⟨B, k, rfl, hk, hC, hb⟩
    have HB2 := Lib.hid (HB1.out.trans (hb.mono HB1.out.size))
    have HE2 := Lib.hid (HE1.out.later hb)
    have HC2 := Lib.hid (Kd.C_below HC1.out hb)
    have HD2 := Lib.hid hC
    clear hb hC HRR HB1 HE1 HC1
    go_wp2_with fail
    refine (where_any er cd pos w2 HE2.out (hg_later HH.out HB2.out)).mono ?_
    rintro e w3 ⟨⟨x, rfl, hx⟩, hb⟩
    have HB3 := Lib.hid (HB2.out.trans (hb.mono HB2.out.size))
    have HE3 := Lib.hid (HE2.out.later hb)
    have HC3 := Lib.hid (Kd.C_below HC2.out hb)
    have HD3 := Lib.hid (Kd.C_below HD2.out hb)
    clear hb HB2 HE2 HC2 HD2
    have HSA := Lib.hid (show ∀ W, Below w3.heap.size w3 W → Calls Tryd.prog 18 #[.slice A L.length c, .slice B L.length k] W fun e w' => e = .returned (.bool true) ∧ Below w3.heap.size w3 w' from fun W hW =>
      (refSameAllE_any L L A B c k W (Kd.C_below HC3.out hW) (Kd.C_below HD3.out hW) hc hk HOK.out HOK.out (by omega) (by omega)).mono fun e w' ⟨he, hb⟩ => ⟨by rw [he, sameAllE_refl], hW.trans (hb.mono hW.size)⟩)
    have HOF := Lib.hid (show ∀ W, Below w3.heap.size w3 W → Calls Tryd.prog 19 #[er] W fun e w' => e = .returned (.int .i64 cd) ∧ Below w3.heap.size w3 w' from fun W hW =>
      (of_one er cd pos W (HE3.out.later hW) (hg_later HH.out (HB3.out.trans (hW.mono HB3.out.size)))).mono fun e w' ⟨he, hb⟩ => ⟨he, hW.trans (hb.mono hW.size)⟩)
    have hxx : decide (cd ≠ 0) = false ∨ (decide (cd ≠ 0) = true ∧ x = pos) := by
      by_cases h : cd = 0
      · exact .inl (by simp [h])
      · exact .inr ⟨by simp [h], hx h⟩
    clear hx
    generalize decide (cd ≠ 0) = ob at hxx
    rcases hxx with rfl | ⟨rfl, rfl⟩
    all_goals
      go_wp2_with fail
      refine (HSA.out _ (Below.refl _ _)).mono ?_
      rintro e w4 ⟨rfl, hb⟩
      have HB4 := Lib.hid hb
      clear hb
      go_wp2_with fail
      refine (HOF.out _ HB4.out).mono ?_
      rintro e w5 ⟨rfl, hb⟩
      have HB5 := Lib.hid (HB3.out.trans (hb.mono HB3.out.size))
      clear hb HB4 HSA HOF HB3 HE3 HC3 HD3
      go_wp2_with fail
      refine (HDE.out w5 (HM.out.later HB5.out)).mono ?_
      rintro e w6 ⟨A1, c1, rfl, hM, hb⟩
      have hcv := (Kd.R_reads' hM).2.1
      have hCv := (Kd.R_reads' hM).2.2
      rw [bI_len] at hCv
      have HB6 := Lib.hid (HB5.out.trans (hb.mono HB5.out.size))
      have HD6 := Lib.hid (show EM w6 ev A1 c1 from ⟨hcv, hCv, HDK.out.1, HDK.out.2.1, HDK.out.2.2⟩)
      have HB7 := Lib.hid (HB6.out.trans ((bel_alloc w6 (.cells #[.int .i64 ev.kind, .int .i64 ev.node, .string (bsV ev.key), .int .i64 ev.ver, .int .i64 ev.asof, .int .i64 ev.ends, .slice A1 ev.value.length c1, .bool ev.found] 30)).mono HB6.out.size))
      have HX7 := Lib.hid (heap_alloc_new w6 (.cells #[.int .i64 ev.kind, .int .i64 ev.node, .string (bsV ev.key), .int .i64 ev.ver, .int .i64 ev.asof, .int .i64 ev.ends, .slice A1 ev.value.length c1, .bool ev.found] 30))
      have HD7 := Lib.hid (HD6.out.later (bel_alloc w6 (.cells #[.int .i64 ev.kind, .int .i64 ev.node, .string (bsV ev.key), .int .i64 ev.ver, .int .i64 ev.asof, .int .i64 ev.ends, .slice A1 ev.value.length c1, .bool ev.found] 30)))
      clear hb hM HB5 HDE HB6 HD6 hcv hCv
      go_wp2_with fail
      generalize w6.alloc (.cells #[.int .i64 ev.kind, .int .i64 ev.node, .string (bsV ev.key), .int .i64 ev.ver, .int .i64 ev.asof, .int .i64 ev.ends, .slice A1 ev.value.length c1, .bool ev.found] 30) = w6b at *
      refine (HDR.out w6b).mono ?_
      rintro e w7 ⟨B1, k1, rfl, hM, hb⟩
      have hcv := (Kd.R_reads' hM).2.1
      have hCv := (Kd.R_reads' hM).2.2
      rw [bI_len] at hCv
      have HX7b := Lib.hid ((hb.block _ (Array.getElem?_eq_some_iff.1 HX7.out).1).trans HX7.out)
      have HX8 := Lib.hid ((Below.heap_alloc w7 (.cells #[.int .i64 ev.kind, .int .i64 ev.node, .string (bsV ev.key), .int .i64 ev.ver, .int .i64 ev.asof, .int .i64 ev.ends, .slice B1 ev.value.length k1, .bool ev.found] 30) w6.heap.size (Array.getElem?_eq_some_iff.1 HX7b.out).1).trans HX7b.out)
      have HB8 := Lib.hid ((HB7.out.trans (hb.mono HB7.out.size)).trans ((bel_alloc w7 (.cells #[.int .i64 ev.kind, .int .i64 ev.node, .string (bsV ev.key), .int .i64 ev.ver, .int .i64 ev.asof, .int .i64 ev.ends, .slice B1 ev.value.length k1, .bool ev.found] 30)).mono (HB7.out.trans (hb.mono HB7.out.size)).size))
      have HY8 := Lib.hid (heap_alloc_new w7 (.cells #[.int .i64 ev.kind, .int .i64 ev.node, .string (bsV ev.key), .int .i64 ev.ver, .int .i64 ev.asof, .int .i64 ev.ends, .slice B1 ev.value.length k1, .bool ev.found] 30))
      have HD8 := Lib.hid ((HD7.out.later hb).later (bel_alloc w7 (.cells #[.int .i64 ev.kind, .int .i64 ev.node, .string (bsV ev.key), .int .i64 ev.ver, .int .i64 ev.asof, .int .i64 ev.ends, .slice B1 ev.value.length k1, .bool ev.found] 30)))
      have HE8 := Lib.hid ((show EM w7 ev B1 k1 from ⟨hcv, hCv, HDK.out.1, HDK.out.2.1, HDK.out.2.2⟩).later (bel_alloc w7 (.cells #[.int .i64 ev.kind, .int .i64 ev.node, .string (bsV ev.key), .int .i64 ev.ver, .int .i64 ev.asof, .int .i64 ev.ends, .slice B1 ev.value.length k1, .bool ev.found] 30)))
      clear hb hM HB7 HDR HX7 HX7b HD7 hcv hCv
      go_upto_region 10 with (fail)
      generalize w7.alloc (.cells #[.int .i64 ev.kind, .int .i64 ev.node, .string (bsV ev.key), .int .i64 ev.ver, .int .i64 ev.asof, .int .i64 ev.ends, .slice B1 ev.value.length k1, .bool ev.found] 30) = w8 at *
      have p0 : w8.cell? ⟨w6.heap.size, 0, none⟩ = some (.int .i64 ev.kind) := cell_of_row w8 _ 0 _ _ (0, 0) HX8.out
      have p1 : w8.cell? ⟨w6.heap.size, 1, none⟩ = some (.int .i64 ev.node) := cell_of_row w8 _ 1 _ _ (0, 0) HX8.out
      have p2 : w8.cell? ⟨w6.heap.size, 2, none⟩ = some (.string (bsV ev.key)) := cell_of_row w8 _ 2 _ _ (0, 0) HX8.out
      have p3 : w8.cell? ⟨w6.heap.size, 3, none⟩ = some (.int .i64 ev.ver) := cell_of_row w8 _ 3 _ _ (0, 0) HX8.out
      have p4 : w8.cell? ⟨w6.heap.size, 4, none⟩ = some (.int .i64 ev.asof) := cell_of_row w8 _ 4 _ _ (0, 0) HX8.out
      have p5 : w8.cell? ⟨w6.heap.size, 5, none⟩ = some (.int .i64 ev.ends) := cell_of_row w8 _ 5 _ _ (0, 0) HX8.out
      have p6 : w8.cell? ⟨w6.heap.size, 6, none⟩ = some (.slice A1 ev.value.length c1) := cell_of_row w8 _ 6 _ _ (0, 0) HX8.out
      have p7 : w8.cell? ⟨w6.heap.size, 7, none⟩ = some (.bool ev.found) := cell_of_row w8 _ 7 _ _ (0, 0) HX8.out
      have HA1 := Lib.hid (bel_alloc w8 (.cells #[.int .i64 ev.kind, .int .i64 ev.node, .string (bsV ev.key), .int .i64 ev.ver, .int .i64 ev.asof, .int .i64 ev.ends, .slice A1 ev.value.length c1, .bool ev.found] 30))
      have HY9 := Lib.hid ((HA1.out.block _ (Array.getElem?_eq_some_iff.1 HY8.out).1).trans HY8.out)
      have HL1 := Lib.hid (lit_kV HD8.out)
      have HL2 := Lib.hid (lit_kV (HE8.out.later HA1.out))
      unfold eC at HL1 HL2
      have hbb : (db == db) = true := by simp
      obtain ⟨w9, hw9⟩ : ∃ w9, w9 = w8.alloc (.cells #[.int .i64 ev.kind, .int .i64 ev.node, .string (bsV ev.key), .int .i64 ev.ver, .int .i64 ev.asof, .int .i64 ev.ends, .slice A1 ev.value.length c1, .bool ev.found] 30) := ⟨_, rfl⟩
      rw [← hw9] at HA1 HY9 HL1 HL2
      rw [show w9.heap.size = w8.heap.size + 1 by rw [hw9]; simp] at HL2
      have HW9 := Lib.hid hw9
      have q0 : w9.cell? ⟨w7.heap.size, 0, none⟩ = some (.int .i64 ev.kind) := cell_of_row w9 _ 0 _ _ (0, 0) HY9.out
      have q1 : w9.cell? ⟨w7.heap.size, 1, none⟩ = some (.int .i64 ev.node) := cell_of_row w9 _ 1 _ _ (0, 0) HY9.out
      have q2 : w9.cell? ⟨w7.heap.size, 2, none⟩ = some (.string (bsV ev.key)) := cell_of_row w9 _ 2 _ _ (0, 0) HY9.out
      have q3 : w9.cell? ⟨w7.heap.size, 3, none⟩ = some (.int .i64 ev.ver) := cell_of_row w9 _ 3 _ _ (0, 0) HY9.out
      have q4 : w9.cell? ⟨w7.heap.size, 4, none⟩ = some (.int .i64 ev.asof) := cell_of_row w9 _ 4 _ _ (0, 0) HY9.out
      have q5 : w9.cell? ⟨w7.heap.size, 5, none⟩ = some (.int .i64 ev.ends) := cell_of_row w9 _ 5 _ _ (0, 0) HY9.out
      have q6 : w9.cell? ⟨w7.heap.size, 6, none⟩ = some (.slice B1 ev.value.length k1) := cell_of_row w9 _ 6 _ _ (0, 0) HY9.out
      have q7 : w9.cell? ⟨w7.heap.size, 7, none⟩ = some (.bool ev.found) := cell_of_row w9 _ 7 _ _ (0, 0) HY9.out
      rw [hw9] at q0 q1 q2 q3 q4 q5 q6 q7
      clear hw9
      go_wp2_with fail
      rw [← HW9.out]
      have HA2 := Lib.hid (bel_alloc w9 (.cells #[.int .i64 ev.kind, .int .i64 ev.node, .string (bsV ev.key), .int .i64 ev.ver, .int .i64 ev.asof, .int .i64 ev.ends, .slice B1 ev.value.length k1, .bool ev.found] 30))
      have HL1b := Lib.hid (Kd.C_below HL1.out HA2.out)
      refine (show Calls Tryd.prog 18 #[.slice (some ⟨w8.heap.size, 0, none⟩) 1 1, .slice (some ⟨w8.heap.size + 1, 0, none⟩) 1 1] (w9.alloc (.cells #[.int .i64 ev.kind, .int .i64 ev.node, .string (bsV ev.key), .int .i64 ev.ver, .int .i64 ev.asof, .int .i64 ev.ends, .slice B1 ev.value.length k1, .bool ev.found] 30)) _ from refSameAllE_any [ev] [ev] _ _ 1 1 _ HL1b.out HL2.out (by simp) (by simp) (fun d hd => by rw [List.mem_singleton.1 hd]; exact HDK.out) (fun d hd => by rw [List.mem_singleton.1 hd]; exact HDK.out) (by simp) (by simp)).mono ?_
      rintro e wz ⟨rfl, hb⟩
      rw [sameAllE_refl]
      have HBz := Lib.hid ((HB8.out.trans ((HA1.out.trans (HA2.out.mono HA1.out.size)).mono HB8.out.size)).trans (hb.mono (HB8.out.trans ((HA1.out.trans (HA2.out.mono HA1.out.size)).mono HB8.out.size)).size))
      clear hb
      go_wp2_with fail
      refine (HW.out _ HBz.out).mono ?_
      rintro e w10 ⟨rfl, hb⟩
      have HB10 := Lib.hid hb
      clear hb
      go_wp2_with fail
      go_ret
      exact ⟨rfl, HB10.out⟩
  · have hdd : (3000 : Int) < (s.length : Int) ∨ (¬ (3000 : Int) < (s.length : Int) ∧ (1000 : Int) < (ln.length : Int)) := by omega
    clear hgd
    rcases hdd with d1 | ⟨d1, d2⟩
    all_goals
      go_enter Tryd.func4, Tryd.ntmps4
      go_wp2_with fail
      refine (HW.out _ (Below.refl _ _)).mono ?_
      rintro e w9 ⟨rfl, hb9⟩
      have HB9 := Lib.hid hb9
      clear hb9
      go_wp2_with fail
      go_ret
      exact ⟨rfl, HB9.out⟩
end Go.Proofs.YtgfljpchdiapeaaDoor
