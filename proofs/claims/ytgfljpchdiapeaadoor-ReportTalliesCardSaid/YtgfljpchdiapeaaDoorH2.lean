/- report.Event: a line's event. The events of a text: report.Read. How many events of each kind there are: report.Sum. -/
import Derived.Test.YtgfljpchdiapeaaDoorG8
import Derived.Test.YtgfljpchdiapeaaDoorG9
import Derived.Test.YtgfljpchdiapeaaDoorH1
import Derived.Deep.Slices
namespace Go.Proofs.YtgfljpchdiapeaaDoor
set_option linter.unusedVariables false
set_option linter.unusedSimpArgs false
open Go.RowKit Go.Proofs.YtgfljpchdiapeaaDoorW.PrintWords Go.Proofs.YtgfljpchdiapeaaDoorW.PrintLast
attribute [local go_sem ↓] Go.wp_at_zero Go.wp_at_succ
attribute [local go_sem] bsV_get bsV_size bsV_toList
def tabE : List Ev := [⟨1, 0, [], 0, 0, 0, [], false⟩, ⟨2, 0, [], 0, 0, 0, [], false⟩, ⟨3, 0, [], 0, 0, 0, [], true⟩, ⟨3, 0, [], 0, 0, 0, [], false⟩, ⟨4, 0, [], 0, 0, 0, [], false⟩]
theorem tab_plain {e : Ev} (h : e ∈ tabE) : e.value = [] ∧ okV e := by
  have z : ∀ k : Int, 0 ≤ k → k ≤ 4 → ∀ f, okV ⟨k, 0, [], 0, 0, 0, [], f⟩ := fun k h1 h2 f => ⟨⟨⟨by show (-9223372036854775808 : Int) ≤ k; omega, by show k ≤ (9223372036854775807 : Int); omega⟩, z64, z64, z64, z64⟩, by simp, by simp⟩
  simp only [tabE, List.mem_cons, List.not_mem_nil, or_false] at h
  rcases h with rfl | rfl | rfl | rfl | rfl
  · exact ⟨rfl, z 1 (by omega) (by omega) _⟩
  · exact ⟨rfl, z 2 (by omega) (by omega) _⟩
  · exact ⟨rfl, z 3 (by omega) (by omega) _⟩
  · exact ⟨rfl, z 3 (by omega) (by omega) _⟩
  · exact ⟨rfl, z 4 (by omega) (by omega) _⟩
structure TB (B0 : Nat) (W : World) (A : Option Addr) : Prop where
  row : kV.C W A 5 tabE
  val : ∀ (i : Nat) (ad : Addr) (A1 : Option Addr) (n1 c1 : Nat), i < 5 → A = some ad → W.cell? ⟨(ad.add (i * 8)).block, (ad.add (i * 8)).off + 6, none⟩ = some (.slice A1 n1 c1) → Kd.R (Kd.int .u8) 5 W B0 (fun _ => True) (.slice A1 n1 c1) []
theorem TB.later {B0 : Nat} {W W' : World} {A : Option Addr} (h : TB B0 W A) (hb : Below W.heap.size W W') : TB B0 W' A := by
  refine ⟨Kd.C_below h.row hb, fun i ad A1 n1 c1 hi ha hc => Kd.R_below (h.val i ad A1 n1 c1 hi ha ?_) hb⟩
  obtain ⟨ad', A2, c2, e2, _, _, _, _, _, _, _, k6, _⟩ := event_at h.row (i := i) (show i < tabE.length from hi) rfl (tab_plain (List.getElem_mem (show i < tabE.length from hi))).2
  rw [ha] at e2
  injection e2 with e2
  subst e2
  rw [← hc]
  exact (hb.cell (World.block_lt_of_cell? W _ k6)).symm
theorem tab_many {e : Ev} (h : e ∈ tabE) : 1 ≤ manyE e := by
  simp only [tabE, List.mem_cons, List.not_mem_nil, or_false] at h
  rcases h with rfl | rfl | rfl | rfl | rfl <;> decide
theorem table_any (w : World) : Calls Tryd.prog 41 #[] w fun e w' => ∃ A c, e = .returned (.slice A 5 c) ∧ 5 ≤ c ∧ TB w.heap.size w' A ∧ Below w.heap.size w w' := by
  refine (PR.report_table.calls (tabE.map evOf) w rfl).mono ?_
  rintro e w' ⟨v, rfl, hS, hb⟩
  have hR := Kd.S_R hS
  obtain ⟨g, cap, rfl, _⟩ := Kd.R_form hR (by simp [tabE])
  obtain ⟨_, hc, hC⟩ := Kd.R_reads' hR
  refine ⟨some ⟨g, 0, none⟩, cap, rfl, hc, ⟨kV_of hC, fun i ad A1 n1 c1 hi ha hcell => ?_⟩, hb⟩
  injection ha with ha
  subst ha
  obtain ⟨cs, hcl, hM, hcc, _⟩ := Kd.R_elem hR (evOf zE) (i : Int) (by omega) (by have : ((tabE.map evOf).length : Int) = 5 := rfl; omega)
  obtain ⟨v6, rfl, hr⟩ := PR.k30_openM hM
  have h6 := hcc 6 v6 rfl
  rw [Int.toNat_natCast] at h6 hr
  have e6 : v6 = .slice A1 n1 c1 := by
    have e8 : PR.k30.sz = 8 := rfl
    rw [e8] at h6
    have ea : (⟨(Addr.add ⟨g, 0, none⟩ (i * 8)).block, (Addr.add ⟨g, 0, none⟩ (i * 8)).off + 6, none⟩ : Addr) = ⟨g, i * 8 + 6, none⟩ := by rw [add_plain]
    rw [ea, h6] at hcell
    exact Option.some.inj hcell
  subst e6
  have hv : ((tabE.map evOf).getD i (evOf zE)).f2.f4 = [] := by
    rw [List.getD_eq_getElem?_getD, List.getElem?_map, List.getElem?_eq_getElem (show i < tabE.length from hi)]
    show bI (tabE[i]).value = []
    exact (congrArg bI (tab_plain (List.getElem_mem (show i < tabE.length from hi))).1).trans rfl
  rw [hv] at hr
  exact Kd.R_mono hr (fun _ _ => trivial)
def lawE (e : Ev) (ws : List Bs) : Option Ev := if e.kind = 1 then hitR ws else if e.kind = 2 then missR ws else if e.kind = 3 then (if e.found = true then writeR ws else eraseR ws) else doneR ws
theorem fill_any {e : Ev} (he : e ∈ tabE) (ws : List Bs) (hn : (ws.length : Int) = manyE e) (A : Option Addr) (c0 : Nat) (w : World) (hC : Kd.string.C w A ws.length (ws.map bsV)) (hc : ws.length ≤ c0) (hl : ∀ z ∈ ws, z.length < 100000000) (Av : Option Addr) (cv B0 : Nat) (hRv : Kd.R (Kd.int .u8) 5 w B0 (fun _ => True) (.slice Av e.value.length cv) []) (hB0 : B0 ≤ w.heap.size) :
    Calls Tryd.prog 46 #[.agg (eC e Av cv), .slice A ws.length c0] w (FPost (lawE e ws) B0 w) := by
  simp only [tabE, List.mem_cons, List.not_mem_nil, or_false] at he
  rcases he with rfl | rfl | rfl | rfl | rfl
  · obtain ⟨a, b, c, d, x, rfl⟩ := len5 (r := ws) (by have : manyE ⟨1, 0, [], 0, 0, 0, [], false⟩ = 5 := rfl; omega)
    exact fill_hit a b c d x A c0 w hC hc hl Av cv B0 hRv hB0
  · obtain ⟨a, b, rfl⟩ := len2' (r := ws) (by have : manyE ⟨2, 0, [], 0, 0, 0, [], false⟩ = 2 := rfl; omega)
    exact fill_miss a b A c0 w hC hc hl Av cv B0 hRv hB0
  · obtain ⟨a, b, c, rfl⟩ := len3' (r := ws) (by have : manyE ⟨3, 0, [], 0, 0, 0, [], true⟩ = 3 := rfl; omega)
    exact fill_write a b c A c0 w hC hc hl Av cv B0 hRv hB0
  · obtain ⟨a, b, rfl⟩ := len2' (r := ws) (by have : manyE ⟨3, 0, [], 0, 0, 0, [], false⟩ = 2 := rfl; omega)
    exact fill_erase a b A c0 w hC hc hl Av cv B0 hRv hB0
  · obtain ⟨a, rfl⟩ := len1' (r := ws) (by have : manyE ⟨4, 0, [], 0, 0, 0, [], false⟩ = 1 := rfl; omega)
    exact fill_done a A c0 w hC hc hl Av cv B0 hRv hB0
theorem law_read {e : Ev} (he : e ∈ tabE) {wd : Bs} {r : List Bs} (h : wordE e = wd) : readE wd r = lawE e r := by
  subst h
  simp only [tabE, List.mem_cons, List.not_mem_nil, or_false] at he
  rcases he with rfl | rfl | rfl | rfl | rfl <;> rfl
theorem law_none {wd : Bs} {r : List Bs} (h : ∀ j (hj : j < tabE.length), ¬ (wordE tabE[j] = wd ∧ manyE tabE[j] = (r.length : Int))) : readE wd r = none := by
  have h0 := h 0 (by decide)
  have h1 := h 1 (by decide)
  have h2 := h 2 (by decide)
  have h3 := h 3 (by decide)
  have h4 := h 4 (by decide)
  have e0 : wordE tabE[0] = hitW := rfl
  have e1 : wordE tabE[1] = missW := rfl
  have e2 : wordE tabE[2] = writeW := rfl
  have e3 : wordE tabE[3] = eraseW := rfl
  have e4 : wordE tabE[4] = doneW := rfl
  have f0 : manyE tabE[0] = 5 := rfl
  have f1 : manyE tabE[1] = 2 := rfl
  have f2 : manyE tabE[2] = 3 := rfl
  have f3 : manyE tabE[3] = 2 := rfl
  have f4 : manyE tabE[4] = 1 := rfl
  rw [e0, f0] at h0
  rw [e1, f1] at h1
  rw [e2, f2] at h2
  rw [e3, f3] at h3
  rw [e4, f4] at h4
  unfold readE
  by_cases k1 : wd = hitW
  · rw [if_pos k1, hitR_no (fun e => h0 ⟨k1.symm, by omega⟩)]
  rw [if_neg k1]
  by_cases k2 : wd = missW
  · rw [if_pos k2, missR_no (fun e => h1 ⟨k2.symm, by omega⟩)]
  rw [if_neg k2]
  by_cases k3 : wd = writeW
  · rw [if_pos k3, writeR_no (fun e => h2 ⟨k3.symm, by omega⟩)]
  rw [if_neg k3]
  by_cases k4 : wd = eraseW
  · rw [if_pos k4, eraseR_no (fun e => h3 ⟨k4.symm, by omega⟩)]
  rw [if_neg k4]
  by_cases k5 : wd = doneW
  · rw [if_pos k5, doneR_no (fun e => h4 ⟨k5.symm, by omega⟩)]
  rw [if_neg k5]
def EvPost (s : Bs) (w : World) (e : Ending) (w' : World) : Prop := ∃ A c, e = .returned (.tuple #[.agg (eC (evD s) A c), .bool (eventS s).isSome]) ∧ Kd.R (Kd.int .u8) 5 w' w.heap.size (fun _ => True) (.slice A (evD s).value.length c) (bI (evD s).value) ∧ Below w.heap.size w w'
theorem ev_none {s : Bs} {w w' : World} {e : Ending} (h : eventS s = none) (he : e = .returned (.tuple #[.agg #[.int .i64 0, .int .i64 0, .string ⟨#[]⟩, .int .i64 0, .int .i64 0, .int .i64 0, .slice none 0 0, .bool false], .bool false])) (hb : Below w.heap.size w w') : EvPost s w e w' := by
  refine ⟨none, 0, ?_, ?_, hb⟩
  · rw [he, evD, h]; rfl
  · rw [evD, h]; exact Kd.R_nil _ _ _ _ _
theorem C_tail {W : World} {A : Option Addr} {a : Bs} {r : List Bs} {ad : Addr} (ha : A = some ad) (h : Kd.string.C W A (a :: r).length ((a :: r).map bsV)) : Kd.string.C W (some (ad.add 1)) r.length (r.map bsV) := by
  refine ⟨List.length_map .., by have := h.2.1; simp at this ⊢; omega, fun hp => ?_⟩
  obtain ⟨ad', e, hc⟩ := h.2.2 (by simp)
  rw [ha] at e
  injection e with e
  subst e
  refine ⟨_, rfl, fun j p hj => ?_⟩
  obtain ⟨cs, h1, h2, h3⟩ := hc (j + 1) p (by simpa using hj)
  refine ⟨cs, h1, h2, fun i u hu => ?_⟩
  have := h3 i u hu
  rw [Go.Deep.add_add]
  rw [← this]
  congr 2
  show 1 + (j * Kd.string.sz + i) = (j + 1) * Kd.string.sz + i
  have e1 : Kd.string.sz = 1 := rfl
  rw [e1]
  omega
set_option maxHeartbeats 8000000 in
set_option maxRecDepth 100000 in
theorem event_any (s : Bs) (w : World) (hl : s.length ≤ 1000000) (hm : MX w) : Calls Tryd.prog 20 #[.string (bsV s)] w (EvPost s w) := by
  obtain ⟨wd, r, hs⟩ := split_cons 32 s
  have HES := Lib.hid (show eventS s = readE wd r by rw [eventS, hs])
  have HWL := Lib.hid (show ∀ x ∈ wd :: r, x.length < 100000000 from fun x hx => by rw [← hs] at hx; have := mem_split_len hx; omega)
  have HLN := Lib.hid (show r.length ≤ 1000000 by have := split_len 32 s; rw [hs] at this; simp at this; omega)
  have HS := Lib.hid (show ∀ W, MX W → Calls Tryd.prog 42 #[.string (bsV s), .string ⟨#[32]⟩] W fun e w' => e = .returned (.slice (some ⟨W.heap.size, 0, none⟩) (r.length + 1) (r.length + 1)) ∧ Kd.string.C w' (some ⟨W.heap.size, 0, none⟩) (wd :: r).length ((wd :: r).map bsV) ∧ Below W.heap.size W w' from fun W hW => by
    have h := split_any 32 s W (by omega) hW
    have hr := (split_row (s := s) (c := 32) W).resolve_right (by have := split_len 32 s; omega)
    rw [hs] at h hr
    exact h.mono fun e w' ⟨he, hw⟩ => ⟨he, by rw [hw]; exact hr, by rw [hw]; exact bel_alloc _ _⟩)
  have HB1 := Lib.hid (bel_alloc w (.cells zC 30))
  have HX1 := Lib.hid (heap_alloc_new w (.cells zC 30))
  have HM1 := Lib.hid (hm.later (bel_alloc w (.cells zC 30)))
  clear hm hs hl
  unfold zC at HB1 HX1 HM1
  go_enter Tryd.func20, Tryd.ntmps20
  go_upto_region 1 with (fail)
  generalize w.alloc (.cells #[.int .i64 0, .int .i64 0, .string ⟨#[]⟩, .int .i64 0, .int .i64 0, .int .i64 0, .slice none 0 0, .bool false] 30) = w1 at *
  go_wp2_with fail
  refine (HS.out w1 HM1.out).mono ?_
  rintro x w2 ⟨rfl, hC, hb⟩
  have HB2 := Lib.hid (HB1.out.trans (hb.mono HB1.out.size))
  have HX2 := Lib.hid ((hb.block _ (Array.getElem?_eq_some_iff.1 HX1.out).1).trans HX1.out)
  have HC2 := Lib.hid hC
  generalize hq : w1.heap.size = q at *
  clear hC hb HB1 HX1 HM1 HS
  go_wp2_with fail
  refine (table_any w2).mono ?_
  rintro x w3 ⟨A, c, rfl, hc5, hT, hb⟩
  have HB3 := Lib.hid (HB2.out.trans (hb.mono HB2.out.size))
  have HX3 := Lib.hid ((hb.block _ (Array.getElem?_eq_some_iff.1 HX2.out).1).trans HX2.out)
  have HC3 := Lib.hid (Kd.C_below HC2.out hb)
  have HT3 := Lib.hid hT
  have HSZ := Lib.hid HB2.out.size
  have HS23 := Lib.hid hb.size
  clear hT hb HB2 HX2 HC2
  go_wp2_with fail
  go_loopw [15] (fun iv wr => ∃ i : Nat, i ≤ 5 ∧ iv = .int .i64 i ∧ Hid ((∀ j (hj : j < tabE.length), j < i → ¬ (wordE tabE[j] = wd ∧ manyE tabE[j] = (r.length : Int))) ∧ Below w3.heap.size w3 wr)) (fun iv _ => 5 - (intOf iv).toNat)
  case atStart => exact ⟨0, by omega, rfl, fun j hj h => absurd h (Nat.not_lt_zero _), Below.refl _ _⟩
  case round =>
    obtain ⟨i, hi, rfl, HI⟩ := hrel
    by_cases hlt : i < 5
    · have i1 : (0 : Int) ≤ (i : Int) := by omega
      have i2 : (i : Int) < 5 := by omega
      have hwi : IntKind.i64.wrap ((i : Int) + 1) = (i : Int) + 1 := by rw [IntKind.wrap_i64]; omega
      have hws : IntKind.i64.wrap ((r.length : Int) + 1 - 1) = (r.length : Int) := by have := HLN.out; rw [IntKind.wrap_i64]; omega
      have hws2 : IntKind.i64.wrap (r.length : Int) = (r.length : Int) := by have := HLN.out; rw [IntKind.wrap_i64]; omega
      have HT := Lib.hid (HT3.out.later HI.out.2)
      have hlt' : i < tabE.length := hlt
      obtain ⟨e, he⟩ : ∃ e, tabE[i]'hlt' = e := ⟨_, rfl⟩
      have HME := Lib.hid (show e ∈ tabE by rw [← he]; exact List.getElem_mem _)
      obtain ⟨ad, A1, c1, rfl, hEM, k0, k1, k2, k3, k4, k5, k6, k7⟩ := event_at HT.out.row (i := i) hlt' he (tab_plain HME.out).2
      have HRV := Lib.hid (HT.out.val i ad A1 _ c1 hlt rfl k6)
      have HE := Lib.hid he
      have HBW := Lib.hid (HB3.out.trans (HI.out.2.mono HB3.out.size))
      have HXW := Lib.hid ((HI.out.2.block _ (Array.getElem?_eq_some_iff.1 HX3.out).1).trans HX3.out)
      have HCW := Lib.hid (Kd.C_below HC3.out HI.out.2)
      have HIJ := Lib.hid HI.out
      have HBA := Lib.hid (bel_alloc wr (.cells (eC e A1 c1) 30))
      have HXA := Lib.hid (heap_alloc_new wr (.cells (eC e A1 c1) 30))
      have HWA := Lib.hid (wordsE_any e A1 c1 _ (hEM.later HBA.out))
      clear he hEM HI HT
      unfold eC at HBA HXA HWA
      have c0 : wr.cell? ⟨q, 0, none⟩ = some (.string (bsV wd)) := by
        obtain ⟨a', e1, h1⟩ := str_at HCW.out (i := 0) (by simp)
        injection e1 with e1
        subst e1
        exact h1
      have HC0 := Lib.hid c0
      clear c0
      go_upto_region 5 with (fail)
      generalize hwx : wr.alloc (.cells #[.int .i64 e.kind, .int .i64 e.node, .string (bsV e.key), .int .i64 e.ver, .int .i64 e.asof, .int .i64 e.ends, .slice A1 e.value.length c1, .bool e.found] 30) = wx at *
      have HWX := Lib.hid hwx
      have HXX := Lib.hid (show ∀ W, Below wx.heap.size wx W → W.cell? ⟨wr.heap.size, 0, none⟩ = some (.int .i64 e.kind) ∧ W.cell? ⟨wr.heap.size, 1, none⟩ = some (.int .i64 e.node) ∧ W.cell? ⟨wr.heap.size, 2, none⟩ = some (.string (bsV e.key)) ∧ W.cell? ⟨wr.heap.size, 3, none⟩ = some (.int .i64 e.ver) ∧ W.cell? ⟨wr.heap.size, 4, none⟩ = some (.int .i64 e.asof) ∧ W.cell? ⟨wr.heap.size, 5, none⟩ = some (.int .i64 e.ends) ∧ W.cell? ⟨wr.heap.size, 6, none⟩ = some (.slice A1 e.value.length c1) ∧ W.cell? ⟨wr.heap.size, 7, none⟩ = some (.bool e.found) from fun W hW => by
        have e1 := (hW.block _ (Array.getElem?_eq_some_iff.1 HXA.out).1).trans HXA.out
        refine ⟨?_, ?_, ?_, ?_, ?_, ?_, ?_, ?_⟩ <;> (rw [World.cell?, e1]; rfl))
      clear hwx k0 k1 k2 k3 k4 k5 k6 k7
      obtain ⟨k0, k1, k2, k3, k4, k5, k6, k7⟩ := HXX.out wx (Below.refl _ _)
      go_wp2_with fail
      refine HWA.out.mono ?_
      rintro x w4 ⟨rfl, hb4⟩
      have HX4 := Lib.hid (HXX.out w4 hb4)
      have hb5 : Below wr.heap.size wr w4 := HBA.out.trans (hb4.mono HBA.out.size)
      have HB4 := Lib.hid hb5
      have c0 : w4.cell? ⟨q, 0, none⟩ = some (.string (bsV wd)) := (hb5.cell (p := ⟨q, 0, none⟩) (World.block_lt_of_cell? wr _ HC0.out)).trans HC0.out
      clear hb5 k0 k1 k2 k3 k4 k5 k6 k7
      have HB44 := Lib.hid hb4
      clear hb4
      by_cases hw : wordE e = wd
      · have hwb : (wordE e == wd) = true := by simpa using hw
        by_cases hmn : manyE e = (r.length : Int)
        · have hmb : (manyE e == (r.length : Int)) = true := by simpa using hmn
          have HLW := Lib.hid (law_read HME.out (r := r) hw)
          have hr1 : ¬ r.length = 0 := by have := tab_many HME.out; omega
          have hr2 : ¬ r = [] := fun e0 => hr1 (by rw [e0]; rfl)
          have hq1 : (0 : Int) ≤ (r.length : Int) := by omega
          have hq3 : (1 : Int) ≤ (r.length : Int) + 1 := by omega
          have HMN := Lib.hid hmn
          clear hw hmn
          obtain ⟨k0, k1, k2, k3, k4, k5, k6, k7⟩ := HX4.out
          have HXY := Lib.hid (show ∀ W, Below w4.heap.size w4 W → W.cell? ⟨wr.heap.size, 0, none⟩ = some (.int .i64 e.kind) ∧ W.cell? ⟨wr.heap.size, 1, none⟩ = some (.int .i64 e.node) ∧ W.cell? ⟨wr.heap.size, 2, none⟩ = some (.string (bsV e.key)) ∧ W.cell? ⟨wr.heap.size, 3, none⟩ = some (.int .i64 e.ver) ∧ W.cell? ⟨wr.heap.size, 4, none⟩ = some (.int .i64 e.asof) ∧ W.cell? ⟨wr.heap.size, 5, none⟩ = some (.int .i64 e.ends) ∧ W.cell? ⟨wr.heap.size, 6, none⟩ = some (.slice A1 e.value.length c1) ∧ W.cell? ⟨wr.heap.size, 7, none⟩ = some (.bool e.found) from fun W hW => HXX.out W (HB44.out.trans (hW.mono HB44.out.size)))
          have z0 : Hid (Below w4.heap.size w4 w4.drew) := (Drawn0.below ⟨1, rfl⟩)
          have HCT := Lib.hid (C_tail rfl HCW.out)
          have HFI := Lib.hid (show ∀ W, Below w4.heap.size w4 W → Calls Tryd.prog 46 #[.agg #[.int .i64 e.kind, .int .i64 e.node, .string (bsV e.key), .int .i64 e.ver, .int .i64 e.asof, .int .i64 e.ends, .slice A1 e.value.length c1, .bool e.found], .slice (some ⟨q, 1, none⟩) r.length r.length] W fun x w' => ∃ v A3 c3 ok, x = .returned (.tuple #[.agg #[.int .i64 v.kind, .int .i64 v.node, .string (bsV v.key), .int .i64 v.ver, .int .i64 v.asof, .int .i64 v.ends, .slice A3 v.value.length c3, .bool v.found], .bool ok]) ∧ (ok = true → eventS s = some v) ∧ (ok = false → eventS s = none) ∧ Kd.R (Kd.int .u8) 5 w' w.heap.size (fun _ => True) (.slice A3 v.value.length c3) (bI v.value) ∧ Below W.heap.size W w' from fun W hW => by
            have hb6 : Below wr.heap.size wr W := HB4.out.trans (hW.mono HB4.out.size)
            have hA : (⟨q, 0, none⟩ : Addr).add 1 = ⟨q, 1, none⟩ := by simp [Addr.add]
            have hC := Kd.C_below HCT.out hb6
            rw [hA] at hC
            have h := fill_any HME.out r HMN.out.symm (some ⟨q, 1, none⟩) r.length W hC (Nat.le_refl _) (fun z hz => HWL.out z (List.mem_cons_of_mem _ hz)) A1 c1 w2.heap.size (Kd.R_below HRV.out hb6) (Nat.le_trans HS23.out (Nat.le_trans HIJ.out.2.size hb6.size))
            unfold FPost at h
            refine h.mono ?_
            rintro x w' ⟨v, A3, c3, ok, h1, h2, h3, h4, h5⟩
            exact ⟨v, A3, c3, ok, h1, fun ho => by rw [HES.out, HLW.out]; exact h2 ho, fun ho => by rw [HES.out, HLW.out]; exact h3 ho, Kd.R_lower h4 HSZ.out, h5⟩)
          go_wp2_with fail
          have HXZ := Lib.hid ((HB4.out.block _ (Array.getElem?_eq_some_iff.1 HXW.out).1).trans HXW.out)
          clear k0 k1 k2 k3 k4 k5 k6 k7
          refine wp_region_held_drew (S := (fun w' => w'.cell? ⟨wr.heap.size, 0, none⟩ = some (.int .i64 e.kind) ∧ w'.cell? ⟨wr.heap.size, 1, none⟩ = some (.int .i64 e.node) ∧ w'.cell? ⟨wr.heap.size, 2, none⟩ = some (.string (bsV e.key)) ∧ w'.cell? ⟨wr.heap.size, 3, none⟩ = some (.int .i64 e.ver) ∧ w'.cell? ⟨wr.heap.size, 4, none⟩ = some (.int .i64 e.asof) ∧ w'.cell? ⟨wr.heap.size, 5, none⟩ = some (.int .i64 e.ends) ∧ w'.cell? ⟨wr.heap.size, 6, none⟩ = some (.slice A1 e.value.length c1) ∧ w'.cell? ⟨wr.heap.size, 7, none⟩ = some (.bool e.found))) (by kernel_rfl) ?_ (fun hHeld => ?_)
          · exact HXY.out _ z0.out
          generalize w4.drew = d at *
          refine wpAnyH_take (i := 0) (oi := ⟨some 37, _, _, _, _, _⟩) (v := ?_) rfl (by kernel_rfl) (by kernel_rfl) (by kernel_rfl) (fun _ _ _ h => h) (Or.inl ⟨by rfl, ?_⟩) (by assumption) ?_
          rotate_left
          · intro WW hSw
            try dsimp only at hSw
            go_simp
            try with_reducible rfl
          try simp only [Act.put, pA, pB, pC]
          refine wpAnyH_take (i := 1) (oi := ⟨some 38, _, _, _, _, _⟩) (v := ?_) rfl (by kernel_rfl) (by kernel_rfl) (by kernel_rfl) (fun _ _ _ h => h) (Or.inl ⟨by rfl, ?_⟩) (by assumption) ?_
          rotate_left
          · intro WW hSw
            try dsimp only at hSw
            go_simp
            try with_reducible rfl
          try simp only [Act.put, pA, pB, pC]
          refine wpAnyH_take (i := 2) (oi := ⟨some 39, _, _, _, _, _⟩) (v := ?_) rfl (by kernel_rfl) (by kernel_rfl) (by kernel_rfl) (fun _ _ _ h => h) (Or.inl ⟨by rfl, ?_⟩) (by assumption) ?_
          rotate_left
          · intro WW hSw
            try dsimp only at hSw
            go_simp
            try with_reducible rfl
          try simp only [Act.put, pA, pB, pC]
          refine wpAnyH_ready (rs := [3, 7]) (by kernel_rfl) (by simp) ?_
          refine AllReadyH.cons (o := ⟨some 40, _, _, _, _, _⟩) rfl (fun K hK => ?_) (AllReadyH.cons (o := ⟨some 9, _, _, _, _, _⟩) rfl (fun K hK => ?_) AllReadyH.nil)
          · skip
            go_simp
            go_at_call 46
            refine (HFI.out _ z0.out).mono ?_
            rintro x y1 ⟨v, A3, c3, ok, rfl, h1, h2, h3, hb⟩
            have z1 := Lib.hid (z0.out.trans (hb.mono z0.out.size))
            have HS1 := Lib.hid h1
            have HN1 := Lib.hid h2
            have HR1 := Lib.hid h3
            clear hb h1 h2 h3
            refine hK.out _ _ ?_ (fun hHeld2 => ?_)
            · exact HXY.out _ z1.out
            clear hK K hHeld
            try simp only [Act.put, pA, pB, pC]
            refine wpAnyH_take (i := 4) (oi := ⟨some 36, _, _, _, _, _⟩) (v := ?_) rfl (by kernel_rfl) (by kernel_rfl) (by kernel_rfl) (fun _ _ _ h => h) (Or.inl ⟨by rfl, ?_⟩) (by assumption) ?_
            rotate_left
            · intro WW hSw
              try dsimp only at hSw
              go_simp
              try with_reducible rfl
            try simp only [Act.put, pA, pB, pC]
            refine wpAnyH_take (i := 5) (oi := ⟨some 41, _, _, _, _, _⟩) (v := ?_) rfl (by kernel_rfl) (by kernel_rfl) (by kernel_rfl) (fun _ _ _ h => h) (Or.inl ⟨by rfl, ?_⟩) (by assumption) ?_
            rotate_left
            · intro WW hSw
              try dsimp only at hSw
              go_simp
              try with_reducible rfl
            try simp only [Act.put, pA, pB, pC]
            refine wpAnyH_take (i := 6) (oi := ⟨some 42, _, _, _, _, _⟩) (v := ?_) rfl (by kernel_rfl) (by kernel_rfl) (by kernel_rfl) (fun _ _ _ h => h) (Or.inl ⟨by rfl, ?_⟩) (by assumption) ?_
            rotate_left
            · intro WW hSw
              try dsimp only at hSw
              go_simp
              try with_reducible rfl
            try simp only [Act.put, pA, pB, pC]
            refine wpAnyH_ready (rs := [7]) (by kernel_rfl) (by simp) ?_
            refine AllReadyH.cons (o := ⟨some 9, _, _, _, _, _⟩) rfl (fun K hK => ?_) AllReadyH.nil
            have zY := Lib.hid (z1.out.trans ((bel_alloc y1 (.cells #[.int .i64 0, .int .i64 0, .string ⟨#[]⟩, .int .i64 0, .int .i64 0, .int .i64 0, .slice none 0 0, .bool false] 30)).mono z1.out.size))
            have HBK := Lib.hid (show (y1.alloc (.cells #[.int .i64 0, .int .i64 0, .string ⟨#[]⟩, .int .i64 0, .int .i64 0, .int .i64 0, .slice none 0 0, .bool false] 30)).heap[y1.heap.size]? = some (.cells zC 30 (0, 0)) from heap_alloc_new _ _)
            have HRY := Lib.hid (Kd.R_below HR1.out (bel_alloc y1 (.cells #[.int .i64 0, .int .i64 0, .string ⟨#[]⟩, .int .i64 0, .int .i64 0, .int .i64 0, .slice none 0 0, .bool false] 30)))
            have HGB := Lib.hid z1.out.size
            have HGW := Lib.hid (Nat.le_trans HBW.out.size (Nat.le_trans HB4.out.size z1.out.size))
            have HNE := Lib.hid (show w.heap.size ≠ y1.heap.size by have := (Array.getElem?_eq_some_iff.1 HXZ.out).1; have := z1.out.size; omega)
            go_simp
            refine hK.out _ _ ?_ (fun hHeld3 => ?_)
            · exact HXY.out _ zY.out
            clear hK K hHeld2
            try simp only [Act.put, pA, pB, pC]
            generalize hY : y1.alloc (.cells #[.int .i64 0, .int .i64 0, .string ⟨#[]⟩, .int .i64 0, .int .i64 0, .int .i64 0, .slice none 0 0, .bool false] 30) = Y at *
            have HZY := Lib.hid ((zY.out.block _ (Array.getElem?_eq_some_iff.1 HXZ.out).1).trans HXZ.out)
            have HBY := Lib.hid (HBW.out.trans ((HB4.out.trans (zY.out.mono HB4.out.size)).mono HBW.out.size))
            refine wpAnyH_ready (rs := [8]) (by kernel_rfl) (by simp) ?_
            refine AllReadyH.cons (o := ⟨none, _, _, _, _, _⟩) rfl (fun K hK => ?_) AllReadyH.nil
            obtain ⟨m0, m1, m2, m3, m4, m5, m6, m7, n0, n1, n2, n3, n4, n5, n6, n7⟩ := zC_facts HBK.out
            have HST := Lib.hid (set8 HBK.out (.int .i64 v.kind) (.int .i64 v.node) (.string (bsV v.key)) (.int .i64 v.ver) (.int .i64 v.asof) (.int .i64 v.ends) (.slice A3 v.value.length c3) (.bool v.found))
            go_simp
            refine hK.out _ _ ?_ (fun hHeld8 => ?_)
            · exact HXY.out _ (HST.out.2.2 zY.out HGB.out)
            clear hK K hHeld3
            try simp only [Act.put, pA, pB, pC]
            refine wpAnyH_take (i := 9) (oi := ⟨some 10, _, _, _, _, _⟩) (v := ?_) rfl (by kernel_rfl) (by kernel_rfl) (by kernel_rfl) (fun _ _ _ h => h) (Or.inl ⟨by rfl, ?_⟩) (by assumption) ?_
            rotate_left
            · intro WW hSw
              try dsimp only at hSw
              go_simp
              try with_reducible rfl
            try simp only [Act.put, pA, pB, pC]
            refine wpAnyH_done (by kernel_rfl) ?_ _
            clear m0 m1 m2 m3 m4 m5 m6 m7 n0 n1 n2 n3 n4 n5 n6 n7
            have HZu := Lib.hid ((HST.out.2.1 w.heap.size HNE.out).trans HZY.out)
            have HBu := Lib.hid (HST.out.2.2 HBY.out HGW.out)
            have HUB := Lib.hid HST.out.1
            have HUO := Lib.hid HST.out.2.1
            clear HST
            generalize (((((((Y.setCell ⟨y1.heap.size, 0, none⟩ (.int .i64 v.kind)).setCell ⟨y1.heap.size, 1, none⟩ (.int .i64 v.node)).setCell ⟨y1.heap.size, 2, none⟩ (.string (bsV v.key))).setCell ⟨y1.heap.size, 3, none⟩ (.int .i64 v.ver)).setCell ⟨y1.heap.size, 4, none⟩ (.int .i64 v.asof)).setCell ⟨y1.heap.size, 5, none⟩ (.int .i64 v.ends)).setCell ⟨y1.heap.size, 6, none⟩ (.slice A3 v.value.length c3)).setCell ⟨y1.heap.size, 7, none⟩ (.bool v.found) = u at *
            obtain ⟨y0, y1', y2', y3, y4, y5, y6, y7, x0, x1, x2, x3, x4, x5, x6, x7⟩ := zC_facts HZu.out
            cases ok with
            | true =>
              have m0 := cell_of_row u _ 0 _ _ (0, 0) HUB.out
              have m1 := cell_of_row u _ 1 _ _ (0, 0) HUB.out
              have m2 := cell_of_row u _ 2 _ _ (0, 0) HUB.out
              have m3 := cell_of_row u _ 3 _ _ (0, 0) HUB.out
              have m4 := cell_of_row u _ 4 _ _ (0, 0) HUB.out
              have m5 := cell_of_row u _ 5 _ _ (0, 0) HUB.out
              have m6 := cell_of_row u _ 6 _ _ (0, 0) HUB.out
              have m7 := cell_of_row u _ 7 _ _ (0, 0) HUB.out
              go_wp2_with fail
              obtain ⟨q1, q2, q3⟩ := set8 HZu.out (.int .i64 v.kind) (.int .i64 v.node) (.string (bsV v.key)) (.int .i64 v.ver) (.int .i64 v.asof) (.int .i64 v.ends) (.slice A3 v.value.length c3) (.bool v.found)
              refine bodyPost_ret (results_ct rfl _ _ w.heap.size 30 #[.int .i64 v.kind, .int .i64 v.node, .string (bsV v.key), .int .i64 v.ver, .int .i64 v.asof, .int .i64 v.ends, .slice A3 v.value.length c3, .bool v.found] (0, 0) _ rfl q1 Tryd.underlying30 rfl (by kernel_rfl)) rfl ?_
              have hev := HS1.out (by first | rfl | trivial)
              refine ⟨A3, c3, ?_, ?_, q3 HBu.out (Nat.le_refl _)⟩
              · rw [evD, hev]; rfl
              · rw [evD, hev]
                exact R_off2 HRY.out HBK.out HZY.out (by decide) (fun j h1 h2 => (q2 j h2).trans (HUO.out j h1))
            | false =>
              have hev := HN1.out (by first | rfl | trivial)
              go_wp2_with fail
              obtain ⟨q1, q2, q3⟩ := set8 HZu.out (.int .i64 0) (.int .i64 0) (.string ⟨#[]⟩) (.int .i64 0) (.int .i64 0) (.int .i64 0) (.slice none 0 0) (.bool false)
              refine bodyPost_ret (results_ct rfl _ _ w.heap.size 30 #[.int .i64 0, .int .i64 0, .string ⟨#[]⟩, .int .i64 0, .int .i64 0, .int .i64 0, .slice none 0 0, .bool false] (0, 0) _ rfl q1 Tryd.underlying30 rfl (by kernel_rfl)) rfl ?_
              exact ev_none hev rfl (q3 HBu.out (Nat.le_refl _))
          · skip
            have zA := Lib.hid (z0.out.trans ((bel_alloc d (.cells #[.int .i64 0, .int .i64 0, .string ⟨#[]⟩, .int .i64 0, .int .i64 0, .int .i64 0, .slice none 0 0, .bool false] 30)).mono z0.out.size))
            have HXN := Lib.hid (show (d.alloc (.cells #[.int .i64 0, .int .i64 0, .string ⟨#[]⟩, .int .i64 0, .int .i64 0, .int .i64 0, .slice none 0 0, .bool false] 30)).heap[d.heap.size]? = some (.cells zC 30 (0, 0)) from heap_alloc_new _ _)
            have HGB := Lib.hid z0.out.size
            have HGW := Lib.hid (Nat.le_trans HBW.out.size (Nat.le_trans HB4.out.size z0.out.size))
            have HNE := Lib.hid (show w.heap.size ≠ d.heap.size by have := (Array.getElem?_eq_some_iff.1 HXZ.out).1; have := z0.out.size; omega)
            go_simp
            refine hK.out _ _ ?_ (fun hHeld2 => ?_)
            · exact HXY.out _ zA.out
            clear hK K hHeld
            try simp only [Act.put, pA, pB, pC]
            generalize d.alloc (.cells #[.int .i64 0, .int .i64 0, .string ⟨#[]⟩, .int .i64 0, .int .i64 0, .int .i64 0, .slice none 0 0, .bool false] 30) = dA at *
            refine wpAnyH_ready (rs := [3]) (by kernel_rfl) (by simp) ?_
            refine AllReadyH.cons (o := ⟨some 40, _, _, _, _, _⟩) rfl (fun K hK => ?_) AllReadyH.nil
            go_simp
            go_at_call 46
            refine (HFI.out _ zA.out).mono ?_
            rintro x y1 ⟨v, A3, c3, ok, rfl, h1, h2, h3, hb⟩
            have z1 := Lib.hid (zA.out.trans (hb.mono zA.out.size))
            have HS1 := Lib.hid h1
            have HN1 := Lib.hid h2
            have HR1 := Lib.hid h3
            have zY := Lib.hid z1.out
            have HRY := Lib.hid HR1.out
            have HBK := Lib.hid ((hb.block _ (Array.getElem?_eq_some_iff.1 HXN.out).1).trans HXN.out)
            clear hb h1 h2 h3
            refine hK.out _ _ ?_ (fun hHeld3 => ?_)
            · exact HXY.out _ z1.out
            clear hK K hHeld2
            try simp only [Act.put, pA, pB, pC]
            refine wpAnyH_take (i := 4) (oi := ⟨some 36, _, _, _, _, _⟩) (v := ?_) rfl (by kernel_rfl) (by kernel_rfl) (by kernel_rfl) (fun _ _ _ h => h) (Or.inl ⟨by rfl, ?_⟩) (by assumption) ?_
            rotate_left
            · intro WW hSw
              try dsimp only at hSw
              go_simp
              try with_reducible rfl
            try simp only [Act.put, pA, pB, pC]
            refine wpAnyH_take (i := 5) (oi := ⟨some 41, _, _, _, _, _⟩) (v := ?_) rfl (by kernel_rfl) (by kernel_rfl) (by kernel_rfl) (fun _ _ _ h => h) (Or.inl ⟨by rfl, ?_⟩) (by assumption) ?_
            rotate_left
            · intro WW hSw
              try dsimp only at hSw
              go_simp
              try with_reducible rfl
            try simp only [Act.put, pA, pB, pC]
            refine wpAnyH_take (i := 6) (oi := ⟨some 42, _, _, _, _, _⟩) (v := ?_) rfl (by kernel_rfl) (by kernel_rfl) (by kernel_rfl) (fun _ _ _ h => h) (Or.inl ⟨by rfl, ?_⟩) (by assumption) ?_
            rotate_left
            · intro WW hSw
              try dsimp only at hSw
              go_simp
              try with_reducible rfl
            try simp only [Act.put, pA, pB, pC]
            have HZY := Lib.hid ((zY.out.block _ (Array.getElem?_eq_some_iff.1 HXZ.out).1).trans HXZ.out)
            have HBY := Lib.hid (HBW.out.trans ((HB4.out.trans (zY.out.mono HB4.out.size)).mono HBW.out.size))
            refine wpAnyH_ready (rs := [8]) (by kernel_rfl) (by simp) ?_
            refine AllReadyH.cons (o := ⟨none, _, _, _, _, _⟩) rfl (fun K hK => ?_) AllReadyH.nil
            obtain ⟨m0, m1, m2, m3, m4, m5, m6, m7, n0, n1, n2, n3, n4, n5, n6, n7⟩ := zC_facts HBK.out
            have HST := Lib.hid (set8 HBK.out (.int .i64 v.kind) (.int .i64 v.node) (.string (bsV v.key)) (.int .i64 v.ver) (.int .i64 v.asof) (.int .i64 v.ends) (.slice A3 v.value.length c3) (.bool v.found))
            go_simp
            refine hK.out _ _ ?_ (fun hHeld8 => ?_)
            · exact HXY.out _ (HST.out.2.2 zY.out HGB.out)
            clear hK K hHeld3
            try simp only [Act.put, pA, pB, pC]
            refine wpAnyH_take (i := 9) (oi := ⟨some 10, _, _, _, _, _⟩) (v := ?_) rfl (by kernel_rfl) (by kernel_rfl) (by kernel_rfl) (fun _ _ _ h => h) (Or.inl ⟨by rfl, ?_⟩) (by assumption) ?_
            rotate_left
            · intro WW hSw
              try dsimp only at hSw
              go_simp
              try with_reducible rfl
            try simp only [Act.put, pA, pB, pC]
            refine wpAnyH_done (by kernel_rfl) ?_ _
            clear m0 m1 m2 m3 m4 m5 m6 m7 n0 n1 n2 n3 n4 n5 n6 n7
            have HZu := Lib.hid ((HST.out.2.1 w.heap.size HNE.out).trans HZY.out)
            have HBu := Lib.hid (HST.out.2.2 HBY.out HGW.out)
            have HUB := Lib.hid HST.out.1
            have HUO := Lib.hid HST.out.2.1
            clear HST
            generalize (((((((y1.setCell ⟨d.heap.size, 0, none⟩ (.int .i64 v.kind)).setCell ⟨d.heap.size, 1, none⟩ (.int .i64 v.node)).setCell ⟨d.heap.size, 2, none⟩ (.string (bsV v.key))).setCell ⟨d.heap.size, 3, none⟩ (.int .i64 v.ver)).setCell ⟨d.heap.size, 4, none⟩ (.int .i64 v.asof)).setCell ⟨d.heap.size, 5, none⟩ (.int .i64 v.ends)).setCell ⟨d.heap.size, 6, none⟩ (.slice A3 v.value.length c3)).setCell ⟨d.heap.size, 7, none⟩ (.bool v.found) = u at *
            obtain ⟨y0, y1', y2', y3, y4, y5, y6, y7, x0, x1, x2, x3, x4, x5, x6, x7⟩ := zC_facts HZu.out
            cases ok with
            | true =>
              have m0 := cell_of_row u _ 0 _ _ (0, 0) HUB.out
              have m1 := cell_of_row u _ 1 _ _ (0, 0) HUB.out
              have m2 := cell_of_row u _ 2 _ _ (0, 0) HUB.out
              have m3 := cell_of_row u _ 3 _ _ (0, 0) HUB.out
              have m4 := cell_of_row u _ 4 _ _ (0, 0) HUB.out
              have m5 := cell_of_row u _ 5 _ _ (0, 0) HUB.out
              have m6 := cell_of_row u _ 6 _ _ (0, 0) HUB.out
              have m7 := cell_of_row u _ 7 _ _ (0, 0) HUB.out
              go_wp2_with fail
              obtain ⟨q1, q2, q3⟩ := set8 HZu.out (.int .i64 v.kind) (.int .i64 v.node) (.string (bsV v.key)) (.int .i64 v.ver) (.int .i64 v.asof) (.int .i64 v.ends) (.slice A3 v.value.length c3) (.bool v.found)
              refine bodyPost_ret (results_ct rfl _ _ w.heap.size 30 #[.int .i64 v.kind, .int .i64 v.node, .string (bsV v.key), .int .i64 v.ver, .int .i64 v.asof, .int .i64 v.ends, .slice A3 v.value.length c3, .bool v.found] (0, 0) _ rfl q1 Tryd.underlying30 rfl (by kernel_rfl)) rfl ?_
              have hev := HS1.out (by first | rfl | trivial)
              refine ⟨A3, c3, ?_, ?_, q3 HBu.out (Nat.le_refl _)⟩
              · rw [evD, hev]; rfl
              · rw [evD, hev]
                exact R_off2 HRY.out HBK.out HZY.out (by decide) (fun j h1 h2 => (q2 j h2).trans (HUO.out j h1))
            | false =>
              have hev := HN1.out (by first | rfl | trivial)
              go_wp2_with fail
              obtain ⟨q1, q2, q3⟩ := set8 HZu.out (.int .i64 0) (.int .i64 0) (.string ⟨#[]⟩) (.int .i64 0) (.int .i64 0) (.int .i64 0) (.slice none 0 0) (.bool false)
              refine bodyPost_ret (results_ct rfl _ _ w.heap.size 30 #[.int .i64 0, .int .i64 0, .string ⟨#[]⟩, .int .i64 0, .int .i64 0, .int .i64 0, .slice none 0 0, .bool false] (0, 0) _ rfl q1 Tryd.underlying30 rfl (by kernel_rfl)) rfl ?_
              exact ev_none hev rfl (q3 HBu.out (Nat.le_refl _))
        · have hmb : (manyE e == (r.length : Int)) = false := by simpa using hmn
          have HNO := Lib.hid (show ¬ (wordE e = wd ∧ manyE e = (r.length : Int)) from fun h => hmn h.2)
          clear hw hmn
          go_wp2_with fail
          go_roundw
          case rel => exact ⟨i + 1, by omega, by go_num, fun j hj hji => (by
              rcases Nat.eq_or_lt_of_le (Nat.le_of_lt_succ hji) with e0 | e0
              · subst e0; have := HE.out; rw [this]; exact HNO.out
              · exact HIJ.out.1 j hj e0), HIJ.out.2.trans (HB4.out.mono HIJ.out.2.size)⟩
          case measure => simp [intOf]; omega
      · have hwb : (wordE e == wd) = false := by simpa using hw
        have HNO := Lib.hid (show ¬ (wordE e = wd ∧ manyE e = (r.length : Int)) from fun h => hw h.1)
        clear hw
        go_wp2_with fail
        go_roundw
        case rel => exact ⟨i + 1, by omega, by go_num, fun j hj hji => (by
            rcases Nat.eq_or_lt_of_le (Nat.le_of_lt_succ hji) with e0 | e0
            · subst e0; have := HE.out; rw [this]; exact HNO.out
            · exact HIJ.out.1 j hj e0), HIJ.out.2.trans (HB4.out.mono HIJ.out.2.size)⟩
        case measure => simp [intOf]; omega
    · have hi3 : ¬ (i : Int) < 5 := by omega
      have HNN := Lib.hid (show eventS s = none by rw [HES.out]; exact law_none fun j hj => HI.out.1 j hj (by have : tabE.length = 5 := rfl; omega))
      have HXW := Lib.hid ((HI.out.2.block _ (Array.getElem?_eq_some_iff.1 HX3.out).1).trans HX3.out)
      have HBW := Lib.hid (HB3.out.trans (HI.out.2.mono HB3.out.size))
      obtain ⟨y0, y1, y2, y3, y4, y5, y6, y7, x0, x1, x2, x3, x4, x5, x6, x7⟩ := zC_facts HXW.out
      go_wp2_with fail
      obtain ⟨q1, q2, q3⟩ := set8 HXW.out (.int .i64 0) (.int .i64 0) (.string ⟨#[]⟩) (.int .i64 0) (.int .i64 0) (.int .i64 0) (.slice none 0 0) (.bool false)
      refine bodyPost_ret (results_ct rfl _ _ w.heap.size 30 #[.int .i64 0, .int .i64 0, .string ⟨#[]⟩, .int .i64 0, .int .i64 0, .int .i64 0, .slice none 0 0, .bool false] (0, 0) _ rfl q1 Tryd.underlying30 rfl (by kernel_rfl)) rfl ?_
      exact ev_none HNN.out rfl (q3 HBW.out (Nat.le_refl _))
end Go.Proofs.YtgfljpchdiapeaaDoor
namespace Go.Proofs.YtgfljpchdiapeaaDoor
set_option linter.unusedVariables false
set_option linter.unusedSimpArgs false
open Go.RowKit Go.Proofs.YtgfljpchdiapeaaDoorW.PrintWords
attribute [local go_sem ↓] Go.wp_at_zero Go.wp_at_succ
attribute [local go_sem] bsV_get bsV_size bsV_toList
theorem info_event : (Tryd.prog.info? 30).map (fun i => (i.zero, i.size, i.bytes)) = some (some (.agg zC), kV.sz, 88) := by kernel_rfl
theorem kV_mkM {W : World} {base : Nat} {ok : Nat → Prop} {d : Ev} {A1 : Option Addr} {c1 : Nat} (h : Kd.R (Kd.int .u8) 5 W base ok (.slice A1 d.value.length c1) (bI d.value)) : kV.M W base ok d (eC d A1 c1).toList := PR.k30_mkM W base ok (evOf d) h
def ReadPostE (s : Bs) (w : World) (e : Ending) (w' : World) : Prop := ∃ A c ev, e = .returned (.tuple #[.slice A (readSE s).1.length c, ev]) ∧ kV.R 30 w' w.heap.size (fun _ => True) (.slice A (readSE s).1.length c) (readSE s).1 ∧ ErrOne w' ev (readSE s).2.1 (readSE s).2.2 ∧ Below w.heap.size w w'
set_option maxHeartbeats 4000000 in
set_option maxRecDepth 100000 in
theorem readE_any (s : Bs) (w : World) (hl : s.length ≤ 1000000) (hm : MX w) : Calls Tryd.prog 15 #[.string (bsV s)] w (ReadPostE s w) := by
  have HSR := Lib.hid ((split_row (s := s) (c := 10) w).resolve_right (by have := split_len 10 s; omega))
  have HWL := Lib.hid (show ∀ x ∈ splitS 10 s, x.length ≤ 1000000 from fun x hx => Nat.le_trans (mem_split_len hx) hl)
  have HLN := Lib.hid (show (splitS 10 s).length ≤ 1000001 by have := split_len 10 s; omega)
  have HMX := Lib.hid hm
  have hSP := split_any 10 s w (by omega) hm
  have hrs : readSE s = outGE (readGE 0 (splitS 10 s)) := rfl
  obtain ⟨rows, hrows⟩ : ∃ rows, rows = splitS 10 s := ⟨_, rfl⟩
  rw [← hrows] at HSR HWL HLN hSP hrs
  have HRE := Lib.hid hrs
  have HSP := Lib.hid (show Calls Tryd.prog 42 #[.string (bsV s), .string ⟨#[10]⟩] w _ from hSP)
  clear hSP hrs hrows hm hl
  have hln : rows.length ≤ 1000001 := HLN.out
  go_enter Tryd.func15, Tryd.ntmps15
  go_wp2_with fail
  refine HSP.out.mono ?_
  rintro e w1 ⟨rfl, hw1⟩
  have HC := Lib.hid (show Kd.string.C w1 (some ⟨w.heap.size, 0, none⟩) rows.length (rows.map bsV) by rw [hw1]; exact HSR.out)
  have HB1 := Lib.hid (show Below w.heap.size w w1 by rw [hw1]; exact bel_alloc _ _)
  clear hw1 HSP HSR
  go_wp2_with fail
  go_loopw [4, 12] (fun ov iv wr => ∃ (i : Nat) (B : Option Addr) (n k : Nat) (L : List Ev), i ≤ rows.length ∧ iv = .int .i64 i ∧ ov = .slice B n k ∧ Hid (n = L.length ∧ readGE 0 rows = preGE L (readGE i (rows.drop i)) ∧ L.length ≤ i ∧ kV.R 30 wr w1.heap.size (fun _ => True) (.slice B n k) L ∧ Below w1.heap.size w1 wr)) (fun _ iv _ => rows.length - (intOf iv).toNat)
  case atStart => exact ⟨0, none, 0, 0, [], Nat.zero_le _, rfl, rfl, rfl, by rw [List.drop_zero, preGE_nil], Nat.le_refl _, Kd.R_nil _ _ _ _ _, Below.refl _ _⟩
  case round =>
    obtain ⟨i, B, n, k, L, hi, rfl, rfl, HI⟩ := hrel
    by_cases hlt : i < rows.length
    · have i1 : (0 : Int) ≤ (i : Int) := by omega
      have i2 : (i : Int) < (rows.length : Int) := by omega
      have hwi : IntKind.i64.wrap ((i : Int) + 1) = (i : Int) + 1 := by rw [IntKind.wrap_i64]; omega
      obtain ⟨ad, e1, hcell⟩ := str_at (Kd.C_below HC.out HI.out.2.2.2.2) hlt
      injection e1 with e1
      subst e1
      obtain ⟨r, hr⟩ : ∃ r, r = rows[i] := ⟨_, rfl⟩
      rw [← hr, add_plain] at hcell
      have HDR := Lib.hid (show rows.drop i = r :: rows.drop (i + 1) by rw [List.drop_eq_getElem_cons hlt, hr])
      have HRL := Lib.hid (show r.length ≤ 1000000 from HWL.out r (by rw [hr]; exact List.getElem_mem hlt))
      clear hr
      cases r with
      | nil =>
        have HN := Lib.hid (show readGE 0 rows = preGE L (readGE (i + 1) (rows.drop (i + 1))) by rw [HI.out.2.1, HDR.out, readGE_skip rfl])
        have HI2 := Lib.hid HI.out
        clear HI
        go_wp2_with fail
        go_roundw
        case rel => exact ⟨i + 1, B, n, k, L, by omega, by go_num, rfl, HI2.out.1, HN.out, by have := HI2.out.2.2.1; omega, HI2.out.2.2.2⟩
        case measure => simp [intOf]; omega
      | cons ch t =>
        have hne : ((ch :: t : Bs) == []) = false := by simp
        have HNS := Lib.hid (show ¬ ((ch :: t : Bs) = []) by simp)
        have HB := Lib.hid (HB1.out.trans (HI.out.2.2.2.2.mono HB1.out.size))
        have HDE := Lib.hid (event_any (ch :: t) wr HRL.out (HMX.out.later HB.out))
        unfold EvPost at HDE
        have hdd : ∀ o : Option Ev, eventS (ch :: t) = o → evD (ch :: t) = o.getD zE := fun o h => by rw [evD, h]
        obtain ⟨rd, hrd⟩ : ∃ rd, rd = eventS (ch :: t) := ⟨_, rfl⟩
        rw [hdd rd hrd.symm, ← hrd] at HDE
        have HRD := Lib.hid hrd
        have HI2 := Lib.hid HI.out
        clear hrd HI hdd
        go_wp2_with fail
        refine HDE.out.mono ?_
        rintro e w2 ⟨A1, c1, rfl, hM, hb⟩
        have HB2 := Lib.hid (HB.out.trans (hb.mono HB.out.size))
        have HBI := Lib.hid (HI2.out.2.2.2.2.trans (hb.mono HI2.out.2.2.2.2.size))
        have HRO := Lib.hid (Kd.R_below HI2.out.2.2.2.1 hb)
        obtain ⟨inner, hown⟩ := Kd.R_own HI2.out.2.2.2.1
        have HMM := Lib.hid (kV.M_lower HI2.out.2.2.2.2.size (Kd.M_new (kV_mkM hM) hown))
        clear hM hown
        cases rd with
        | none =>
          have HF := Lib.hid (show readSE s = ([], 16, (i : Int)) by rw [HRE.out, HI2.out.2.1, HDR.out, readGE_none HNS.out HRD.out.symm]; rfl)
          clear HMM hb
          simp only [Option.getD_none, Option.isSome_none, eC, zE]
          go_wp2_with (go_at_call 43; refine (new_one _ _ _ rfl _).mono ?_; rintro e w3 ⟨b3, rfl, hw3, hb3⟩; have HW3 := Lib.hid hw3; have HB3 := Lib.hid hb3; clear hw3 hb3)
          go_ret2
          unfold ReadPostE
          rw [HF.out]
          exact ⟨none, 0, _, rfl, Kd.R_nil _ _ _ _ _, .inr ⟨by show (16 : Int) ≠ 0; decide, b3, _, rfl, HW3.out⟩, (HB2.out.alloc HB2.out.size _).trans (HB3.out.mono (by have := HB2.out.size; simp; omega))⟩
        | some d =>
          have HN := Lib.hid (show readGE 0 rows = preGE (L ++ [d]) (readGE (i + 1) (rows.drop (i + 1))) by rw [HI2.out.2.1, HDR.out, readGE_some HNS.out HRD.out.symm, preGE_snoc])
          clear hb
          have hn0 : n = L.length := HI2.out.1
          subst hn0
          have hli : L.length ≤ 1000001 := by have := HI2.out.2.2.1; omega
          have HBA := Lib.hid (bel_alloc w2 (.cells #[.int .i64 d.kind, .int .i64 d.node, .string (bsV d.key), .int .i64 d.ver, .int .i64 d.asof, .int .i64 d.ends, .slice A1 d.value.length c1, .bool d.found] 30))
          have HX3 := Lib.hid (heap_alloc_new w2 (.cells #[.int .i64 d.kind, .int .i64 d.node, .string (bsV d.key), .int .i64 d.ver, .int .i64 d.asof, .int .i64 d.ends, .slice A1 d.value.length c1, .bool d.found] 30))
          simp only [Option.getD_some, Option.isSome_some, eC]
          simp only [Option.getD_some, eC] at HMM
          go_upto_region 9 with (fail)
          generalize w2.alloc (.cells #[.int .i64 d.kind, .int .i64 d.node, .string (bsV d.key), .int .i64 d.ver, .int .i64 d.asof, .int .i64 d.ends, .slice A1 d.value.length c1, .bool d.found] 30) = w3 at *
          have HM3 := Lib.hid (Kd.M_below HMM.out HBA.out)
          have HR3 := Lib.hid (Kd.R_below HRO.out HBA.out)
          have HB3 := Lib.hid (HB2.out.trans (HBA.out.mono HB2.out.size))
          have HBI3 := Lib.hid (HBI.out.trans (HBA.out.mono HBI.out.size))
          have k0 : w3.cell? ⟨w2.heap.size, 0, none⟩ = some (.int .i64 d.kind) := by rw [World.cell?, HX3.out]; rfl
          have k1 : w3.cell? ⟨w2.heap.size, 1, none⟩ = some (.int .i64 d.node) := by rw [World.cell?, HX3.out]; rfl
          have k2 : w3.cell? ⟨w2.heap.size, 2, none⟩ = some (.string (bsV d.key)) := by rw [World.cell?, HX3.out]; rfl
          have k3 : w3.cell? ⟨w2.heap.size, 3, none⟩ = some (.int .i64 d.ver) := by rw [World.cell?, HX3.out]; rfl
          have k4 : w3.cell? ⟨w2.heap.size, 4, none⟩ = some (.int .i64 d.asof) := by rw [World.cell?, HX3.out]; rfl
          have k5 : w3.cell? ⟨w2.heap.size, 5, none⟩ = some (.int .i64 d.ends) := by rw [World.cell?, HX3.out]; rfl
          have k6 : w3.cell? ⟨w2.heap.size, 6, none⟩ = some (.slice A1 d.value.length c1) := by rw [World.cell?, HX3.out]; rfl
          have k7 : w3.cell? ⟨w2.heap.size, 7, none⟩ = some (.bool d.found) := by rw [World.cell?, HX3.out]; rfl
          clear HMM HRO HB2 HBI HBA HX3
          go_wp2_with (at_builtin; refine Kd.R_append kV (w0 := w1) (W := w3) w1.heap.size rfl (.tmp 28) (.tmp 30) 22 30 (.agg zC) 88 rfl Tryd.underlying22 info_event rfl (by decide) (by omega) (.slice B L.length k) L d [.int .i64 d.kind, .int .i64 d.node, .string (bsV d.key), .int .i64 d.ver, .int .i64 d.asof, .int .i64 d.ends, .slice A1 d.value.length c1, .bool d.found] (fun _ => True) (fun j => True ∧ some j ≠ (Value.slice B L.length k).ownBlock) rfl rfl HM3.out (fun _ hk => ⟨trivial, hk.2⟩) (fun _ _ => trivial) HR3.out HBI3.out HBI3.out.size (by omega) ?_; intro v9 w9 ho9 hb9 hg9 hat9; obtain ⟨A9, c9, hv9⟩ := Kd.R_slice ho9; rw [List.length_append, List.length_singleton] at hv9; subst hv9; have HO9 := Lib.hid ho9; have HB9 := Lib.hid hb9; clear ho9 hb9 hg9 hat9)
          all_goals
            go_wp2_with fail
            go_roundw
            case rel => exact ⟨i + 1, A9, _, c9, L ++ [d], by omega, by go_num, rfl, by rw [List.length_append]; rfl, HN.out, by rw [List.length_append, List.length_singleton]; have := HI2.out.2.2.1; omega, HO9.out, HB9.out⟩
            case measure => simp [intOf]; omega
    · have hi3 : ¬ (i : Int) < (rows.length : Int) := by omega
      have HF := Lib.hid (show readSE s = (L, 0, 0) by rw [HRE.out, HI.out.2.1, List.drop_of_length_le (by omega), readGE]; simp [preGE, outGE])
      have hn0 : n = L.length := HI.out.1
      subst hn0
      go_wp2_with fail
      go_ret2
      unfold ReadPostE
      rw [HF.out]
      exact ⟨B, k, _, rfl, Kd.R_lower HI.out.2.2.2.1 HB1.out.size, .inl ⟨rfl, rfl⟩, HB1.out.trans (HI.out.2.2.2.2.mono HB1.out.size)⟩
end Go.Proofs.YtgfljpchdiapeaaDoor
namespace Go.Proofs.YtgfljpchdiapeaaDoor
set_option linter.unusedVariables false
set_option linter.unusedSimpArgs false
open Go.RowKit Go.Proofs.YtgfljpchdiapeaaDoorW.PrintWords
attribute [local go_sem ↓] Go.wp_at_zero Go.wp_at_succ
attribute [local go_sem] bsV_get bsV_size bsV_toList
def cnt (k : Int) : List Ev → Nat
  | [] => 0
  | e :: L => (if e.kind = k then 1 else 0) + cnt k L
theorem cnt_snoc (k : Int) (e : Ev) : ∀ L : List Ev, cnt k (L ++ [e]) = cnt k L + (if e.kind = k then 1 else 0)
  | [] => by simp [cnt]
  | a :: L => by
    rw [List.cons_append, cnt, cnt_snoc k e L, cnt]
    omega
theorem cnt_le (k : Int) : ∀ L : List Ev, cnt k L ≤ L.length
  | [] => Nat.le_refl _
  | a :: L => by
    have := cnt_le k L
    rw [cnt, List.length_cons]
    split <;> omega
theorem cnt_take {k : Int} {L : List Ev} {i : Nat} (h : i < L.length) : cnt k (L.take (i + 1)) = cnt k (L.take i) + (if L[i].kind = k then 1 else 0) := by
  rw [List.take_succ_eq_append_getElem h, cnt_snoc]
def arrV (L : List Ev) : Array Value := #[.int .i64 0, .int .i64 (cnt 1 L), .int .i64 (cnt 2 L), .int .i64 (cnt 3 L), .int .i64 (cnt 4 L)]
def strE (w : Bs) (n : Nat) : Bs := (w ++ [32]) ++ decS n
def sumL (L : List Ev) : List Bs := [strE [104, 105, 116] (cnt 1 L), strE [109, 105, 115, 115] (cnt 2 L), strE [119, 114, 105, 116, 101] (cnt 3 L), strE [100, 111, 110, 101] (cnt 4 L)]
def sumS (L : List Ev) : Bs := Lib.join (sumL L) [44, 32]
def takeN (i : Nat) : Nat := if i ≤ 3 then i else i - 1
theorem join2_any {W : World} {B : Nat} {A : Option Addr} {n c : Nat} {L : List Bs} (h : SLs W B (.slice A n c) L) (hl : L.length ≤ 1000000) (hj : (Lib.join L [44, 32]).length ≤ 1000000000) : Calls Tryd.prog 35 #[.slice A n c, .string ⟨#[44, 32]⟩] W (QS W (Lib.join L [44, 32])) := by
  rcases h.cells with ⟨h1, h2⟩ | ⟨g, cp, h1, h2, h3, h4⟩
  · cases h1
    subst h2
    exact (Any.strings_Join_none lyB lyX none 0 ⟨#[44, 32]⟩ W).mono fun e w' ⟨he, hw⟩ => ⟨he, hw ▸ Below.refl _ _⟩
  · cases h1
    have hm : (L.map bsV).length = L.length := List.length_map ..
    have hjj : Lib.join ((L.map bsV).map (·.data.toList)) (⟨#[44, 32]⟩ : ByteArray).data.toList = Lib.join L [44, 32] := by rw [map_data]
    have := Any.strings_Join lyB lyX g 0 c (L.map bsV) ⟨#[44, 32]⟩ W h4 h2 (by rw [hm]; omega) (by rw [hm]; exact h3) (by rw [hjj]; omega)
    rw [hm, hjj] at this
    exact this
theorem strE_len (w : Bs) (n : Nat) (hw : w.length ≤ 5) (hn : n ≤ 100000000) : (strE w n).length ≤ 30 := by
  have := decS_len (n := (n : Int)) (by omega) (by omega)
  unfold strE
  simp
  omega
theorem sum_len (L : List Ev) (hn : L.length ≤ 100000000) : (sumS L).length ≤ 200 := by
  have c1 := cnt_le 1 L
  have c2 := cnt_le 2 L
  have c3 := cnt_le 3 L
  have c4 := cnt_le 4 L
  have h1 := strE_len [104, 105, 116] (cnt 1 L) (by decide) (by omega)
  have h2 := strE_len [109, 105, 115, 115] (cnt 2 L) (by decide) (by omega)
  have h3 := strE_len [119, 114, 105, 116, 101] (cnt 3 L) (by decide) (by omega)
  have h4 := strE_len [100, 111, 110, 101] (cnt 4 L) (by decide) (by omega)
  unfold sumS sumL Lib.join
  simp [List.intercalate, List.intersperse]
  omega
set_option maxHeartbeats 8000000 in
set_option maxRecDepth 100000 in
theorem sum_any (L : List Ev) (A : Option Addr) (c : Nat) (w : World) (hC : kV.C w A L.length L) (hc : L.length ≤ c) (hk : ∀ d ∈ L, okV d) (hn : L.length ≤ 1000000) : Calls Tryd.prog 13 #[.slice A L.length c] w (QS w (sumS L)) := by
  have HC := Lib.hid hC
  have HK := Lib.hid hk
  have HN := Lib.hid hn
  clear hC hk
  have HX0 := Lib.hid (show (w.alloc (.cells #[.int .i64 0, .int .i64 0, .int .i64 0, .int .i64 0, .int .i64 0] 76)).heap[w.heap.size]? = some (.cells (arrV []) 76 (0, 0)) from heap_alloc_new _ _)
  have HB0 := Lib.hid (bel_alloc w (.cells #[.int .i64 0, .int .i64 0, .int .i64 0, .int .i64 0, .int .i64 0] 76))
  go_enter Tryd.func13, Tryd.ntmps13
  go_upto_region 2 with (fail)
  generalize w.alloc (.cells #[.int .i64 0, .int .i64 0, .int .i64 0, .int .i64 0, .int .i64 0] 76) = w1 at *
  go_wp2_with fail
  go_loopw [13] (fun iv wr => ∃ i : Nat, i ≤ L.length ∧ iv = .int .i64 i ∧ Hid (wr.heap[w.heap.size]? = some (.cells (arrV (L.take i)) 76 (0, 0)) ∧ Below w.heap.size w wr)) (fun iv _ => L.length - (intOf iv).toNat)
  case atStart => exact ⟨0, Nat.zero_le _, rfl, by rw [List.take_zero]; exact HX0.out, HB0.out⟩
  case round =>
    obtain ⟨i, hi, rfl, HI⟩ := hrel
    by_cases hlt : i < L.length
    · have i1 : (0 : Int) ≤ (i : Int) := by omega
      have i2 : (i : Int) < (L.length : Int) := by omega
      have hwi : IntKind.i64.wrap ((i : Int) + 1) = (i : Int) + 1 := by rw [IntKind.wrap_i64]; omega
      obtain ⟨e, he⟩ : ∃ e, L[i] = e := ⟨_, rfl⟩
      obtain ⟨ad, A1, c1, rfl, hEM, k0, k1, k2, k3, k4, k5, k6, k7⟩ := event_at (Kd.C_below HC.out HI.out.2) hlt he (HK.out e (by rw [← he]; exact List.getElem_mem hlt))
      have HTK := Lib.hid (fun k => (cnt_take (k := k) hlt).trans (by rw [he]))
      have HCL := Lib.hid (show cnt 1 (L.take i) ≤ 1000000 ∧ cnt 2 (L.take i) ≤ 1000000 ∧ cnt 3 (L.take i) ≤ 1000000 ∧ cnt 4 (L.take i) ≤ 1000000 by
        have h1 := cnt_le 1 (L.take i)
        have h2 := cnt_le 2 (L.take i)
        have h3 := cnt_le 3 (L.take i)
        have h4 := cnt_le 4 (L.take i)
        rw [List.length_take] at h1 h2 h3 h4
        omega)
      have HBW := Lib.hid HI.out.2
      have HAA := Lib.hid HI.out.1
      have HBA := Lib.hid (bel_alloc wr (.cells #[.int .i64 e.kind, .int .i64 e.node, .string (bsV e.key), .int .i64 e.ver, .int .i64 e.asof, .int .i64 e.ends, .slice A1 e.value.length c1, .bool e.found] 30))
      have HXA := Lib.hid (heap_alloc_new wr (.cells #[.int .i64 e.kind, .int .i64 e.node, .string (bsV e.key), .int .i64 e.ver, .int .i64 e.asof, .int .i64 e.ends, .slice A1 e.value.length c1, .bool e.found] 30))
      clear hEM he HI
      go_upto_region 5 with (fail)
      generalize wr.alloc (.cells #[.int .i64 e.kind, .int .i64 e.node, .string (bsV e.key), .int .i64 e.ver, .int .i64 e.asof, .int .i64 e.ends, .slice A1 e.value.length c1, .bool e.found] 30) = wx at *
      have HAX := Lib.hid ((HBA.out.block _ (Array.getElem?_eq_some_iff.1 HAA.out).1).trans HAA.out)
      have HBX := Lib.hid (HBW.out.trans (HBA.out.mono HBW.out.size))
      have e0 : wx.cell? ⟨wr.heap.size, 0, none⟩ = some (.int .i64 e.kind) := cell_of_row wx _ 0 _ _ (0, 0) HXA.out
      clear k0 k1 k2 k3 k4 k5 k6 k7
      by_cases hk : 1 ≤ e.kind ∧ e.kind ≤ 4
      · have hk1 : (0 : Int) < e.kind := by omega
        have hk2 : e.kind ≤ 4 := hk.2
        have hkc : e.kind = 1 ∨ e.kind = 2 ∨ e.kind = 3 ∨ e.kind = 4 := by omega
        clear hk
        rcases hkc with k | k | k | k
        · have hcl := HCL.out
          have a1 : wx.cell? ⟨w.heap.size, 1, none⟩ = some (.int .i64 (cnt 1 (L.take i))) := cell_of_row wx _ 1 _ _ (0, 0) HAX.out
          have f1 : wx.frozen? ⟨w.heap.size, 1, none⟩ = false := by simp [World.frozen?, HAX.out]
          have hwc : IntKind.i64.wrap ((cnt 1 (L.take i) : Int) + 1) = (cnt 1 (L.take i) : Int) + 1 := by rw [IntKind.wrap_i64]; omega
          have HNX := Lib.hid (show (wx.setCell ⟨w.heap.size, 1, none⟩ (.int .i64 ((cnt 1 (L.take i) : Int) + 1))).heap[w.heap.size]? = some (.cells (arrV (L.take (i + 1))) 76 (0, 0)) by
            have h := heap_setCell_same wx w.heap.size 1 _ _ (.int .i64 ((cnt 1 (L.take i) : Int) + 1)) HAX.out
            rw [h]
            unfold arrV
            rw [HTK.out 1, HTK.out 2, HTK.out 3, HTK.out 4, k]
            rfl)
          clear hcl
          go_wp2_with fail
          go_roundw
          case rel => exact ⟨i + 1, by omega, by go_num, HNX.out, HBX.out.setCell (Nat.le_refl _) _⟩
          case measure => simp [intOf]; omega
        · have hcl := HCL.out
          have a1 : wx.cell? ⟨w.heap.size, 2, none⟩ = some (.int .i64 (cnt 2 (L.take i))) := cell_of_row wx _ 2 _ _ (0, 0) HAX.out
          have f1 : wx.frozen? ⟨w.heap.size, 2, none⟩ = false := by simp [World.frozen?, HAX.out]
          have hwc : IntKind.i64.wrap ((cnt 2 (L.take i) : Int) + 1) = (cnt 2 (L.take i) : Int) + 1 := by rw [IntKind.wrap_i64]; omega
          have HNX := Lib.hid (show (wx.setCell ⟨w.heap.size, 2, none⟩ (.int .i64 ((cnt 2 (L.take i) : Int) + 1))).heap[w.heap.size]? = some (.cells (arrV (L.take (i + 1))) 76 (0, 0)) by
            have h := heap_setCell_same wx w.heap.size 2 _ _ (.int .i64 ((cnt 2 (L.take i) : Int) + 1)) HAX.out
            rw [h]
            unfold arrV
            rw [HTK.out 1, HTK.out 2, HTK.out 3, HTK.out 4, k]
            rfl)
          clear hcl
          go_wp2_with fail
          go_roundw
          case rel => exact ⟨i + 1, by omega, by go_num, HNX.out, HBX.out.setCell (Nat.le_refl _) _⟩
          case measure => simp [intOf]; omega
        · have hcl := HCL.out
          have a1 : wx.cell? ⟨w.heap.size, 3, none⟩ = some (.int .i64 (cnt 3 (L.take i))) := cell_of_row wx _ 3 _ _ (0, 0) HAX.out
          have f1 : wx.frozen? ⟨w.heap.size, 3, none⟩ = false := by simp [World.frozen?, HAX.out]
          have hwc : IntKind.i64.wrap ((cnt 3 (L.take i) : Int) + 1) = (cnt 3 (L.take i) : Int) + 1 := by rw [IntKind.wrap_i64]; omega
          have HNX := Lib.hid (show (wx.setCell ⟨w.heap.size, 3, none⟩ (.int .i64 ((cnt 3 (L.take i) : Int) + 1))).heap[w.heap.size]? = some (.cells (arrV (L.take (i + 1))) 76 (0, 0)) by
            have h := heap_setCell_same wx w.heap.size 3 _ _ (.int .i64 ((cnt 3 (L.take i) : Int) + 1)) HAX.out
            rw [h]
            unfold arrV
            rw [HTK.out 1, HTK.out 2, HTK.out 3, HTK.out 4, k]
            rfl)
          clear hcl
          go_wp2_with fail
          go_roundw
          case rel => exact ⟨i + 1, by omega, by go_num, HNX.out, HBX.out.setCell (Nat.le_refl _) _⟩
          case measure => simp [intOf]; omega
        · have hcl := HCL.out
          have a1 : wx.cell? ⟨w.heap.size, 4, none⟩ = some (.int .i64 (cnt 4 (L.take i))) := cell_of_row wx _ 4 _ _ (0, 0) HAX.out
          have f1 : wx.frozen? ⟨w.heap.size, 4, none⟩ = false := by simp [World.frozen?, HAX.out]
          have hwc : IntKind.i64.wrap ((cnt 4 (L.take i) : Int) + 1) = (cnt 4 (L.take i) : Int) + 1 := by rw [IntKind.wrap_i64]; omega
          have HNX := Lib.hid (show (wx.setCell ⟨w.heap.size, 4, none⟩ (.int .i64 ((cnt 4 (L.take i) : Int) + 1))).heap[w.heap.size]? = some (.cells (arrV (L.take (i + 1))) 76 (0, 0)) by
            have h := heap_setCell_same wx w.heap.size 4 _ _ (.int .i64 ((cnt 4 (L.take i) : Int) + 1)) HAX.out
            rw [h]
            unfold arrV
            rw [HTK.out 1, HTK.out 2, HTK.out 3, HTK.out 4, k]
            rfl)
          clear hcl
          go_wp2_with fail
          go_roundw
          case rel => exact ⟨i + 1, by omega, by go_num, HNX.out, HBX.out.setCell (Nat.le_refl _) _⟩
          case measure => simp [intOf]; omega
      · have HTN := Lib.hid (show arrV (L.take (i + 1)) = arrV (L.take i) by
          unfold arrV
          rw [HTK.out 1, HTK.out 2, HTK.out 3, HTK.out 4, if_neg (by omega), if_neg (by omega), if_neg (by omega), if_neg (by omega)]
          rfl)
        have hkk : ¬ (0 : Int) < e.kind ∨ (0 : Int) < e.kind ∧ ¬ e.kind ≤ 4 := by omega
        clear hk
        rcases hkk with hk | ⟨hk, hk2⟩
        all_goals
          go_wp2_with fail
          go_roundw
          case rel => exact ⟨i + 1, by omega, by go_num, by rw [HTN.out]; exact HAX.out, HBX.out⟩
          case measure => simp [intOf]; omega
    · have hi3 : ¬ (i : Int) < (L.length : Int) := by omega
      obtain ⟨wa, rfl⟩ : ∃ wa : World, wa = wr := ⟨_, rfl⟩
      have HTT := Lib.hid (show L.take i = L from List.take_of_length_le (by omega))
      have HAA := Lib.hid (show wa.heap[w.heap.size]? = some (.cells (arrV L) 76 (0, 0)) by have := HI.out.1; rwa [HTT.out] at this)
      have HBW := Lib.hid HI.out.2
      clear HI
      go_wp2_with fail
      refine (table_any wa).mono ?_
      rintro x w3 ⟨At, ct, rfl, hct, hT, hb⟩
      have HT3 := Lib.hid hT
      have HB3 := Lib.hid (HBW.out.trans (hb.mono HBW.out.size))
      have HA3 := Lib.hid ((hb.block _ (Array.getElem?_eq_some_iff.1 HAA.out).1).trans HAA.out)
      clear hT hb
      go_wp2_with fail
      go_loopw [6, 34] (fun ov jv wx => ∃ (j : Nat) (B : Option Addr) (n k : Nat), j ≤ 5 ∧ jv = .int .i64 j ∧ ov = .slice B n k ∧ Hid (n = takeN j ∧ SLs wx w3.heap.size (.slice B n k) ((sumL L).take (takeN j)) ∧ Below w3.heap.size w3 wx)) (fun _ jv _ => 5 - (intOf jv).toNat)
      case atStart => exact ⟨0, none, 0, 0, by omega, rfl, rfl, rfl, Kd.R_nil _ _ _ _ _, Below.refl _ _⟩
      case round =>
        obtain ⟨j, B, n, k, hj, rfl, rfl, HJ⟩ := hrel
        by_cases hjl : j < 5
        · have j1 : (0 : Int) ≤ (j : Int) := by omega
          have j2 : (j : Int) < 5 := by omega
          have hwj : IntKind.i64.wrap ((j : Int) + 1) = (j : Int) + 1 := by rw [IntKind.wrap_i64]; omega
          have HJN := Lib.hid HJ.out.1
          have HJS := Lib.hid HJ.out.2.1
          have HJB := Lib.hid HJ.out.2.2
          have HTJ := Lib.hid (HT3.out.later HJ.out.2.2)
          have HAJ := Lib.hid ((HJ.out.2.2.block _ (Array.getElem?_eq_some_iff.1 HA3.out).1).trans HA3.out)
          have HCL := Lib.hid (show cnt 1 L ≤ 1000000 ∧ cnt 2 L ≤ 1000000 ∧ cnt 3 L ≤ 1000000 ∧ cnt 4 L ≤ 1000000 by
            have h1 := cnt_le 1 L
            have h2 := cnt_le 2 L
            have h3 := cnt_le 3 L
            have h4 := cnt_le 4 L
            have := HN.out
            omega)
          clear HJ
          have hjt : j < tabE.length := hjl
          obtain ⟨e, he⟩ : ∃ e, tabE[j]'hjt = e := ⟨_, rfl⟩
          have HME := Lib.hid (show e ∈ tabE by rw [← he]; exact List.getElem_mem _)
          obtain ⟨ad, A1, c1, rfl, hEM, k0, k1, k2, k3, k4, k5, k6, k7⟩ := event_at HTJ.out.row (i := j) hjt he (tab_plain HME.out).2
          have HWA := Lib.hid (fun W (hW : Below wr.heap.size wr W) => wordsE_any e A1 c1 W (hEM.later hW))
          unfold eC at HWA
          have HBA := Lib.hid (bel_alloc wr (.cells #[.int .i64 e.kind, .int .i64 e.node, .string (bsV e.key), .int .i64 e.ver, .int .i64 e.asof, .int .i64 e.ends, .slice A1 e.value.length c1, .bool e.found] 30))
          have HXA := Lib.hid (heap_alloc_new wr (.cells #[.int .i64 e.kind, .int .i64 e.node, .string (bsV e.key), .int .i64 e.ver, .int .i64 e.asof, .int .i64 e.ends, .slice A1 e.value.length c1, .bool e.found] 30))
          have HE := Lib.hid he
          clear hEM he
          go_upto_region 12 with (fail)
          generalize wr.alloc (.cells #[.int .i64 e.kind, .int .i64 e.node, .string (bsV e.key), .int .i64 e.ver, .int .i64 e.asof, .int .i64 e.ends, .slice A1 e.value.length c1, .bool e.found] 30) = wx at *
          have e0 : wx.cell? ⟨wr.heap.size, 0, none⟩ = some (.int .i64 e.kind) := cell_of_row wx _ 0 _ _ (0, 0) HXA.out
          have e1 : wx.cell? ⟨wr.heap.size, 1, none⟩ = some (.int .i64 e.node) := cell_of_row wx _ 1 _ _ (0, 0) HXA.out
          have e2 : wx.cell? ⟨wr.heap.size, 2, none⟩ = some (.string (bsV e.key)) := cell_of_row wx _ 2 _ _ (0, 0) HXA.out
          have e3 : wx.cell? ⟨wr.heap.size, 3, none⟩ = some (.int .i64 e.ver) := cell_of_row wx _ 3 _ _ (0, 0) HXA.out
          have e4 : wx.cell? ⟨wr.heap.size, 4, none⟩ = some (.int .i64 e.asof) := cell_of_row wx _ 4 _ _ (0, 0) HXA.out
          have e5 : wx.cell? ⟨wr.heap.size, 5, none⟩ = some (.int .i64 e.ends) := cell_of_row wx _ 5 _ _ (0, 0) HXA.out
          have e6 : wx.cell? ⟨wr.heap.size, 6, none⟩ = some (.slice A1 e.value.length c1) := cell_of_row wx _ 6 _ _ (0, 0) HXA.out
          have e7 : wx.cell? ⟨wr.heap.size, 7, none⟩ = some (.bool e.found) := cell_of_row wx _ 7 _ _ (0, 0) HXA.out
          clear k0 k1 k2 k3 k4 k5 k6 k7
          go_wp2_with fail
          refine (HWA.out wx HBA.out).mono ?_
          rintro x w4 ⟨rfl, hb4⟩
          have HB4 := Lib.hid (HBA.out.trans (hb4.mono HBA.out.size))
          have HX4 := Lib.hid ((hb4.block _ (Array.getElem?_eq_some_iff.1 HXA.out).1).trans HXA.out)
          clear hb4 e0 e1 e2 e3 e4 e5 e6 e7
          have HA4 := Lib.hid ((HB4.out.block _ (Array.getElem?_eq_some_iff.1 HAJ.out).1).trans HAJ.out)
          have HS4 := Lib.hid (Kd.R_below HJS.out HB4.out)
          have HD4 := Lib.hid (HJB.out.trans (HB4.out.mono HJB.out.size))
          have hjc : j = 0 ∨ j = 1 ∨ j = 2 ∨ j = 3 ∨ j = 4 := by omega
          rcases hjc with rfl | rfl | rfl | rfl | rfl
          · obtain rfl : e = ⟨1, 0, [], 0, 0, 0, [], false⟩ := HE.out.symm.trans rfl
            rw [show wordE ⟨1, 0, [], 0, 0, 0, [], false⟩ = [104, 105, 116] from rfl]
            have e0 : w4.cell? ⟨wr.heap.size, 0, none⟩ = some (.int .i64 1) := cell_of_row w4 _ 0 _ _ (0, 0) HX4.out
            have a1 : w4.cell? ⟨w.heap.size, 1, none⟩ = some (.int .i64 (cnt 1 L)) := cell_of_row w4 _ 1 _ _ (0, 0) HA4.out
            have hcl := HCL.out
            have hs1 : ∀ W : World, (Op.stringOp .add (bsV [104, 105, 116]) ⟨#[32]⟩).run Tryd.prog W = .ok (.string (bsV [104, 105, 116, 32])) W := fun W => add_run [104, 105, 116] [32] (by decide) W
            have HDC := Lib.hid (dec_any (cnt 1 L : Int) (Lib.hid ⟨by omega, by omega⟩) w4)
            have hdl := decS_len (n := (cnt 1 L : Int)) (by omega) (by omega)
            obtain ⟨sv, hsv⟩ : ∃ sv, sv = strE [104, 105, 116] (cnt 1 L) := ⟨_, rfl⟩
            have hs2 : ∀ W : World, (Op.stringOp .add (bsV [104, 105, 116, 32]) (bsV (decS (cnt 1 L : Int)))).run Tryd.prog W = .ok (.string (bsV sv)) W := fun W => by rw [hsv]; exact add_run [104, 105, 116, 32] (decS (cnt 1 L : Int)) (by simp only [List.length_cons, List.length_nil]; omega) W
            have HSV := Lib.hid (show (sumL L).take (takeN 0) ++ [sv] = (sumL L).take (takeN 1) by rw [hsv]; rfl)
            have hn0 : n = 0 := HJN.out
            subst hn0
            clear hcl hdl hsv HJS HJB HTJ HAJ HWA
            go_wp2_with (first | (go_at_call 34; refine HDC.out.mono ?_; rintro x w5 ⟨rfl, rfl⟩) | (at_builtin; refine Kd.R_append Kd.string (w0 := w3) (W := w5) w3.heap.size rfl (.tmp 45) (.tmp 54) 47 9 (.string ⟨#[]⟩) 16 rfl Tryd.underlying47 info_str rfl (by decide) (by omega) (.slice B 0 k) (((sumL L).take (takeN 0)).map bsV) (bsV sv) [.string (bsV sv)] (fun _ => True) (fun _ => False) rfl rfl rfl (fun _ hk => hk.elim) (fun _ _ => trivial) HS4.out HD4.out HD4.out.size (by rw [List.length_map]; simp [sumL, takeN]) ?_; intro v9 w9 ho9 hb9 hg9 hat9; obtain ⟨A9, c9, hv9⟩ := Kd.R_slice ho9; rw [List.length_append, List.length_map, List.length_singleton] at hv9; have HA9 := Lib.hid (show SLs w9 w3.heap.size v9 ((sumL L).take (takeN 1)) by rw [← HSV.out]; unfold SLs; rw [List.map_append]; exact ho9); have HB9 := Lib.hid hb9; rw [hv9] at HA9; subst hv9; clear ho9 hb9 hg9 hat9))
            go_wp2_with fail
            go_roundw
            case rel => exact ⟨1, A9, _, c9, by omega, by first | rfl | go_num, rfl, by simp [sumL, takeN], HA9.out, HB9.out⟩
            case measure => simp [intOf]
          · obtain rfl : e = ⟨2, 0, [], 0, 0, 0, [], false⟩ := HE.out.symm.trans rfl
            rw [show wordE ⟨2, 0, [], 0, 0, 0, [], false⟩ = [109, 105, 115, 115] from rfl]
            have e0 : w4.cell? ⟨wr.heap.size, 0, none⟩ = some (.int .i64 2) := cell_of_row w4 _ 0 _ _ (0, 0) HX4.out
            have a1 : w4.cell? ⟨w.heap.size, 2, none⟩ = some (.int .i64 (cnt 2 L)) := cell_of_row w4 _ 2 _ _ (0, 0) HA4.out
            have hcl := HCL.out
            have hs1 : ∀ W : World, (Op.stringOp .add (bsV [109, 105, 115, 115]) ⟨#[32]⟩).run Tryd.prog W = .ok (.string (bsV [109, 105, 115, 115, 32])) W := fun W => add_run [109, 105, 115, 115] [32] (by decide) W
            have HDC := Lib.hid (dec_any (cnt 2 L : Int) (Lib.hid ⟨by omega, by omega⟩) w4)
            have hdl := decS_len (n := (cnt 2 L : Int)) (by omega) (by omega)
            obtain ⟨sv, hsv⟩ : ∃ sv, sv = strE [109, 105, 115, 115] (cnt 2 L) := ⟨_, rfl⟩
            have hs2 : ∀ W : World, (Op.stringOp .add (bsV [109, 105, 115, 115, 32]) (bsV (decS (cnt 2 L : Int)))).run Tryd.prog W = .ok (.string (bsV sv)) W := fun W => by rw [hsv]; exact add_run [109, 105, 115, 115, 32] (decS (cnt 2 L : Int)) (by simp only [List.length_cons, List.length_nil]; omega) W
            have HSV := Lib.hid (show (sumL L).take (takeN 1) ++ [sv] = (sumL L).take (takeN 2) by rw [hsv]; rfl)
            have hn0 : n = 1 := HJN.out
            subst hn0
            clear hcl hdl hsv HJS HJB HTJ HAJ HWA
            go_wp2_with (first | (go_at_call 34; refine HDC.out.mono ?_; rintro x w5 ⟨rfl, rfl⟩) | (at_builtin; refine Kd.R_append Kd.string (w0 := w3) (W := w5) w3.heap.size rfl (.tmp 45) (.tmp 54) 47 9 (.string ⟨#[]⟩) 16 rfl Tryd.underlying47 info_str rfl (by decide) (by omega) (.slice B 1 k) (((sumL L).take (takeN 1)).map bsV) (bsV sv) [.string (bsV sv)] (fun _ => True) (fun _ => False) rfl rfl rfl (fun _ hk => hk.elim) (fun _ _ => trivial) HS4.out HD4.out HD4.out.size (by rw [List.length_map]; simp [sumL, takeN]) ?_; intro v9 w9 ho9 hb9 hg9 hat9; obtain ⟨A9, c9, hv9⟩ := Kd.R_slice ho9; rw [List.length_append, List.length_map, List.length_singleton] at hv9; have HA9 := Lib.hid (show SLs w9 w3.heap.size v9 ((sumL L).take (takeN 2)) by rw [← HSV.out]; unfold SLs; rw [List.map_append]; exact ho9); have HB9 := Lib.hid hb9; rw [hv9] at HA9; subst hv9; clear ho9 hb9 hg9 hat9))
            go_wp2_with fail
            go_roundw
            case rel => exact ⟨2, A9, _, c9, by omega, by first | rfl | go_num, rfl, by simp [sumL, takeN], HA9.out, HB9.out⟩
            case measure => simp [intOf]
          · obtain rfl : e = ⟨3, 0, [], 0, 0, 0, [], true⟩ := HE.out.symm.trans rfl
            rw [show wordE ⟨3, 0, [], 0, 0, 0, [], true⟩ = [119, 114, 105, 116, 101] from rfl]
            have e0 : w4.cell? ⟨wr.heap.size, 0, none⟩ = some (.int .i64 3) := cell_of_row w4 _ 0 _ _ (0, 0) HX4.out
            have a1 : w4.cell? ⟨w.heap.size, 3, none⟩ = some (.int .i64 (cnt 3 L)) := cell_of_row w4 _ 3 _ _ (0, 0) HA4.out
            have hcl := HCL.out
            have hs1 : ∀ W : World, (Op.stringOp .add (bsV [119, 114, 105, 116, 101]) ⟨#[32]⟩).run Tryd.prog W = .ok (.string (bsV [119, 114, 105, 116, 101, 32])) W := fun W => add_run [119, 114, 105, 116, 101] [32] (by decide) W
            have HDC := Lib.hid (dec_any (cnt 3 L : Int) (Lib.hid ⟨by omega, by omega⟩) w4)
            have hdl := decS_len (n := (cnt 3 L : Int)) (by omega) (by omega)
            obtain ⟨sv, hsv⟩ : ∃ sv, sv = strE [119, 114, 105, 116, 101] (cnt 3 L) := ⟨_, rfl⟩
            have hs2 : ∀ W : World, (Op.stringOp .add (bsV [119, 114, 105, 116, 101, 32]) (bsV (decS (cnt 3 L : Int)))).run Tryd.prog W = .ok (.string (bsV sv)) W := fun W => by rw [hsv]; exact add_run [119, 114, 105, 116, 101, 32] (decS (cnt 3 L : Int)) (by simp only [List.length_cons, List.length_nil]; omega) W
            have HSV := Lib.hid (show (sumL L).take (takeN 2) ++ [sv] = (sumL L).take (takeN 3) by rw [hsv]; rfl)
            have hn0 : n = 2 := HJN.out
            subst hn0
            clear hcl hdl hsv HJS HJB HTJ HAJ HWA
            go_wp2_with (first | (go_at_call 34; refine HDC.out.mono ?_; rintro x w5 ⟨rfl, rfl⟩) | (at_builtin; refine Kd.R_append Kd.string (w0 := w3) (W := w5) w3.heap.size rfl (.tmp 45) (.tmp 54) 47 9 (.string ⟨#[]⟩) 16 rfl Tryd.underlying47 info_str rfl (by decide) (by omega) (.slice B 2 k) (((sumL L).take (takeN 2)).map bsV) (bsV sv) [.string (bsV sv)] (fun _ => True) (fun _ => False) rfl rfl rfl (fun _ hk => hk.elim) (fun _ _ => trivial) HS4.out HD4.out HD4.out.size (by rw [List.length_map]; simp [sumL, takeN]) ?_; intro v9 w9 ho9 hb9 hg9 hat9; obtain ⟨A9, c9, hv9⟩ := Kd.R_slice ho9; rw [List.length_append, List.length_map, List.length_singleton] at hv9; have HA9 := Lib.hid (show SLs w9 w3.heap.size v9 ((sumL L).take (takeN 3)) by rw [← HSV.out]; unfold SLs; rw [List.map_append]; exact ho9); have HB9 := Lib.hid hb9; rw [hv9] at HA9; subst hv9; clear ho9 hb9 hg9 hat9))
            go_wp2_with fail
            go_roundw
            case rel => exact ⟨3, A9, _, c9, by omega, by first | rfl | go_num, rfl, by simp [sumL, takeN], HA9.out, HB9.out⟩
            case measure => simp [intOf]
          · obtain rfl : e = ⟨3, 0, [], 0, 0, 0, [], false⟩ := HE.out.symm.trans rfl
            rw [show wordE ⟨3, 0, [], 0, 0, 0, [], false⟩ = [101, 114, 97, 115, 101] from rfl]
            go_wp2_with fail
            go_roundw
            case rel => exact ⟨4, B, n, k, by omega, by first | rfl | go_num, rfl, HJN.out, HS4.out, HD4.out⟩
            case measure => simp [intOf]
          · obtain rfl : e = ⟨4, 0, [], 0, 0, 0, [], false⟩ := HE.out.symm.trans rfl
            rw [show wordE ⟨4, 0, [], 0, 0, 0, [], false⟩ = [100, 111, 110, 101] from rfl]
            have e0 : w4.cell? ⟨wr.heap.size, 0, none⟩ = some (.int .i64 4) := cell_of_row w4 _ 0 _ _ (0, 0) HX4.out
            have a1 : w4.cell? ⟨w.heap.size, 4, none⟩ = some (.int .i64 (cnt 4 L)) := cell_of_row w4 _ 4 _ _ (0, 0) HA4.out
            have hcl := HCL.out
            have hs1 : ∀ W : World, (Op.stringOp .add (bsV [100, 111, 110, 101]) ⟨#[32]⟩).run Tryd.prog W = .ok (.string (bsV [100, 111, 110, 101, 32])) W := fun W => add_run [100, 111, 110, 101] [32] (by decide) W
            have HDC := Lib.hid (dec_any (cnt 4 L : Int) (Lib.hid ⟨by omega, by omega⟩) w4)
            have hdl := decS_len (n := (cnt 4 L : Int)) (by omega) (by omega)
            obtain ⟨sv, hsv⟩ : ∃ sv, sv = strE [100, 111, 110, 101] (cnt 4 L) := ⟨_, rfl⟩
            have hs2 : ∀ W : World, (Op.stringOp .add (bsV [100, 111, 110, 101, 32]) (bsV (decS (cnt 4 L : Int)))).run Tryd.prog W = .ok (.string (bsV sv)) W := fun W => by rw [hsv]; exact add_run [100, 111, 110, 101, 32] (decS (cnt 4 L : Int)) (by simp only [List.length_cons, List.length_nil]; omega) W
            have HSV := Lib.hid (show (sumL L).take (takeN 4) ++ [sv] = (sumL L).take (takeN 5) by rw [hsv]; rfl)
            have hn0 : n = 3 := HJN.out
            subst hn0
            clear hcl hdl hsv HJS HJB HTJ HAJ HWA
            go_wp2_with (first | (go_at_call 34; refine HDC.out.mono ?_; rintro x w5 ⟨rfl, rfl⟩) | (at_builtin; refine Kd.R_append Kd.string (w0 := w3) (W := w5) w3.heap.size rfl (.tmp 45) (.tmp 54) 47 9 (.string ⟨#[]⟩) 16 rfl Tryd.underlying47 info_str rfl (by decide) (by omega) (.slice B 3 k) (((sumL L).take (takeN 4)).map bsV) (bsV sv) [.string (bsV sv)] (fun _ => True) (fun _ => False) rfl rfl rfl (fun _ hk => hk.elim) (fun _ _ => trivial) HS4.out HD4.out HD4.out.size (by rw [List.length_map]; simp [sumL, takeN]) ?_; intro v9 w9 ho9 hb9 hg9 hat9; obtain ⟨A9, c9, hv9⟩ := Kd.R_slice ho9; rw [List.length_append, List.length_map, List.length_singleton] at hv9; have HA9 := Lib.hid (show SLs w9 w3.heap.size v9 ((sumL L).take (takeN 5)) by rw [← HSV.out]; unfold SLs; rw [List.map_append]; exact ho9); have HB9 := Lib.hid hb9; rw [hv9] at HA9; subst hv9; clear ho9 hb9 hg9 hat9))
            go_wp2_with fail
            go_roundw
            case rel => exact ⟨5, A9, _, c9, by omega, by first | rfl | go_num, rfl, by simp [sumL, takeN], HA9.out, HB9.out⟩
            case measure => simp [intOf]
        · have hj3 : ¬ (j : Int) < 5 := by omega
          have hj5 : j = 5 := by omega
          subst hj5
          have HSL := Lib.hid (show SLs wr w3.heap.size (.slice B n k) (sumL L) from HJ.out.2.1)
          have HBQ := Lib.hid (HB3.out.trans (HJ.out.2.2.mono HB3.out.size))
          have HJN := Lib.hid (join2_any HSL.out (by simp [sumL]) (by have := sum_len L (by omega); unfold sumS at this; omega))
          clear HJ
          go_wp2_with fail
          refine HJN.out.mono ?_
          rintro x w9 ⟨rfl, hb9⟩
          have HB9 := Lib.hid (HBQ.out.trans (hb9.mono HBQ.out.size))
          clear hb9
          go_wp2_with fail
          go_ret
          exact ⟨by rw [sumS]; rfl, HB9.out⟩
end Go.Proofs.YtgfljpchdiapeaaDoor
