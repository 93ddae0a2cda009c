/- Rows of events; events as a text, both ways. Events that are the same, in all that their lines say. -/
import Derived.Test.YtgfljpchdiapeaaDoorG6
namespace Go.Proofs.YtgfljpchdiapeaaDoor
set_option linter.unusedVariables false
set_option linter.unusedSimpArgs false
open Go.RowKit Go.Proofs.YtgfljpchdiapeaaDoorW.PrintWords
attribute [local go_sem ↓] Go.wp_at_zero Go.wp_at_succ
attribute [local go_sem] bsV_get bsV_size bsV_toList
abbrev Vv : Type := PR.S30
def evOf (e : Ev) : Vv := ⟨e.kind, e.node, ⟨bsV e.key, e.ver, e.asof, e.ends, bI e.value⟩, e.found⟩
def kV : Kd Ev := Kd.iso PR.k30 evOf
theorem kV_C {W : World} {A : Option Addr} {n : Nat} {L : List Ev} (h : kV.C W A n L) : PR.k30.C W A n (L.map evOf) := by
  refine ⟨by rw [List.length_map]; exact h.1, h.2.1, fun hn => ?_⟩
  obtain ⟨ad, e, hc⟩ := h.2.2 hn
  refine ⟨ad, e, fun j p hj => ?_⟩
  rw [List.getElem?_map] at hj
  obtain ⟨d, hd, rfl⟩ := Option.map_eq_some_iff.1 hj
  exact hc j d hd
theorem kV_of {W : World} {A : Option Addr} {n : Nat} {L : List Ev} (h : PR.k30.C W A n (L.map evOf)) : kV.C W A n L := by
  refine ⟨by have := h.1; rwa [List.length_map] at this, h.2.1, fun hn => ?_⟩
  obtain ⟨ad, e, hc⟩ := h.2.2 hn
  exact ⟨ad, e, fun j d hj => hc j (evOf d) (by rw [List.getElem?_map, hj]; rfl)⟩
def okV (e : Ev) : Prop := okE e ∧ e.key.length ≤ 10000 ∧ e.value.length ≤ 10000
theorem event_at {W : World} {A : Option Addr} {n : Nat} {L : List Ev} (h : kV.C W A n L) {i : Nat} (hi : i < L.length) {e : Ev} (he : L[i] = e) (hk : okV e) : ∃ ad A1 c1, A = some ad ∧ EM W e A1 c1 ∧ W.cell? (ad.add (i * 8)) = some (.int .i64 e.kind) ∧ W.cell? ⟨(ad.add (i * 8)).block, (ad.add (i * 8)).off + 1, none⟩ = some (.int .i64 e.node) ∧ W.cell? ⟨(ad.add (i * 8)).block, (ad.add (i * 8)).off + 2, none⟩ = some (.string (bsV e.key)) ∧ W.cell? ⟨(ad.add (i * 8)).block, (ad.add (i * 8)).off + 3, none⟩ = some (.int .i64 e.ver) ∧ W.cell? ⟨(ad.add (i * 8)).block, (ad.add (i * 8)).off + 4, none⟩ = some (.int .i64 e.asof) ∧ W.cell? ⟨(ad.add (i * 8)).block, (ad.add (i * 8)).off + 5, none⟩ = some (.int .i64 e.ends) ∧ W.cell? ⟨(ad.add (i * 8)).block, (ad.add (i * 8)).off + 6, none⟩ = some (.slice A1 e.value.length c1) ∧ W.cell? ⟨(ad.add (i * 8)).block, (ad.add (i * 8)).off + 7, none⟩ = some (.bool e.found) := by
  have hl : L.length = n := h.1
  obtain ⟨ad, A1, c1, e1, k0, k1, k2, k3, k4, k5, k6, k7, l3, g3⟩ := PR.at_T30 (kV_C h) (i : Int) (by omega) (by omega)
  have hr : PR.rd_T30 (L.map evOf) (i : Int) = evOf e := by
    unfold PR.rd_T30
    rw [Int.toNat_natCast, List.getD_eq_getElem?_getD, List.getElem?_map, List.getElem?_eq_getElem hi, he]
    rfl
  rw [hr] at k0 k1 k2 k3 k4 k5 k6 k7 l3 g3
  rw [Int.toNat_natCast] at k0 k1 k2 k3 k4 k5 k6 k7
  have hv : (evOf e).f2.f4.length = e.value.length := bI_len e.value
  rw [hv] at k6 l3 g3
  exact ⟨ad, A1, c1, e1, ⟨l3, g3, hk.1, hk.2.1, hk.2.2⟩, k0, k1, k2, k3, k4, k5, k6, k7⟩
theorem textE_take {L : List Ev} {i : Nat} (h : i < L.length) : textE (L.take (i + 1)) = textE (L.take i) ++ rowE L[i] := by
  rw [textE, List.take_succ_eq_append_getElem h, List.flatMap_append, List.flatMap_cons, List.flatMap_nil, List.append_nil]
  rfl
theorem textE_take_le (L : List Ev) (i : Nat) : (textE (L.take i)).length ≤ (textE L).length := by
  have h : textE L = textE (L.take i) ++ textE (L.drop i) := by rw [textE, textE, textE, ← List.flatMap_append, List.take_append_drop]
  rw [h, List.length_append]
  omega
def wsP (B b : Nat) (s : Bs) (l : Bs) (w : World) (e : Ending) (w' : World) : Prop := e = .returned (.tuple #[.int .i64 s.length, .nilIface]) ∧ Lib.IsBuilder 71 5 B b (Lib.byteCells (l ++ s)) w' ∧ Below B w w'
theorem wsb {B b : Nat} {l : Bs} {w : World} (h : Lib.IsBuilder 71 5 B b (Lib.byteCells l) w) (s : Bs) (hl : l.length + s.length ≤ 140737488355328) (hB : B ≤ w.heap.size) :
    Calls Tryd.prog 38 #[.pointer (some ⟨b, 0, none⟩), .string (bsV s)] w (wsP B b s l w) := by
  refine (ws_any B b _ (bsV s) w h (by rw [bc_len, bsV_size]; omega) hB).mono fun e w' ⟨h1, h2, h3⟩ => ⟨by rw [h1, bsV_size], ?_, h3⟩
  have e1 : Lib.byteCells l ++ Lib.strCells (bsV s) = Lib.byteCells (l ++ s) := by rw [Lib.strCells_eq, bsV_list, ← Lib.byteCells_append]
  rw [e1] at h2
  exact .inr h2
set_option maxHeartbeats 4000000 in
set_option maxRecDepth 100000 in
theorem repText_any (L : List Ev) (A : Option Addr) (c : Nat) (w : World) (hC : kV.C w A L.length L) (hc : L.length ≤ c) (hk : ∀ d ∈ L, okV d) (hl : (textE L).length ≤ 100000000) (hn : L.length ≤ 100000000) : Calls Tryd.prog 11 #[.slice A L.length c] w (QS w (textE L)) := by
  have HC := Lib.hid hC
  have HK := Lib.hid hk
  have HTL := Lib.hid hl
  clear hC hk hl
  go_enter Tryd.func11, Tryd.ntmps11
  go_wp2_with fail
  go_loopw [9] (fun iv wr => ∃ i : Nat, i ≤ L.length ∧ iv = .int .i64 i ∧ Hid (Lib.IsBuilder 71 5 w.heap.size w.heap.size (Lib.byteCells (textE (L.take i))) wr ∧ Below w.heap.size w wr)) (fun iv _ => L.length - (intOf iv).toNat)
  case atStart => exact ⟨0, Nat.zero_le _, rfl, Lib.fresh_isBuilder _ _ w, (Below.refl _ w).alloc (Nat.le_refl _) _⟩
  case round =>
    obtain ⟨i, hi, rfl, HI⟩ := hrel
    by_cases hlt : i < L.length
    · have i1 : (0 : Int) ≤ (i : Int) := by omega
      have i2 : (i : Int) < (L.length : Int) := by omega
      have hwi : IntKind.i64.wrap ((i : Int) + 1) = (i : Int) + 1 := by rw [IntKind.wrap_i64]; omega
      obtain ⟨e, he⟩ : ∃ e, L[i] = e := ⟨_, rfl⟩
      obtain ⟨ad, A1, c1, rfl, hDM, k0, k1, k2, k3, k4, k5, k6, k7⟩ := event_at (Kd.C_below HC.out HI.out.2) hlt he (HK.out e (by rw [← he]; exact List.getElem_mem hlt))
      have HTK := Lib.hid (show textE (L.take (i + 1)) = textE (L.take i) ++ rowE e by rw [textE_take hlt, he])
      have HLN := Lib.hid (show (textE (L.take i)).length + (rowE e).length ≤ 100000000 by
        have h1 := textE_take_le L (i + 1)
        rw [HTK.out, List.length_append] at h1
        have := HTL.out
        omega)
      have HBA := Lib.hid (bel_alloc wr (.cells (eC e A1 c1) 30))
      have HB := Lib.hid (is_below HI.out.1 HBA.out)
      have HBW := Lib.hid (HI.out.2.trans (HBA.out.mono HI.out.2.size))
      have HLC := Lib.hid (repLine_any e A1 c1 _ (hDM.later HBA.out))
      clear hDM he HI
      unfold eC at HBA HB HBW HLC
      generalize textE (L.take i) = acc at *
      go_wp2_with fail
      refine HLC.out.mono ?_
      rintro x w1 ⟨rfl, hb1⟩
      have HB1 := Lib.hid (is_below HB.out hb1)
      have BW1 := Lib.hid (HBW.out.trans (hb1.mono HBW.out.size))
      clear hb1 HB HBW
      obtain ⟨ln, hln⟩ : ∃ ln, ln = lineE e := ⟨_, rfl⟩
      rw [← hln]
      have hrw : rowE e = if ln = [] then [] else ln ++ [10] := by rw [hln]; rfl
      rw [hrw] at HTK HLN
      clear hrw hln
      cases ln with
      | nil =>
        have HTK2 := Lib.hid (show textE (L.take (i + 1)) = acc by rw [HTK.out, if_pos rfl, List.append_nil])
        go_wp2_with fail
        go_roundw
        case rel => exact ⟨i + 1, by omega, by go_num, by rw [HTK2.out]; exact HB1.out, BW1.out⟩
        case measure => simp [intOf]; omega
      | cons ch r =>
        have hne : ((ch :: r : Bs) == []) = false := by simp
        have HTK2 := Lib.hid (show textE (L.take (i + 1)) = acc ++ (ch :: r) ++ [10] by rw [HTK.out, if_neg (by simp), List.append_assoc])
        have HLN2 := Lib.hid (show acc.length + ((ch :: r : Bs).length + 1) ≤ 100000000 by have := HLN.out; rw [if_neg (by simp), List.length_append] at this; exact this)
        clear HTK HLN
        generalize (ch :: r : Bs) = ln at *
        go_wp2_with fail
        refine (wsb HB1.out ln (by have := HLN2.out; omega) BW1.out.size).mono ?_
        rintro x w2 ⟨rfl, h1, h2⟩
        have HB2 := Lib.hid h1
        have BW2 := Lib.hid (BW1.out.trans h2)
        clear h1 h2 HB1 BW1
        go_wp2_with fail
        refine (wbb HB2.out (by have := HLN2.out; rw [List.length_append]; omega) BW2.out.size 10 _ rfl).mono ?_
        rintro x w3 ⟨rfl, h1, h2⟩
        have HB3 := Lib.hid h1
        have BW3 := Lib.hid (BW2.out.trans h2)
        clear h1 h2 HB2 BW2
        go_wp2_with fail
        go_roundw
        case rel => exact ⟨i + 1, by omega, by go_num, by rw [HTK2.out]; exact HB3.out, BW3.out⟩
        case measure => simp [intOf]; omega
    · have hi3 : ¬ (i : Int) < (L.length : Int) := by omega
      have HT := Lib.hid (show textE (L.take i) = textE L by rw [List.take_of_length_le (by omega)])
      have HBS := Lib.hid (bstr_any _ _ _ _ HI.out.1 HI.out.2.size)
      go_wp2_with fail
      refine HBS.out.mono ?_
      rintro x w1 ⟨rfl, hb⟩
      have B1 := Lib.hid (HI.out.2.trans hb)
      clear hb
      go_wp2_with fail
      go_ret
      exact ⟨by rw [HT.out]; rfl, B1.out⟩
set_option maxHeartbeats 4000000 in
set_option maxRecDepth 100000 in
theorem refTextE_any (L : List Ev) (A : Option Addr) (c : Nat) (w : World) (hC : kV.C w A L.length L) (hc : L.length ≤ c) (hk : ∀ d ∈ L, okV d) (hl : (textE L).length ≤ 900000) (hn : L.length ≤ 100000000) : Calls Tryd.prog 12 #[.slice A L.length c] w (QS w (textE L)) := by
  have HC := Lib.hid hC
  have HK := Lib.hid hk
  have HTL := Lib.hid hl
  clear hC hk hl
  go_enter Tryd.func12, Tryd.ntmps12
  go_wp2_with fail
  go_loopw [3, 4] (fun sv iv wr => ∃ (i : Nat) (acc : Bs), i ≤ L.length ∧ iv = .int .i64 i ∧ sv = .string (bsV acc) ∧ Hid (acc = textE (L.take i) ∧ Below w.heap.size w wr)) (fun _ iv _ => L.length - (intOf iv).toNat)
  case atStart => exact ⟨0, [], Nat.zero_le _, rfl, rfl, rfl, Below.refl _ w⟩
  case round =>
    obtain ⟨i, acc, hi, rfl, rfl, HI⟩ := hrel
    by_cases hlt : i < L.length
    · have i1 : (0 : Int) ≤ (i : Int) := by omega
      have i2 : (i : Int) < (L.length : Int) := by omega
      have hwi : IntKind.i64.wrap ((i : Int) + 1) = (i : Int) + 1 := by rw [IntKind.wrap_i64]; omega
      obtain ⟨e, he⟩ : ∃ e, L[i] = e := ⟨_, rfl⟩
      obtain ⟨ad, A1, c1, rfl, hDM, k0, k1, k2, k3, k4, k5, k6, k7⟩ := event_at (Kd.C_below HC.out HI.out.2) hlt he (HK.out e (by rw [← he]; exact List.getElem_mem hlt))
      have HTK := Lib.hid (show textE (L.take (i + 1)) = acc ++ rowE e by rw [textE_take hlt, he, HI.out.1])
      have HLN := Lib.hid (show acc.length + (rowE e).length ≤ 900000 by
        have h1 := textE_take_le L (i + 1)
        rw [HTK.out, List.length_append] at h1
        have := HTL.out
        omega)
      have HBW := Lib.hid HI.out.2
      have HDM := Lib.hid hDM
      have HLC := Lib.hid (fun W (hW : EM W e A1 c1) => refLineE_any e A1 c1 W hW)
      clear hDM he HI
      unfold eC at HLC
      have HCS := Lib.hid (show ∀ W, Below wr.heap.size wr W → W.cell? (ad.add (i * 8)) = some (.int .i64 e.kind) ∧ W.cell? ⟨(ad.add (i * 8)).block, (ad.add (i * 8)).off + 1, none⟩ = some (.int .i64 e.node) ∧ W.cell? ⟨(ad.add (i * 8)).block, (ad.add (i * 8)).off + 2, none⟩ = some (.string (bsV e.key)) ∧ W.cell? ⟨(ad.add (i * 8)).block, (ad.add (i * 8)).off + 3, none⟩ = some (.int .i64 e.ver) ∧ W.cell? ⟨(ad.add (i * 8)).block, (ad.add (i * 8)).off + 4, none⟩ = some (.int .i64 e.asof) ∧ W.cell? ⟨(ad.add (i * 8)).block, (ad.add (i * 8)).off + 5, none⟩ = some (.int .i64 e.ends) ∧ W.cell? ⟨(ad.add (i * 8)).block, (ad.add (i * 8)).off + 6, none⟩ = some (.slice A1 e.value.length c1) ∧ W.cell? ⟨(ad.add (i * 8)).block, (ad.add (i * 8)).off + 7, none⟩ = some (.bool e.found) from fun W hW => ⟨(hW.cell (World.block_lt_of_cell? wr _ k0)).trans k0, (hW.cell (World.block_lt_of_cell? wr _ k1)).trans k1, (hW.cell (World.block_lt_of_cell? wr _ k2)).trans k2, (hW.cell (World.block_lt_of_cell? wr _ k3)).trans k3, (hW.cell (World.block_lt_of_cell? wr _ k4)).trans k4, (hW.cell (World.block_lt_of_cell? wr _ k5)).trans k5, (hW.cell (World.block_lt_of_cell? wr _ k6)).trans k6, (hW.cell (World.block_lt_of_cell? wr _ k7)).trans k7⟩)
      go_wp2_with fail
      refine (HLC.out wr HDM.out).mono ?_
      rintro x w1 ⟨rfl, hb1⟩
      have BW1 := Lib.hid (HBW.out.trans (hb1.mono HBW.out.size))
      have HD1 := Lib.hid (HDM.out.later hb1)
      have HC1 := Lib.hid (HCS.out w1 hb1)
      clear hb1 HBW HCS k0 k1 k2 k3 k4 k5 k6 k7
      obtain ⟨k0, k1, k2, k3, k4, k5, k6, k7⟩ := HC1.out
      obtain ⟨ln, hln⟩ : ∃ ln, ln = lineE e := ⟨_, rfl⟩
      rw [← hln] at HLC ⊢
      have hrw : rowE e = if ln = [] then [] else ln ++ [10] := by rw [hln]; rfl
      rw [hrw] at HTK HLN
      clear hrw hln
      cases ln with
      | nil =>
        have HTK2 := Lib.hid (show textE (L.take (i + 1)) = acc by rw [HTK.out, if_pos rfl, List.append_nil])
        go_wp2_with fail
        go_roundw
        case rel => exact ⟨i + 1, acc, by omega, by go_num, rfl, HTK2.out.symm, BW1.out⟩
        case measure => simp [intOf]; omega
      | cons ch r =>
        have hne : ((ch :: r : Bs) == []) = false := by simp
        have HLN2 := Lib.hid (show acc.length + ((ch :: r : Bs).length + 1) ≤ 900000 by have := HLN.out; rw [if_neg (by simp), List.length_append] at this; exact this)
        have HTK2 := Lib.hid (show textE (L.take (i + 1)) = acc ++ (ch :: r) ++ [10] by rw [HTK.out, if_neg (by simp), List.append_assoc])
        clear HTK HLN
        generalize (ch :: r : Bs) = ln at *
        obtain ⟨s1, hs1, hl1, ha1⟩ := add_to acc ln (by have := HLN2.out; omega)
        obtain ⟨s2, hs2, hl2, ha2⟩ : ∃ s : Bs, s = s1 ++ [10] ∧ s.length = s1.length + 1 ∧ ∀ W : World, (Op.stringOp .add (bsV s1) ⟨#[10]⟩).run Tryd.prog W = .ok (.string (bsV s)) W := ⟨_, rfl, by simp, add_run s1 [10] (by have := HLN2.out; simp; omega)⟩
        have HS := Lib.hid (show textE (L.take (i + 1)) = s2 by rw [HTK2.out, hs2, hs1])
        clear hs1 hl1 hs2 hl2 HTK2
        go_wp2_with fail
        refine (HLC.out w1 HD1.out).mono ?_
        rintro x w2 ⟨rfl, hb2⟩
        have BW2 := Lib.hid (BW1.out.trans (hb2.mono BW1.out.size))
        clear hb2
        go_wp2_with fail
        go_roundw
        case rel => exact ⟨i + 1, s2, by omega, by go_num, rfl, HS.out.symm, BW2.out⟩
        case measure => simp [intOf]; omega
    · have hi3 : ¬ (i : Int) < (L.length : Int) := by omega
      have HT := Lib.hid (show acc = textE L by rw [HI.out.1, List.take_of_length_le (by omega)])
      go_wp2_with fail
      go_ret
      exact ⟨by rw [← HT.out]; rfl, HI.out.2⟩
end Go.Proofs.YtgfljpchdiapeaaDoor
namespace Go.Proofs.YtgfljpchdiapeaaDoor
set_option linter.unusedVariables false
set_option linter.unusedSimpArgs false
open Go.RowKit Go.Proofs.YtgfljpchdiapeaaDoorW.PrintWords
attribute [local go_sem ↓] Go.wp_at_zero Go.wp_at_succ
attribute [local go_sem] bsV_get bsV_size bsV_toList
set_option maxHeartbeats 4000000 in
set_option maxRecDepth 100000 in
theorem repSame_any (a b : Ev) (aA bA : Option Addr) (ac bc : Nat) (w : World) (hA : EM w a aA ac) (hB : EM w b bA bc) : Calls Tryd.prog 31 #[.agg (eC a aA ac), .agg (eC b bA bc)] w fun e w' => e = .returned (.bool (sameE a b)) ∧ Below w.heap.size w w' := by
  have HDA := Lib.hid hA
  have HDB := Lib.hid hB
  clear hA hB
  have HK1 := Lib.hid (show ((w.alloc (.cells (eC a aA ac) 30)).alloc (.cells (eC b bA bc) 30)).heap[w.heap.size]? = some (.cells (eC a aA ac) 30 (0, 0)) from (Below.heap_alloc _ _ _ (by simp)).trans (heap_alloc_new _ _))
  have HK2 := Lib.hid (show ((w.alloc (.cells (eC a aA ac) 30)).alloc (.cells (eC b bA bc) 30)).heap[w.heap.size + 1]? = some (.cells (eC b bA bc) 30 (0, 0)) from by
    have := heap_alloc_new (w.alloc (.cells (eC a aA ac) 30)) (.cells (eC b bA bc) 30)
    simpa using this)
  have HBL := Lib.hid ((bel_alloc w (.cells (eC a aA ac) 30)).trans ((bel_alloc _ (.cells (eC b bA bc) 30)).mono (by simp)))
  obtain ⟨sm, hsm⟩ : ∃ sm, sm = sameE a b := ⟨_, rfl⟩
  rw [← hsm]
  have HSM := Lib.hid hsm
  clear hsm
  unfold eC at HK1 HK2 HBL ⊢
  go_enter Tryd.func31, Tryd.ntmps31
  go_wp2_with fail
  generalize (w.alloc (.cells #[.int .i64 a.kind, .int .i64 a.node, .string (bsV a.key), .int .i64 a.ver, .int .i64 a.asof, .int .i64 a.ends, .slice aA a.value.length ac, .bool a.found] 30)).alloc (.cells #[.int .i64 b.kind, .int .i64 b.node, .string (bsV b.key), .int .i64 b.ver, .int .i64 b.asof, .int .i64 b.ends, .slice bA b.value.length bc, .bool b.found] 30) = wb at *
  have HXX := Lib.hid (show ∀ W, Below wb.heap.size wb W → W.cell? ⟨w.heap.size, 0, none⟩ = some (.int .i64 a.kind) ∧ W.cell? ⟨w.heap.size, 1, none⟩ = some (.int .i64 a.node) ∧ W.cell? ⟨w.heap.size, 2, none⟩ = some (.string (bsV a.key)) ∧ W.cell? ⟨w.heap.size, 3, none⟩ = some (.int .i64 a.ver) ∧ W.cell? ⟨w.heap.size, 4, none⟩ = some (.int .i64 a.asof) ∧ W.cell? ⟨w.heap.size, 5, none⟩ = some (.int .i64 a.ends) ∧ W.cell? ⟨w.heap.size, 6, none⟩ = some (.slice aA a.value.length ac) ∧ W.cell? ⟨w.heap.size, 7, none⟩ = some (.bool a.found) ∧ W.cell? ⟨w.heap.size + 1, 0, none⟩ = some (.int .i64 b.kind) ∧ W.cell? ⟨w.heap.size + 1, 1, none⟩ = some (.int .i64 b.node) ∧ W.cell? ⟨w.heap.size + 1, 2, none⟩ = some (.string (bsV b.key)) ∧ W.cell? ⟨w.heap.size + 1, 3, none⟩ = some (.int .i64 b.ver) ∧ W.cell? ⟨w.heap.size + 1, 4, none⟩ = some (.int .i64 b.asof) ∧ W.cell? ⟨w.heap.size + 1, 5, none⟩ = some (.int .i64 b.ends) ∧ W.cell? ⟨w.heap.size + 1, 6, none⟩ = some (.slice bA b.value.length bc) ∧ W.cell? ⟨w.heap.size + 1, 7, none⟩ = some (.bool b.found) from fun W hW => by
    have e1 := (hW.block _ (Array.getElem?_eq_some_iff.1 HK1.out).1).trans HK1.out
    have e2 := (hW.block _ (Array.getElem?_eq_some_iff.1 HK2.out).1).trans HK2.out
    refine ⟨?_, ?_, ?_, ?_, ?_, ?_, ?_, ?_, ?_, ?_, ?_, ?_, ?_, ?_, ?_, ?_⟩ <;> first | (rw [World.cell?, e1]; rfl) | (rw [World.cell?, e2]; rfl))
  have z0 : Hid (Below wb.heap.size wb wb.drew) := (Drawn0.below ⟨1, rfl⟩)
  obtain ⟨q0, q1, q2, q3, q4, q5, q6, q7, r0, r1, r2, r3, r4, r5, r6, r7⟩ := HXX.out wb (Below.refl _ _)
  by_cases hk : a.kind = b.kind
  · have HLA := Lib.hid (show ∀ W, Below wb.heap.size wb W → Calls Tryd.prog 9 #[.agg #[.int .i64 a.kind, .int .i64 a.node, .string (bsV a.key), .int .i64 a.ver, .int .i64 a.asof, .int .i64 a.ends, .slice aA a.value.length ac, .bool a.found]] W fun x w' => x = .returned (.string (bsV (lineE a))) ∧ Below wb.heap.size wb w' from fun W hW => (repLine_any a aA ac W (HDA.out.later (HBL.out.trans (hW.mono HBL.out.size)))).mono fun x w' ⟨he, hb⟩ => ⟨he, hW.trans (hb.mono hW.size)⟩)
    have HLB := Lib.hid (show ∀ W, Below wb.heap.size wb W → Calls Tryd.prog 9 #[.agg #[.int .i64 b.kind, .int .i64 b.node, .string (bsV b.key), .int .i64 b.ver, .int .i64 b.asof, .int .i64 b.ends, .slice bA b.value.length bc, .bool b.found]] W fun x w' => x = .returned (.string (bsV (lineE b))) ∧ Below wb.heap.size wb w' from fun W hW => (repLine_any b bA bc W (HDB.out.later (HBL.out.trans (hW.mono HBL.out.size)))).mono fun x w' ⟨he, hb⟩ => ⟨he, hW.trans (hb.mono hW.size)⟩)
    have HF := Lib.hid (show sm = (lineE a == lineE b) by rw [HSM.out, sameE]; by_cases h : lineE a = lineE b <;> simp [h, hk])
    have hkb : (a.kind == b.kind) = true := by simpa using hk
    clear hk
    go_region_held3 (fun w' => w'.cell? ⟨w.heap.size, 0, none⟩ = some (.int .i64 a.kind) ∧ w'.cell? ⟨w.heap.size, 1, none⟩ = some (.int .i64 a.node) ∧ w'.cell? ⟨w.heap.size, 2, none⟩ = some (.string (bsV a.key)) ∧ w'.cell? ⟨w.heap.size, 3, none⟩ = some (.int .i64 a.ver) ∧ w'.cell? ⟨w.heap.size, 4, none⟩ = some (.int .i64 a.asof) ∧ w'.cell? ⟨w.heap.size, 5, none⟩ = some (.int .i64 a.ends) ∧ w'.cell? ⟨w.heap.size, 6, none⟩ = some (.slice aA a.value.length ac) ∧ w'.cell? ⟨w.heap.size, 7, none⟩ = some (.bool a.found) ∧ w'.cell? ⟨w.heap.size + 1, 0, none⟩ = some (.int .i64 b.kind) ∧ w'.cell? ⟨w.heap.size + 1, 1, none⟩ = some (.int .i64 b.node) ∧ w'.cell? ⟨w.heap.size + 1, 2, none⟩ = some (.string (bsV b.key)) ∧ w'.cell? ⟨w.heap.size + 1, 3, none⟩ = some (.int .i64 b.ver) ∧ w'.cell? ⟨w.heap.size + 1, 4, none⟩ = some (.int .i64 b.asof) ∧ w'.cell? ⟨w.heap.size + 1, 5, none⟩ = some (.int .i64 b.ends) ∧ w'.cell? ⟨w.heap.size + 1, 6, none⟩ = some (.slice bA b.value.length bc) ∧ w'.cell? ⟨w.heap.size + 1, 7, none⟩ = some (.bool b.found))
      (first | exact ⟨q0, q1, q2, q3, q4, q5, q6, q7, r0, r1, r2, r3, r4, r5, r6, r7⟩ | exact HXX.out _ z0.out | exact HXX.out _ z1.out | exact HXX.out _ z2.out)
      (first
      | (go_at_call 9; ((with_reducible refine (HLA.out _ ?_).mono ?_)); (case refine_1 => first | exact z2.out | exact z0.out); rintro e y1 ⟨rfl, hb⟩; have z1 := Lib.hid hb; clear hb)
      | (go_at_call 9; ((with_reducible refine (HLB.out _ ?_).mono ?_)); (case refine_1 => first | exact z1.out | exact z0.out); rintro e y2 ⟨rfl, hb⟩; have z2 := Lib.hid hb; clear hb))
    all_goals
      go_wp2_with fail
      go_ret
      exact ⟨by rw [HF.out]; rfl, HBL.out.trans ((by first | exact z2.out | exact z1.out : Below wb.heap.size wb _).mono HBL.out.size)⟩
  · have HF := Lib.hid (show sm = false by rw [HSM.out, sameE]; exact decide_eq_false (fun e => hk e.1))
    have hkb : (a.kind == b.kind) = false := by simpa using hk
    clear hk q1 q2 q3 q4 q5 q6 q7 r1 r2 r3 r4 r5 r6 r7
    go_quiet (fail)
    go_wp2_with fail
    go_ret
    exact ⟨by rw [HF.out]; rfl, HBL.out.trans ((Drawn0.below ⟨_, rfl⟩ : Below wb.heap.size wb _).mono HBL.out.size)⟩
theorem sameAllE_no : ∀ {L M : List Ev}, L.length ≠ M.length → sameAllE L M = false
  | [], [], h => absurd rfl h
  | [], _ :: _, _ => rfl
  | _ :: _, [], _ => rfl
  | a :: L, b :: M, h => by rw [sameAllE, sameAllE_no (fun e => h (by simp [e])), Bool.and_false]
set_option maxHeartbeats 4000000 in
set_option maxRecDepth 100000 in
theorem refSameAllE_any (L M : List Ev) (A B : Option Addr) (c c' : Nat) (w : World) (hA : kV.C w A L.length L) (hB : kV.C w B M.length M) (hc : L.length ≤ c) (hc' : M.length ≤ c') (hL : ∀ d ∈ L, okV d) (hM : ∀ d ∈ M, okV d) (hn : L.length ≤ 100000000) (hm : M.length ≤ 100000000) :
    Calls Tryd.prog 18 #[.slice A L.length c, .slice B M.length c'] w fun e w' => e = .returned (.bool (sameAllE L M)) ∧ Below w.heap.size w w' := by
  have HA := Lib.hid hA
  have HB := Lib.hid hB
  have HL := Lib.hid hL
  have HM := Lib.hid hM
  clear hA hB hL hM
  by_cases hlm : L.length = M.length
  · have hlb : ((L.length : Int) != (M.length : Int)) = false := by simp; omega
    have HLM := Lib.hid hlm
    clear hlm
    go_enter Tryd.func18, Tryd.ntmps18
    go_wp2_with fail
    go_loopw [5] (fun iv wr => ∃ i : Nat, i ≤ L.length ∧ iv = .int .i64 i ∧ Hid (sameAllE L M = sameAllE (L.drop i) (M.drop i) ∧ Below w.heap.size w wr)) (fun iv _ => L.length - (intOf iv).toNat)
    case atStart => exact ⟨0, Nat.zero_le _, rfl, by simp, Below.refl _ w⟩
    case round =>
      obtain ⟨i, hi, rfl, HI⟩ := hrel
      by_cases hlt : i < L.length
      · have i1 : (0 : Int) ≤ (i : Int) := by omega
        have i2 : (i : Int) < (L.length : Int) := by omega
        have i3 : (i : Int) < (M.length : Int) := by have := HLM.out; omega
        have hltm : i < M.length := by have := HLM.out; omega
        have i4 : i < c := by omega
        have i5 : i < c' := by have := HLM.out; omega
        have hwi : IntKind.i64.wrap ((i : Int) + 1) = (i : Int) + 1 := by rw [IntKind.wrap_i64]; omega
        obtain ⟨a, ha⟩ : ∃ d, L[i] = d := ⟨_, rfl⟩
        obtain ⟨b, hb⟩ : ∃ d, M[i] = d := ⟨_, rfl⟩
        have HDR := Lib.hid (show sameAllE L M = (sameE a b && sameAllE (L.drop (i + 1)) (M.drop (i + 1))) by rw [HI.out.1, List.drop_eq_getElem_cons hlt, List.drop_eq_getElem_cons hltm, ha, hb, sameAllE])
        obtain ⟨ad, aA, ac, rfl, hDA, q0, q1, q2, q3, q4, q5, q6, q7⟩ := event_at (Kd.C_below HA.out HI.out.2) hlt ha (HL.out a (by rw [← ha]; exact List.getElem_mem hlt))
        obtain ⟨bd, bA, bc, rfl, hDB, r0, r1, r2, r3, r4, r5, r6, r7⟩ := event_at (Kd.C_below HB.out HI.out.2) hltm hb (HM.out b (by rw [← hb]; exact List.getElem_mem hltm))
        have HDA := Lib.hid hDA
        have HDB := Lib.hid hDB
        have HBW := Lib.hid HI.out.2
        clear hDA hDB ha hb HI
        have HXX := Lib.hid (show ∀ W, Below wr.heap.size wr W → W.cell? (ad.add (i * 8)) = some (.int .i64 a.kind) ∧ W.cell? ⟨(ad.add (i * 8)).block, (ad.add (i * 8)).off + 1, none⟩ = some (.int .i64 a.node) ∧ W.cell? ⟨(ad.add (i * 8)).block, (ad.add (i * 8)).off + 2, none⟩ = some (.string (bsV a.key)) ∧ W.cell? ⟨(ad.add (i * 8)).block, (ad.add (i * 8)).off + 3, none⟩ = some (.int .i64 a.ver) ∧ W.cell? ⟨(ad.add (i * 8)).block, (ad.add (i * 8)).off + 4, none⟩ = some (.int .i64 a.asof) ∧ W.cell? ⟨(ad.add (i * 8)).block, (ad.add (i * 8)).off + 5, none⟩ = some (.int .i64 a.ends) ∧ W.cell? ⟨(ad.add (i * 8)).block, (ad.add (i * 8)).off + 6, none⟩ = some (.slice aA a.value.length ac) ∧ W.cell? ⟨(ad.add (i * 8)).block, (ad.add (i * 8)).off + 7, none⟩ = some (.bool a.found) ∧ W.cell? (bd.add (i * 8)) = some (.int .i64 b.kind) ∧ W.cell? ⟨(bd.add (i * 8)).block, (bd.add (i * 8)).off + 1, none⟩ = some (.int .i64 b.node) ∧ W.cell? ⟨(bd.add (i * 8)).block, (bd.add (i * 8)).off + 2, none⟩ = some (.string (bsV b.key)) ∧ W.cell? ⟨(bd.add (i * 8)).block, (bd.add (i * 8)).off + 3, none⟩ = some (.int .i64 b.ver) ∧ W.cell? ⟨(bd.add (i * 8)).block, (bd.add (i * 8)).off + 4, none⟩ = some (.int .i64 b.asof) ∧ W.cell? ⟨(bd.add (i * 8)).block, (bd.add (i * 8)).off + 5, none⟩ = some (.int .i64 b.ends) ∧ W.cell? ⟨(bd.add (i * 8)).block, (bd.add (i * 8)).off + 6, none⟩ = some (.slice bA b.value.length bc) ∧ W.cell? ⟨(bd.add (i * 8)).block, (bd.add (i * 8)).off + 7, none⟩ = some (.bool b.found) from fun W hW => ⟨(hW.cell (World.block_lt_of_cell? wr _ q0)).trans q0, (hW.cell (World.block_lt_of_cell? wr _ q1)).trans q1, (hW.cell (World.block_lt_of_cell? wr _ q2)).trans q2, (hW.cell (World.block_lt_of_cell? wr _ q3)).trans q3, (hW.cell (World.block_lt_of_cell? wr _ q4)).trans q4, (hW.cell (World.block_lt_of_cell? wr _ q5)).trans q5, (hW.cell (World.block_lt_of_cell? wr _ q6)).trans q6, (hW.cell (World.block_lt_of_cell? wr _ q7)).trans q7, (hW.cell (World.block_lt_of_cell? wr _ r0)).trans r0, (hW.cell (World.block_lt_of_cell? wr _ r1)).trans r1, (hW.cell (World.block_lt_of_cell? wr _ r2)).trans r2, (hW.cell (World.block_lt_of_cell? wr _ r3)).trans r3, (hW.cell (World.block_lt_of_cell? wr _ r4)).trans r4, (hW.cell (World.block_lt_of_cell? wr _ r5)).trans r5, (hW.cell (World.block_lt_of_cell? wr _ r6)).trans r6, (hW.cell (World.block_lt_of_cell? wr _ r7)).trans r7⟩)
        have z0 : Hid (Below wr.heap.size wr wr.drew) := (Drawn0.below ⟨1, rfl⟩)
        obtain ⟨sb, hsb⟩ : ∃ sb, sb = sameE a b := ⟨_, rfl⟩
        have HSB := Lib.hid hsb
        by_cases hk : a.kind = b.kind
        · have HLA := Lib.hid (show ∀ W, Below wr.heap.size wr W → Calls Tryd.prog 10 #[.agg #[.int .i64 a.kind, .int .i64 a.node, .string (bsV a.key), .int .i64 a.ver, .int .i64 a.asof, .int .i64 a.ends, .slice aA a.value.length ac, .bool a.found]] W fun x w' => x = .returned (.string (bsV (lineE a))) ∧ Below wr.heap.size wr w' from fun W hW => (refLineE_any a aA ac W (HDA.out.later hW)).mono fun x w' ⟨he, hb⟩ => ⟨he, hW.trans (hb.mono hW.size)⟩)
          have HLB := Lib.hid (show ∀ W, Below wr.heap.size wr W → Calls Tryd.prog 10 #[.agg #[.int .i64 b.kind, .int .i64 b.node, .string (bsV b.key), .int .i64 b.ver, .int .i64 b.asof, .int .i64 b.ends, .slice bA b.value.length bc, .bool b.found]] W fun x w' => x = .returned (.string (bsV (lineE b))) ∧ Below wr.heap.size wr w' from fun W hW => (refLineE_any b bA bc W (HDB.out.later hW)).mono fun x w' ⟨he, hb⟩ => ⟨he, hW.trans (hb.mono hW.size)⟩)
          have HF := Lib.hid (show sb = (lineE a == lineE b) by rw [HSB.out, sameE]; by_cases h : lineE a = lineE b <;> simp [h, hk])
          have hkb : (a.kind != b.kind) = false := by simpa using hk
          clear hk hsb
          obtain ⟨la, hla⟩ : ∃ x, x = lineE a := ⟨_, rfl⟩
          obtain ⟨lb, hlb4⟩ : ∃ x, x = lineE b := ⟨_, rfl⟩
          rw [← hla] at HLA HF
          rw [← hlb4] at HLB HF
          clear hla hlb4
          cases sb with
          | false =>
            have hlb3 : (la == lb) = false := HF.out.symm
            go_wp2_with fail
            go_region_held3 (fun w' => w'.cell? (ad.add (i * 8)) = some (.int .i64 a.kind) ∧ w'.cell? ⟨(ad.add (i * 8)).block, (ad.add (i * 8)).off + 1, none⟩ = some (.int .i64 a.node) ∧ w'.cell? ⟨(ad.add (i * 8)).block, (ad.add (i * 8)).off + 2, none⟩ = some (.string (bsV a.key)) ∧ w'.cell? ⟨(ad.add (i * 8)).block, (ad.add (i * 8)).off + 3, none⟩ = some (.int .i64 a.ver) ∧ w'.cell? ⟨(ad.add (i * 8)).block, (ad.add (i * 8)).off + 4, none⟩ = some (.int .i64 a.asof) ∧ w'.cell? ⟨(ad.add (i * 8)).block, (ad.add (i * 8)).off + 5, none⟩ = some (.int .i64 a.ends) ∧ w'.cell? ⟨(ad.add (i * 8)).block, (ad.add (i * 8)).off + 6, none⟩ = some (.slice aA a.value.length ac) ∧ w'.cell? ⟨(ad.add (i * 8)).block, (ad.add (i * 8)).off + 7, none⟩ = some (.bool a.found) ∧ w'.cell? (bd.add (i * 8)) = some (.int .i64 b.kind) ∧ w'.cell? ⟨(bd.add (i * 8)).block, (bd.add (i * 8)).off + 1, none⟩ = some (.int .i64 b.node) ∧ w'.cell? ⟨(bd.add (i * 8)).block, (bd.add (i * 8)).off + 2, none⟩ = some (.string (bsV b.key)) ∧ w'.cell? ⟨(bd.add (i * 8)).block, (bd.add (i * 8)).off + 3, none⟩ = some (.int .i64 b.ver) ∧ w'.cell? ⟨(bd.add (i * 8)).block, (bd.add (i * 8)).off + 4, none⟩ = some (.int .i64 b.asof) ∧ w'.cell? ⟨(bd.add (i * 8)).block, (bd.add (i * 8)).off + 5, none⟩ = some (.int .i64 b.ends) ∧ w'.cell? ⟨(bd.add (i * 8)).block, (bd.add (i * 8)).off + 6, none⟩ = some (.slice bA b.value.length bc) ∧ w'.cell? ⟨(bd.add (i * 8)).block, (bd.add (i * 8)).off + 7, none⟩ = some (.bool b.found))
              (first | exact ⟨q0, q1, q2, q3, q4, q5, q6, q7, r0, r1, r2, r3, r4, r5, r6, r7⟩ | exact HXX.out _ z0.out | exact HXX.out _ z1.out | exact HXX.out _ z2.out)
              (first
              | (go_at_call 10; ((with_reducible refine (HLA.out _ ?_).mono ?_)); (case refine_1 => first | exact z2.out | exact z0.out); rintro e y1 ⟨rfl, hb⟩; have z1 := Lib.hid hb; clear hb)
              | (go_at_call 10; ((with_reducible refine (HLB.out _ ?_).mono ?_)); (case refine_1 => first | exact z1.out | exact z0.out); rintro e y2 ⟨rfl, hb⟩; have z2 := Lib.hid hb; clear hb))
            all_goals
              go_wp2_with fail
              go_ret
              exact ⟨by rw [HDR.out, ← HSB.out]; rfl, HBW.out.trans (z2.out.mono HBW.out.size)⟩
          | true =>
            have hlb3 : (la == lb) = true := HF.out.symm
            go_wp2_with fail
            go_region_held3 (fun w' => w'.cell? (ad.add (i * 8)) = some (.int .i64 a.kind) ∧ w'.cell? ⟨(ad.add (i * 8)).block, (ad.add (i * 8)).off + 1, none⟩ = some (.int .i64 a.node) ∧ w'.cell? ⟨(ad.add (i * 8)).block, (ad.add (i * 8)).off + 2, none⟩ = some (.string (bsV a.key)) ∧ w'.cell? ⟨(ad.add (i * 8)).block, (ad.add (i * 8)).off + 3, none⟩ = some (.int .i64 a.ver) ∧ w'.cell? ⟨(ad.add (i * 8)).block, (ad.add (i * 8)).off + 4, none⟩ = some (.int .i64 a.asof) ∧ w'.cell? ⟨(ad.add (i * 8)).block, (ad.add (i * 8)).off + 5, none⟩ = some (.int .i64 a.ends) ∧ w'.cell? ⟨(ad.add (i * 8)).block, (ad.add (i * 8)).off + 6, none⟩ = some (.slice aA a.value.length ac) ∧ w'.cell? ⟨(ad.add (i * 8)).block, (ad.add (i * 8)).off + 7, none⟩ = some (.bool a.found) ∧ w'.cell? (bd.add (i * 8)) = some (.int .i64 b.kind) ∧ w'.cell? ⟨(bd.add (i * 8)).block, (bd.add (i * 8)).off + 1, none⟩ = some (.int .i64 b.node) ∧ w'.cell? ⟨(bd.add (i * 8)).block, (bd.add (i * 8)).off + 2, none⟩ = some (.string (bsV b.key)) ∧ w'.cell? ⟨(bd.add (i * 8)).block, (bd.add (i * 8)).off + 3, none⟩ = some (.int .i64 b.ver) ∧ w'.cell? ⟨(bd.add (i * 8)).block, (bd.add (i * 8)).off + 4, none⟩ = some (.int .i64 b.asof) ∧ w'.cell? ⟨(bd.add (i * 8)).block, (bd.add (i * 8)).off + 5, none⟩ = some (.int .i64 b.ends) ∧ w'.cell? ⟨(bd.add (i * 8)).block, (bd.add (i * 8)).off + 6, none⟩ = some (.slice bA b.value.length bc) ∧ w'.cell? ⟨(bd.add (i * 8)).block, (bd.add (i * 8)).off + 7, none⟩ = some (.bool b.found))
              (first | exact ⟨q0, q1, q2, q3, q4, q5, q6, q7, r0, r1, r2, r3, r4, r5, r6, r7⟩ | exact HXX.out _ z0.out | exact HXX.out _ z1.out | exact HXX.out _ z2.out)
              (first
              | (go_at_call 10; ((with_reducible refine (HLA.out _ ?_).mono ?_)); (case refine_1 => first | exact z2.out | exact z0.out); rintro e y1 ⟨rfl, hb⟩; have z1 := Lib.hid hb; clear hb)
              | (go_at_call 10; ((with_reducible refine (HLB.out _ ?_).mono ?_)); (case refine_1 => first | exact z1.out | exact z0.out); rintro e y2 ⟨rfl, hb⟩; have z2 := Lib.hid hb; clear hb))
            all_goals
              go_wp2_with fail
              go_roundw
              case rel => exact ⟨i + 1, by omega, by go_num, by rw [HDR.out, ← HSB.out]; rfl, HBW.out.trans (z2.out.mono HBW.out.size)⟩
              case measure => simp [intOf]; omega
        · have HF := Lib.hid (show sb = false by rw [HSB.out, sameE]; exact decide_eq_false (fun e => hk e.1))
          have hkb : (a.kind != b.kind) = true := by simpa using hk
          clear hk hsb q1 q2 q3 q4 q5 q6 q7 r1 r2 r3 r4 r5 r6 r7
          go_wp2_with fail
          go_quiet (fail)
          go_wp2_with fail
          go_ret
          exact ⟨by rw [HDR.out, ← HSB.out, HF.out]; rfl, HBW.out.trans ((Drawn0.below ⟨_, rfl⟩ : Below wr.heap.size wr _).mono HBW.out.size)⟩
      · have hi3 : ¬ (i : Int) < (L.length : Int) := by omega
        have HT := Lib.hid (show sameAllE L M = true by rw [HI.out.1, List.drop_of_length_le (by omega), List.drop_of_length_le (by have := HLM.out; omega)]; rfl)
        go_wp2_with fail
        go_ret
        exact ⟨by rw [HT.out]; rfl, HI.out.2⟩
  · have hlb : ((L.length : Int) != (M.length : Int)) = true := by simp; omega
    have HF := Lib.hid (sameAllE_no hlm)
    clear hlm
    go_enter Tryd.func18, Tryd.ntmps18
    go_wp2_with fail
    go_ret
    exact ⟨by rw [HF.out]; rfl, Below.refl _ w⟩
end Go.Proofs.YtgfljpchdiapeaaDoor
