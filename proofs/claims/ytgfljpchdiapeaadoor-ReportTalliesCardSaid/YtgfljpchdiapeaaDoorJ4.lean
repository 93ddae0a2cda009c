/- ReportTallies: how often each node of any events had what it was asked for, and the table of that. -/
import Derived.Test.YtgfljpchdiapeaaDoorGB
import Derived.Test.YtgfljpchdiapeaaDoorH4
import Derived.Test.YtgfljpchdiapeaaDoorJ3
namespace Go.Proofs.YtgfljpchdiapeaaDoor
set_option linter.unusedVariables false
set_option linter.unusedSimpArgs false
open Go.RowKit Go.Proofs.YtgfljpchdiapeaaDoorW.PrintWords
attribute [local go_sem ↓] Go.wp_at_zero Go.wp_at_succ
attribute [local go_sem] bsV_get bsV_size bsV_toList
theorem int_at {w : World} {A : Option Addr} {n : Nat} {X : List Int} (h : (Kd.int .i64).C w A n X) {k : Nat} (hk : k < X.length) : ∃ ad, A = some ad ∧ ∀ W : World, Below w.heap.size w W → W.cell? (ad.add k) = some (.int .i64 X[k]) := by
  have hl : X.length = n := h.1
  obtain ⟨ad, c, e, _, hK, hc0⟩ := Kd.C_get h 0 (k : Int) (by omega) (by omega)
  rw [Int.toNat_natCast] at hK hc0
  have hx : X.getD k 0 = X[k] := by rw [List.getD_eq_getElem?_getD, List.getElem?_eq_getElem hk]; rfl
  rw [hx] at hK
  have hc := hc0 0 (.int .i64 X[k]) (by rw [show c = [.int .i64 X[k]] from hK]; rfl)
  have hc' : w.cell? (ad.add k) = some (.int .i64 X[k]) := by
    have e1 : k * (Kd.int .i64).sz + 0 = k := by show k * 1 + 0 = k; omega
    rwa [e1] at hc
  exact ⟨ad, e, fun W hW => (hW.cell (World.block_lt_of_cell? w _ hc')).trans hc'⟩
theorem askN_take {L : List Ev} {i : Nat} (h : i < L.length) : askN (L.take (i + 1)) = askN (L.take i) + (if asked L[i] then 1 else 0) := by
  rw [List.take_succ_eq_append_getElem h, askN_snoc]
set_option maxHeartbeats 8000000 in
set_option maxRecDepth 100000 in
theorem tallies_law (L : List Ev) (A : Option Addr) (c : Nat) (w : World) (hC : kV.C w A L.length L) (hc : L.length ≤ c) (hok : ∀ d ∈ L, okE d) (hg : HG w) (hm : MX w) : Calls Tryd.prog 6 #[.slice A L.length c] w fun e w' => e = .returned (.bool true) ∧ Below w.heap.size w w' := by
  have HW := Lib.hid (works_later hg hm)
  have HC := Lib.hid hC
  have HOK := Lib.hid hok
  have HLI := Lib.hid (light_any L A c w hC hc)
  clear hg hm hC hok
  go_enter Tryd.func6, Tryd.ntmps6
  go_wp2_with fail
  refine HLI.out.mono ?_
  rintro e w1 ⟨r, rfl, hr, hb⟩
  have HB1 := Lib.hid hb
  have HR := Lib.hid hr
  clear hb hr HLI
  by_cases hr0 : r ≤ 0
  · have d0 : ¬ (0 : Int) < r := by omega
    have HSZ := Lib.hid (HR.out hr0)
    have HL4 := Lib.hid (show L.length ≤ 1000 by have := HSZ.out.1; omega)
    have HOS := Lib.hid (show ∀ d ∈ L, okV d from fun d hd => ⟨HOK.out d hd, by have := HSZ.out.2 d hd; omega, by have := HSZ.out.2 d hd; omega⟩)
    have HNO := Lib.hid (show ∀ d ∈ L, I64 d.node from fun d hd => (HOK.out d hd).2.1)
    clear HR HSZ
    go_wp2_with fail
    refine (tallies_any L A c w1 (Kd.C_below HC.out HB1.out) hc HOS.out HL4.out).mono ?_
    rintro x w2 ⟨N, B, k, rfl, hNk, HT⟩
    have HB2 := Lib.hid (HB1.out.trans (HT.out.2.2.mono HB1.out.size))
    have HIS := Lib.hid HT.out.1
    have HXC := Lib.hid HT.out.2.1
    clear HT HB1
    go_wp2_with fail
    refine (nodes_any L N A c w2 HIS.out (Kd.C_below HC.out HB2.out) hc HL4.out).mono ?_
    rintro x w3 ⟨B2, k2, rfl, hNk2, hNC, hb⟩
    have HB3 := Lib.hid (HB2.out.trans (hb.mono HB2.out.size))
    have HX3 := Lib.hid (Kd.C_below HXC.out hb)
    have HN3 := Lib.hid hNC
    have HNL := Lib.hid (HIS.out.len)
    have HIN := Lib.hid (show ∀ n ∈ N, I64 n from fun n hn => by
      obtain ⟨d, hd, _, rfl⟩ := (HIS.out.mem n).1 hn
      exact HNO.out d hd)
    clear hb hNC HXC HB2 HNO
    have hnl : N.length ≤ 1000 := Nat.le_trans HNL.out HL4.out
    go_wp2_with fail
    go_loopw [5, 6, 7] (fun sv av iv wr => ∃ (i : Nat) (acc : Bs) (a : Nat), i ≤ N.length ∧ iv = .int .i64 i ∧ sv = .string (bsV acc) ∧ av = .int .i64 a ∧ Hid (acc = tabS ((N.map (tlOf L)).take i) ∧ a = sumT L (N.take i) ∧ Below w3.heap.size w3 wr)) (fun _ _ iv _ => N.length - (intOf iv).toNat)
    case atStart => exact ⟨0, [], 0, Nat.zero_le _, rfl, rfl, rfl, rfl, rfl, Below.refl _ _⟩
    case round =>
      obtain ⟨i, acc, a, hi, rfl, rfl, rfl, HI⟩ := hrel
      by_cases hlt : i < N.length
      · have i1 : (0 : Int) ≤ (i : Int) := by omega
        have i2 : (i : Int) < (N.length : Int) := by omega
        have hwi : IntKind.i64.wrap ((i : Int) + 1) = (i : Int) + 1 := by rw [IntKind.wrap_i64]; omega
        obtain ⟨n, hn⟩ : ∃ n, N[i] = n := ⟨_, rfl⟩
        have hin := HIN.out n (by rw [← hn]; exact List.getElem_mem hlt)
        obtain ⟨ad2, rfl, hat2⟩ := int_at HN3.out hlt
        have hlm : i < (N.map (tlOf L)).length := by rw [List.length_map]; exact hlt
        obtain ⟨ad1, rfl, hat1⟩ := tl_at HX3.out hlm
        have hg1 : (N.map (tlOf L))[i] = ⟨n, tm 1 n L, tm 2 n L⟩ := by rw [List.getElem_map, hn]; rfl
        rw [hg1] at hat1
        rw [hn] at hat2
        have HBW := Lib.hid HI.out.2.2
        have HAC := Lib.hid (show acc ++ rowT n (tm 1 n L) (tm 2 n L) = tabS ((N.map (tlOf L)).take (i + 1)) by
          rw [tabS_take hlm, hg1, HI.out.1]
          simp)
        have HSM := Lib.hid (show a + (tm 1 n L + tm 2 n L) = sumT L (N.take (i + 1)) by rw [sumT_take hlt, hn, HI.out.2.1])
        have hsl : sumT L (N.take (i + 1)) ≤ 1000 := by
          have h1 : ∀ (M : List Int) (x : Nat), sumT L (M.take x) ≤ sumT L M := by
            intro M
            induction M with
            | nil => intro x; simp
            | cons y M ih =>
              intro x
              cases x with
              | zero => exact Nat.zero_le _
              | succ x => rw [List.take_succ_cons, sumT, sumT]; have := ih x; omega
          have h2 := h1 N (i + 1)
          rw [HIS.out.sum] at h2
          exact Nat.le_trans h2 (Nat.le_trans (askN_le L) HL4.out)
        have hal : acc.length ≤ 200000 := by
          have h1 := tabS_len ((N.map (tlOf L)).take i) fun t ht => by
            obtain ⟨m, hm, rfl⟩ := List.mem_map.1 (List.mem_of_mem_take ht)
            exact ⟨HIN.out m hm, tm 1 m L, tm 2 m L, rfl, rfl, Nat.le_trans (tm_le _ _ _) HL4.out, Nat.le_trans (tm_le _ _ _) HL4.out⟩
          rw [List.length_take, List.length_map] at h1
          rw [HI.out.1]
          omega
        have HCE := Lib.hid (fun W (hW : Below wr.heap.size wr W) => Kd.C_below HC.out (HB3.out.trans ((HBW.out.trans (hW.mono HBW.out.size)).mono HB3.out.size)))
        have HTM := Lib.hid (show ∀ (K : Int) W, Below wr.heap.size wr W → Calls Tryd.prog 25 #[.slice A L.length c, .int .i64 K, .int .i64 n] W fun e w' => e = .returned (.int .i64 (tm K n L)) ∧ Below wr.heap.size wr w' from fun K W hW => (times_any L A c K n W (HCE.out W hW) hc HL4.out).mono fun e w' ⟨he, hb⟩ => ⟨he, hW.trans (hb.below.mono hW.size)⟩)
        have HCL := Lib.hid (show ∀ W, Below wr.heap.size wr W → W.cell? (ad1.add (i * 3)) = some (.int .i64 n) ∧ W.cell? ⟨(ad1.add (i * 3)).block, (ad1.add (i * 3)).off + 1, none⟩ = some (.int .i64 (tm 1 n L)) ∧ W.cell? ⟨(ad1.add (i * 3)).block, (ad1.add (i * 3)).off + 2, none⟩ = some (.int .i64 (tm 2 n L)) ∧ W.cell? (ad2.add i) = some (.int .i64 n) from fun W hW => by
          have h := HBW.out.trans (hW.mono HBW.out.size)
          exact ⟨(hat1 W h).1, (hat1 W h).2.1, (hat1 W h).2.2, hat2 W h⟩)
        have hs1 : tm 1 n L ≤ 1000 := Nat.le_trans (tm_le _ _ _) HL4.out
        have hs2 : tm 2 n L ≤ 1000 := Nat.le_trans (tm_le _ _ _) HL4.out
        clear hg1 hat1 hat2 HI hn hlm HCE
        have hrl := rowT_len n (tm 1 n L) (tm 2 n L) hin hs1 hs2
        have HT1 := Lib.hid (HTM.out 1)
        have HT2 := Lib.hid (HTM.out 2)
        have HPR := Lib.hid (show ∀ W, Below wr.heap.size wr W → Calls Tryd.prog 27 #[.int .i64 (tm 1 n L : Nat), .int .i64 (tm 2 n L : Nat)] W fun e w' => e = .returned (.int .i64 (pcS (tm 1 n L) (tm 2 n L))) ∧ Below wr.heap.size wr w' from fun W hW => (refPc_any _ _ W hs1 hs2).mono fun e w' ⟨he, hb⟩ => ⟨he, hW.trans (hb.below.mono hW.size)⟩)
        have HPX := Lib.hid (show ∀ W, Below wr.heap.size wr W → Calls Tryd.prog 26 #[.agg #[.int .i64 n, .int .i64 (tm 1 n L : Nat), .int .i64 (tm 2 n L : Nat)]] W fun e w' => e = .returned (.int .i64 (pcS (tm 1 n L) (tm 2 n L))) ∧ Below wr.heap.size wr w' from fun W hW => (pc_any n _ _ W hs1 hs2).mono fun e w' ⟨he, hb⟩ => ⟨he, hW.trans (hb.mono hW.size)⟩)
        have HRW := Lib.hid (show ∀ W, Below wr.heap.size wr W → Calls Tryd.prog 28 #[.int .i64 n, .int .i64 (tm 1 n L : Nat), .int .i64 (tm 2 n L : Nat)] W fun e w' => e = .returned (.string (bsV (rowT n (tm 1 n L) (tm 2 n L)))) ∧ Below wr.heap.size wr w' from fun W hW => (refRow_any n _ _ (Lib.hid hin) hs1 hs2 W).mono fun e w' ⟨he, hb⟩ => ⟨he, hW.trans (hb.mono hW.size)⟩)
        clear HTM
        generalize pcS (tm 1 n L) (tm 2 n L) = pc at *
        generalize rowT n (tm 1 n L) (tm 2 n L) = rw_ at *
        generalize tm 1 n L = h at *
        generalize tm 2 n L = m at *
        obtain ⟨s1, hs3, hl3, ha3⟩ := add_to acc rw_ (by omega)
        have hbnd : a + (h + m) ≤ 1000 := by rw [HSM.out]; exact hsl
        have hw1 : IntKind.i64.wrap ((a : Int) + (h : Int)) = (a : Int) + h := by rw [IntKind.wrap_i64]; omega
        have hw2 : IntKind.i64.wrap ((a : Int) + (h : Int) + (m : Int)) = (a : Int) + h + m := by rw [IntKind.wrap_i64]; omega
        have HS3 := Lib.hid hs3
        have HSM2 := Lib.hid (show a + h + m = sumT L (N.take (i + 1)) by rw [← HSM.out]; omega)
        clear hs3 hl3 hal hrl hsl hs1 hs2 hin HSM
        obtain ⟨q0, q1, q2, q3⟩ := HCL.out wr (Below.refl _ _)
        go_wp2_with fail
        refine (HT1.out wr (Below.refl _ _)).mono ?_
        rintro x w4 ⟨rfl, hb⟩
        have Z4 := Lib.hid hb
        clear hb q0 q1 q2 q3
        obtain ⟨q0, q1, q2, q3⟩ := HCL.out w4 Z4.out
        go_wp2_with fail
        refine (HT2.out w4 Z4.out).mono ?_
        rintro x w5 ⟨rfl, hb⟩
        have Z5 := Lib.hid hb
        clear hb q0 q1 q2 q3 Z4
        obtain ⟨q0, q1, q2, q3⟩ := HCL.out w5 Z5.out
        have z0 : Hid (Below wr.heap.size wr w5.drew) := Z5.out.trans ((Drawn0.below ⟨1, rfl⟩ : Below w5.heap.size w5 w5.drew).mono Z5.out.size)
        go_wp2_with fail
        go_region_held3 (fun w' => w'.cell? (ad1.add (i * 3)) = some (.int .i64 n) ∧ w'.cell? ⟨(ad1.add (i * 3)).block, (ad1.add (i * 3)).off + 1, none⟩ = some (.int .i64 h) ∧ w'.cell? ⟨(ad1.add (i * 3)).block, (ad1.add (i * 3)).off + 2, none⟩ = some (.int .i64 m) ∧ w'.cell? (ad2.add i) = some (.int .i64 n))
          (first | exact ⟨q0, q1, q2, q3⟩ | exact HCL.out _ z0.out | exact HCL.out _ z1.out | exact HCL.out _ z2.out)
          (first
          | (go_at_call 26; ((with_reducible refine (HPX.out _ ?_).mono ?_)); (case refine_1 => first | exact z0.out | exact Z5.out); rintro e y1 ⟨rfl, hb⟩; have z1 := Lib.hid hb; clear hb)
          | (go_at_call 27; ((with_reducible refine (HPR.out _ ?_).mono ?_)); (case refine_1 => first | exact z1.out | exact z0.out); rintro e y2 ⟨rfl, hb⟩; have z2 := Lib.hid hb; clear hb))
        all_goals
          clear q0 q1 q2 q3
          go_wp2_with fail
          obtain ⟨q0, q1, q2, q3⟩ := HCL.out _ z2.out
          go_wp2_with fail
          refine (HRW.out _ z2.out).mono ?_
          rintro x w8 ⟨rfl, hb⟩
          have Z8 := Lib.hid hb
          clear hb q0 q1 q2 q3
          go_wp2_with fail
          go_roundw
          case rel => exact ⟨i + 1, s1, a + h + m, by omega, by go_num, rfl, by first | rfl | go_num | (congr 1; omega), HS3.out.trans HAC.out, HSM2.out, HBW.out.trans (Z8.out.mono HBW.out.size)⟩
          case measure => simp [intOf]; omega
      · have hi3 : ¬ (i : Int) < (N.length : Int) := by omega
        have HTX := Lib.hid (show acc = tabS (N.map (tlOf L)) by rw [HI.out.1, List.take_of_length_le (by rw [List.length_map]; omega)])
        have HSA := Lib.hid (show a = askN L by rw [HI.out.2.1, List.take_of_length_le (by omega), HIS.out.sum])
        have HBW := Lib.hid (HB3.out.trans (HI.out.2.2.mono HB3.out.size))
        have HTB := Lib.hid (show ∀ W, Below w3.heap.size w3 W → Calls Tryd.prog 29 #[.slice B N.length k] W (QS W acc) from fun W hW => by
          have h := table32_any (N.map (tlOf L)) B k W (by have := Kd.C_below HX3.out hW; rwa [List.length_map]) (by rw [List.length_map]; exact hNk) (fun t ht => by
            obtain ⟨m, hm, rfl⟩ := List.mem_map.1 ht
            exact ⟨HIN.out m hm, tm 1 m L, tm 2 m L, rfl, rfl, Nat.le_trans (tm_le _ _ _) HL4.out, Nat.le_trans (tm_le _ _ _) HL4.out⟩) (by rw [List.length_map]; exact hnl)
          rw [List.length_map] at h
          rw [HTX.out]
          exact h)
        have HBI := Lib.hid HI.out.2.2
        clear HI HTX
        obtain ⟨wa, rfl⟩ : ∃ wa : World, wa = wr := ⟨_, rfl⟩
        have hal : a ≤ 1000 := by rw [HSA.out]; exact Nat.le_trans (askN_le L) HL4.out
        go_wp2_with fail
        go_loopw [10, 11] (fun av iv wr => ∃ (j b : Nat), j ≤ L.length ∧ iv = .int .i64 j ∧ av = .int .i64 b ∧ Hid (b = askN (L.take j) ∧ wr = wa)) (fun _ iv _ => L.length - (intOf iv).toNat)
        case atStart => exact ⟨0, 0, Nat.zero_le _, rfl, rfl, rfl, rfl⟩
        case round =>
          obtain ⟨j, b, hj, rfl, rfl, HJ⟩ := hrel
          have hwr := HJ.out.2
          subst hwr
          have HBA := Lib.hid HJ.out.1
          clear HJ
          by_cases hjl : j < L.length
          · have hll := HL4.out
            have j1 : (0 : Int) ≤ (j : Int) := by omega
            have j2 : (j : Int) < (L.length : Int) := by omega
            have hwj : IntKind.i64.wrap ((j : Int) + 1) = (j : Int) + 1 := by rw [IntKind.wrap_i64]; omega
            have hbl : b ≤ 1000 := by
              rw [HBA.out]
              have := askN_le (L.take j)
              rw [List.length_take] at this
              have := HL4.out
              omega
            have hwb : IntKind.i64.wrap ((b : Int) + 1) = (b : Int) + 1 := by rw [IntKind.wrap_i64]; omega
            obtain ⟨e, he⟩ : ∃ e, L[j] = e := ⟨_, rfl⟩
            obtain ⟨ad, A1, c1, rfl, hEM, k0, k1, k2, k3, k4, k5, k6, k7⟩ := event_at (Kd.C_below HC.out HBW.out) hjl he (HOS.out e (by rw [← he]; exact List.getElem_mem hjl))
            have HTK := Lib.hid ((askN_take hjl).trans (by rw [he]))
            clear hEM he k1 k2 k3 k4 k5 k6 k7
            by_cases ha : asked e
            · have HN1 := Lib.hid (show b + 1 = askN (L.take (j + 1)) by rw [HTK.out, if_pos ha, HBA.out])
              have hkk : ((e.kind == 1) = true ∨ (e.kind == 1) = false ∧ (e.kind == 2) = true) := by rcases ha with h | h <;> rw [h] <;> simp
              clear ha HTK HBA
              rcases hkk with h1 | ⟨h1, h2⟩
              all_goals
                go_wp2_with fail
                go_roundw
                case rel => exact ⟨j + 1, b + 1, by omega, by go_num, by go_num, HN1.out, by first | exact rfl | trivial⟩
                case measure => simp [intOf]; omega
            · have HN1 := Lib.hid (show b = askN (L.take (j + 1)) by rw [HTK.out, if_neg ha, HBA.out]; rfl)
              have h1 : (e.kind == 1) = false := by simpa using fun h : e.kind = 1 => ha (.inl h)
              have h2 : (e.kind == 2) = false := by simpa using fun h : e.kind = 2 => ha (.inr h)
              clear ha HTK HBA
              go_wp2_with fail
              go_roundw
              case rel => exact ⟨j + 1, b, by omega, by go_num, rfl, HN1.out, by first | exact rfl | trivial⟩
              case measure => simp [intOf]; omega
          · have hj3 : ¬ (j : Int) < (L.length : Int) := by omega
            have hba : b = a := by rw [HBA.out, HSA.out, List.take_of_length_le (by omega)]
            subst hba
            have htt : (acc == acc) = true := by simp
            have HP3 := Lib.hid (show ∀ W : World, Calls Tryd.prog 26 #[.agg #[.int .i64 0, .int .i64 1, .int .i64 2]] W fun e w' => e = .returned (.int .i64 33) ∧ Below W.heap.size W w' from fun W => pc_any 0 1 2 W (by omega) (by omega))
            clear HBA HSA
            go_wp2_with fail
            refine (HTB.out wr HBI.out).mono ?_
            rintro x w6 ⟨rfl, hb⟩
            have HB6 := Lib.hid (HBW.out.trans (hb.mono HBW.out.size))
            clear hb
            go_wp2_with fail
            refine (HP3.out w6).mono ?_
            rintro x w7 ⟨rfl, hb⟩
            have HB7 := Lib.hid (HB6.out.trans (hb.mono HB6.out.size))
            clear hb
            go_wp2_with fail
            refine (HW.out _ HB7.out).mono ?_
            rintro x w8 ⟨rfl, hb⟩
            have HB8 := Lib.hid hb
            clear hb
            go_wp2_with fail
            go_ret
            exact ⟨rfl, HB8.out⟩
  · have d0 : (0 : Int) < r := by omega
    go_wp2_with fail
    refine (HW.out _ HB1.out).mono ?_
    rintro e w6 ⟨rfl, hb6⟩
    have HB6 := Lib.hid hb6
    clear hb6
    go_wp2_with fail
    go_ret
    exact ⟨rfl, HB6.out⟩
end Go.Proofs.YtgfljpchdiapeaaDoor
