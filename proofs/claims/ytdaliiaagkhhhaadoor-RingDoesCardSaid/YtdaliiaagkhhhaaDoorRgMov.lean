/- The law RingMoves: what its call comes to. -/
import Derived.Test.YtdaliiaagkhhhaaDoorRgM
import Derived.Test.YtdaliiaagkhhhaaDoorRgOwn
namespace Go.Proofs.YtdaliiaagkhhhaaDoor
set_option linter.unusedVariables false
open Go.RowKit Go.Proofs.YtdaliiaagkhhhaaDoorW.PrintWords

theorem short_mem {ss : List ByteArray} (h : shortB ss = true) {k : Nat} (hk : k < ss.length) : (sget ss k).size ≤ maxLen := by
  have h2 : ss.length ≤ 30 ∧ ∀ s ∈ ss, s.size ≤ 200 := of_decide_eq_true h
  have := h2.2 (sget ss k) (by rw [sget_eq hk]; exact List.getElem_mem hk)
  have : 200 ≤ maxLen := by decide
  omega
theorem short_len {ss : List ByteArray} (h : shortB ss = true) : ss.length ≤ 30 := by
  have h2 : ss.length ≤ 30 ∧ ∀ s ∈ ss, s.size ≤ 200 := of_decide_eq_true h
  exact h2.1
def owns (L : List Pt) (ss : List ByteArray) : List Int := ss.map (fun s => ownerN L (hashI s))
theorem owns_snoc (L : List Pt) (ss : List ByteArray) (s : ByteArray) : owns L (ss ++ [s]) = owns L ss ++ [ownerN L (hashI s)] := by simp [owns]
theorem owns_len (L : List Pt) (ss : List ByteArray) : (owns L ss).length = ss.length := by simp [owns]
theorem owns_get (L : List Pt) {ss : List ByteArray} {k : Nat} (h : k < ss.length) : iget (owns L ss) k = ownerN L (hashI (sget ss k)) := by
  rw [iget_eq (by rw [owns_len]; exact h), sget_eq h]
  simp [owns]

/-- Only a row of numbers (and what is new) has been written. -/
theorem own_apart {w w' : World} {base p : Nat} {each : Int} {v rv : Value} {pts : List Pt} {xs : List Int} (h : (Kd.int .i64).R 3 w base (fun _ => True) v xs) (hS : IsRg w p each rv pts) (hg : w.grownBy w' v.ownBlock) : w'.heap[p]? = w.heap[p]? ∧ (∀ k, rv.ownBlock = some k → w'.heap[k]? = w.heap[k]?) ∧ ∀ B, B ≤ w.heap.size → B ≤ base → Below B w w' := by
  obtain ⟨inner, ho⟩ := Kd.R_own h
  refine ⟨hg.block p hS.lt fun e => ?_, fun k hk => hg.block k (own_gt hS hk).2 fun e => ?_, fun B hB hb => ⟨hg.os, hg.tape, hg.output, hg.size, fun k hk => hg.block k (by omega) fun e => ?_⟩⟩
  · obtain ⟨cells, hcl⟩ := own_typed ho p e.symm
    have h1 := hS.head
    rw [hcl] at h1
    simp at h1
  · obtain ⟨cells, hcl⟩ := own_typed ho k e.symm
    obtain ⟨inner', ho'⟩ := Kd.R_own hS.row
    obtain ⟨cells', hcl'⟩ := own_typed ho' k hk
    rw [hcl] at hcl'
    simp at hcl'
  · have := (ho.lt k e.symm).1
    omega
theorem RSt.moved {w0 w w' : World} {B p each : Nat} {v : Value} {pts : List Pt} (h : RSt w0 w B p each v pts) (hm : w'.heap[p]? = w.heap[p]? ∧ (∀ k, v.ownBlock = some k → w'.heap[k]? = w.heap[k]?) ∧ ∀ b, b ≤ w.heap.size → b ≤ B → Below b w w') : RSt w0 w' B p each v pts := by
  obtain ⟨h1, h2, h3⟩ := hm
  have hb := h3 B h.hb (Nat.le_refl _)
  refine ⟨⟨h1.trans h.rg.head, ?_⟩, h.ris, h.bel.trans hb, Nat.le_trans h.hb hb.size, h.hp, h.he⟩
  obtain ⟨inner, ho⟩ := Kd.R_own h.rg.row
  refine OwnP.to_R (own_move (OwnP.of_R h.rg.row) h2)

set_option maxHeartbeats 4000000 in
theorem moves_law (ev : Nat) (A : Option Addr) (c : Nat) (ops : List Op) (nd : Nat) (KA : Option Addr) (kc : Nat) (ks : List ByteArray) (w : World) (hr : kOp.C w A ops.length ops) (hks : Kd.string.C w KA ks.length ks) (hkc : ks.length ≤ kc) (hev : ev ≤ 255) (hnd : nd ≤ 255) (hg : HG w) :
    Calls Tryd.prog 4 #[.int .u8 ev, .slice A ops.length c, .int .u8 nd, .slice KA ks.length kc] w fun e w' => e = .returned (.bool true) ∧ Below w.heap.size w w' := by
  have HR := Lib.hid hr
  have HKS := Lib.hid hks
  have HH := Lib.hid hg
  have h0 := Lib.hid (hg_pos hg)
  clear hr hg hks
  by_cases hs1 : ops.length ≤ 25 ∧ shortB ks = true
  · obtain ⟨hs1, hs2⟩ := hs1
    have HS2 := Lib.hid hs2
    have hkl := short_len hs2
    have hsh := short_any KA kc ks w HKS.out hkc
    rw [hs2] at hsh
    have HSH := Lib.hid hsh
    clear hs2 hsh
    go_enter Tryd.func4, Tryd.ntmps4
    go_wp2_with fail
    refine HSH.out.mono ?_
    rintro e wa ⟨rfl, na, hna⟩
    have Ba : Hid (Below w.heap.size w wa) := by rw [hna]; exact Drawn0.below ⟨_, rfl⟩
    clear hna HSH
    go_wp2_with fail
    refine (New_st Ba.out Ba.out.size (1 + ev % 9) _ (by omega) (by omega) (by omega)).mono ?_
    rintro e w1 ⟨rfl, i1, b1⟩
    have I1 := Lib.hid i1
    have hbp := Ba.out.size
    clear i1 b1 Ba
    have he1 : 1 + ev % 9 ≤ 9 := by omega
    have he0 : 0 < 1 + ev % 9 := by omega
    generalize 1 + ev % 9 = each at *
    generalize wa.heap.size = p at *
    generalize hB : w.heap.size = B at *
    have HB := Lib.hid hB
    clear hB
    go_wp2_with fail
    go_loopw [11] (fun i wr => ∃ k : Nat, k ≤ ops.length ∧ i = .int .i64 k ∧ Hid (∃ v', RSt w wr B p each v' (runOps each (ops.take k)))) (fun i _ => ops.length - (intOf i).toNat)
    case atStart => exact ⟨0, Nat.zero_le _, rfl, _, I1.out⟩
    case round =>
      obtain ⟨k, hk, rfl, HD⟩ := hrel
      obtain ⟨vk, HD⟩ : ∃ v', Hid (RSt w wr B p each v' (runOps each (ops.take k))) := HD.out
      by_cases hlt : k < ops.length
      · obtain ⟨ad, hA, hc0, hc1⟩ := at_op HR.out hlt
        subst hA
        have hd0 : wr.cell? (ad.add (k * 2)) = some (.int .i64 (oget ops k).kind) := (HD.out.bel.cell (by rw [← HB.out]; exact World.block_lt_of_cell? w _ hc0)).trans hc0
        have hd1 : wr.cell? ⟨(ad.add (k * 2)).block, (ad.add (k * 2)).off + 1, none⟩ = some (.int .i64 (oget ops k).node) := (HD.out.bel.cell (by rw [← HB.out]; exact World.block_lt_of_cell? w _ hc1)).trans hc1
        obtain ⟨r1, r2, r3⟩ := run_ok each (ops.take k)
        have r4 : (ops.take k).length * each ≤ 25 * 9 := Nat.mul_le_mul (by rw [List.length_take]; omega) he1
        have HS := Lib.hid (run_snoc each (ops.take k) (oget ops k))
        have HT := Lib.hid (take_o hlt)
        have hl1 : (runOps each (ops.take k)).length ≤ 100000 := by omega
        clear hc0 hc1 r1 r2 r3 r4
        by_cases hq : (oget ops k).kind = 0
        · have hqt : ((oget ops k).kind == 0) = true := by simpa using hq
          have HQ := Lib.hid hq
          clear hq
          go_wp2_with fail
          refine (Add_st HD.out _ hl1).mono ?_
          rintro e w3 ⟨ev3, v3, l3, rfl, i3, -, e3, -⟩
          have I3 := Lib.hid i3
          obtain ⟨h3, -⟩ | ⟨b3, h3, -⟩ := e3.code <;> subst h3 <;> clear i3 e3
          all_goals
            go_wp2_with fail
            go_roundw
            case rel => exact ⟨k + 1, by omega, by go_num, v3, by rw [HT.out, HS.out, step, if_pos HQ.out]; exact I3.out⟩
            case measure => simp [intOf]; omega
        · have hqt : ((oget ops k).kind == 0) = false := by simpa using hq
          have HQ := Lib.hid hq
          clear hq
          go_wp2_with fail
          refine (Rem_st HD.out _ hl1).mono ?_
          rintro e w3 ⟨ev3, v3, l3, rfl, i3, -, e3, -⟩
          have I3 := Lib.hid i3
          obtain ⟨h3, -⟩ | ⟨b3, h3, -⟩ := e3.code <;> subst h3 <;> clear i3 e3
          all_goals
            go_wp2_with fail
            go_roundw
            case rel => exact ⟨k + 1, by omega, by go_num, v3, by rw [HT.out, HS.out, step, if_neg HQ.out]; exact I3.out⟩
            case measure => simp [intOf]; omega
      · have hT : ops.take k = ops := List.take_of_length_le (by omega)
        rw [hT] at HD
        obtain ⟨r1, r2, r3⟩ := run_ok each ops
        have r4 : ops.length * each ≤ 25 * 9 := Nat.mul_le_mul hs1 he1
        clear hT
        generalize runOps each ops = pts at *
        have r5 : pts.length ≤ 1000 := by omega
        clear r1 r2 r3 r4
        obtain ⟨n, hn, hn1, hn16⟩ : ∃ n : Nat, (1 : Int) + (nd : Int) % 16 = (n : Int) ∧ 1 ≤ n ∧ n ≤ 16 := ⟨1 + nd % 16, by omega, by omega, by omega⟩
        have hpl := dropN_len pts n
        have hph := has_drop pts n
        go_wp2_with fail
        refine (Rem_st HD.out n (by omega)).mono ?_
        rintro e w3 ⟨ev3, v3, l3, rfl, i3, -, e3, -⟩
        generalize dropN pts n = L at *
        have I3 := Lib.hid i3
        have HHN := Lib.hid hph
        have hl5 : L.length ≤ 1000 := by omega
        clear i3 e3 hph hpl r5 HD
        have hbp3 := I3.out.hb
        go_wp2_with fail
        go_loopw [13, 14] (fun v i wr => ∃ k : Nat, k ≤ ks.length ∧ i = .int .i64 k ∧ Hid (RSt w wr B p each v3 L ∧ Kd.R (Kd.int .i64) 3 wr B (fun _ => True) v (owns L (ks.take k)))) (fun _ i _ => ks.length - (intOf i).toNat)
        case atStart => exact ⟨0, Nat.zero_le _, rfl, I3.out, Kd.R_nil _ _ _ _ _⟩
        case round =>
          obtain ⟨k2, hk2, rfl, HE⟩ := hrel
          have hol := owns_len L (ks.take k2)
          have htl : (ks.take k2).length ≤ k2 := List.length_take_le _ _
          by_cases hlt : k2 < ks.length
          · obtain ⟨ad, hA, hc0⟩ := at_str HKS.out hlt
            subst hA
            have hd0 : wr.cell? (ad.add k2) = some (.string (sget ks k2)) := (HE.out.1.bel.cell (by rw [← HB.out]; exact World.block_lt_of_cell? w _ hc0)).trans hc0
            have hcall := Owner_any p _ _ _ (sget ks k2) wr HE.out.1.rg HE.out.1.ris (short_mem HS2.out hlt) (by omega)
            have HSN := Lib.hid (owns_snoc L (ks.take k2) (sget ks k2))
            have HT := Lib.hid (take_s hlt)
            have HOL := Lib.hid hol
            clear hc0 hol
            go_wp2_with fail
            refine hcall.mono ?_
            rintro e w4 ⟨rfl, b4⟩
            have I4 := Lib.hid (HE.out.1.later b4)
            have R4 := Lib.hid (Kd.R_below HE.out.2 b4)
            clear b4 hcall
            go_wp2_with (at_builtin; refine Kd.R_append (Kd.int .i64) (w0 := w) B rfl (.tmp 80) (.tmp 87) 31 3 (.int .i64 0) 8 rfl Tryd.underlying31 info_int rfl (by decide) (by omega) _ (owns L (ks.take k2)) (ownerN L (hashI (sget ks k2))) [.int .i64 (ownerN L (hashI (sget ks k2)))] (fun _ => True) (fun _ => False) rfl rfl rfl (fun _ hk => hk.elim) (fun _ _ => trivial) R4.out I4.out.bel I4.out.hb (by have := HOL.out; omega) ?_; intro v5 w5 ho hb hg hat; have HO := Lib.hid ho; have HG := Lib.hid (own_apart R4.out I4.out.rg hg); clear ho hb hg hat)
            go_roundw
            case rel => exact ⟨k2 + 1, by omega, by go_num, I4.out.moved HG.out, by rw [HT.out, HSN.out]; exact HO.out⟩
            case measure => simp [intOf]; omega
          · have hT : ks.take k2 = ks := List.take_of_length_le (by omega)
            rw [hT] at HE
            clear hT hol htl
            obtain ⟨hA1, hA2⟩ := addR_ok_eq each L n (by omega) (by omega) HHN.out
            have hlen2 := addTo_len L n each
            have hown := fun i => add_owner L n i each
            have hback := drop_add L n HHN.out each
            have hhas := has_add L n he0
            obtain ⟨A13, c13, rfl⟩ := Kd.R_slice HE.out.2
            rw [owns_len]
            go_wp2_with fail
            refine (Add_st HE.out.1 n (by omega)).mono ?_
            rintro e w5 ⟨ev5, v5, l5, rfl, i5, c5, e5, hcd⟩
            rw [hA2] at hcd
            obtain rfl := e5.none hcd
            rw [hA1] at i5
            generalize addTo L n each = M at *
            have I5 := Lib.hid i5
            have R5 := Lib.hid (R_ring HE.out.2 HE.out.1.rg c5)
            have HOWN := Lib.hid hown
            have HBK := Lib.hid hback
            have HHS := Lib.hid hhas
            have hlM : M.length ≤ 2000 := by omega
            clear i5 c5 e5 hcd hA1 hA2 hown hback hhas hlen2 HE
            go_wp2_with fail
            go_loopw [15] (fun i wr => ∃ k : Nat, k ≤ ks.length ∧ i = .int .i64 k ∧ Hid (RSt w wr B p each v5 M ∧ Kd.R (Kd.int .i64) 3 wr B (fun _ => True) (.slice A13 ks.length c13) (owns L ks))) (fun i _ => ks.length - (intOf i).toNat)
            case atStart => exact ⟨0, Nat.zero_le _, rfl, I5.out, by have := R5.out; rwa [owns_len] at this⟩
            case round =>
              obtain ⟨k3, hk3, rfl, HF⟩ := hrel
              by_cases hlt3 : k3 < ks.length
              · obtain ⟨ad, hA, hc0⟩ := at_str HKS.out hlt3
                subst hA
                have hd0 : wr.cell? (ad.add k3) = some (.string (sget ks k3)) := (HF.out.1.bel.cell (by rw [← HB.out]; exact World.block_lt_of_cell? w _ hc0)).trans hc0
                have hcall := Owner_any p _ _ _ (sget ks k3) wr HF.out.1.rg HF.out.1.ris (short_mem HS2.out hlt3) (by omega)
                have hor := HOWN.out (hashI (sget ks k3))
                have hget := owns_get L hlt3
                rw [← hget] at hor
                have hcon : ∀ w4, Below wr.heap.size wr w4 → ∃ ad2, A13 = some ad2 ∧ w4.cell? (ad2.add k3) = some (.int .i64 (iget (owns L ks) k3)) := fun w4 b4 => by
                  obtain ⟨A', c', he, _, hC⟩ := Kd.R_reads (Kd.R_below HF.out.2 b4)
                  injection he with e1 e2 e3
                  subst e1
                  exact at_num hC (by rw [owns_len]; exact hlt3)
                have HC := Lib.hid hcon
                generalize iget (owns L ks) k3 = was at *
                generalize ownerN M (hashI (sget ks k3)) = now at *
                clear hc0 hcon hget
                go_wp2_with fail
                refine hcall.mono ?_
                rintro e w6 ⟨rfl, b6⟩
                have I6 := Lib.hid (HF.out.1.later b6)
                have R6 := Lib.hid (Kd.R_below HF.out.2 b6)
                obtain ⟨ad2, hA2, hcw⟩ := HC.out w6 b6
                subst hA2
                clear b6 hcall HC
                have hd : ((now != (n : Int)) = false) ∨ ((now != (n : Int)) = true ∧ (now != was) = false) := by
                  by_cases h : now = n
                  · exact .inl (by simp [h])
                  · exact .inr ⟨by simp [h], by simp [hor.resolve_left h]⟩
                clear hor
                rcases hd with hd1 | ⟨hd1, hd2⟩
                all_goals
                  go_wp2_with fail
                  go_roundw
                  case rel => exact ⟨k3 + 1, by omega, by go_num, I6.out, R6.out⟩
                  case measure => simp [intOf]; omega
              · have hrc : remC M n = 0 := by rw [remC, if_pos HHS.out]
                go_wp2_with fail
                refine (Rem_st HF.out.1 n (by omega)).mono ?_
                rintro e w7 ⟨ev7, v7, l7, rfl, i7, c7, e7, hcd⟩
                rw [hrc] at hcd
                obtain rfl := e7.none hcd
                rw [HBK.out] at i7
                have I7 := Lib.hid i7
                have R7 := Lib.hid (R_ring HF.out.2 HF.out.1.rg c7)
                clear i7 c7 e7 hcd hrc HF
                go_wp2_with fail
                go_loopw [17] (fun i wr => ∃ k : Nat, k ≤ ks.length ∧ i = .int .i64 k ∧ Hid (RSt w wr B p each v7 L ∧ Kd.R (Kd.int .i64) 3 wr B (fun _ => True) (.slice A13 ks.length c13) (owns L ks))) (fun i _ => ks.length - (intOf i).toNat)
                case atStart => exact ⟨0, Nat.zero_le _, rfl, I7.out, R7.out⟩
                case round =>
                  obtain ⟨k4, hk4, rfl, HF⟩ := hrel
                  by_cases hlt4 : k4 < ks.length
                  · obtain ⟨ad, hA, hc0⟩ := at_str HKS.out hlt4
                    subst hA
                    have hd0 : wr.cell? (ad.add k4) = some (.string (sget ks k4)) := (HF.out.1.bel.cell (by rw [← HB.out]; exact World.block_lt_of_cell? w _ hc0)).trans hc0
                    have hcall := Owner_any p _ _ _ (sget ks k4) wr.drew (show IsRg wr.drew p _ _ _ from (HF.out.1.drewN 1).rg) HF.out.1.ris (short_mem HS2.out hlt4) (by omega)
                    have hget := owns_get L hlt4
                    have hcon : ∀ w4, Below wr.heap.size wr w4 → ∃ ad2, A13 = some ad2 ∧ w4.cell? (ad2.add k4) = some (.int .i64 (iget (owns L ks) k4)) := fun w4 b4 => by
                      obtain ⟨A', c', he, _, hC⟩ := Kd.R_reads (Kd.R_below HF.out.2 b4)
                      injection he with e1 e2 e3
                      subst e1
                      exact at_num hC (by rw [owns_len]; exact hlt4)
                    rw [hget] at hcon
                    generalize ownerN L (hashI (sget ks k4)) = was at *
                    obtain ⟨ad2, hA2, hcw⟩ := hcon wr (Below.refl _ _)
                    subst hA2
                    have hcon2 : ∀ w4, Below wr.heap.size wr w4 → w4.cell? (ad2.add k4) = some (.int .i64 was) := fun w4 b4 => by
                      obtain ⟨ad3, e, h⟩ := hcon w4 b4
                      injection e with e
                      rw [e]; exact h
                    have HC := Lib.hid hcon2
                    have HCALL := Lib.hid hcall
                    clear hc0 hcon hcon2 hget hcall
                    go_wp2_with fail
                    go_region_with (go_at_call 17; refine HCALL.out.mono ?_; rintro e w8 ⟨rfl, b8⟩; have b9 := Lib.hid (show Below wr.heap.size wr w8 from ⟨b8.os, b8.tape, b8.output, b8.size, b8.block⟩); have hcw8 := HC.out w8 b9.out; have I8 := Lib.hid (HF.out.1.later b9.out); have R8 := Lib.hid (Kd.R_below HF.out.2 b9.out); clear b8)
                    all_goals
                      go_wp2_with fail
                      go_roundw
                      case rel => exact ⟨k4 + 1, by omega, by go_num, I8.out, R8.out⟩
                      case measure => simp [intOf]; omega
                  · go_wp2_with fail
                    refine (works_below HH.out h0.out HF.out.1.bel HF.out.1.hb).mono ?_
                    rintro e w9 ⟨rfl, hb9⟩
                    have HB9 := Lib.hid hb9
                    clear hb9
                    go_wp2_with fail
                    go_ret
                    exact ⟨rfl, by rw [HB.out]; exact HB9.out⟩
  · have hsh := short_any KA kc ks w HKS.out hkc
    have hd : decide (25 < (ops.length : Int)) = true ∨ (decide (25 < (ops.length : Int)) = false ∧ shortB ks = false) := by
      by_cases h : 25 < ops.length
      · exact .inl (decide_eq_true (by omega))
      · refine .inr ⟨decide_eq_false (by omega), ?_⟩
        cases hq : shortB ks with
        | false => rfl
        | true => exact absurd ⟨by omega, hq⟩ hs1
    have HSH := Lib.hid hsh
    clear hsh
    rcases hd with hd1 | ⟨hd1, hd2⟩
    · go_enter Tryd.func4, Tryd.ntmps4
      go_wp2_with fail
      refine (works_below HH.out h0.out (Below.refl _ _) (Nat.le_refl _)).mono ?_
      rintro e w9 ⟨rfl, hb9⟩
      have HB := Lib.hid hb9
      clear hb9
      go_wp2_with fail
      go_ret
      exact ⟨rfl, HB.out⟩
    · rw [hd2] at HSH
      go_enter Tryd.func4, Tryd.ntmps4
      go_wp2_with fail
      refine HSH.out.mono ?_
      rintro e wa ⟨rfl, na, hna⟩
      have Ba : Hid (Below w.heap.size w wa) := by rw [hna]; exact Drawn0.below ⟨_, rfl⟩
      clear hna
      go_wp2_with fail
      refine (works_below HH.out h0.out Ba.out Ba.out.size).mono ?_
      rintro e w9 ⟨rfl, hb9⟩
      have HB := Lib.hid hb9
      clear hb9
      go_wp2_with fail
      go_ret
      exact ⟨rfl, HB.out⟩
end Go.Proofs.YtdaliiaagkhhhaaDoor
