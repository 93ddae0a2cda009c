/- The contracts of Remove and Add. The contract of Add. -/
import Derived.Test.YtdaliiaagkhhhaaDoorRg5
import Derived.Deep.RegionWith
import Derived.StillTailTactics
namespace Go.Proofs.YtdaliiaagkhhhaaDoor
set_option linter.unusedVariables false
open Go.RowKit Go.Proofs.YtdaliiaagkhhhaaDoorW.PrintWords

theorem Delete_any (base B : Nat) (nd : Int) (v : Value) (pts : List Pt) (w : World) (hO : OwnP w base v pts) (hc : w.cell? ⟨B, 0, none⟩ = some (.int .i64 nd)) (hBg : v.ownBlock ≠ some B) (hh : hasN pts nd = true) (hl : pts.length ≤ 1000000) :
    Calls Tryd.prog 30 #[v, .func (.func 31) #[] #[.pointer (some ⟨B, 0, none⟩)]] w fun e w' => ∃ v', e = .returned v' ∧ OwnP w' base v' (dropN pts nd) ∧ w.grownBy w' v.ownBlock := by
  have hi : 0 ≤ idxN pts nd := by
    have := idxN_has pts nd
    rw [hh] at this
    simpa using this
  have hf : ∃ i0 : Nat, idxN pts nd = i0 ∧ i0 < pts.length ∧ ((pget pts i0).node == nd) = true ∧ ∀ j, j < i0 → ((pget pts j).node == nd) = false := by
    unfold idxN at hi ⊢
    cases h : pts.findIdx? (fun x => x.node == nd) with
    | none => rw [h] at hi; simp at hi
    | some i =>
      obtain ⟨h1, h2, h3⟩ := List.findIdx?_eq_some_iff_getElem.1 h
      exact ⟨i, rfl, h1, by rw [pget_eq h1]; exact h2, fun j hj => by rw [pget_eq (by omega)]; simpa using h3 j hj⟩
  obtain ⟨i0, h1, h2, h3, h4⟩ := hf
  rcases hO.2 with ⟨_, h0⟩ | ⟨g, cap, cur, rfl, _⟩
  · rw [h0] at h2; omega
  · refine (Delete_hit g cap base B nd pts w hO hc (fun e => hBg (by rw [e]; rfl)) i0 h2 h1 h3 ?_ hl).mono fun e w' ⟨n', he, ho, hg⟩ => ⟨_, he, ho, hg⟩
    rw [List.filter_eq_self]
    intro y hy
    obtain ⟨j, hj, rfl⟩ := List.getElem_of_mem hy
    have hj2 : j < i0 := by simp at hj; omega
    have := h4 j hj2
    rw [pget_eq (by omega)] at this
    simp [this]

set_option maxHeartbeats 2000000 in
theorem Remove_any (p : Nat) (each : Int) (v : Value) (pts : List Pt) (nd : Int) (w : World) (hS : IsRg w p each v pts) (hl : pts.length ≤ 1000000) :
    Calls Tryd.prog 14 #[.pointer (some ⟨p, 0, none⟩), .int .i64 nd] w fun e w' => ∃ ev v', e = .returned ev ∧ IsRg w' p each v' (dropN pts nd) ∧ Chg (rgM p v) w w' ∧ ((hasN pts nd = true ∧ ev = .nilIface) ∨ (hasN pts nd = false ∧ ∃ op at_, ErrIs w' ev [(op, at_, 9)])) := by
  have hp := hS.lt
  have hpn : p ≠ w.heap.size := by omega
  have c1 := hS.cell1
  have fp := hS.fro 1
  have hb0 : Below w.heap.size w (w.alloc (.cells #[.int .i64 nd] 3)) := bel_alloc _ _
  have hS0 := hS.later hb0
  have hcall := has_any p each v pts nd _ hS0
  have HS := Lib.hid hS
  have HS0 := Lib.hid hS0
  have HB0 := Lib.hid hb0
  clear hS hS0 hb0
  cases hq : hasN pts nd with
  | false =>
    rw [hq] at hcall
    have HQ := Lib.hid hq
    clear hq
    go_enter Tryd.func14, Tryd.ntmps14
    go_wp2_with (first
      | (go_at_call 27; refine hcall.mono ?_; rintro e w1 ⟨rfl, hb⟩; have HB := Lib.hid hb; have hc : w1.cell? ⟨w.heap.size, 0, none⟩ = some (.int .i64 nd) := (hb.cell (p := ⟨w.heap.size, 0, none⟩) (by simp)).trans (by simp); clear hb)
      | (go_at_call 25; refine (new_any _ _ 9 rfl _).mono ?_; rintro e w' ⟨rfl, rfl⟩))
    go_ret
    refine ⟨_, v, rfl, ?_, ?_, .inr ⟨trivial, _, _, .new (heap_alloc_new _ _) (by decide)⟩⟩
    · rw [dropN_none HQ.out]
      exact (HS0.out.later HB.out).later (bel_alloc _ _)
    · exact (Chg.of_below (HB0.out.trans (HB.out.mono (by simp)))).then_below (bel_alloc _ _)
  | true =>
    rw [hq] at hcall
    have HQ := Lib.hid hq
    have hdel := fun w1 => Delete_any (p + 1) w.heap.size nd v pts w1
    have HDEL := Lib.hid hdel
    clear hq hdel
    go_enter Tryd.func14, Tryd.ntmps14
    go_wp2_with (go_at_call 27; refine hcall.mono ?_; rintro e w1 ⟨rfl, hb⟩; have HB := Lib.hid hb; have hc : w1.cell? ⟨w.heap.size, 0, none⟩ = some (.int .i64 nd) := (hb.cell (p := ⟨w.heap.size, 0, none⟩) (by simp)).trans (by simp); have c2 : w1.cell? ⟨p, 1, none⟩ = some v := (HS0.out.later hb).cell1; have HC := Lib.hid hc; clear hb)
    have hpv : some p ≠ v.ownBlock := fun e => by have := own_gt HS.out e.symm; omega
    refine (HDEL.out w1 (OwnP.of_R (HS0.out.later HB.out).row) HC.out (fun e => by have := own_gt HS.out e; omega) HQ.out hl).mono ?_
    rintro e w2 ⟨v', rfl, ho, hg⟩
    have HO := Lib.hid ho
    have HG := Lib.hid hg
    have c3 : w2.cell? ⟨p, 1, none⟩ = some v := hg.cell c2 hpv
    have f3 : w2.frozen? ⟨p, 1, none⟩ = false := by
      have h := (hg.block p (HS0.out.later HB.out).lt hpv).trans (HS0.out.later HB.out).head
      simp [World.frozen?, h]
    obtain ⟨A', c', rfl⟩ := Kd.R_slice ho.to_R
    clear ho hg hpv
    dsimp only
    go_wp2
    go_ret
    obtain ⟨h1, h2⟩ := (HS0.out.later HB.out).put HO.out.to_R HG.out
    refine ⟨_, _, rfl, h1, ?_, .inl ⟨trivial, rfl⟩⟩
    exact (Chg.of_below (HB0.out.trans (HB.out.mono (by simp)))).trans h2
end Go.Proofs.YtdaliiaagkhhhaaDoor
namespace Go.Proofs.YtdaliiaagkhhhaaDoor
set_option linter.unusedVariables false
open Go.RowKit Go.Proofs.YtdaliiaagkhhhaaDoorW.PrintWords

theorem Chg.trans' {M M' : Nat → Prop} {a b c : World} (h : Chg M a b) (k : Chg M' b c) (hM : ∀ i, i < a.heap.size → M' i → M i) : Chg M a c :=
  ⟨k.os.trans h.os, k.tape.trans h.tape, k.output.trans h.output, Nat.le_trans h.size k.size, fun i hi hn => (k.block i (Nat.lt_of_lt_of_le hi h.size) (fun e => hn (hM i hi e))).trans (h.block i hi hn)⟩
/-- A node that can't be, or that stands there already. -/
theorem Add_bad (p : Nat) (each : Int) (v : Value) (pts : List Pt) (nd : Int) (w : World) (hS : IsRg w p each v pts) (h : (nd < 1 ∨ 16 < nd) ∨ hasN pts nd = true) :
    Calls Tryd.prog 12 #[.pointer (some ⟨p, 0, none⟩), .int .i64 nd] w fun e w' => ∃ ev op at_, e = .returned ev ∧ Below w.heap.size w w' ∧ ErrIs w' ev [(op, at_, if nd < 1 ∨ 16 < nd then 2 else 13)] := by
  by_cases h1 : nd < 1
  · rw [if_pos (.inl h1)]
    clear h hS
    go_enter Tryd.func12, Tryd.ntmps12
    go_wp2_with (go_at_call 25; refine (new_any _ _ 2 rfl _).mono ?_; rintro e w' ⟨rfl, rfl⟩)
    go_ret
    exact ⟨_, _, _, rfl, bel_alloc _ _, .new (heap_alloc_new _ _) (by decide)⟩
  · by_cases h2 : 16 < nd
    · rw [if_pos (.inr h2)]
      clear h hS
      go_enter Tryd.func12, Tryd.ntmps12
      go_wp2_with (go_at_call 25; refine (new_any _ _ 2 rfl _).mono ?_; rintro e w' ⟨rfl, rfl⟩)
      go_ret
      exact ⟨_, _, _, rfl, bel_alloc _ _, .new (heap_alloc_new _ _) (by decide)⟩
    · rw [if_neg (by omega)]
      have hcall := has_any p each v pts nd w hS
      have hq : hasN pts nd = true := by
        rcases h with h | h
        · omega
        · exact h
      rw [hq] at hcall
      clear h hS hq
      go_enter Tryd.func12, Tryd.ntmps12
      go_wp2_with (first
        | (go_at_call 27; refine hcall.mono ?_; rintro e w1 ⟨rfl, hb⟩; have HB := Lib.hid hb; clear hb)
        | (go_at_call 25; refine (new_any _ _ 13 rfl _).mono ?_; rintro e w' ⟨rfl, rfl⟩))
      go_ret
      exact ⟨_, _, _, rfl, HB.out.trans ((bel_alloc _ _).mono HB.out.size), .new (heap_alloc_new _ _) (by decide)⟩

set_option maxHeartbeats 2000000 in
theorem Add_ok (p : Nat) (each : Nat) (v : Value) (pts : List Pt) (nd : Int) (w : World) (hS : IsRg w p each v pts) (hR : Rising pts) (h1 : 1 ≤ nd) (h2 : nd ≤ 16) (hq : hasN pts nd = false) (he : each ≤ 64) (hl : pts.length ≤ 100000) :
    Calls Tryd.prog 12 #[.pointer (some ⟨p, 0, none⟩), .int .i64 nd] w fun e w' => ∃ v', e = .returned .nilIface ∧ IsRg w' p each v' (addTo pts nd each) ∧ Chg (rgM p v) w w' := by
  have hcall := has_any p each v pts nd w hS
  rw [hq] at hcall
  have c0 := hS.cell0
  have hp := hS.lt
  have HS := Lib.hid hS
  clear hS hq
  go_enter Tryd.func12, Tryd.ntmps12
  go_wp2_with (go_at_call 27; refine hcall.mono ?_; rintro e w1 ⟨rfl, hb⟩; have HB := Lib.hid hb; have c2 : w1.cell? ⟨p, 0, none⟩ = some (.int .i64 each) := (hb.cell (p := ⟨p, 0, none⟩) hp).trans c0; clear hb)
  clear c2 hcall
  go_loopw [5, 27] (fun _ i wr => ∃ k : Nat, k ≤ each ∧ i = .int .i64 k ∧ Hid (∃ v', IsRg wr p each v' (addTo pts nd k) ∧ Chg (rgM p v) w wr ∧ (v'.ownBlock = v.ownBlock ∨ ∃ b, v'.ownBlock = some b ∧ w.heap.size ≤ b))) (fun _ i _ => each - (intOf i).toNat)
  case atStart => exact ⟨0, Nat.zero_le _, rfl, v, HS.out.later HB.out, Chg.of_below HB.out, .inl rfl⟩
  case round =>
    obtain ⟨k, hk, rfl, HD⟩ := hrel
    obtain ⟨vk, HD⟩ : ∃ v', Hid (IsRg wr p each v' (addTo pts nd k) ∧ Chg (rgM p v) w wr ∧ (v'.ownBlock = v.ownBlock ∨ ∃ b, v'.ownBlock = some b ∧ w.heap.size ≤ b)) := HD.out
    by_cases hlt : k < each
    · have hlen := addTo_len pts nd k
      have hle : (addTo pts nd k).length ≤ 1000000 := by omega
      have hN := nextN_le (addTo pts nd k) (atI nd k)
      have hnx := fun w' (h : IsRg w' p each vk (addTo pts nd k)) => next_any p each vk (addTo pts nd k) (atI nd k) (nextN (addTo pts nd k) (atI nd k)) w' h hN (nextN_take _ _ (addTo_rising hR nd k)) hle
      have HX := Lib.hid hnx
      have HLEN := Lib.hid hlen
      have hpr := HD.out.1.lt
      have hpn : p ≠ wr.heap.size := by omega
      obtain ⟨A, c, hvk⟩ := Kd.R_slice HD.out.1.row
      subst hvk
      clear hnx hlen
      have hS1 : ∀ o n, IsRg ((wr.alloc o).drewN n) p each _ (addTo pts nd k) := fun o n => (HD.out.1.later (bel_alloc _ o)).drewN n
      have HS1 := Lib.hid hS1
      have hc1 : ∀ o n, ((wr.alloc o).drewN n).cell? ⟨p, 1, none⟩ = some _ := fun o n => (hS1 o n).cell1
      clear hS1
      go_wp2_with (first
        | (go_at_call 23; refine (at_any _ _ _).mono ?_; rintro e w' ⟨rfl, rfl⟩)
        | (go_at_call 28; refine (HX.out _ (HS1.out _ 0)).mono ?_; rintro e w' ⟨rfl, n, rfl⟩))
      have hins : ∀ m, Calls Tryd.prog 29 #[.slice A (addTo pts nd k).length c, .int .i64 (nextN (addTo pts nd k) (atI nd k)), .slice (some ⟨wr.heap.size + 1, 0, none⟩) 1 1] (((wr.alloc (.cells #[.int .u64 (atI nd k), .int .i64 nd] 66)).drewN m).alloc (.cells #[.int .u64 (atI nd k), .int .i64 nd] 66)) fun e w' =>
          ∃ A' n' c', e = .returned (.slice A' n' c') ∧ kP.R 66 w' (p + 1) (fun _ => True) (.slice A' n' c') (addTo pts nd (k + 1)) ∧ wr.grownBy w' (Value.slice A (addTo pts nd k).length c).ownBlock ∧ ((Value.slice A' n' c').ownBlock = (Value.slice A (addTo pts nd k).length c).ownBlock ∨ ∃ b, (Value.slice A' n' c').ownBlock = some b ∧ w.heap.size ≤ b) := fun m => by
        have hsz : ((wr.alloc (.cells #[.int .u64 (atI nd k), .int .i64 nd] 66)).drewN m).heap.size = wr.heap.size + 1 := by simp [World.drewN]
        have h := Ins_any (p + 1) _ _ (nextN (addTo pts nd k) (atI nd k)) ⟨atI nd k, nd⟩ _ hN (HS1.out (.cells #[.int .u64 (atI nd k), .int .i64 nd] 66) m).row (by rw [hsz]; omega) (by omega)
        rw [hsz] at h
        have hws := HD.out.2.1.size
        refine h.mono fun e w' ⟨v', he, hr, hg, ha⟩ => ?_
        obtain ⟨A', c', rfl⟩ := Kd.R_slice hr
        refine ⟨A', _, c', he, hr, ⟨hg.os, hg.tape, hg.output, Nat.le_trans (by omega) hg.size, fun q hq hn => (hg.block q (by omega) hn).trans (Below.heap_alloc wr _ q hq)⟩, ?_⟩
        rcases ha with ha | ⟨b, hb, hle⟩
        · exact .inl ha
        · exact .inr ⟨b, hb, by omega⟩
      have HI := Lib.hid hins
      have hpv : some p ≠ (Value.slice A (addTo pts nd k).length c).ownBlock := fun e => by have := own_gt HD.out.1 e.symm; omega
      clear hins
      go_region_with (go_at_call 29; refine (HI.out _).mono ?_; rintro e w2 ⟨A', n', c', rfl, hr, hg, ha⟩; have HR := Lib.hid hr; have HG := Lib.hid hg; have HA := Lib.hid ha; have c3 : w2.cell? ⟨p, 1, none⟩ = some _ := hg.cell HD.out.1.cell1 hpv; have f3 : w2.frozen? ⟨p, 1, none⟩ = false := (World.frozen?_of_block (hg.block p hpr hpv)).trans (HD.out.1.fro 1); clear hr hg ha)
      all_goals
        go_wp2
        go_roundw
        case rel =>
          obtain ⟨h1, h2⟩ := HD.out.1.put HR.out HG.out
          refine ⟨k + 1, by omega, by go_num, _, h1, HD.out.2.1.trans' h2 fun q hq hm => ?_, ?_⟩
          · rcases hm with hm | hm
            · exact .inl hm
            · rcases HD.out.2.2 with e | ⟨b, e, hle⟩
              · exact .inr (e ▸ hm)
              · rw [e] at hm
                injection hm with hm
                omega
          · rcases HA.out with e | e
            · rcases HD.out.2.2 with e2 | ⟨b, e2, hle⟩
              · exact .inl (e.trans e2)
              · exact .inr ⟨b, e.trans e2, hle⟩
            · exact .inr e
        case measure => simp [intOf]; omega
    · obtain rfl : k = each := by omega
      go_wp2
      go_ret
      exact ⟨vk, rfl, HD.out.1, HD.out.2.1⟩
end Go.Proofs.YtdaliiaagkhhhaaDoor

