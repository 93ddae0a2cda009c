/- The contracts of package plan: On, Load, Path, Moves, Spread. The contracts of package plan: Load, Path, Moves, Spread. -/
import Derived.Test.YtndgjhhhggkdmaaDoorG3
import Derived.Test.YtndgjhhhggkdmaaDoorG2
import Derived.Deep.QuietTactic
import Derived.BigQuiet
namespace Go.Proofs.YtndgjhhhggkdmaaDoor
set_option linter.unusedVariables false
open Go.RowKit Go.Proofs.YtndgjhhhggkdmaaDoorW.PrintWords

theorem wrap_any (op : ByteArray) (at_ : Int) (ev : Value) (l : List (ByteArray × Int × Int)) (w : World) (hE : ErrIs w ev l) (hl : codeOf l ≠ 0) :
    Calls Tryd.prog 24 #[.string op, .int .i64 at_, ev] w fun e w' => e = .returned (faultV w.heap.size) ∧ ErrIs w' (faultV w.heap.size) ((op, at_, 0) :: l) ∧ codeOf ((op, at_, 0) :: l) = codeOf l ∧ Below w.heap.size w w' := by
  obtain ⟨b0, rfl⟩ := hE.some hl
  have HE := Lib.hid hE
  have HL := Lib.hid hl
  clear hE hl
  go_enter Tryd.func24, Tryd.ntmps24
  go_wp2
  go_ret
  exact ⟨rfl, .wrap (heap_alloc_new _ _) (HE.out.later (bel_alloc _ _)) (fun e => HL.out (by rw [e]; rfl)), by simp [codeOf], bel_alloc _ _⟩

theorem addsC_take {each : Nat} {P : List Pt} {l : List Int} (h : addsC each P l = 0) (k : Nat) : addsC each P (l.take k) = 0 := by
  rcases Classical.em (addsC each P (l.take k) = 0) with h1 | h1
  · exact h1
  · rw [addsC_stop each P l k h1] at h; exact absurd h h1
def OnPost (w : World) (each : Nat) (l : List Int) (e : Ending) (w' : World) : Prop :=
  (addsC each [] l = 0 ∧ ∃ p v, e = .returned (.tuple #[.pointer (some ⟨p, 0, none⟩), .nilIface]) ∧ RSt w w' w.heap.size p each v (adds each [] l)) ∨
  (addsC each [] l ≠ 0 ∧ ∃ b lst, e = .returned (.tuple #[.pointer none, faultV b]) ∧ ErrIs w' (faultV b) lst ∧ codeOf lst = addsC each [] l ∧ Below w.heap.size w w')

set_option maxHeartbeats 2000000 in
theorem On_any (each : Nat) (h1 : 1 ≤ each) (h2 : each ≤ 9) (A : Option Addr) (c : Nat) (l : List Int) (w : World) (hC : (Kd.int .i64).C w A l.length l) (hl : l.length ≤ 1000) :
    Calls Tryd.prog 8 #[.int .i64 each, .slice A l.length c] w (OnPost w each l) := by
  have HC := Lib.hid hC
  clear hC
  go_enter Tryd.func8, Tryd.ntmps8
  go_wp2_with fail
  refine (New_st (Below.refl w.heap.size w) (Nat.le_refl _) each _ rfl h1 (by omega)).mono ?_
  rintro e w1 ⟨rfl, i1, b1⟩
  have I1 := Lib.hid i1
  clear i1 b1
  generalize hB : w.heap.size = B at *
  have HB := Lib.hid hB
  clear hB
  obtain ⟨p, hp⟩ : ∃ p, p = B := ⟨_, rfl⟩
  have HP := Lib.hid hp
  have I1' : Hid (RSt w w1 B p each (.slice none 0 0) []) := by rw [hp]; exact I1
  have hpe : (⟨B, 0, none⟩ : Addr) = ⟨p, 0, none⟩ := by rw [hp]
  rw [hpe]
  clear hp hpe I1
  go_wp2_with fail
  go_loopw [23] (fun i wr => ∃ k : Nat, k ≤ l.length ∧ i = .int .i64 k ∧ Hid (∃ v, RSt w wr B p each v (adds each [] (l.take k)) ∧ addsC each [] (l.take k) = 0)) (fun i _ => l.length - (intOf i).toNat)
  case atStart => exact ⟨0, Nat.zero_le _, rfl, _, I1'.out, rfl⟩
  case round =>
    obtain ⟨k, hk, rfl, HD⟩ := hrel
    obtain ⟨v, HD⟩ : ∃ v, Hid (RSt w wr B p each v (adds each [] (l.take k)) ∧ addsC each [] (l.take k) = 0) := by
      obtain ⟨v, h⟩ := HD.out
      exact ⟨v, h⟩
    have hal := adds_len each (l.take k) []
    have htl : (l.take k).length ≤ k := List.length_take_le _ _
    have hmul : (l.take k).length * each ≤ 1000 * 9 := Nat.mul_le_mul (by omega) h2
    simp only [List.length_nil, Nat.zero_add] at hal
    by_cases hlt : k < l.length
    · obtain ⟨ad, hA, hc0⟩ := at_num HC.out hlt
      subst hA
      have hd0 : wr.cell? (ad.add k) = some (.int .i64 (iget l k)) := (HD.out.1.bel.cell (by rw [← HB.out]; exact World.block_lt_of_cell? w _ hc0)).trans hc0
      have HS := Lib.hid (addsC_snoc each [] (l.take k) (iget l k) HD.out.2)
      have HA := Lib.hid (adds_snoc each [] (l.take k) (iget l k))
      have HT := Lib.hid (take_i hlt)
      have hcall := Add_st HD.out.1 (iget l k) (by omega)
      have HCALL := Lib.hid hcall
      clear hc0 hcall hmul
      generalize iget l k = nd at *
      go_wp2_with fail
      refine HCALL.out.mono ?_
      rintro e w2 ⟨ev, v2, lst, rfl, i2, c2, e2, hcd⟩
      have I2 := Lib.hid i2
      have HCD := Lib.hid hcd
      clear HCALL c2
      by_cases hz : addC (adds each [] (l.take k)) nd = 0
      · obtain rfl := e2.none (hcd.trans hz)
        have HZ := Lib.hid hz
        clear hz hcd e2 i2
        go_wp2_with fail
        go_roundw
        case rel => exact ⟨k + 1, by omega, by go_num, v2, by rw [HT.out, HA.out]; exact I2.out, by rw [HT.out, HS.out]; exact HZ.out⟩
        case measure => simp [intOf]; omega
      · obtain ⟨b, rfl⟩ := e2.some (by rw [hcd]; exact hz)
        have HZ := Lib.hid hz
        have E2 := Lib.hid e2
        clear hz hcd e2 i2
        go_wp2_with fail
        refine (wrap_any _ _ _ lst w2 E2.out (by rw [HCD.out]; exact HZ.out)).mono ?_
        rintro e w3 ⟨rfl, e3, hcd3, b3⟩
        have E3 := Lib.hid e3
        have C3 := Lib.hid hcd3
        have B3 := Lib.hid b3
        clear e3 hcd3 b3
        have hst : addsC each [] l = addC (adds each [] (l.take k)) nd := by
          rw [addsC_stop each [] l (k + 1) (by rw [HT.out, HS.out]; exact HZ.out), HT.out, HS.out]
        have HST := Lib.hid hst
        clear hst
        go_wp2_with fail
        go_ret2
        exact .inr ⟨by rw [HST.out]; exact HZ.out, _, _, rfl, E3.out, by rw [C3.out, HCD.out, HST.out], by rw [HB.out]; exact (I2.out.later B3.out).bel⟩
    · obtain rfl : k = l.length := by omega
      go_wp2_with fail
      go_ret2
      refine .inl ⟨?_, p, v, rfl, ?_⟩
      · have := HD.out.2
        rwa [List.take_length] at this
      · have := HD.out.1
        rw [List.take_length] at this
        rw [HB.out]
        exact this
theorem On_bad (z : Int) (hz : z < 1 ∨ 64 < z) (A : Option Addr) (c : Nat) (l : List Int) (w : World) :
    Calls Tryd.prog 8 #[.int .i64 z, .slice A l.length c] w fun e w' => ∃ b lst, e = .returned (.tuple #[.pointer none, faultV b]) ∧ ErrIs w' (faultV b) lst ∧ codeOf lst = 2 ∧ Below w.heap.size w w' := by
  have HZ := Lib.hid hz
  clear hz
  go_enter Tryd.func8, Tryd.ntmps8
  go_wp2_with fail
  refine (New_bad z w HZ.out).mono ?_
  rintro e w1 ⟨op, at_, rfl, hw1⟩
  have E1 := Lib.hid (show ErrIs w1 (faultV w.heap.size) [(op, at_, 2)] by rw [hw1]; exact ErrIs.new_alloc _ op at_ 2 (by decide))
  have BZ := Lib.hid (show Below w.heap.size w w1 by rw [hw1]; exact bel_alloc _ _)
  clear hw1
  generalize w.heap.size = B at E1 ⊢
  go_wp2_with fail
  refine (wrap_any _ _ _ _ w1 E1.out (show (2 : Int) ≠ 0 by decide)).mono ?_
  rintro e w3 ⟨rfl, e3, hcd3, b3⟩
  have E3 := Lib.hid e3
  have C3 := Lib.hid hcd3
  have B3 := Lib.hid b3
  clear e3 hcd3 b3
  go_wp2_with fail
  go_ret2
  exact ⟨_, _, rfl, E3.out, C3.out, BZ.out.trans (B3.out.mono BZ.out.size)⟩
end Go.Proofs.YtndgjhhhggkdmaaDoor
namespace Go.Proofs.YtndgjhhhggkdmaaDoor
set_option linter.unusedVariables false
open Go.RowKit Go.Proofs.YtndgjhhhggkdmaaDoorW.PrintWords

theorem nodes_le (P : List Pt) : (nodesN P 17).length ≤ 17 := nodes_len P 17
set_option maxHeartbeats 1000000 in
theorem Load_any (p : Nat) (each : Int) (v : Value) (pts : List Pt) (A : Option Addr) (c : Nat) (ks : List ByteArray) (w : World) (hS : IsRg w p each v pts) (hR : Rising pts) (hC : Kd.string.C w A ks.length ks) (hss : ∀ s ∈ ks, s.size ≤ maxLen) (hl : pts.length ≤ 1000000) (hks : ks.length ≤ 1000) :
    Calls Tryd.prog 14 #[.pointer (some ⟨p, 0, none⟩), .slice A ks.length c] w fun e w' => ∃ u, e = .returned u ∧ Kd.R (Kd.int .i64) 3 w' w.heap.size (fun _ => True) u (loadN pts ks) ∧ Below w.heap.size w w' := by
  have hnl := nodes_le pts
  have HN := Lib.hid (Nodes_any p each v pts w hS)
  have HS := Lib.hid hS
  have HC := Lib.hid hC
  have HSS := Lib.hid hss
  clear hS hC hss
  have hlo : loadN pts ks = (nodesN pts 17).map (fun n => shareN pts n ks) := rfl
  rw [hlo]
  clear hlo
  go_enter Tryd.func14, Tryd.ntmps14
  go_wp2_with fail
  refine HN.out.mono ?_
  rintro e w1 ⟨u1, rfl, hr1, hb1⟩
  obtain ⟨A1, c1, rfl, hc1, hC1⟩ := Kd.R_reads hr1
  have B1 := Lib.hid hb1
  have C1 := Lib.hid hC1
  clear hr1 hb1 hC1 HN
  generalize hns : nodesN pts 17 = ns at *
  have HNS := Lib.hid hns
  clear hns
  go_wp2_with fail
  go_loopw [5, 11] (fun o i wr => ∃ k : Nat, k ≤ ns.length ∧ i = .int .i64 k ∧ Hid (Kd.R (Kd.int .i64) 3 wr w1.heap.size (fun _ => True) o ((ns.take k).map (fun n => shareN pts n ks)) ∧ Below w1.heap.size w1 wr)) (fun _ i _ => ns.length - (intOf i).toNat)
  case atStart => exact ⟨0, Nat.zero_le _, rfl, Kd.R_nil _ _ _ _ _, Below.refl _ _⟩
  case round =>
    obtain ⟨k, hk, rfl, HE⟩ := hrel
    obtain ⟨A5, c5, hv5⟩ := Kd.R_slice HE.out.1
    subst hv5
    have hml : ((ns.take k).map (fun n => shareN pts n ks)).length ≤ k := by rw [List.length_map]; exact List.length_take_le _ _
    generalize hLe : (ns.take k).map (fun n => shareN pts n ks) = L at *
    have HLE := Lib.hid hLe
    clear hLe
    by_cases hlt : k < ns.length
    · obtain ⟨ad, hA, hc0⟩ := at_num C1.out hlt
      subst hA
      have hd0 : wr.cell? (ad.add k) = some (.int .i64 (iget ns k)) := (HE.out.2.cell (World.block_lt_of_cell? w1 _ hc0)).trans hc0
      have hb0 : Below w.heap.size w wr := B1.out.trans (HE.out.2.mono B1.out.size)
      have HCALL := Lib.hid (Share_any p each v pts (iget ns k) A c ks wr (HS.out.later hb0) hR (Kd.C_below HC.out hb0) HSS.out hl (by omega))
      have HT := Lib.hid (take_i hlt)
      clear hc0 hb0
      generalize iget ns k = nd at *
      go_wp2_with fail
      refine HCALL.out.mono ?_
      rintro e w2 ⟨rfl, b2⟩
      have R2 := Lib.hid (Kd.R_below HE.out.1 b2)
      have B2 := Lib.hid (HE.out.2.trans (b2.mono HE.out.2.size))
      clear b2 HCALL
      generalize hsh : shareN pts nd ks = sh at *
      have HSH := Lib.hid hsh
      clear hsh
      go_wp2_with (at_builtin; refine Kd.R_append (Kd.int .i64) (w0 := w1) w1.heap.size rfl (.tmp 15) (.tmp 20) 22 3 (.int .i64 0) 8 rfl Tryd.underlying22 info_int rfl (by decide) (by omega) _ L sh [.int .i64 sh] (fun _ => True) (fun _ => False) rfl rfl rfl (fun _ hk => hk.elim) (fun _ _ => trivial) R2.out B2.out B2.out.size (by omega) ?_; intro v1 w3 ho hb hg hat; have HO := Lib.hid ho; have HB := Lib.hid hb; clear ho hb hg hat)
      go_roundw
      case rel =>
        refine ⟨k + 1, by omega, by go_num, ?_, HB.out⟩
        rw [HT.out, List.map_append, List.map_singleton, HSH.out, HLE.out]
        exact HO.out
      case measure => simp [intOf]; omega
    · obtain rfl : k = ns.length := by omega
      go_wp2_with fail
      go_ret
      refine ⟨_, rfl, ?_, B1.out.trans (HE.out.2.mono B1.out.size)⟩
      have h1 := HLE.out
      rw [List.take_length] at h1
      rw [HNS.out, h1]
      exact Kd.R_lower HE.out.1 B1.out.size

set_option maxHeartbeats 1000000 in
theorem Path_any (p : Nat) (each : Int) (v : Value) (pts : List Pt) (s : ByteArray) (A : Option Addr) (c : Nat) (gone : List Int) (w : World) (hS : IsRg w p each v pts) (hR : Rising pts) (hs : s.size ≤ maxLen) (hC : (Kd.int .i64).C w A gone.length gone) (hc : gone.length ≤ c) (hl : pts.length ≤ 1000000) (hgl : gone.length ≤ 1000000) (hol : (ownersN pts (hashI s) 16).length ≤ 1000) :
    Calls Tryd.prog 16 #[.pointer (some ⟨p, 0, none⟩), .string s, .slice A gone.length c] w fun e w' => ∃ u, e = .returned u ∧ Kd.R (Kd.int .i64) 3 w' w.heap.size (fun _ => True) u (pathN pts (hashI s) gone) ∧ Below w.heap.size w w' := by
  have HOW := Lib.hid (Owners_any p each v pts s 16 w hS hR hs hl)
  have HC := Lib.hid hC
  clear hS hC hR
  have hlo : pathN pts (hashI s) gone = (ownersN pts (hashI s) 16).filter (fun n => !decide (n ∈ gone)) := rfl
  rw [hlo]
  clear hlo
  go_enter Tryd.func16, Tryd.ntmps16
  go_wp2_with fail
  refine HOW.out.mono ?_
  rintro e w1 ⟨u1, rfl, hr1, hb1⟩
  obtain ⟨A1, c1, rfl, hc1, hC1⟩ := Kd.R_reads hr1
  have B1 := Lib.hid hb1
  have C1 := Lib.hid hC1
  clear hr1 hb1 hC1 HOW
  generalize hns : ownersN pts (hashI s) 16 = ns at *
  have HNS := Lib.hid hns
  clear hns
  go_wp2_with fail
  go_loopw [7, 14] (fun o i wr => ∃ k : Nat, k ≤ ns.length ∧ i = .int .i64 k ∧ Hid (Kd.R (Kd.int .i64) 3 wr w1.heap.size (fun _ => True) o ((ns.take k).filter (fun n => !decide (n ∈ gone))) ∧ Below w1.heap.size w1 wr)) (fun _ i _ => ns.length - (intOf i).toNat)
  case atStart => exact ⟨0, Nat.zero_le _, rfl, Kd.R_nil _ _ _ _ _, Below.refl _ _⟩
  case round =>
    obtain ⟨k, hk, rfl, HE⟩ := hrel
    obtain ⟨A5, c5, hv5⟩ := Kd.R_slice HE.out.1
    subst hv5
    have hml : ((ns.take k).filter (fun n => !decide (n ∈ gone))).length ≤ k := Nat.le_trans (List.length_filter_le _ _) (List.length_take_le _ _)
    generalize hLe : (ns.take k).filter (fun n => !decide (n ∈ gone)) = L at *
    have HLE := Lib.hid hLe
    clear hLe
    by_cases hlt : k < ns.length
    · obtain ⟨ad, hA, hc0⟩ := at_num C1.out hlt
      subst hA
      have hd0 : wr.cell? (ad.add k) = some (.int .i64 (iget ns k)) := (HE.out.2.cell (World.block_lt_of_cell? w1 _ hc0)).trans hc0
      have hb0 : Below w.heap.size w wr := B1.out.trans (HE.out.2.mono B1.out.size)
      have hcall := contains_any A c gone (iget ns k) wr (Kd.C_below HC.out hb0) hc (by omega)
      have hcc : (iget ns k ∈ gone ∧ decide (iget ns k ∈ gone) = true) ∨ (iget ns k ∉ gone ∧ decide (iget ns k ∈ gone) = false) := by
        by_cases h : iget ns k ∈ gone
        · exact .inl ⟨h, decide_eq_true h⟩
        · exact .inr ⟨h, decide_eq_false h⟩
      have HT := Lib.hid (take_i hlt)
      clear hc0 hb0
      generalize iget ns k = nd at *
      rcases hcc with ⟨hin, hdec⟩ | ⟨hin, hdec⟩
      · rw [hdec] at hcall
        have HI := Lib.hid hin
        have HCALL := Lib.hid hcall
        clear hin hdec hcall
        go_wp2_with fail
        refine HCALL.out.mono ?_
        rintro e w2 ⟨rfl, n2, hw2⟩
        have b2 : Below wr.heap.size wr w2 := by rw [hw2]; exact Drawn0.below ⟨_, rfl⟩
        have R2 := Lib.hid (Kd.R_below HE.out.1 b2)
        have B2 := Lib.hid (HE.out.2.trans (b2.mono HE.out.2.size))
        clear b2 HCALL hw2
        go_wp2_with fail
        go_roundw
        case rel =>
          refine ⟨k + 1, by omega, by go_num, ?_, B2.out⟩
          rw [HT.out, List.filter_append]
          have : [nd].filter (fun n => !decide (n ∈ gone)) = [] := by simp [HI.out]
          rw [this, List.append_nil, HLE.out]
          exact R2.out
        case measure => simp [intOf]; omega
      · rw [hdec] at hcall
        have HI := Lib.hid hin
        have HCALL := Lib.hid hcall
        clear hin hdec hcall
        go_wp2_with fail
        refine HCALL.out.mono ?_
        rintro e w2 ⟨rfl, n2, hw2⟩
        have b2 : Below wr.heap.size wr w2 := by rw [hw2]; exact Drawn0.below ⟨_, rfl⟩
        have R2 := Lib.hid (Kd.R_below HE.out.1 b2)
        have B2 := Lib.hid (HE.out.2.trans (b2.mono HE.out.2.size))
        clear b2 HCALL hw2
        go_wp2_with (at_builtin; refine Kd.R_append (Kd.int .i64) (w0 := w1) w1.heap.size rfl (.tmp 22) (.tmp 24) 22 3 (.int .i64 0) 8 rfl Tryd.underlying22 info_int rfl (by decide) (by omega) _ L nd [.int .i64 nd] (fun _ => True) (fun _ => False) rfl rfl rfl (fun _ hk => hk.elim) (fun _ _ => trivial) R2.out B2.out B2.out.size (by omega) ?_; intro v1 w3 ho hb hg hat; have HO := Lib.hid ho; have HB := Lib.hid hb; clear ho hb hg hat)
        go_roundw
        case rel =>
          refine ⟨k + 1, by omega, by go_num, ?_, HB.out⟩
          rw [HT.out, List.filter_append]
          have : [nd].filter (fun n => !decide (n ∈ gone)) = [nd] := by simp [HI.out]
          rw [this, HLE.out]
          exact HO.out
        case measure => simp [intOf]; omega
    · obtain rfl : k = ns.length := by omega
      go_wp2_with fail
      go_ret
      refine ⟨_, rfl, ?_, B1.out.trans (HE.out.2.mono B1.out.size)⟩
      have h1 := HLE.out
      rw [List.take_length] at h1
      rw [HNS.out, h1]
      exact Kd.R_lower HE.out.1 B1.out.size

def kMv : Kd Mv := Kd.iso (Kd.pair Kd.string (Kd.pair (Kd.int .i64) (Kd.int .i64))) (fun x : Mv => (x.key, x.from_, x.to_))
def Mv.enc (x : Mv) : List Value := [.string x.key, .int .i64 x.from_, .int .i64 x.to_]
theorem mv_M (w : World) (base : Nat) (ok : Nat → Prop) (x : Mv) : kMv.M w base ok x x.enc := ⟨[.string x.key], [.int .i64 x.from_, .int .i64 x.to_], rfl, rfl, ⟨[.int .i64 x.from_], [.int .i64 x.to_], rfl, rfl, rfl⟩⟩
def mvget (xs : List Mv) (k : Nat) : Mv := xs.getD k ⟨ByteArray.empty, 0, 0⟩
theorem mvget_eq {xs : List Mv} {k : Nat} (h : k < xs.length) : mvget xs k = xs[k] := by simp [mvget, h]
theorem at_mv {w : World} {A : Option Addr} {n : Nat} {xs : List Mv} (h : kMv.C w A n xs) {k : Nat} (hk : k < n) : ∃ ad, A = some ad ∧ w.cell? (ad.add (k * 3)) = some (.string (mvget xs k).key) ∧ w.cell? ⟨(ad.add (k * 3)).block, (ad.add (k * 3)).off + 1, none⟩ = some (.int .i64 (mvget xs k).from_) ∧ w.cell? ⟨(ad.add (k * 3)).block, (ad.add (k * 3)).off + 2, none⟩ = some (.int .i64 (mvget xs k).to_) := by
  obtain ⟨ad, c, e, _, hK, hc⟩ := Kd.C_get h ⟨ByteArray.empty, 0, 0⟩ (k : Int) (by omega) (by omega)
  obtain ⟨_, _, rfl, rfl, _, _, rfl, rfl, rfl⟩ := hK
  refine ⟨ad, e, ?_, ?_, ?_⟩
  · have := hc 0 _ rfl
    simpa [mvget, show kMv.sz = 3 from rfl] using this
  · rw [← add_field _ _ 1 (by omega)]
    have := hc 1 _ rfl
    simpa [mvget, show kMv.sz = 3 from rfl] using this
  · rw [← add_field _ _ 2 (by omega)]
    have := hc 2 _ rfl
    simpa [mvget, show kMv.sz = 3 from rfl] using this
theorem info_mv : (Tryd.prog.info? 49).map (fun i => (i.zero, i.size, i.bytes)) = some (some (.agg #[.string ⟨#[]⟩, .int .i64 0, .int .i64 0]), 3, 32) := by kernel_rfl

set_option maxHeartbeats 1000000 in
theorem Moves_any (p q : Nat) (each each2 : Int) (v v2 : Value) (P Q : List Pt) (A : Option Addr) (c : Nat) (ks : List ByteArray) (w : World) (hS : IsRg w p each v P) (hR : Rising P) (hS2 : IsRg w q each2 v2 Q) (hR2 : Rising Q) (hC : Kd.string.C w A ks.length ks) (hss : ∀ s ∈ ks, s.size ≤ maxLen) (hl : P.length ≤ 1000000) (hl2 : Q.length ≤ 1000000) (hks : ks.length ≤ 1000) :
    Calls Tryd.prog 18 #[.pointer (some ⟨p, 0, none⟩), .pointer (some ⟨q, 0, none⟩), .slice A ks.length c] w fun e w' => ∃ u, e = .returned u ∧ Kd.R kMv 49 w' w.heap.size (fun _ => True) u (movesN P Q ks) ∧ Below w.heap.size w w' := by
  have HS := Lib.hid hS
  have HS2 := Lib.hid hS2
  have HC := Lib.hid hC
  have HSS := Lib.hid hss
  clear hS hS2 hC hss
  go_enter Tryd.func18, Tryd.ntmps18
  go_wp2_with fail
  go_loopw [7, 14] (fun o i wr => ∃ k : Nat, k ≤ ks.length ∧ i = .int .i64 k ∧ Hid (Kd.R kMv 49 wr w.heap.size (fun _ => True) o (movesN P Q (ks.take k)) ∧ Below w.heap.size w wr)) (fun _ i _ => ks.length - (intOf i).toNat)
  case atStart => exact ⟨0, Nat.zero_le _, rfl, Kd.R_nil _ _ _ _ _, Below.refl _ _⟩
  case round =>
    obtain ⟨k, hk, rfl, HE⟩ := hrel
    obtain ⟨A5, c5, hv5⟩ := Kd.R_slice HE.out.1
    subst hv5
    have hml : (movesN P Q (ks.take k)).length ≤ k := Nat.le_trans (moves_len _ _ _) (List.length_take_le _ _)
    have hsn := moves_snoc P Q (ks.take k) (sget ks k)
    generalize hLe : movesN P Q (ks.take k) = L at *
    have HLE := Lib.hid hLe
    have HSN0 := Lib.hid hsn
    clear hLe hsn
    by_cases hlt : k < ks.length
    · obtain ⟨ad, hA, hc0⟩ := at_str HC.out hlt
      subst hA
      have hd0 : wr.cell? (ad.add k) = some (.string (sget ks k)) := (HE.out.2.cell (World.block_lt_of_cell? w _ hc0)).trans hc0
      have hsz : (sget ks k).size ≤ maxLen := HSS.out _ (by rw [sget_eq hlt]; exact List.getElem_mem hlt)
      have hcall := Owner_any p each v P (sget ks k) wr (HS.out.later HE.out.2) hR hsz hl
      have hcall2 : ∀ w2, Below wr.heap.size wr w2 → _ := fun w2 b2 => Owner_any q each2 v2 Q (sget ks k) w2 (HS2.out.later (HE.out.2.trans (b2.mono HE.out.2.size))) hR2 hsz hl2
      have hsn := HSN0.out
      rw [← take_s hlt] at hsn
      obtain ⟨key, hkey⟩ : ∃ key, key = sget ks k := ⟨_, rfl⟩
      rw [← hkey] at hcall hcall2 hd0 hsn hsz
      have HKEY := Lib.hid hkey
      clear hkey hc0
      generalize ownerN P (hashI key) = a at *
      generalize ownerN Q (hashI key) = b at *
      have HSN := Lib.hid hsn
      have HCALL := Lib.hid hcall
      have HCALL2 := Lib.hid hcall2
      clear hsn hcall hcall2
      have hab : (a = b ∧ (a != b) = false) ∨ (a ≠ b ∧ (a != b) = true) := by
        by_cases h : a = b
        · exact .inl ⟨h, by simp [h]⟩
        · exact .inr ⟨h, by simp [h]⟩
      rcases hab with ⟨h1, h2⟩ | ⟨h1, h2⟩
      all_goals
        have H1 := Lib.hid h1
        clear h1
        go_wp2_with fail
        refine HCALL.out.mono ?_
        rintro e w1 ⟨rfl, b1⟩
        have B1 := Lib.hid b1
        clear b1
        go_wp2_with fail
        refine (HCALL2.out w1 B1.out).mono ?_
        rintro e w2 ⟨rfl, b2⟩
        have b12 := B1.out.trans (b2.mono B1.out.size)
        have R2 := Lib.hid (Kd.R_below HE.out.1 b12)
        have B2 := Lib.hid (HE.out.2.trans (b12.mono HE.out.2.size))
        clear b2 b12 HCALL HCALL2
      · go_wp2_with fail
        go_roundw
        case rel =>
          refine ⟨k + 1, by omega, by go_num, ?_, B2.out⟩
          rw [HSN.out, if_pos H1.out]
          exact R2.out
        case measure => simp [intOf]; omega
      · go_wp2_with (at_builtin; refine Kd.R_append kMv (w0 := w) w.heap.size rfl (.tmp 27) (.tmp 32) 45 49 (.agg #[.string ⟨#[]⟩, .int .i64 0, .int .i64 0]) 32 rfl Tryd.underlying45 info_mv rfl (by decide) (by omega) _ L ⟨key, a, b⟩ [.string key, .int .i64 a, .int .i64 b] (fun _ => True) (fun _ => False) rfl rfl (mv_M _ _ _ ⟨key, a, b⟩) (fun _ hk => hk.elim) (fun _ _ => trivial) R2.out B2.out B2.out.size (by omega) ?_; intro v1 w3 ho hb hg hat; have HO := Lib.hid ho; have HB := Lib.hid hb; clear ho hb hg hat)
        go_roundw
        case rel =>
          refine ⟨k + 1, by omega, by go_num, ?_, HB.out⟩
          rw [HSN.out, if_neg H1.out]
          exact HO.out
        case measure => simp [intOf]; omega
    · obtain rfl : k = ks.length := by omega
      go_wp2_with fail
      go_ret
      refine ⟨_, rfl, ?_, HE.out.2⟩
      have h1 := HLE.out
      rw [List.take_length] at h1
      rw [h1]
      exact HE.out.1
end Go.Proofs.YtndgjhhhggkdmaaDoor
