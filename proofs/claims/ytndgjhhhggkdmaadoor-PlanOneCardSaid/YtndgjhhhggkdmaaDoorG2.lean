/- The contracts of Remove, Nodes, Owners, Owner, Share. The contracts of Remove and Add. The contract of Add. A ring that a law made, and what a law does with it; lists of numbers compared; the example. The values of the example. Written by wip/tools/genrg.py. The example with which each statement ends: it works. Which nodes are asked: plain facts on points. No program here. Few keys move: plain facts on points. No program here. -/
import Derived.Test.YtndgjhhhggkdmaaDoorG1
import Derived.Test.YtndgjhhhggkdmaaDoorPRall
import Derived.Lib.Hide
import Derived.Deep.RegionWith
import Derived.StillTailTactics
namespace Go.Proofs.YtndgjhhhggkdmaaDoor
set_option linter.unusedVariables false
open Go.RowKit Go.Proofs.YtndgjhhhggkdmaaDoorW.PrintWords

/-- What a ring's function may change. -/
def rgM (p : Nat) (v : Value) (k : Nat) : Prop := k = p ∨ v.ownBlock = some k
theorem not_rgM {w : World} {p : Nat} {each : Int} {v : Value} {pts : List Pt} (h : IsRg w p each v pts) {k : Nat} (hk : w.heap.size ≤ k) : ¬ rgM p v k := by
  rintro (rfl | hv)
  · have := h.lt; omega
  · obtain ⟨inner, ho⟩ := Kd.R_own h.row
    have := (ho.lt k hv).2
    omega
theorem own_gt {w : World} {p : Nat} {each : Int} {v : Value} {pts : List Pt} (h : IsRg w p each v pts) {k : Nat} (hv : v.ownBlock = some k) : p < k ∧ k < w.heap.size := by
  obtain ⟨inner, ho⟩ := Kd.R_own h.row
  have := ho.lt k hv
  omega
/-- The points have been put into a row, the head is told of it. -/
theorem IsRg.put {w w1 : World} {p : Nat} {each : Int} {v v' : Value} {pts pts' : List Pt} (h : IsRg w p each v pts) (hr : kP.R 81 w1 (p + 1) (fun _ => True) v' pts') (hg : w.grownBy w1 v.ownBlock) :
    IsRg (w1.setCell ⟨p, 1, none⟩ v') p each v' pts' ∧ Chg (rgM p v) w (w1.setCell ⟨p, 1, none⟩ v') := by
  have hpv : some p ≠ v.ownBlock := fun e => by have := own_gt h e.symm; omega
  have hp1 : w1.heap[p]? = some (.cells #[.int .i64 each, v] 76 (0, 0)) := (hg.block p h.lt hpv).trans h.head
  refine ⟨⟨?_, ?_⟩, ?_⟩
  · rw [setCell_eq_setRow w1 p 1 _ _ _ _ hp1]
    exact setRow_heap w1 p _ _ _ _ hp1
  · have hr2 : kP.R 81 w1 (p + 1) (fun k => k ≠ p) v' pts' := Kd.R_mono (Kd.R_bound hr) (fun k hk => by have := hk.2.1; omega)
    exact Kd.R_mono (Kd.R_far (p := ⟨p, 1, none⟩) hr2 (fun k hk => hk) v') (fun _ _ => trivial)
  · have h1 : Chg (rgM p v) w w1 := ⟨hg.os, hg.tape, hg.output, hg.size, fun k hk hn => hg.block k hk (fun e => hn (.inr e.symm))⟩
    exact h1.setCell (p := ⟨p, 1, none⟩) (.inl rfl) _

/-! slices.Contains -/
theorem index_f (l : List Int) (a : Int) : ∀ (n k i : Nat), i + n = l.length → n < k → l.length < 9223372036854775807 →
    (PR.slices_Index_int_int.l0 k l a l.length i = some (-1) ∧ a ∉ l.drop i) ∨ (∃ j : Nat, PR.slices_Index_int_int.l0 k l a l.length i = some (j : Int) ∧ a ∈ l.drop i)
  | 0, k + 1, i, h1, h2, h3 => by
    left
    refine ⟨?_, ?_⟩
    · rw [PR.slices_Index_int_int.l0, if_neg (by omega)]
    · rw [List.drop_of_length_le (by omega)]; simp
  | n + 1, k + 1, i, h1, h2, h3 => by
    have hi : i < l.length := by omega
    have hd : l.drop i = l[i] :: l.drop (i + 1) := List.drop_eq_getElem_cons hi
    have hr : rd l (i : Int) = l[i] := by simp [rd, hi]
    have hw : wrap64 ((i : Int) + 1) = ((i + 1 : Nat) : Int) := by unfold wrap64; omega
    rw [PR.slices_Index_int_int.l0, if_pos (by omega), if_pos (by omega), if_pos (by omega), hr, hd, hw]
    by_cases he : a = l[i]
    · right
      rw [if_pos he]
      exact ⟨i, rfl, by rw [he]; exact List.mem_cons_self⟩
    · rw [if_neg he]
      rcases index_f l a n k (i + 1) (by omega) (by omega) h3 with ⟨h4, h5⟩ | ⟨j, h4, h5⟩
      · left
        exact ⟨h4, by rw [List.mem_cons]; exact fun e => e.elim he h5⟩
      · right
        exact ⟨j, h4, List.mem_cons_of_mem _ h5⟩
theorem contains_f (l : List Int) (a : Int) (h : l.length < 9223372036854775807) : PR.slices_Contains_int_int.f (l.length + 1) l a = some (decide (a ∈ l)) := by
  unfold PR.slices_Contains_int_int.f PR.slices_Index_int_int.f
  rcases index_f l a l.length (l.length + 1) 0 (by omega) (by omega) h with ⟨h1, h2⟩ | ⟨j, h1, h2⟩
  · rw [show ((0 : Nat) : Int) = 0 from rfl] at h1
    rw [h1]
    simp at h2
    simp [h2]
  · rw [show ((0 : Nat) : Int) = 0 from rfl] at h1
    rw [h1]
    simp at h2
    simp [h2]
theorem contains_any (A : Option Addr) (c : Nat) (l : List Int) (a : Int) (w : World) (hC : (Kd.int .i64).C w A l.length l) (hc : l.length ≤ c) (h : l.length < 9223372036854775807) :
    Calls Tryd.prog 31 #[.slice A l.length c, .int .i64 a] w fun e w' => e = .returned (.bool (decide (a ∈ l))) ∧ ∃ n, w' = w.drewN n :=
  (PR.slices_Contains_int_int.calls (l.length + 1) A c l a _ w hC hc (contains_f l a h)).mono fun e w' ⟨he, hd⟩ => ⟨he, hd.out⟩

set_option maxHeartbeats 2000000 in
theorem Owners_any (p : Nat) (each : Int) (v : Value) (pts : List Pt) (s : ByteArray) (most : Int) (w : World) (hS : IsRg w p each v pts) (hR : Rising pts) (hs : s.size ≤ maxLen) (hl : pts.length ≤ 1000000) :
    Calls Tryd.prog 30 #[.pointer (some ⟨p, 0, none⟩), .string s, .int .i64 most] w fun e w' => ∃ u, e = .returned u ∧ Kd.R (Kd.int .i64) 3 w' w.heap.size (fun _ => True) u (ownersN pts (hashI s) most) ∧ Below w.heap.size w w' := by
  have hN := nextN_le pts (hashI s)
  have hT := nextN_take pts (hashI s) hR
  have hnx := fun w' (h : IsRg w' p each v pts) => next_any p each v pts (hashI s) (nextN pts (hashI s)) w' h hN hT hl
  obtain ⟨N, hNe⟩ : ∃ N, N = nextN pts (hashI s) := ⟨_, rfl⟩
  rw [← hNe] at hnx hN
  have hown : ownersN pts (hashI s) most = ownTo pts N most pts.length := by rw [hNe]; rfl
  rw [hown]
  clear hT hNe hown
  obtain ⟨A, c, hv, hc, hC⟩ := Kd.R_reads hS.row
  subst hv
  have c1 := hS.cell1
  have HS := Lib.hid hS
  have HC := Lib.hid hC
  have HX := Lib.hid hnx
  clear hS hC hnx
  go_enter Tryd.func30, Tryd.ntmps30
  go_wp2_with (first | (go_at_call 44; refine (hash_any s _ hs).mono ?_; rintro e w' ⟨rfl, rfl⟩) | (go_at_call 38; refine (HX.out _ HS.out).mono ?_; rintro e w' ⟨rfl, hd⟩; have HD := Lib.hid hd; clear hd; have c1 : w'.cell? ⟨p, 1, none⟩ = some (.slice A pts.length c) := by { obtain ⟨n, hn⟩ := HD.out; rw [hn]; exact HS.out.cell1 }))
  go_loopw [7, 20] (fun v i wr => ∃ k : Nat, k ≤ pts.length ∧ i = .int .i64 k ∧ Hid (Kd.R (Kd.int .i64) 3 wr w.heap.size (fun _ => True) v (ownTo pts N most k) ∧ Below w.heap.size w wr)) (fun _ i _ => pts.length - (intOf i).toNat)
  case atStart =>
    refine ⟨0, Nat.zero_le _, rfl, Kd.R_nil _ _ _ _ _, ?_⟩
    obtain ⟨n, hn⟩ := HD.out
    rw [hn]
    exact Drawn0.below ⟨n, rfl⟩
  case round =>
    obtain ⟨k, hk, rfl, HE⟩ := hrel
    clear HD c1
    have hol := ownTo_len pts N most k
    obtain ⟨A7, c7, hv7, hc7, hC7⟩ := Kd.R_reads HE.out.1
    subst hv7
    by_cases hlt : k < pts.length
    · by_cases hm : most ≤ (ownTo pts N most k).length
      · have HM := Lib.hid hm
        have hmt : decide (most ≤ ((ownTo pts N most k).length : Int)) = true := decide_eq_true hm
        clear hC7
        go_wp2
        go_ret
        refine ⟨_, rfl, ?_, HE.out.2⟩
        have := ownTo_stop pts N most HM.out (pts.length - k)
        rw [show k + (pts.length - k) = pts.length by omega] at this
        rw [this]
        exact HE.out.1
      · obtain ⟨m, hmd, hml, hmv⟩ : ∃ m : Nat, ((N : Int) + (k : Int)) % (pts.length : Int) = (m : Int) ∧ m < pts.length ∧ m = (N + k) % pts.length := ⟨(N + k) % pts.length, by rw [Int.natCast_emod, Int.natCast_add], Nat.mod_lt _ (by omega), rfl⟩
        have HMV := Lib.hid hmv
        clear hmv
        obtain ⟨ad, hA, _, hd⟩ := at_pt HC.out (k := m) (by omega)
        have hpl := HS.out.lt
        have c1 : wr.cell? ⟨p, 1, none⟩ = some (.slice A pts.length c) := (HE.out.2.cell (p := ⟨p, 1, none⟩) hpl).trans HS.out.cell1
        have hd' : wr.cell? ⟨(ad.add (m * 2)).block, (ad.add (m * 2)).off + 1, none⟩ = some (.int .i64 (pget pts m).node) := by
          rw [add_field _ _ 1 (by omega)] at hd
          exact (HE.out.2.cell (World.block_lt_of_cell? w _ hd)).trans hd
        subst hA
        clear hd
        have HC7 := Lib.hid hC7
        clear hC7
        have HM := Lib.hid hm
        have hmt : decide (most ≤ ((ownTo pts N most k).length : Int)) = false := decide_eq_false hm
        clear hm
        by_cases hin : (pget pts m).node ∈ ownTo pts N most k
        · have HI := Lib.hid hin
          have hdec : decide ((pget pts m).node ∈ ownTo pts N most k) = true := decide_eq_true hin
          have hcon := fun n => contains_any A7 c7 (ownTo pts N most k) (pget pts m).node (wr.drewN n) HC7.out hc7 (by omega)
          rw [hdec] at hcon
          clear hin hdec
          go_wp2
          go_quiet (skip)
          go_wp2_with (go_at_call 31; refine (hcon _).mono ?_; rintro e w' ⟨rfl, n, rfl⟩)
          go_roundw
          case rel =>
            refine ⟨k + 1, by omega, by go_num, ?_, HE.out.2.trans ((Drawn0.below ⟨_, rfl⟩).mono HE.out.2.size)⟩
            rw [ownTo, if_neg (Int.not_le.2 HM.out), ← HMV.out, if_pos HI.out]
            exact HE.out.1
          case measure => simp [intOf]; omega
        · have HI := Lib.hid hin
          have hdec : decide ((pget pts m).node ∈ ownTo pts N most k) = false := decide_eq_false hin
          have hcon := fun n => contains_any A7 c7 (ownTo pts N most k) (pget pts m).node (wr.drewN n) HC7.out hc7 (by omega)
          rw [hdec] at hcon
          clear hin hdec
          go_wp2
          go_quiet (skip)
          go_wp2_with (first
            | (go_at_call 31; refine (hcon _).mono ?_; rintro e w' ⟨rfl, n, rfl⟩)
            | (at_builtin; refine Kd.R_append (Kd.int .i64) (w0 := w) w.heap.size rfl (.tmp 47) (.tmp 49) 22 3 (.int .i64 0) 8 rfl Tryd.underlying22 info_int rfl (by decide) (by omega) _ (ownTo pts N most k) (pget pts m).node [.int .i64 (pget pts m).node] (fun _ => True) (fun _ => False) rfl rfl rfl (fun _ hk => hk.elim) (fun _ _ => trivial) HE.out.1 (HE.out.2.trans ((Drawn0.below ⟨_, rfl⟩).mono HE.out.2.size)) HE.out.2.size (by omega) ?_; intro v1 w1 ho hb hg hat; have HO := Lib.hid ho; have HB := Lib.hid hb; clear ho hb hg hat))
          go_roundw
          case rel =>
            refine ⟨k + 1, by omega, by go_num, ?_, HB.out⟩
            rw [ownTo, if_neg (Int.not_le.2 HM.out), ← HMV.out, if_neg HI.out]
            exact HO.out
          case measure => simp [intOf]; omega
    · obtain rfl : k = pts.length := by omega
      clear hC7
      go_wp2
      go_ret
      exact ⟨_, rfl, HE.out.1, HE.out.2⟩

set_option maxHeartbeats 1000000 in
theorem Owner_any (p : Nat) (each : Int) (v : Value) (pts : List Pt) (s : ByteArray) (w : World) (hS : IsRg w p each v pts) (hR : Rising pts) (hs : s.size ≤ maxLen) (hl : pts.length ≤ 1000000) :
    Calls Tryd.prog 34 #[.pointer (some ⟨p, 0, none⟩), .string s] w fun e w' => e = .returned (.int .i64 (ownerN pts (hashI s))) ∧ Below w.heap.size w w' := by
  have hcall := Owners_any p each v pts s 1 w hS hR hs hl
  have hol : (ownersN pts (hashI s) 1).length ≤ 1000000 := Nat.le_trans (ownTo_len pts (nextN pts (hashI s)) 1 pts.length) hl
  have howner : ownerN pts (hashI s) = (ownersN pts (hashI s) 1).headD 0 := rfl
  rw [howner]
  obtain ⟨L, hL⟩ : ∃ L, L = ownersN pts (hashI s) 1 := ⟨_, rfl⟩
  rw [← hL] at hcall hol ⊢
  clear hL howner hS
  cases L with
  | nil =>
    clear hol
    go_enter Tryd.func34, Tryd.ntmps34
    go_wp2_with (go_at_call 30; refine hcall.mono ?_; rintro e w' ⟨u, rfl, hr, hb⟩; obtain ⟨A, c, rfl, hc, hC⟩ := Kd.R_reads hr; have HB := Lib.hid hb; clear hb hr hC)
    go_ret
    exact ⟨rfl, HB.out⟩
  | cons x r =>
    have hll : r.length + 1 ≤ 1000000 := by simpa using hol
    clear hol
    go_enter Tryd.func34, Tryd.ntmps34
    go_wp2_with (go_at_call 30; refine hcall.mono ?_; rintro e w' ⟨u, rfl, hr, hb⟩; obtain ⟨A, c, rfl, hc, hC⟩ := Kd.R_reads hr; have HB := Lib.hid hb; obtain ⟨ad, hA, hd⟩ := at_num hC (k := 0) (by simp); subst hA; have hd0 : w'.cell? ad = some (.int .i64 x) := hd; clear hb hr hC hd)
    go_ret
    exact ⟨rfl, HB.out⟩

theorem share_snoc (L : List Pt) (nd : Int) (l : List ByteArray) (x : ByteArray) : shareN L nd (l ++ [x]) = shareN L nd l + (if ownerN L (hashI x) = nd then 1 else 0) := by
  induction l with
  | nil => simp [shareN]
  | cons y r ih => rw [List.cons_append, shareN, ih, shareN]; omega
theorem share_bd (L : List Pt) (nd : Int) (l : List ByteArray) : 0 ≤ shareN L nd l ∧ shareN L nd l ≤ l.length := by
  induction l with
  | nil => simp [shareN]
  | cons y r ih => rw [shareN, List.length_cons]; split <;> omega
set_option maxHeartbeats 1000000 in
theorem Share_any (p : Nat) (each : Int) (v : Value) (pts : List Pt) (nd : Int) (A : Option Addr) (c : Nat) (ss : List ByteArray) (w : World) (hS : IsRg w p each v pts) (hR : Rising pts) (hC : Kd.string.C w A ss.length ss) (hss : ∀ s ∈ ss, s.size ≤ maxLen) (hl : pts.length ≤ 1000000) (hsl : ss.length ≤ 1000000) :
    Calls Tryd.prog 22 #[.pointer (some ⟨p, 0, none⟩), .int .i64 nd, .slice A ss.length c] w fun e w' => e = .returned (.int .i64 (shareN pts nd ss)) ∧ Below w.heap.size w w' := by
  have HS := Lib.hid hS
  have HC := Lib.hid hC
  have HSS := Lib.hid hss
  clear hS hC hss
  go_enter Tryd.func22, Tryd.ntmps22
  go_wp2
  go_loopw [7, 12] (fun x i wr => ∃ k : Nat, k ≤ ss.length ∧ i = .int .i64 k ∧ x = .int .i64 (shareN pts nd (ss.take k)) ∧ Hid (Below w.heap.size w wr)) (fun _ i _ => ss.length - (intOf i).toNat)
  case atStart => exact ⟨0, Nat.zero_le _, rfl, rfl, Below.refl _ _⟩
  case round =>
    obtain ⟨k, hk, rfl, rfl, HB⟩ := hrel
    obtain ⟨b0, b1⟩ := share_bd pts nd (ss.take k)
    have b2 : (ss.take k).length ≤ ss.length := by rw [List.length_take]; omega
    by_cases hlt : k < ss.length
    · obtain ⟨ad, hA, hd⟩ := at_str HC.out hlt
      have hd' : wr.cell? (ad.add k) = some (.string (sget ss k)) := (HB.out.cell (World.block_lt_of_cell? w _ hd)).trans hd
      subst hA
      have hsz : (sget ss k).size ≤ maxLen := HSS.out _ (by rw [sget_eq hlt]; exact List.getElem_mem hlt)
      have hcall := Owner_any p each v pts (sget ss k) wr (HS.out.later HB.out) hR hsz hl
      have hsn := share_snoc pts nd (ss.take k) (sget ss k)
      rw [← take_s hlt] at hsn
      have HN := Lib.hid hsn
      clear hd hsn
      by_cases hq : ownerN pts (hashI (sget ss k)) = nd
      · have hqt : (ownerN pts (hashI (sget ss k)) == nd) = true := by simpa using hq
        have HQ := Lib.hid hq
        clear hq
        go_wp2_with (go_at_call 34; refine hcall.mono ?_; rintro e w' ⟨rfl, hb⟩; have HB2 := Lib.hid hb; clear hb)
        go_roundw
        case rel =>
          refine ⟨k + 1, by omega, by go_num, ?_, HB.out.trans (HB2.out.mono HB.out.size)⟩
          rw [HN.out, if_pos HQ.out]
        case measure => simp [intOf]; omega
      · have hqt : (ownerN pts (hashI (sget ss k)) == nd) = false := by simpa using hq
        have HQ := Lib.hid hq
        clear hq
        go_wp2_with (go_at_call 34; refine hcall.mono ?_; rintro e w' ⟨rfl, hb⟩; have HB2 := Lib.hid hb; clear hb)
        go_roundw
        case rel =>
          refine ⟨k + 1, by omega, by go_num, ?_, HB.out.trans (HB2.out.mono HB.out.size)⟩
          rw [HN.out, if_neg HQ.out]; simp
        case measure => simp [intOf]; omega
    · obtain rfl : k = ss.length := by omega
      go_wp2
      go_ret
      exact ⟨ret_int (by rw [List.take_length]), HB.out⟩

theorem nodes_succ (L : List Pt) (n : Nat) : nodesN L (n + 1) = if hasN L n = true then nodesN L n ++ [(n : Int)] else nodesN L n := by
  unfold nodesN
  rw [List.range_succ, List.map_append, List.filter_append]
  cases h : hasN L n <;> simp [h]
theorem nodes_len (L : List Pt) (n : Nat) : (nodesN L n).length ≤ n := by
  unfold nodesN
  exact Nat.le_trans (List.length_filter_le _ _) (by simp)
set_option maxHeartbeats 1000000 in
theorem Nodes_any (p : Nat) (each : Int) (v : Value) (pts : List Pt) (w : World) (hS : IsRg w p each v pts) :
    Calls Tryd.prog 29 #[.pointer (some ⟨p, 0, none⟩)] w fun e w' => ∃ u, e = .returned u ∧ Kd.R (Kd.int .i64) 3 w' w.heap.size (fun _ => True) u (nodesN pts 17) ∧ Below w.heap.size w w' := by
  have HS := Lib.hid hS
  clear hS
  go_enter Tryd.func29, Tryd.ntmps29
  go_wp2
  go_loopw [3, 5] (fun u i wr => ∃ k : Nat, k ≤ 17 ∧ i = .int .i64 k ∧ Hid (Kd.R (Kd.int .i64) 3 wr w.heap.size (fun _ => True) u (nodesN pts k) ∧ Below w.heap.size w wr)) (fun _ i _ => 17 - (intOf i).toNat)
  case atStart => exact ⟨0, Nat.zero_le _, rfl, Kd.R_nil _ _ _ _ _, Below.refl _ _⟩
  case round =>
    obtain ⟨k, hk, rfl, HB⟩ := hrel
    by_cases hlt : k < 17
    · have hcall := has_any p each v pts (k : Int) wr (HS.out.later HB.out.2)
      have hnl := nodes_len pts k
      cases hq : hasN pts (k : Int) with
      | true =>
        rw [hq] at hcall
        have HQ := Lib.hid hq
        clear hq
        go_wp2_with (first
          | (go_at_call 36; refine hcall.mono ?_; rintro e w' ⟨rfl, hb⟩; have HB2 := Lib.hid hb; clear hb)
          | (at_builtin; refine Kd.R_append (Kd.int .i64) (w0 := w) w.heap.size rfl (.tmp 11) (.tmp 13) 22 3 (.int .i64 0) 8 rfl Tryd.underlying22 info_int rfl (by decide) (by omega) _ (nodesN pts k) (k : Int) [.int .i64 (k : Int)] (fun _ => True) (fun _ => False) rfl rfl rfl (fun _ hk => hk.elim) (fun _ _ => trivial) (Kd.R_below HB.out.1 HB2.out) (HB.out.2.trans (HB2.out.mono HB.out.2.size)) (Nat.le_trans HB.out.2.size HB2.out.size) (by omega) ?_; intro v1 w1 ho hb hg hat; have HO := Lib.hid ho; have HB3 := Lib.hid hb; clear ho hb hg hat))
        go_roundw
        case rel => exact ⟨k + 1, by omega, by go_num, by rw [nodes_succ, if_pos HQ.out]; exact HO.out, HB3.out⟩
        case measure => simp [intOf]; omega
      | false =>
        rw [hq] at hcall
        have HQ := Lib.hid hq
        clear hq
        go_wp2_with (go_at_call 36; refine hcall.mono ?_; rintro e w' ⟨rfl, hb⟩; have HB2 := Lib.hid hb; clear hb)
        go_roundw
        case rel => exact ⟨k + 1, by omega, by go_num, by rw [nodes_succ, if_neg (by rw [HQ.out]; decide)]; exact Kd.R_below HB.out.1 HB2.out, HB.out.2.trans (HB2.out.mono HB.out.2.size)⟩
        case measure => simp [intOf]; omega
    · obtain rfl : k = 17 := by omega
      go_wp2
      go_ret
      exact ⟨_, rfl, HB.out.1, HB.out.2⟩
end Go.Proofs.YtndgjhhhggkdmaaDoor
namespace Go.Proofs.YtndgjhhhggkdmaaDoor
set_option linter.unusedVariables false
open Go.RowKit Go.Proofs.YtndgjhhhggkdmaaDoorW.PrintWords

end Go.Proofs.YtndgjhhhggkdmaaDoor
namespace Go.Proofs.YtndgjhhhggkdmaaDoor
set_option linter.unusedVariables false
open Go.RowKit Go.Proofs.YtndgjhhhggkdmaaDoorW.PrintWords

theorem Chg.trans' {M M' : Nat → Prop} {a b c : World} (h : Chg M a b) (k : Chg M' b c) (hM : ∀ i, i < a.heap.size → M' i → M i) : Chg M a c :=
  ⟨k.os.trans h.os, k.tape.trans h.tape, k.output.trans h.output, Nat.le_trans h.size k.size, fun i hi hn => (k.block i (Nat.lt_of_lt_of_le hi h.size) (fun e => hn (hM i hi e))).trans (h.block i hi hn)⟩
/-- A node that can't be, or that stands there already. -/
theorem Add_bad (p : Nat) (each : Int) (v : Value) (pts : List Pt) (nd : Int) (w : World) (hS : IsRg w p each v pts) (h : (nd < 1 ∨ 16 < nd) ∨ hasN pts nd = true) :
    Calls Tryd.prog 25 #[.pointer (some ⟨p, 0, none⟩), .int .i64 nd] w fun e w' => ∃ ev op at_, e = .returned ev ∧ Below w.heap.size w w' ∧ ErrIs w' ev [(op, at_, if nd < 1 ∨ 16 < nd then 2 else 13)] := by
  by_cases h1 : nd < 1
  · rw [if_pos (.inl h1)]
    clear h hS
    go_enter Tryd.func25, Tryd.ntmps25
    go_wp2_with (go_at_call 35; refine (new_any _ _ 2 rfl _).mono ?_; rintro e w' ⟨rfl, rfl⟩)
    go_ret
    exact ⟨_, _, _, rfl, bel_alloc _ _, .new (heap_alloc_new _ _) (by decide)⟩
  · by_cases h2 : 16 < nd
    · rw [if_pos (.inr h2)]
      clear h hS
      go_enter Tryd.func25, Tryd.ntmps25
      go_wp2_with (go_at_call 35; refine (new_any _ _ 2 rfl _).mono ?_; rintro e w' ⟨rfl, rfl⟩)
      go_ret
      exact ⟨_, _, _, rfl, bel_alloc _ _, .new (heap_alloc_new _ _) (by decide)⟩
    · rw [if_neg (by omega)]
      have hcall := has_any p each v pts nd w hS
      have hq : hasN pts nd = true := by
        rcases h with h | h
        · omega
        · exact h
      rw [hq] at hcall
      clear h hS hq
      go_enter Tryd.func25, Tryd.ntmps25
      go_wp2_with (first
        | (go_at_call 36; refine hcall.mono ?_; rintro e w1 ⟨rfl, hb⟩; have HB := Lib.hid hb; clear hb)
        | (go_at_call 35; refine (new_any _ _ 13 rfl _).mono ?_; rintro e w' ⟨rfl, rfl⟩))
      go_ret
      exact ⟨_, _, _, rfl, HB.out.trans ((bel_alloc _ _).mono HB.out.size), .new (heap_alloc_new _ _) (by decide)⟩

set_option maxHeartbeats 2000000 in
theorem Add_ok (p : Nat) (each : Nat) (v : Value) (pts : List Pt) (nd : Int) (w : World) (hS : IsRg w p each v pts) (hR : Rising pts) (h1 : 1 ≤ nd) (h2 : nd ≤ 16) (hq : hasN pts nd = false) (he : each ≤ 64) (hl : pts.length ≤ 100000) :
    Calls Tryd.prog 25 #[.pointer (some ⟨p, 0, none⟩), .int .i64 nd] w fun e w' => ∃ v', e = .returned .nilIface ∧ IsRg w' p each v' (addTo pts nd each) ∧ Chg (rgM p v) w w' := by
  have hcall := has_any p each v pts nd w hS
  rw [hq] at hcall
  have c0 := hS.cell0
  have hp := hS.lt
  have HS := Lib.hid hS
  clear hS hq
  go_enter Tryd.func25, Tryd.ntmps25
  go_wp2_with (go_at_call 36; refine hcall.mono ?_; rintro e w1 ⟨rfl, hb⟩; have HB := Lib.hid hb; have c2 : w1.cell? ⟨p, 0, none⟩ = some (.int .i64 each) := (hb.cell (p := ⟨p, 0, none⟩) hp).trans c0; clear hb)
  clear c2 hcall
  go_loopw [5, 27] (fun _ i wr => ∃ k : Nat, k ≤ each ∧ i = .int .i64 k ∧ Hid (∃ v', IsRg wr p each v' (addTo pts nd k) ∧ Chg (rgM p v) w wr ∧ (v'.ownBlock = v.ownBlock ∨ ∃ b, v'.ownBlock = some b ∧ w.heap.size ≤ b))) (fun _ i _ => each - (intOf i).toNat)
  case atStart => exact ⟨0, Nat.zero_le _, rfl, v, HS.out.later HB.out, Chg.of_below HB.out, .inl rfl⟩
  case round =>
    obtain ⟨k, hk, rfl, HD⟩ := hrel
    obtain ⟨vk, HD⟩ : ∃ v', Hid (IsRg wr p each v' (addTo pts nd k) ∧ Chg (rgM p v) w wr ∧ (v'.ownBlock = v.ownBlock ∨ ∃ b, v'.ownBlock = some b ∧ w.heap.size ≤ b)) := HD.out
    by_cases hlt : k < each
    · have hlen := addTo_len pts nd k
      have hle : (addTo pts nd k).length ≤ 1000000 := by omega
      have hN := nextN_le (addTo pts nd k) (atI nd k)
      have hnx := fun w' (h : IsRg w' p each vk (addTo pts nd k)) => next_any p each vk (addTo pts nd k) (atI nd k) (nextN (addTo pts nd k) (atI nd k)) w' h hN (nextN_take _ _ (addTo_rising hR nd k)) hle
      have HX := Lib.hid hnx
      have HLEN := Lib.hid hlen
      have hpr := HD.out.1.lt
      have hpn : p ≠ wr.heap.size := by omega
      obtain ⟨A, c, hvk⟩ := Kd.R_slice HD.out.1.row
      subst hvk
      clear hnx hlen
      have hS1 : ∀ o n, IsRg ((wr.alloc o).drewN n) p each _ (addTo pts nd k) := fun o n => (HD.out.1.later (bel_alloc _ o)).drewN n
      have HS1 := Lib.hid hS1
      have hc1 : ∀ o n, ((wr.alloc o).drewN n).cell? ⟨p, 1, none⟩ = some _ := fun o n => (hS1 o n).cell1
      clear hS1
      go_wp2_with (first
        | (go_at_call 37; refine (at_any _ _ _).mono ?_; rintro e w' ⟨rfl, rfl⟩)
        | (go_at_call 38; refine (HX.out _ (HS1.out _ 0)).mono ?_; rintro e w' ⟨rfl, n, rfl⟩))
      have hins : ∀ m, Calls Tryd.prog 39 #[.slice A (addTo pts nd k).length c, .int .i64 (nextN (addTo pts nd k) (atI nd k)), .slice (some ⟨wr.heap.size + 1, 0, none⟩) 1 1] (((wr.alloc (.cells #[.int .u64 (atI nd k), .int .i64 nd] 81)).drewN m).alloc (.cells #[.int .u64 (atI nd k), .int .i64 nd] 81)) fun e w' =>
          ∃ A' n' c', e = .returned (.slice A' n' c') ∧ kP.R 81 w' (p + 1) (fun _ => True) (.slice A' n' c') (addTo pts nd (k + 1)) ∧ wr.grownBy w' (Value.slice A (addTo pts nd k).length c).ownBlock ∧ ((Value.slice A' n' c').ownBlock = (Value.slice A (addTo pts nd k).length c).ownBlock ∨ ∃ b, (Value.slice A' n' c').ownBlock = some b ∧ w.heap.size ≤ b) := fun m => by
        have hsz : ((wr.alloc (.cells #[.int .u64 (atI nd k), .int .i64 nd] 81)).drewN m).heap.size = wr.heap.size + 1 := by simp [World.drewN]
        have h := Ins_any (p + 1) _ _ (nextN (addTo pts nd k) (atI nd k)) ⟨atI nd k, nd⟩ _ hN (HS1.out (.cells #[.int .u64 (atI nd k), .int .i64 nd] 81) m).row (by rw [hsz]; omega) (by omega)
        rw [hsz] at h
        have hws := HD.out.2.1.size
        refine h.mono fun e w' ⟨v', he, hr, hg, ha⟩ => ?_
        obtain ⟨A', c', rfl⟩ := Kd.R_slice hr
        refine ⟨A', _, c', he, hr, ⟨hg.os, hg.tape, hg.output, Nat.le_trans (by omega) hg.size, fun q hq hn => (hg.block q (by omega) hn).trans (Below.heap_alloc wr _ q hq)⟩, ?_⟩
        rcases ha with ha | ⟨b, hb, hle⟩
        · exact .inl ha
        · exact .inr ⟨b, hb, by omega⟩
      have HI := Lib.hid hins
      have hpv : some p ≠ (Value.slice A (addTo pts nd k).length c).ownBlock := fun e => by have := own_gt HD.out.1 e.symm; omega
      clear hins
      go_region_with (go_at_call 39; refine (HI.out _).mono ?_; rintro e w2 ⟨A', n', c', rfl, hr, hg, ha⟩; have HR := Lib.hid hr; have HG := Lib.hid hg; have HA := Lib.hid ha; have c3 : w2.cell? ⟨p, 1, none⟩ = some _ := hg.cell HD.out.1.cell1 hpv; have f3 : w2.frozen? ⟨p, 1, none⟩ = false := (World.frozen?_of_block (hg.block p hpr hpv)).trans (HD.out.1.fro 1); clear hr hg ha)
      all_goals
        go_wp2
        go_roundw
        case rel =>
          obtain ⟨h1, h2⟩ := HD.out.1.put HR.out HG.out
          refine ⟨k + 1, by omega, by go_num, _, h1, HD.out.2.1.trans' h2 fun q hq hm => ?_, ?_⟩
          · rcases hm with hm | hm
            · exact .inl hm
            · rcases HD.out.2.2 with e | ⟨b, e, hle⟩
              · exact .inr (e ▸ hm)
              · rw [e] at hm
                injection hm with hm
                omega
          · rcases HA.out with e | e
            · rcases HD.out.2.2 with e2 | ⟨b, e2, hle⟩
              · exact .inl (e.trans e2)
              · exact .inr ⟨b, e.trans e2, hle⟩
            · exact .inr e
        case measure => simp [intOf]; omega
    · obtain rfl : k = each := by omega
      go_wp2
      go_ret
      exact ⟨vk, rfl, HD.out.1, HD.out.2.1⟩
end Go.Proofs.YtndgjhhhggkdmaaDoor

namespace Go.Proofs.YtndgjhhhggkdmaaDoor
set_option linter.unusedVariables false
open Go.RowKit Go.Proofs.YtndgjhhhggkdmaaDoorW.PrintWords

theorem ErrIs.keep {w w' : World} {v : Value} {l : List (ByteArray × Int × Int)} (h : ErrIs w v l) (hm : ∀ (b : Nat) (op : ByteArray) (at_ c : Int) (u : Value), w.heap[b]? = some (faultO op at_ c u) → w'.heap[b]? = some (faultO op at_ c u)) : ErrIs w' v l := by
  induction h with
  | nil => exact .nil
  | new hb hc => exact .new (hm _ _ _ _ _ hb) hc
  | wrap hb _ hl ih => exact .wrap (hm _ _ _ _ _ hb) ih hl
theorem ErrIs.ring {w w' : World} {p : Nat} {each : Int} {v ev : Value} {pts : List Pt} {l : List (ByteArray × Int × Int)} (h : ErrIs w ev l) (hS : IsRg w p each v pts) (hc : Chg (rgM p v) w w') : ErrIs w' ev l := by
  refine h.keep fun b op at_ c u hb => (hc.block b (Array.getElem?_eq_some_iff.1 hb).1 ?_).trans hb
  rintro (rfl | hv)
  · have h1 := hS.head
    rw [hb] at h1
    simp [faultO] at h1
  · obtain ⟨inner, ho⟩ := Kd.R_own hS.row
    obtain ⟨cells, hcl⟩ := own_typed ho b hv
    rw [hb] at hcl
    simp [faultO] at hcl
/-- What Add comes to. -/
def addR (each : Nat) (pts : List Pt) (nd : Int) : List Pt := if 1 ≤ nd ∧ nd ≤ 16 ∧ hasN pts nd = false then addTo pts nd each else pts
def addC (pts : List Pt) (nd : Int) : Int := if nd < 1 ∨ 16 < nd then 2 else if hasN pts nd = true then 13 else 0
def remC (pts : List Pt) (nd : Int) : Int := if hasN pts nd = true then 0 else 9
theorem addR_rising {each : Nat} {pts : List Pt} (h : Rising pts) (nd : Int) : Rising (addR each pts nd) := by
  unfold addR
  split
  · exact addTo_rising h nd each
  · exact h
theorem addR_len (each : Nat) (pts : List Pt) (nd : Int) : (addR each pts nd).length ≤ pts.length + each := by
  unfold addR
  split
  · rw [addTo_len]; omega
  · omega
theorem dropN_len (pts : List Pt) (nd : Int) : (dropN pts nd).length ≤ pts.length := List.length_filter_le _ _

/-- The ring at p is the call's own (all blocks below the base are as they were). -/
structure RSt (w0 w : World) (base p : Nat) (each : Nat) (v : Value) (pts : List Pt) : Prop where
  rg : IsRg w p each v pts
  ris : Rising pts
  bel : Below base w0 w
  hb : base ≤ w.heap.size
  hp : base ≤ p
  he : each ≤ 64
namespace RSt
variable {w0 w w' : World} {base p each : Nat} {v v' : Value} {pts pts' : List Pt}
theorem later (h : RSt w0 w base p each v pts) (hb : Below w.heap.size w w') : RSt w0 w' base p each v pts :=
  ⟨h.rg.later hb, h.ris, h.bel.trans (hb.mono h.hb), Nat.le_trans h.hb hb.size, h.hp, h.he⟩
theorem drewN (h : RSt w0 w base p each v pts) (n : Nat) : RSt w0 (w.drewN n) base p each v pts := h.later (Drawn0.below ⟨n, rfl⟩)
theorem chg (h : RSt w0 w base p each v pts) (hc : Chg (rgM p v) w w') (hs : IsRg w' p each v' pts') (hr : Rising pts') : RSt w0 w' base p each v' pts' :=
  ⟨hs, hr, h.bel.chg h.hb hc (fun k hk => by
    rintro (rfl | hv)
    · have := h.hp; omega
    · have := (own_gt h.rg hv).1; have := h.hp; omega), Nat.le_trans h.hb hc.size, h.hp, h.he⟩
end RSt
theorem Add_st {w0 w : World} {base p each : Nat} {v : Value} {pts : List Pt} (h : RSt w0 w base p each v pts) (nd : Int) (hl : pts.length ≤ 100000) :
    Calls Tryd.prog 25 #[.pointer (some ⟨p, 0, none⟩), .int .i64 nd] w fun e w' => ∃ ev v' l, e = .returned ev ∧ RSt w0 w' base p each v' (addR each pts nd) ∧ Chg (rgM p v) w w' ∧ ErrIs w' ev l ∧ codeOf l = addC pts nd := by
  by_cases hb : (nd < 1 ∨ 16 < nd) ∨ hasN pts nd = true
  · refine (Add_bad p each v pts nd w h.rg hb).mono fun e w' ⟨ev, op, at_, he, hbl, herr⟩ => ⟨ev, v, _, he, ?_, Chg.of_below hbl, herr, ?_⟩
    · have : addR each pts nd = pts := by
        unfold addR
        rw [if_neg]
        rintro ⟨h1, h2, h3⟩
        rcases hb with hb | hb
        · omega
        · rw [hb] at h3; cases h3
      rw [this]
      exact h.later hbl
    · unfold addC
      by_cases h1 : nd < 1 ∨ 16 < nd
      · rw [if_pos h1, if_pos h1]; rfl
      · rw [if_neg h1, if_neg h1, if_pos (hb.resolve_left h1)]; rfl
  · have h1 : ¬ (nd < 1 ∨ 16 < nd) := fun e => hb (.inl e)
    have h2 : hasN pts nd = false := by
      cases hq : hasN pts nd with
      | false => rfl
      | true => exact absurd (.inr hq) hb
    refine (Add_ok p each v pts nd w h.rg h.ris (by omega) (by omega) h2 h.he hl).mono fun e w' ⟨v', he, hr, hc⟩ => ⟨.nilIface, v', [], he, ?_, hc, .nil, ?_⟩
    · have : addR each pts nd = addTo pts nd each := by
        unfold addR
        rw [if_pos ⟨by omega, by omega, h2⟩]
      rw [this]
      exact h.chg hc hr (addTo_rising h.ris nd each)
    · unfold addC
      rw [if_neg h1, if_neg (by rw [h2]; decide)]; rfl
/-! Ints, Has -/
theorem ints_f (l m : List Int) (hlm : l.length = m.length) (hl : l.length < 9223372036854775807) : ∀ (n k i : Nat), i + n = l.length → n < k → PR.butteryref02_Ints.l0 k l m i = some (decide (l.drop i = m.drop i))
  | 0, k + 1, i, h1, h2 => by
    rw [PR.butteryref02_Ints.l0, if_neg (by omega), List.drop_of_length_le (by omega), List.drop_of_length_le (by omega)]
    simp
  | n + 1, k + 1, i, h1, h2 => by
    have hi : i < l.length := by omega
    have hi2 : i < m.length := by omega
    have hr : rd l (i : Int) = l[i] := by simp [rd, hi]
    have hr2 : rd m (i : Int) = m[i] := by simp [rd, hi2]
    have hw : wrap64 ((i : Int) + 1) = ((i + 1 : Nat) : Int) := by unfold wrap64; omega
    rw [PR.butteryref02_Ints.l0, if_pos (by omega), if_pos (by omega), if_pos (by omega), hr, hr2, hw, List.drop_eq_getElem_cons hi, List.drop_eq_getElem_cons hi2]
    by_cases he : l[i] = m[i]
    · rw [if_pos he, ints_f l m hlm hl n k (i + 1) (by omega) (by omega)]
      exact congrArg some (decide_eq_decide.2 ⟨fun e => by rw [e, he], fun e => (List.cons.inj e).2⟩)
    · rw [if_neg he]
      exact congrArg some (decide_eq_false (fun e => he (List.cons.inj e).1)).symm
theorem ints_any (A B : Option Addr) (c d : Nat) (l m : List Int) (w : World) (hC : (Kd.int .i64).C w A l.length l) (hc : l.length ≤ c) (hD : (Kd.int .i64).C w B m.length m) (hd : m.length ≤ d) (hl : l.length < 1000000) :
    Calls Tryd.prog 13 #[.slice A l.length c, .slice B m.length d] w fun e w' => e = .returned (.bool (decide (l = m))) ∧ ∃ n, w' = w.drewN n := by
  refine (PR.butteryref02_Ints.calls (l.length + 2) A c l B d m (decide (l = m)) w hC hc hD hd ?_).mono fun e w' ⟨he, hdr⟩ => ⟨he, hdr.out⟩
  unfold PR.butteryref02_Ints.f
  by_cases hlm : l.length = m.length
  · rw [if_pos (by omega)]
    have := ints_f l m hlm (by omega) l.length (l.length + 2) 0 (by omega) (by omega)
    simpa using this
  · rw [if_neg (by omega)]
    have : ¬ l = m := fun e => hlm (by rw [e])
    simp [this]
theorem has_f (l : List Int) (a : Int) (hl : l.length < 9223372036854775807) : ∀ (n k i : Nat), i + n = l.length → n < k → PR.butteryref02_Has.l0 k l a i = some (decide (a ∈ l.drop i))
  | 0, k + 1, i, h1, h2 => by
    rw [PR.butteryref02_Has.l0, if_neg (by omega), List.drop_of_length_le (by omega)]
    simp
  | n + 1, k + 1, i, h1, h2 => by
    have hi : i < l.length := by omega
    have hr : rd l (i : Int) = l[i] := by simp [rd, hi]
    have hw : wrap64 ((i : Int) + 1) = ((i + 1 : Nat) : Int) := by unfold wrap64; omega
    rw [PR.butteryref02_Has.l0, if_pos (by omega), if_pos (by omega), hr, hw, List.drop_eq_getElem_cons hi]
    by_cases he : l[i] = a
    · rw [if_pos he]
      simp [he]
    · rw [if_neg he, has_f l a hl n k (i + 1) (by omega) (by omega)]
      have he2 : ¬ a = l[i] := fun e => he e.symm
      exact congrArg some (decide_eq_decide.2 ⟨List.mem_cons_of_mem _, fun e => (List.mem_cons.1 e).resolve_left he2⟩)
theorem refhas_f (l : List Int) (a : Int) (hl : l.length < 9223372036854775807) : PR.butteryref02_Has.f (l.length + 1) l a = some (decide (a ∈ l)) := by
  unfold PR.butteryref02_Has.f
  have := has_f l a hl l.length (l.length + 1) 0 (by omega) (by omega)
  simpa using this
theorem refhas_any (A : Option Addr) (c : Nat) (l : List Int) (a : Int) (w : World) (hC : (Kd.int .i64).C w A l.length l) (hc : l.length ≤ c) (hl : l.length < 1000000) :
    Calls Tryd.prog 33 #[.slice A l.length c, .int .i64 a] w fun e w' => e = .returned (.bool (decide (a ∈ l))) ∧ ∃ n, w' = w.drewN n :=
  (PR.butteryref02_Has.calls (l.length + 1) A c l a _ w hC hc (refhas_f l a (by omega))).mono fun e w' ⟨he, hdr⟩ => ⟨he, hdr.out⟩

/-! short -/
def shortB (ss : List ByteArray) : Bool := decide (ss.length ≤ 20 ∧ ∀ s ∈ ss, s.size ≤ 100)
theorem short_f (l : List ByteArray) (hl : l.length < 9223372036854775807) : ∀ (n k i : Nat), i + n = l.length → n < k → PR.butterylaw34_short.l0 k l i = some (decide (∀ s ∈ l.drop i, s.size ≤ 100))
  | 0, k + 1, i, h1, h2 => by
    rw [PR.butterylaw34_short.l0, if_neg (by omega), List.drop_of_length_le (by omega)]
    simp
  | n + 1, k + 1, i, h1, h2 => by
    have hi : i < l.length := by omega
    have hr : rdOf ByteArray.empty l (i : Int) = l[i] := by simp [rdOf, hi]
    have hw : wrap64 ((i : Int) + 1) = ((i + 1 : Nat) : Int) := by unfold wrap64; omega
    rw [PR.butterylaw34_short.l0, if_pos (by omega), if_pos (by omega), hr, hw, List.drop_eq_getElem_cons hi]
    by_cases he : (l[i].size : Int) > 100
    · rw [if_pos he]
      refine congrArg some (decide_eq_false ?_).symm
      intro h
      have := h l[i] List.mem_cons_self
      omega
    · rw [if_neg he, short_f l hl n k (i + 1) (by omega) (by omega)]
      refine congrArg some (decide_eq_decide.2 ⟨fun h s hs => ?_, fun h s hs => h s (List.mem_cons_of_mem _ hs)⟩)
      rcases List.mem_cons.1 hs with rfl | hs
      · omega
      · exact h s hs
theorem short_any (A : Option Addr) (c : Nat) (ss : List ByteArray) (w : World) (hC : Kd.string.C w A ss.length ss) (hc : ss.length ≤ c) :
    Calls Tryd.prog 6 #[.slice A ss.length c] w fun e w' => e = .returned (.bool (shortB ss)) ∧ ∃ n, w' = w.drewN n := by
  refine (PR.butterylaw34_short.calls (ss.length + 1) A c ss (shortB ss) w hC hc ?_).mono fun e w' ⟨he, hdr⟩ => ⟨he, hdr.out⟩
  unfold PR.butterylaw34_short.f shortB
  have h63 : ss.length ≤ 9223372036854775807 := hC.2.1
  by_cases hlm : (ss.length : Int) > 20
  · rw [if_pos hlm]
    exact congrArg some (decide_eq_false (fun h => by have := h.1; omega)).symm
  · rw [if_neg hlm]
    have := short_f ss (by omega) ss.length (ss.length + 1) 0 (by omega) (by omega)
    rw [show ((0 : Nat) : Int) = 0 from rfl, List.drop_zero] at this
    rw [this]
    exact congrArg some (decide_eq_decide.2 ⟨fun h => ⟨by omega, h⟩, fun h => h.2⟩)
/-- A list that is written out. -/
theorem C_lit {α : Type} {enc : α → Value} {h1 : ∀ x, (enc x).oneCell' = true} (w : World) (l : List α) (t : TypeId) (hl : l.length ≤ 9223372036854775807) : (Kd.scalar enc h1).C (w.alloc (.cells (l.map enc).toArray t)) (some ⟨w.heap.size, 0, none⟩) l.length l := by
  refine ⟨rfl, hl, fun _ => ⟨_, rfl, fun j p hj => ⟨[enc p], rfl, rfl, fun i u hu => ?_⟩⟩⟩
  rcases i with _ | i
  · have : enc p = u := by simpa using hu
    subst this
    rw [addr_add, cell_row (heap_alloc_new w _)]
    obtain ⟨hj1, rfl⟩ := List.getElem?_eq_some_iff.1 hj
    simp [Kd.scalar, hj1]
  · simp at hu

/-! the document's At; a few values -/
def refAtI (node i : Int) : Int := mixI (IntKind.u64.wrap (IntKind.u64.wrap (IntKind.u64.wrap node * 256) + IntKind.u64.wrap i))
theorem wrap_in (a : Int) (h0 : 0 ≤ a) (h1 : a < 18446744073709551616) : IntKind.u64.wrap a = a := by
  rw [IntKind.wrap_u64]
  omega
theorem fold_eq (a : Int) (h0 : 0 ≤ a) (h1 : a < 18446744073709551616) : PR.butteryref07_fold.f a = some (foldI a) := by
  unfold PR.butteryref07_fold.f foldI
  rw [Int.tdiv_eq_ediv_of_nonneg h0, wrap_in (a / 8589934592) (by omega) (by omega)]
theorem refmix_f (a : Int) (h0 : 0 ≤ a) (h1 : a < 18446744073709551616) : PR.butteryref07_Mix.f a = some (mixI a) := by
  unfold PR.butteryref07_Mix.f mixI
  have b1 := wrapu_bd (foldI a * 18397679294719823053)
  have b2 := wrapu_bd (foldI (IntKind.u64.wrap (foldI a * 18397679294719823053)) * 14181476777654086739)
  rw [fold_eq a h0 h1, Option.bind_some, fold_eq _ b1.1 b1.2, Option.bind_some, fold_eq _ b2.1 b2.2, Option.bind_some]
theorem refat_f (node i : Int) : PR.butteryref22_At.f node i = some (refAtI node i) := by
  unfold PR.butteryref22_At.f refAtI
  have b1 := wrapu_bd (IntKind.u64.wrap (IntKind.u64.wrap node * 256) + IntKind.u64.wrap i)
  rw [refmix_f _ b1.1 b1.2, Option.bind_some]
theorem refat_any (node i : Int) (w : World) :
    Calls Tryd.prog 57 #[.int .i64 node, .int .i64 i] w fun e w' => e = .returned (.int .u64 (refAtI node i)) ∧ ∃ n, w' = w.drewN n :=
  (PR.butteryref22_At.calls node i _ w (refat_f node i)).mono fun e w' ⟨he, hdr⟩ => ⟨he, hdr.out⟩

theorem short_mem {ss : List ByteArray} (h : shortB ss = true) {k : Nat} (hk : k < ss.length) : (sget ss k).size ≤ maxLen := by
  have h2 : ss.length ≤ 20 ∧ ∀ s ∈ ss, s.size ≤ 100 := of_decide_eq_true h
  have := h2.2 (sget ss k) (by rw [sget_eq hk]; exact List.getElem_mem hk)
  have : 100 ≤ maxLen := by decide
  omega
theorem short_len {ss : List ByteArray} (h : shortB ss = true) : ss.length ≤ 20 := by
  have h2 : ss.length ≤ 20 ∧ ∀ s ∈ ss, s.size ≤ 100 := of_decide_eq_true h
  exact h2.1
end Go.Proofs.YtndgjhhhggkdmaaDoor
namespace Go.Proofs.YtndgjhhhggkdmaaDoor
set_option linter.unusedVariables false
open Go.RowKit Go.Proofs.YtndgjhhhggkdmaaDoorW.PrintWords

abbrev sK : ByteArray := ⟨#[107]⟩
theorem hk : hashI sK = 3144699640775901285 := by decide +kernel
def P0 : List Pt := []
theorem at_3_0 : atI 3 (0 : Nat) = 7622081820967644264 := by decide +kernel
def Q3_1 : List Pt := [⟨7622081820967644264, 3⟩]
theorem put_3_0 : put P0 ⟨7622081820967644264, 3⟩ = Q3_1 := by decide +kernel
theorem at_3_1 : atI 3 (1 : Nat) = 14535176373112485973 := by decide +kernel
def Q3_2 : List Pt := [⟨7622081820967644264, 3⟩, ⟨14535176373112485973, 3⟩]
theorem put_3_1 : put Q3_1 ⟨14535176373112485973, 3⟩ = Q3_2 := by decide +kernel
theorem at_3_2 : atI 3 (2 : Nat) = 8948304144762494505 := by decide +kernel
def Q3_3 : List Pt := [⟨7622081820967644264, 3⟩, ⟨8948304144762494505, 3⟩, ⟨14535176373112485973, 3⟩]
theorem put_3_2 : put Q3_2 ⟨8948304144762494505, 3⟩ = Q3_3 := by decide +kernel
theorem at_3_3 : atI 3 (3 : Nat) = 6628254330794333529 := by decide +kernel
def Q3_4 : List Pt := [⟨6628254330794333529, 3⟩, ⟨7622081820967644264, 3⟩, ⟨8948304144762494505, 3⟩, ⟨14535176373112485973, 3⟩]
theorem put_3_3 : put Q3_3 ⟨6628254330794333529, 3⟩ = Q3_4 := by decide +kernel
theorem at_3_4 : atI 3 (4 : Nat) = 9341303862814529546 := by decide +kernel
def Q3_5 : List Pt := [⟨6628254330794333529, 3⟩, ⟨7622081820967644264, 3⟩, ⟨8948304144762494505, 3⟩, ⟨9341303862814529546, 3⟩, ⟨14535176373112485973, 3⟩]
theorem put_3_4 : put Q3_4 ⟨9341303862814529546, 3⟩ = Q3_5 := by decide +kernel
theorem at_3_5 : atI 3 (5 : Nat) = 645423428335969346 := by decide +kernel
def Q3_6 : List Pt := [⟨645423428335969346, 3⟩, ⟨6628254330794333529, 3⟩, ⟨7622081820967644264, 3⟩, ⟨8948304144762494505, 3⟩, ⟨9341303862814529546, 3⟩, ⟨14535176373112485973, 3⟩]
theorem put_3_5 : put Q3_5 ⟨645423428335969346, 3⟩ = Q3_6 := by decide +kernel
theorem at_3_6 : atI 3 (6 : Nat) = 10221347248841536490 := by decide +kernel
def Q3_7 : List Pt := [⟨645423428335969346, 3⟩, ⟨6628254330794333529, 3⟩, ⟨7622081820967644264, 3⟩, ⟨8948304144762494505, 3⟩, ⟨9341303862814529546, 3⟩, ⟨10221347248841536490, 3⟩, ⟨14535176373112485973, 3⟩]
theorem put_3_6 : put Q3_6 ⟨10221347248841536490, 3⟩ = Q3_7 := by decide +kernel
theorem at_3_7 : atI 3 (7 : Nat) = 12224148383553744956 := by decide +kernel
def Q3_8 : List Pt := [⟨645423428335969346, 3⟩, ⟨6628254330794333529, 3⟩, ⟨7622081820967644264, 3⟩, ⟨8948304144762494505, 3⟩, ⟨9341303862814529546, 3⟩, ⟨10221347248841536490, 3⟩, ⟨12224148383553744956, 3⟩, ⟨14535176373112485973, 3⟩]
theorem put_3_7 : put Q3_7 ⟨12224148383553744956, 3⟩ = Q3_8 := by decide +kernel
theorem add_3 : addTo P0 3 8 = Q3_8 := by
  have h0 : addTo P0 3 0 = P0 := rfl
  have h1 : addTo P0 3 1 = Q3_1 := by rw [addTo, h0, at_3_0, put_3_0]
  have h2 : addTo P0 3 2 = Q3_2 := by rw [addTo, h1, at_3_1, put_3_1]
  have h3 : addTo P0 3 3 = Q3_3 := by rw [addTo, h2, at_3_2, put_3_2]
  have h4 : addTo P0 3 4 = Q3_4 := by rw [addTo, h3, at_3_3, put_3_3]
  have h5 : addTo P0 3 5 = Q3_5 := by rw [addTo, h4, at_3_4, put_3_4]
  have h6 : addTo P0 3 6 = Q3_6 := by rw [addTo, h5, at_3_5, put_3_5]
  have h7 : addTo P0 3 7 = Q3_7 := by rw [addTo, h6, at_3_6, put_3_6]
  have h8 : addTo P0 3 8 = Q3_8 := by rw [addTo, h7, at_3_7, put_3_7]
  exact h8
theorem at_4_0 : atI 4 (0 : Nat) = 15224846946796682623 := by decide +kernel
def Q4_1 : List Pt := [⟨645423428335969346, 3⟩, ⟨6628254330794333529, 3⟩, ⟨7622081820967644264, 3⟩, ⟨8948304144762494505, 3⟩, ⟨9341303862814529546, 3⟩, ⟨10221347248841536490, 3⟩, ⟨12224148383553744956, 3⟩, ⟨14535176373112485973, 3⟩, ⟨15224846946796682623, 4⟩]
theorem put_4_0 : put Q3_8 ⟨15224846946796682623, 4⟩ = Q4_1 := by decide +kernel
theorem at_4_1 : atI 4 (1 : Nat) = 16975748779729145944 := by decide +kernel
def Q4_2 : List Pt := [⟨645423428335969346, 3⟩, ⟨6628254330794333529, 3⟩, ⟨7622081820967644264, 3⟩, ⟨8948304144762494505, 3⟩, ⟨9341303862814529546, 3⟩, ⟨10221347248841536490, 3⟩, ⟨12224148383553744956, 3⟩, ⟨14535176373112485973, 3⟩, ⟨15224846946796682623, 4⟩, ⟨16975748779729145944, 4⟩]
theorem put_4_1 : put Q4_1 ⟨16975748779729145944, 4⟩ = Q4_2 := by decide +kernel
theorem at_4_2 : atI 4 (2 : Nat) = 385622916566008327 := by decide +kernel
def Q4_3 : List Pt := [⟨385622916566008327, 4⟩, ⟨645423428335969346, 3⟩, ⟨6628254330794333529, 3⟩, ⟨7622081820967644264, 3⟩, ⟨8948304144762494505, 3⟩, ⟨9341303862814529546, 3⟩, ⟨10221347248841536490, 3⟩, ⟨12224148383553744956, 3⟩, ⟨14535176373112485973, 3⟩, ⟨15224846946796682623, 4⟩, ⟨16975748779729145944, 4⟩]
theorem put_4_2 : put Q4_2 ⟨385622916566008327, 4⟩ = Q4_3 := by decide +kernel
theorem at_4_3 : atI 4 (3 : Nat) = 4643413311380973660 := by decide +kernel
def Q4_4 : List Pt := [⟨385622916566008327, 4⟩, ⟨645423428335969346, 3⟩, ⟨4643413311380973660, 4⟩, ⟨6628254330794333529, 3⟩, ⟨7622081820967644264, 3⟩, ⟨8948304144762494505, 3⟩, ⟨9341303862814529546, 3⟩, ⟨10221347248841536490, 3⟩, ⟨12224148383553744956, 3⟩, ⟨14535176373112485973, 3⟩, ⟨15224846946796682623, 4⟩, ⟨16975748779729145944, 4⟩]
theorem put_4_3 : put Q4_3 ⟨4643413311380973660, 4⟩ = Q4_4 := by decide +kernel
theorem at_4_4 : atI 4 (4 : Nat) = 18213529100696725377 := by decide +kernel
def Q4_5 : List Pt := [⟨385622916566008327, 4⟩, ⟨645423428335969346, 3⟩, ⟨4643413311380973660, 4⟩, ⟨6628254330794333529, 3⟩, ⟨7622081820967644264, 3⟩, ⟨8948304144762494505, 3⟩, ⟨9341303862814529546, 3⟩, ⟨10221347248841536490, 3⟩, ⟨12224148383553744956, 3⟩, ⟨14535176373112485973, 3⟩, ⟨15224846946796682623, 4⟩, ⟨16975748779729145944, 4⟩, ⟨18213529100696725377, 4⟩]
theorem put_4_4 : put Q4_4 ⟨18213529100696725377, 4⟩ = Q4_5 := by decide +kernel
theorem at_4_5 : atI 4 (5 : Nat) = 8816249413729439109 := by decide +kernel
def Q4_6 : List Pt := [⟨385622916566008327, 4⟩, ⟨645423428335969346, 3⟩, ⟨4643413311380973660, 4⟩, ⟨6628254330794333529, 3⟩, ⟨7622081820967644264, 3⟩, ⟨8816249413729439109, 4⟩, ⟨8948304144762494505, 3⟩, ⟨9341303862814529546, 3⟩, ⟨10221347248841536490, 3⟩, ⟨12224148383553744956, 3⟩, ⟨14535176373112485973, 3⟩, ⟨15224846946796682623, 4⟩, ⟨16975748779729145944, 4⟩, ⟨18213529100696725377, 4⟩]
theorem put_4_5 : put Q4_5 ⟨8816249413729439109, 4⟩ = Q4_6 := by decide +kernel
theorem at_4_6 : atI 4 (6 : Nat) = 159690568783928856 := by decide +kernel
def Q4_7 : List Pt := [⟨159690568783928856, 4⟩, ⟨385622916566008327, 4⟩, ⟨645423428335969346, 3⟩, ⟨4643413311380973660, 4⟩, ⟨6628254330794333529, 3⟩, ⟨7622081820967644264, 3⟩, ⟨8816249413729439109, 4⟩, ⟨8948304144762494505, 3⟩, ⟨9341303862814529546, 3⟩, ⟨10221347248841536490, 3⟩, ⟨12224148383553744956, 3⟩, ⟨14535176373112485973, 3⟩, ⟨15224846946796682623, 4⟩, ⟨16975748779729145944, 4⟩, ⟨18213529100696725377, 4⟩]
theorem put_4_6 : put Q4_6 ⟨159690568783928856, 4⟩ = Q4_7 := by decide +kernel
theorem at_4_7 : atI 4 (7 : Nat) = 14313280227428397387 := by decide +kernel
def Q4_8 : List Pt := [⟨159690568783928856, 4⟩, ⟨385622916566008327, 4⟩, ⟨645423428335969346, 3⟩, ⟨4643413311380973660, 4⟩, ⟨6628254330794333529, 3⟩, ⟨7622081820967644264, 3⟩, ⟨8816249413729439109, 4⟩, ⟨8948304144762494505, 3⟩, ⟨9341303862814529546, 3⟩, ⟨10221347248841536490, 3⟩, ⟨12224148383553744956, 3⟩, ⟨14313280227428397387, 4⟩, ⟨14535176373112485973, 3⟩, ⟨15224846946796682623, 4⟩, ⟨16975748779729145944, 4⟩, ⟨18213529100696725377, 4⟩]
theorem put_4_7 : put Q4_7 ⟨14313280227428397387, 4⟩ = Q4_8 := by decide +kernel
theorem add_4 : addTo Q3_8 4 8 = Q4_8 := by
  have h0 : addTo Q3_8 4 0 = Q3_8 := rfl
  have h1 : addTo Q3_8 4 1 = Q4_1 := by rw [addTo, h0, at_4_0, put_4_0]
  have h2 : addTo Q3_8 4 2 = Q4_2 := by rw [addTo, h1, at_4_1, put_4_1]
  have h3 : addTo Q3_8 4 3 = Q4_3 := by rw [addTo, h2, at_4_2, put_4_2]
  have h4 : addTo Q3_8 4 4 = Q4_4 := by rw [addTo, h3, at_4_3, put_4_3]
  have h5 : addTo Q3_8 4 5 = Q4_5 := by rw [addTo, h4, at_4_4, put_4_4]
  have h6 : addTo Q3_8 4 6 = Q4_6 := by rw [addTo, h5, at_4_5, put_4_5]
  have h7 : addTo Q3_8 4 7 = Q4_7 := by rw [addTo, h6, at_4_6, put_4_6]
  have h8 : addTo Q3_8 4 8 = Q4_8 := by rw [addTo, h7, at_4_7, put_4_7]
  exact h8
theorem has_a : hasN P0 3 = false ∧ hasN Q3_8 3 = true ∧ hasN Q3_8 4 = false ∧ hasN Q4_8 9 = false := by decide +kernel
theorem wk_0 : ownerN P0 (hashI sK) = 0 := by rw [hk]; decide +kernel
theorem wk_1 : addR 8 P0 3 = Q3_8 ∧ addC P0 3 = 0 := ⟨by unfold addR; rw [if_pos ⟨by omega, by omega, has_a.1⟩, add_3], by decide +kernel⟩
theorem wk_2 : addR 8 Q3_8 3 = Q3_8 ∧ addC Q3_8 3 = 13 := ⟨by unfold addR; rw [if_neg (by rw [has_a.2.1]; decide)], by decide +kernel⟩
theorem wk_3 : addR 8 Q3_8 4 = Q4_8 ∧ addC Q3_8 4 = 0 := ⟨by unfold addR; rw [if_pos ⟨by omega, by omega, has_a.2.2.1⟩, add_4], by decide +kernel⟩
theorem wk_4 : (ownersN Q4_8 (hashI sK) 5).length = 2 := by rw [hk]; decide +kernel
theorem wk_5 : nodesN Q4_8 17 = [3, 4] := by decide +kernel
theorem wk_6 : shareN Q4_8 3 [sK] = 0 ∧ shareN Q4_8 4 [sK] = 1 := by
  simp only [shareN, hk]
  decide +kernel
theorem wk_7 : atI 1 2 = refAtI 1 2 := by decide +kernel
theorem wk_8 : remC Q4_8 9 = 9 ∧ Q3_8.length = 8 ∧ Q4_8.length = 16 := by decide +kernel
end Go.Proofs.YtndgjhhhggkdmaaDoor
namespace Go.Proofs.YtndgjhhhggkdmaaDoor
set_option linter.unusedVariables false
open Go.RowKit Go.Proofs.YtndgjhhhggkdmaaDoorW.PrintWords

theorem RSt.new {w0 w w' : World} {base n : Nat} (hb : Below base w0 w) (hs : base ≤ w.heap.size) (h1 : IsRg w' w.heap.size n (.slice none 0 0) []) (h2 : Below w.heap.size w w') (hn : n ≤ 64) : RSt w0 w' base w.heap.size n (.slice none 0 0) [] :=
  ⟨h1, .nil, hb.trans (h2.mono hs), Nat.le_trans hs h2.size, hs, hn⟩
theorem New_st {w0 w : World} {base : Nat} (hb : Below base w0 w) (hs : base ≤ w.heap.size) (n : Nat) (z : Int) (hz : z = n) (h1 : 1 ≤ n) (h2 : n ≤ 64) :
    Calls Tryd.prog 23 #[.int .i64 z] w fun e w' => e = .returned (.tuple #[.pointer (some ⟨w.heap.size, 0, none⟩), .nilIface]) ∧ RSt w0 w' base w.heap.size n (.slice none 0 0) [] ∧ Below w.heap.size w w' := by
  subst hz
  exact (New_ok n w (by omega) (by omega)).mono fun e w' ⟨he, h3, h4, h5⟩ => ⟨he, RSt.new hb hs h3 h4 h2, h4⟩
theorem hg_pos {w : World} (h : HG w) : 0 < w.heap.size := by
  rcases Nat.eq_zero_or_pos w.heap.size with h0 | h0
  · exact absurd (World.block_lt_of_cell? w _ h) (by omega)
  · exact h0
theorem ErrIs.code {w : World} {v : Value} {l : List (ByteArray × Int × Int)} (h : ErrIs w v l) : (v = .nilIface ∧ codeOf l = 0) ∨ (∃ b, v = faultV b ∧ codeOf l ≠ 0) := by
  induction h with
  | nil => exact .inl ⟨rfl, rfl⟩
  | @new b op at_ c hb hc => exact .inr ⟨b, rfl, by simp [codeOf, hc]⟩
  | @wrap b op at_ u l hb hu hl ih =>
    refine .inr ⟨b, rfl, ?_⟩
    rcases ih with ⟨h1, h2⟩ | ⟨b', h1, h2⟩
    · subst h1
      exact absurd (by cases hu; rfl) hl
    · simpa [codeOf] using h2
theorem ErrIs.none {w : World} {v : Value} {l : List (ByteArray × Int × Int)} (h : ErrIs w v l) (hc : codeOf l = 0) : v = .nilIface := by
  rcases h.code with ⟨h1, _⟩ | ⟨b, _, h2⟩
  · exact h1
  · exact absurd hc h2
theorem ErrIs.some {w : World} {v : Value} {l : List (ByteArray × Int × Int)} (h : ErrIs w v l) (hc : codeOf l ≠ 0) : ∃ b, v = faultV b := by
  rcases h.code with ⟨_, h1⟩ | ⟨b, h1, _⟩
  · exact absurd h1 hc
  · exact ⟨b, h1⟩
theorem hk_len : sK.size ≤ maxLen := by show 1 ≤ maxLen; decide
theorem RSt.hg {w0 w : World} {base p each : Nat} {v : Value} {pts : List Pt} (h : RSt w0 w base p each v pts) (hg : HG w0) (h0 : 0 < base) : HG w := hg.below' h.bel h0

end Go.Proofs.YtndgjhhhggkdmaaDoor
namespace Go.Proofs.YtndgjhhhggkdmaaDoor
set_option linter.unusedVariables false
open Go.RowKit Go.Proofs.YtndgjhhhggkdmaaDoorW.PrintWords

/-- The nodes that are met from point N on, each once. -/
def ded (L : List Pt) (N : Nat) : Nat → List Int
  | 0 => []
  | i + 1 => if (pget L ((N + i) % L.length)).node ∈ ded L N i then ded L N i else ded L N i ++ [(pget L ((N + i) % L.length)).node]
theorem ownTo_ded (L : List Pt) (N : Nat) (most : Int) : ∀ i, ownTo L N most i = (ded L N i).take most.toNat
  | 0 => by simp [ownTo, ded]
  | i + 1 => by
    have ih := ownTo_ded L N most i
    have hl : (ownTo L N most i).length = min most.toNat (ded L N i).length := by rw [ih, List.length_take]
    rw [ownTo, ded]
    by_cases h : most ≤ (ownTo L N most i).length
    · rw [if_pos h, ih]
      have h2 : most.toNat ≤ (ded L N i).length := by omega
      split
      · rfl
      · rw [List.take_append_of_le_length h2]
    · rw [if_neg h]
      have h2 : ownTo L N most i = ded L N i := by rw [ih]; exact List.take_of_length_le (by omega)
      rw [h2]
      split
      · rw [List.take_of_length_le (by omega)]
      · rw [List.take_of_length_le (by simp; omega)]
theorem ded_nodup (L : List Pt) (N : Nat) : ∀ i, (ded L N i).Nodup
  | 0 => List.nodup_nil
  | i + 1 => by
    rw [ded]
    split
    · exact ded_nodup L N i
    · rename_i h
      rw [List.nodup_append]
      refine ⟨ded_nodup L N i, by simp, fun a ha b hb => ?_⟩
      rw [List.mem_singleton.1 hb]
      exact fun e => h (e ▸ ha)
theorem mem_ded (L : List Pt) (N : Nat) (x : Int) : ∀ i, x ∈ ded L N i ↔ ∃ j, j < i ∧ (pget L ((N + j) % L.length)).node = x
  | 0 => by simp [ded]
  | i + 1 => by
    have ih := mem_ded L N x i
    have hs : x ∈ ded L N (i + 1) ↔ x ∈ ded L N i ∨ (pget L ((N + i) % L.length)).node = x := by
      rw [ded]
      split
      · rename_i h
        exact ⟨.inl, fun e => e.elim id (fun e => e ▸ h)⟩
      · rw [List.mem_append, List.mem_singleton]
        exact or_congr Iff.rfl ⟨Eq.symm, Eq.symm⟩
    rw [hs, ih]
    constructor
    · rintro (⟨j, hj, e⟩ | e)
      · exact ⟨j, by omega, e⟩
      · exact ⟨i, by omega, e⟩
    · rintro ⟨j, hj, e⟩
      by_cases h : j = i
      · subst h; exact .inr e
      · exact .inl ⟨j, by omega, e⟩
theorem has_iff {L : List Pt} {x : Int} : hasN L x = true ↔ ∃ y ∈ L, y.node = x := by
  unfold hasN
  rw [List.any_eq_true]
  exact ⟨fun ⟨y, h, e⟩ => ⟨y, h, by simpa using e⟩, fun ⟨y, h, e⟩ => ⟨y, h, by simpa using e⟩⟩
theorem mem_ded_all (L : List Pt) (N : Nat) (x : Int) : x ∈ ded L N L.length ↔ hasN L x = true := by
  rw [mem_ded, has_iff]
  constructor
  · rintro ⟨j, hj, e⟩
    have hm : (N + j) % L.length < L.length := Nat.mod_lt _ (by omega)
    exact ⟨L[(N + j) % L.length], List.getElem_mem hm, by rw [← e, pget_eq hm]⟩
  · rintro ⟨y, hy, e⟩
    obtain ⟨m, hm, rfl⟩ := List.getElem_of_mem hy
    have hr : N % L.length < L.length := Nat.mod_lt _ (by omega)
    refine ⟨(m + L.length - N % L.length) % L.length, Nat.mod_lt _ (by omega), ?_⟩
    have hmm : (N + (m + L.length - N % L.length) % L.length) % L.length = m := by
      rw [Nat.add_mod, Nat.mod_mod, ← Nat.add_mod, show N + (m + L.length - N % L.length) = m + L.length * (N / L.length + 1) by
        have := Nat.div_add_mod N L.length
        rw [Nat.mul_add]
        omega, Nat.add_mul_mod_self_left, Nat.mod_eq_of_lt hm]
    rw [hmm, pget_eq hm, e]
/-- All points are of nodes that may be. -/
def NodesOk (L : List Pt) : Prop := ∀ y ∈ L, 1 ≤ y.node ∧ y.node ≤ 16
theorem mem_nodes {L : List Pt} (h : NodesOk L) (x : Int) : x ∈ nodesN L 17 ↔ hasN L x = true := by
  unfold nodesN
  rw [List.mem_filter, List.mem_map]
  refine ⟨fun e => e.2, fun e => ⟨?_, e⟩⟩
  obtain ⟨y, hy, rfl⟩ := has_iff.1 e
  have := h y hy
  exact ⟨y.node.toNat, by rw [List.mem_range]; omega, by omega⟩
theorem nodes_nodup (L : List Pt) (n : Nat) : (nodesN L n).Nodup := by
  induction n with
  | zero => exact List.nodup_nil
  | succ n ih =>
    rw [nodes_succ]
    split
    · rw [List.nodup_append]
      refine ⟨ih, by simp, fun a ha b hb => ?_⟩
      rw [List.mem_singleton.1 hb]
      unfold nodesN at ha
      obtain ⟨k, hk, rfl⟩ := List.mem_map.1 (List.mem_filter.1 ha).1
      rw [List.mem_range] at hk
      omega
    · exact ih
theorem ded_len {L : List Pt} (h : NodesOk L) (N : Nat) : (ded L N L.length).length = (nodesN L 17).length := by
  refine ((List.perm_ext_iff_of_nodup (ded_nodup L N _) (nodes_nodup L 17)).2 fun x => ?_).length_eq
  rw [mem_ded_all, mem_nodes h]
theorem owners_take (L : List Pt) (h most : Int) : ownersN L h most = (ded L (nextN L h) L.length).take most.toNat := ownTo_ded _ _ _ _
theorem owners_len {L : List Pt} (h : NodesOk L) (a most : Int) : (ownersN L a most).length = min most.toNat (nodesN L 17).length := by
  rw [owners_take, List.length_take, ded_len h]
theorem owners_prefix (L : List Pt) (a : Int) (n : Nat) : (ownersN L a ((n : Int) + 1)).take (ownersN L a n).length = ownersN L a n := by
  rw [owners_take, owners_take, List.take_take, List.length_take, show ((n : Int)).toNat = n by omega, show ((n : Int) + 1).toNat = n + 1 by omega, List.take_eq_take_iff]
  omega
theorem owners_nodup (L : List Pt) (a most : Int) : (ownersN L a most).Nodup := by
  rw [owners_take]
  exact (List.take_sublist _ _).nodup (ded_nodup _ _ _)
theorem owners_mem {L : List Pt} (h : NodesOk L) {a most x : Int} (hx : x ∈ ownersN L a most) : x ∈ nodesN L 17 := by
  rw [owners_take] at hx
  rw [mem_nodes h]
  exact (mem_ded_all _ _ _).1 (List.mem_of_mem_take hx)
theorem addTo_ok {L : List Pt} (h : NodesOk L) {nd : Int} (h1 : 1 ≤ nd) (h2 : nd ≤ 16) (i : Nat) : NodesOk (addTo L nd i) := by
  intro y hy
  rcases mem_addTo.1 hy with hy | ⟨j, _, rfl⟩
  · exact h y hy
  · exact ⟨h1, h2⟩
theorem addR_ok {L : List Pt} (h : NodesOk L) (each : Nat) (nd : Int) : NodesOk (addR each L nd) := by
  unfold addR
  split
  · rename_i hh
    exact addTo_ok h hh.1 hh.2.1 _
  · exact h
theorem dropN_ok {L : List Pt} (h : NodesOk L) (nd : Int) : NodesOk (dropN L nd) := fun y hy => h y ((List.mem_filter.1 hy).1)
end Go.Proofs.YtndgjhhhggkdmaaDoor
namespace Go.Proofs.YtndgjhhhggkdmaaDoor
set_option linter.unusedVariables false
open Go.RowKit Go.Proofs.YtndgjhhhggkdmaaDoorW.PrintWords

theorem ded_head (L : List Pt) (N : Nat) : ∀ i, (ded L N (i + 1)).headD 0 = (pget L (N % L.length)).node ∧ ded L N (i + 1) ≠ []
  | 0 => by simp [ded]
  | i + 1 => by
    obtain ⟨h1, h2⟩ := ded_head L N i
    rw [ded]
    split
    · exact ⟨h1, h2⟩
    · obtain ⟨x, r, e⟩ := List.exists_cons_of_ne_nil h2
      rw [e] at h1 ⊢
      exact ⟨h1, by simp⟩
theorem owner_eq (L : List Pt) (h : Int) : ownerN L h = if L.length = 0 then 0 else (pget L (nextN L h % L.length)).node := by
  unfold ownerN
  rw [owners_take]
  cases hl : L.length with
  | zero => simp [ded]
  | succ n =>
    obtain ⟨h1, h2⟩ := ded_head L (nextN L h) n
    rw [if_neg (by omega)]
    obtain ⟨x, r, e⟩ := List.exists_cons_of_ne_nil h2
    rw [e] at h1 ⊢
    rw [← hl, ← h1]
    rfl
theorem pget_ins (L : List Pt) (K : Nat) (x : Pt) (hK : K ≤ L.length) (j : Nat) : pget (ins L K x) j = if j < K then pget L j else if j = K then x else pget L (j - 1) := by
  unfold pget ins
  have hl : (L.take K).length = K := by rw [List.length_take]; omega
  simp only [List.getD_eq_getElem?_getD]
  by_cases h1 : j < K
  · rw [if_pos h1, List.getElem?_append_left (by omega), List.getElem?_take, if_pos h1]
  · rw [if_neg h1, List.getElem?_append_right (by omega), hl]
    by_cases h2 : j = K
    · rw [if_pos h2, show j - K = 0 by omega]
      rfl
    · rw [if_neg h2]
      obtain ⟨m, hm⟩ : ∃ m, j - K = m + 1 := ⟨j - K - 1, by omega⟩
      rw [hm, List.getElem?_cons_succ, List.getElem?_drop, show K + m = j - 1 by omega]
theorem next_put (L : List Pt) (x : Pt) (h : Int) : nextN (put L x) h = nextN L h + (if x.at_ < h then 1 else 0) := by
  have e : nextN L h = List.countP (fun y => decide (y.at_ < h)) (L.take (nextN L x.at_)) + List.countP (fun y => decide (y.at_ < h)) (L.drop (nextN L x.at_)) := by
    rw [← List.countP_append, List.take_append_drop]; rfl
  rw [e]
  unfold put ins
  show List.countP _ _ = _
  rw [List.countP_append, List.countP_cons]
  by_cases hx : x.at_ < h
  · simp [hx]; omega
  · simp [hx]
theorem next_mono (L : List Pt) {a b : Int} (h : a ≤ b) : nextN L a ≤ nextN L b := by
  unfold nextN
  refine List.countP_mono_left fun x _ hx => ?_
  have : x.at_ < a := of_decide_eq_true hx
  exact decide_eq_true (by omega)
theorem put_owner (L : List Pt) (x : Pt) (h : Int) : ownerN (put L x) h = x.node ∨ (L ≠ [] ∧ ownerN (put L x) h = ownerN L h) := by
  rw [owner_eq (put L x), put_len, if_neg (by omega), next_put]
  cases hL : L with
  | nil =>
    left
    simp [put, ins, nextN, pget]
    split <;> simp
  | cons y r =>
    rw [← hL]
    have hpos : 0 < L.length := by rw [hL]; simp
    have hne : L ≠ [] := by rw [hL]; simp
    have hN := nextN_le L h
    have hK := nextN_le L x.at_
    rw [owner_eq L, if_neg (show ¬ L.length = 0 by omega)]
    unfold put
    rw [pget_ins _ _ _ hK]
    by_cases hx : x.at_ < h
    · rw [if_pos hx]
      have hKN := next_mono L (show x.at_ ≤ h by omega)
      rcases Nat.lt_or_ge (nextN L h) L.length with hlt | hge
      · right
        rw [Nat.mod_eq_of_lt (show nextN L h + 1 < L.length + 1 by omega), if_neg (by omega), if_neg (by omega), Nat.mod_eq_of_lt hlt]
        exact ⟨hne, rfl⟩
      · have e : nextN L h = L.length := by omega
        rw [e, Nat.mod_self, Nat.mod_self]
        by_cases hk : nextN L x.at_ = 0
        · left
          rw [hk]; simp
        · right
          rw [if_pos (by omega)]
          exact ⟨hne, rfl⟩
    · rw [if_neg hx]
      have hKN := next_mono L (show h ≤ x.at_ by omega)
      rw [Nat.add_zero, Nat.mod_eq_of_lt (show nextN L h < L.length + 1 by omega)]
      by_cases hk : nextN L x.at_ = nextN L h
      · left
        rw [if_neg (by omega), if_pos hk.symm]
      · right
        rw [if_pos (by omega), Nat.mod_eq_of_lt (by omega)]
        exact ⟨hne, rfl⟩
/-- Behind a node that comes a key is asked of whom it was asked of, or of that node. -/
theorem add_owner (L : List Pt) (nd h : Int) : ∀ i, ownerN (addTo L nd i) h = nd ∨ ownerN (addTo L nd i) h = ownerN L h
  | 0 => .inr rfl
  | i + 1 => by
    rw [addTo]
    rcases put_owner (addTo L nd i) ⟨atI nd i, nd⟩ h with e | ⟨_, e⟩
    · exact .inl e
    · rw [e]
      exact add_owner L nd h i
theorem drop_put (L : List Pt) (x : Pt) : dropN (put L x) x.node = dropN L x.node := by
  unfold dropN put ins
  rw [List.filter_append, List.filter_cons_of_neg (by simp), ← List.filter_append, List.take_append_drop]
theorem drop_add (L : List Pt) (nd : Int) (h : hasN L nd = false) : ∀ i, dropN (addTo L nd i) nd = L
  | 0 => dropN_none h
  | i + 1 => by
    have := drop_put (addTo L nd i) ⟨atI nd i, nd⟩
    rw [addTo]
    exact this.trans (drop_add L nd h i)
theorem has_drop (L : List Pt) (nd : Int) : hasN (dropN L nd) nd = false := by
  cases hq : hasN (dropN L nd) nd with
  | false => rfl
  | true =>
    obtain ⟨y, hy, e⟩ := has_iff.1 hq
    have := (List.mem_filter.1 hy).2
    simp [e] at this
theorem has_add (L : List Pt) (nd : Int) {i : Nat} (h : 0 < i) : hasN (addTo L nd i) nd = true :=
  has_iff.2 ⟨⟨atI nd (0 : Nat), nd⟩, mem_addTo.2 (.inr ⟨0, h, rfl⟩), rfl⟩
theorem addR_ok_eq (each : Nat) (L : List Pt) (nd : Int) (h1 : 1 ≤ nd) (h2 : nd ≤ 16) (h : hasN L nd = false) : addR each L nd = addTo L nd each ∧ addC L nd = 0 := by
  unfold addR addC
  rw [if_pos ⟨h1, h2, h⟩, if_neg (by omega), if_neg (by rw [h]; decide)]
  exact ⟨rfl, rfl⟩

/-- A row of numbers is not what a ring's function writes. -/
theorem R_ring {w w' : World} {base p : Nat} {each : Int} {v rv : Value} {pts : List Pt} {xs : List Int} (h : (Kd.int .i64).R 3 w base (fun _ => True) v xs) (hS : IsRg w p each rv pts) (hc : Chg (rgM p rv) w w') : (Kd.int .i64).R 3 w' base (fun _ => True) v xs := by
  refine Kd.R_mono (Kd.R_step (Kd.R_bound h) fun k hk hlt => hc.block k hlt ?_) fun _ _ => trivial
  obtain ⟨_, _, _, q, hq, cells, hcl⟩ := hk
  have hq2 : q = 3 := by simpa [Kd.int, Kd.scalar] using hq
  subst hq2
  rintro (rfl | hv)
  · have h1 := hS.head
    rw [hcl] at h1
    simp at h1
  · obtain ⟨inner, ho⟩ := Kd.R_own hS.row
    obtain ⟨cells', hcl'⟩ := own_typed ho k hv
    rw [hcl] at hcl'
    simp at hcl'
end Go.Proofs.YtndgjhhhggkdmaaDoor
