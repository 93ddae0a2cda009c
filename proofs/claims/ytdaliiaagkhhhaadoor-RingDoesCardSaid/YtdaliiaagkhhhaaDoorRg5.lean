/- The contracts of Remove, Nodes, Owners, Owner, Share. -/
import Derived.Test.YtdaliiaagkhhhaaDoorRgP
import Derived.Test.YtdaliiaagkhhhaaDoorPRx1
import Derived.Lib.Hide
namespace Go.Proofs.YtdaliiaagkhhhaaDoor
set_option linter.unusedVariables false
open Go.RowKit Go.Proofs.YtdaliiaagkhhhaaDoorW.PrintWords

/-- What a ring's function may change. -/
def rgM (p : Nat) (v : Value) (k : Nat) : Prop := k = p ∨ v.ownBlock = some k
theorem not_rgM {w : World} {p : Nat} {each : Int} {v : Value} {pts : List Pt} (h : IsRg w p each v pts) {k : Nat} (hk : w.heap.size ≤ k) : ¬ rgM p v k := by
  rintro (rfl | hv)
  · have := h.lt; omega
  · obtain ⟨inner, ho⟩ := Kd.R_own h.row
    have := (ho.lt k hv).2
    omega
theorem own_gt {w : World} {p : Nat} {each : Int} {v : Value} {pts : List Pt} (h : IsRg w p each v pts) {k : Nat} (hv : v.ownBlock = some k) : p < k ∧ k < w.heap.size := by
  obtain ⟨inner, ho⟩ := Kd.R_own h.row
  have := ho.lt k hv
  omega
/-- The points have been put into a row, the head is told of it. -/
theorem IsRg.put {w w1 : World} {p : Nat} {each : Int} {v v' : Value} {pts pts' : List Pt} (h : IsRg w p each v pts) (hr : kP.R 66 w1 (p + 1) (fun _ => True) v' pts') (hg : w.grownBy w1 v.ownBlock) :
    IsRg (w1.setCell ⟨p, 1, none⟩ v') p each v' pts' ∧ Chg (rgM p v) w (w1.setCell ⟨p, 1, none⟩ v') := by
  have hpv : some p ≠ v.ownBlock := fun e => by have := own_gt h e.symm; omega
  have hp1 : w1.heap[p]? = some (.cells #[.int .i64 each, v] 58 (0, 0)) := (hg.block p h.lt hpv).trans h.head
  refine ⟨⟨?_, ?_⟩, ?_⟩
  · rw [setCell_eq_setRow w1 p 1 _ _ _ _ hp1]
    exact setRow_heap w1 p _ _ _ _ hp1
  · have hr2 : kP.R 66 w1 (p + 1) (fun k => k ≠ p) v' pts' := Kd.R_mono (Kd.R_bound hr) (fun k hk => by have := hk.2.1; omega)
    exact Kd.R_mono (Kd.R_far (p := ⟨p, 1, none⟩) hr2 (fun k hk => hk) v') (fun _ _ => trivial)
  · have h1 : Chg (rgM p v) w w1 := ⟨hg.os, hg.tape, hg.output, hg.size, fun k hk hn => hg.block k hk (fun e => hn (.inr e.symm))⟩
    exact h1.setCell (p := ⟨p, 1, none⟩) (.inl rfl) _

/-! slices.Contains -/
theorem index_f (l : List Int) (a : Int) : ∀ (n k i : Nat), i + n = l.length → n < k → l.length < 9223372036854775807 →
    (PR.slices_Index_int_int.l0 k l a l.length i = some (-1) ∧ a ∉ l.drop i) ∨ (∃ j : Nat, PR.slices_Index_int_int.l0 k l a l.length i = some (j : Int) ∧ a ∈ l.drop i)
  | 0, k + 1, i, h1, h2, h3 => by
    left
    refine ⟨?_, ?_⟩
    · rw [PR.slices_Index_int_int.l0, if_neg (by omega)]
    · rw [List.drop_of_length_le (by omega)]; simp
  | n + 1, k + 1, i, h1, h2, h3 => by
    have hi : i < l.length := by omega
    have hd : l.drop i = l[i] :: l.drop (i + 1) := List.drop_eq_getElem_cons hi
    have hr : rd l (i : Int) = l[i] := by simp [rd, hi]
    have hw : wrap64 ((i : Int) + 1) = ((i + 1 : Nat) : Int) := by unfold wrap64; omega
    rw [PR.slices_Index_int_int.l0, if_pos (by omega), if_pos (by omega), if_pos (by omega), hr, hd, hw]
    by_cases he : a = l[i]
    · right
      rw [if_pos he]
      exact ⟨i, rfl, by rw [he]; exact List.mem_cons_self⟩
    · rw [if_neg he]
      rcases index_f l a n k (i + 1) (by omega) (by omega) h3 with ⟨h4, h5⟩ | ⟨j, h4, h5⟩
      · left
        exact ⟨h4, by rw [List.mem_cons]; exact fun e => e.elim he h5⟩
      · right
        exact ⟨j, h4, List.mem_cons_of_mem _ h5⟩
theorem contains_f (l : List Int) (a : Int) (h : l.length < 9223372036854775807) : PR.slices_Contains_int_int.f (l.length + 1) l a = some (decide (a ∈ l)) := by
  unfold PR.slices_Contains_int_int.f PR.slices_Index_int_int.f
  rcases index_f l a l.length (l.length + 1) 0 (by omega) (by omega) h with ⟨h1, h2⟩ | ⟨j, h1, h2⟩
  · rw [show ((0 : Nat) : Int) = 0 from rfl] at h1
    rw [h1]
    simp at h2
    simp [h2]
  · rw [show ((0 : Nat) : Int) = 0 from rfl] at h1
    rw [h1]
    simp at h2
    simp [h2]
theorem contains_any (A : Option Addr) (c : Nat) (l : List Int) (a : Int) (w : World) (hC : (Kd.int .i64).C w A l.length l) (hc : l.length ≤ c) (h : l.length < 9223372036854775807) :
    Calls Tryd.prog 33 #[.slice A l.length c, .int .i64 a] w fun e w' => e = .returned (.bool (decide (a ∈ l))) ∧ ∃ n, w' = w.drewN n :=
  (PR.slices_Contains_int_int.calls (l.length + 1) A c l a _ w hC hc (contains_f l a h)).mono fun e w' ⟨he, hd⟩ => ⟨he, hd.out⟩

set_option maxHeartbeats 2000000 in
theorem Owners_any (p : Nat) (each : Int) (v : Value) (pts : List Pt) (s : ByteArray) (most : Int) (w : World) (hS : IsRg w p each v pts) (hR : Rising pts) (hs : s.size ≤ maxLen) (hl : pts.length ≤ 1000000) :
    Calls Tryd.prog 19 #[.pointer (some ⟨p, 0, none⟩), .string s, .int .i64 most] w fun e w' => ∃ u, e = .returned u ∧ Kd.R (Kd.int .i64) 3 w' w.heap.size (fun _ => True) u (ownersN pts (hashI s) most) ∧ Below w.heap.size w w' := by
  have hN := nextN_le pts (hashI s)
  have hT := nextN_take pts (hashI s) hR
  have hnx := fun w' (h : IsRg w' p each v pts) => next_any p each v pts (hashI s) (nextN pts (hashI s)) w' h hN hT hl
  obtain ⟨N, hNe⟩ : ∃ N, N = nextN pts (hashI s) := ⟨_, rfl⟩
  rw [← hNe] at hnx hN
  have hown : ownersN pts (hashI s) most = ownTo pts N most pts.length := by rw [hNe]; rfl
  rw [hown]
  clear hT hNe hown
  obtain ⟨A, c, hv, hc, hC⟩ := Kd.R_reads hS.row
  subst hv
  have c1 := hS.cell1
  have HS := Lib.hid hS
  have HC := Lib.hid hC
  have HX := Lib.hid hnx
  clear hS hC hnx
  go_enter Tryd.func19, Tryd.ntmps19
  go_wp2_with (first | (go_at_call 32; refine (hash_any s _ hs).mono ?_; rintro e w' ⟨rfl, rfl⟩) | (go_at_call 28; refine (HX.out _ HS.out).mono ?_; rintro e w' ⟨rfl, hd⟩; have HD := Lib.hid hd; clear hd; have c1 : w'.cell? ⟨p, 1, none⟩ = some (.slice A pts.length c) := by { obtain ⟨n, hn⟩ := HD.out; rw [hn]; exact HS.out.cell1 }))
  go_loopw [7, 20] (fun v i wr => ∃ k : Nat, k ≤ pts.length ∧ i = .int .i64 k ∧ Hid (Kd.R (Kd.int .i64) 3 wr w.heap.size (fun _ => True) v (ownTo pts N most k) ∧ Below w.heap.size w wr)) (fun _ i _ => pts.length - (intOf i).toNat)
  case atStart =>
    refine ⟨0, Nat.zero_le _, rfl, Kd.R_nil _ _ _ _ _, ?_⟩
    obtain ⟨n, hn⟩ := HD.out
    rw [hn]
    exact Drawn0.below ⟨n, rfl⟩
  case round =>
    obtain ⟨k, hk, rfl, HE⟩ := hrel
    clear HD c1
    have hol := ownTo_len pts N most k
    obtain ⟨A7, c7, hv7, hc7, hC7⟩ := Kd.R_reads HE.out.1
    subst hv7
    by_cases hlt : k < pts.length
    · by_cases hm : most ≤ (ownTo pts N most k).length
      · have HM := Lib.hid hm
        have hmt : decide (most ≤ ((ownTo pts N most k).length : Int)) = true := decide_eq_true hm
        clear hC7
        go_wp2
        go_ret
        refine ⟨_, rfl, ?_, HE.out.2⟩
        have := ownTo_stop pts N most HM.out (pts.length - k)
        rw [show k + (pts.length - k) = pts.length by omega] at this
        rw [this]
        exact HE.out.1
      · obtain ⟨m, hmd, hml, hmv⟩ : ∃ m : Nat, ((N : Int) + (k : Int)) % (pts.length : Int) = (m : Int) ∧ m < pts.length ∧ m = (N + k) % pts.length := ⟨(N + k) % pts.length, by rw [Int.natCast_emod, Int.natCast_add], Nat.mod_lt _ (by omega), rfl⟩
        have HMV := Lib.hid hmv
        clear hmv
        obtain ⟨ad, hA, _, hd⟩ := at_pt HC.out (k := m) (by omega)
        have hpl := HS.out.lt
        have c1 : wr.cell? ⟨p, 1, none⟩ = some (.slice A pts.length c) := (HE.out.2.cell (p := ⟨p, 1, none⟩) hpl).trans HS.out.cell1
        have hd' : wr.cell? ⟨(ad.add (m * 2)).block, (ad.add (m * 2)).off + 1, none⟩ = some (.int .i64 (pget pts m).node) := by
          rw [add_field _ _ 1 (by omega)] at hd
          exact (HE.out.2.cell (World.block_lt_of_cell? w _ hd)).trans hd
        subst hA
        clear hd
        have HC7 := Lib.hid hC7
        clear hC7
        have HM := Lib.hid hm
        have hmt : decide (most ≤ ((ownTo pts N most k).length : Int)) = false := decide_eq_false hm
        clear hm
        by_cases hin : (pget pts m).node ∈ ownTo pts N most k
        · have HI := Lib.hid hin
          have hdec : decide ((pget pts m).node ∈ ownTo pts N most k) = true := decide_eq_true hin
          have hcon := fun n => contains_any A7 c7 (ownTo pts N most k) (pget pts m).node (wr.drewN n) HC7.out hc7 (by omega)
          rw [hdec] at hcon
          clear hin hdec
          go_wp2
          go_quiet (skip)
          go_wp2_with (go_at_call 33; refine (hcon _).mono ?_; rintro e w' ⟨rfl, n, rfl⟩)
          go_roundw
          case rel =>
            refine ⟨k + 1, by omega, by go_num, ?_, HE.out.2.trans ((Drawn0.below ⟨_, rfl⟩).mono HE.out.2.size)⟩
            rw [ownTo, if_neg (Int.not_le.2 HM.out), ← HMV.out, if_pos HI.out]
            exact HE.out.1
          case measure => simp [intOf]; omega
        · have HI := Lib.hid hin
          have hdec : decide ((pget pts m).node ∈ ownTo pts N most k) = false := decide_eq_false hin
          have hcon := fun n => contains_any A7 c7 (ownTo pts N most k) (pget pts m).node (wr.drewN n) HC7.out hc7 (by omega)
          rw [hdec] at hcon
          clear hin hdec
          go_wp2
          go_quiet (skip)
          go_wp2_with (first
            | (go_at_call 33; refine (hcon _).mono ?_; rintro e w' ⟨rfl, n, rfl⟩)
            | (at_builtin; refine Kd.R_append (Kd.int .i64) (w0 := w) w.heap.size rfl (.tmp 47) (.tmp 49) 31 3 (.int .i64 0) 8 rfl Tryd.underlying31 info_int rfl (by decide) (by omega) _ (ownTo pts N most k) (pget pts m).node [.int .i64 (pget pts m).node] (fun _ => True) (fun _ => False) rfl rfl rfl (fun _ hk => hk.elim) (fun _ _ => trivial) HE.out.1 (HE.out.2.trans ((Drawn0.below ⟨_, rfl⟩).mono HE.out.2.size)) HE.out.2.size (by omega) ?_; intro v1 w1 ho hb hg hat; have HO := Lib.hid ho; have HB := Lib.hid hb; clear ho hb hg hat))
          go_roundw
          case rel =>
            refine ⟨k + 1, by omega, by go_num, ?_, HB.out⟩
            rw [ownTo, if_neg (Int.not_le.2 HM.out), ← HMV.out, if_neg HI.out]
            exact HO.out
          case measure => simp [intOf]; omega
    · obtain rfl : k = pts.length := by omega
      clear hC7
      go_wp2
      go_ret
      exact ⟨_, rfl, HE.out.1, HE.out.2⟩

set_option maxHeartbeats 1000000 in
theorem Owner_any (p : Nat) (each : Int) (v : Value) (pts : List Pt) (s : ByteArray) (w : World) (hS : IsRg w p each v pts) (hR : Rising pts) (hs : s.size ≤ maxLen) (hl : pts.length ≤ 1000000) :
    Calls Tryd.prog 17 #[.pointer (some ⟨p, 0, none⟩), .string s] w fun e w' => e = .returned (.int .i64 (ownerN pts (hashI s))) ∧ Below w.heap.size w w' := by
  have hcall := Owners_any p each v pts s 1 w hS hR hs hl
  have hol : (ownersN pts (hashI s) 1).length ≤ 1000000 := Nat.le_trans (ownTo_len pts (nextN pts (hashI s)) 1 pts.length) hl
  have howner : ownerN pts (hashI s) = (ownersN pts (hashI s) 1).headD 0 := rfl
  rw [howner]
  obtain ⟨L, hL⟩ : ∃ L, L = ownersN pts (hashI s) 1 := ⟨_, rfl⟩
  rw [← hL] at hcall hol ⊢
  clear hL howner hS
  cases L with
  | nil =>
    clear hol
    go_enter Tryd.func17, Tryd.ntmps17
    go_wp2_with (go_at_call 19; refine hcall.mono ?_; rintro e w' ⟨u, rfl, hr, hb⟩; obtain ⟨A, c, rfl, hc, hC⟩ := Kd.R_reads hr; have HB := Lib.hid hb; clear hb hr hC)
    go_ret
    exact ⟨rfl, HB.out⟩
  | cons x r =>
    have hll : r.length + 1 ≤ 1000000 := by simpa using hol
    clear hol
    go_enter Tryd.func17, Tryd.ntmps17
    go_wp2_with (go_at_call 19; refine hcall.mono ?_; rintro e w' ⟨u, rfl, hr, hb⟩; obtain ⟨A, c, rfl, hc, hC⟩ := Kd.R_reads hr; have HB := Lib.hid hb; obtain ⟨ad, hA, hd⟩ := at_num hC (k := 0) (by simp); subst hA; have hd0 : w'.cell? ad = some (.int .i64 x) := hd; clear hb hr hC hd)
    go_ret
    exact ⟨rfl, HB.out⟩

theorem share_snoc (L : List Pt) (nd : Int) (l : List ByteArray) (x : ByteArray) : shareN L nd (l ++ [x]) = shareN L nd l + (if ownerN L (hashI x) = nd then 1 else 0) := by
  induction l with
  | nil => simp [shareN]
  | cons y r ih => rw [List.cons_append, shareN, ih, shareN]; omega
theorem share_bd (L : List Pt) (nd : Int) (l : List ByteArray) : 0 ≤ shareN L nd l ∧ shareN L nd l ≤ l.length := by
  induction l with
  | nil => simp [shareN]
  | cons y r ih => rw [shareN, List.length_cons]; split <;> omega
set_option maxHeartbeats 1000000 in
theorem Share_any (p : Nat) (each : Int) (v : Value) (pts : List Pt) (nd : Int) (A : Option Addr) (c : Nat) (ss : List ByteArray) (w : World) (hS : IsRg w p each v pts) (hR : Rising pts) (hC : Kd.string.C w A ss.length ss) (hss : ∀ s ∈ ss, s.size ≤ maxLen) (hl : pts.length ≤ 1000000) (hsl : ss.length ≤ 1000000) :
    Calls Tryd.prog 21 #[.pointer (some ⟨p, 0, none⟩), .int .i64 nd, .slice A ss.length c] w fun e w' => e = .returned (.int .i64 (shareN pts nd ss)) ∧ Below w.heap.size w w' := by
  have HS := Lib.hid hS
  have HC := Lib.hid hC
  have HSS := Lib.hid hss
  clear hS hC hss
  go_enter Tryd.func21, Tryd.ntmps21
  go_wp2
  go_loopw [7, 12] (fun x i wr => ∃ k : Nat, k ≤ ss.length ∧ i = .int .i64 k ∧ x = .int .i64 (shareN pts nd (ss.take k)) ∧ Hid (Below w.heap.size w wr)) (fun _ i _ => ss.length - (intOf i).toNat)
  case atStart => exact ⟨0, Nat.zero_le _, rfl, rfl, Below.refl _ _⟩
  case round =>
    obtain ⟨k, hk, rfl, rfl, HB⟩ := hrel
    obtain ⟨b0, b1⟩ := share_bd pts nd (ss.take k)
    have b2 : (ss.take k).length ≤ ss.length := by rw [List.length_take]; omega
    by_cases hlt : k < ss.length
    · obtain ⟨ad, hA, hd⟩ := at_str HC.out hlt
      have hd' : wr.cell? (ad.add k) = some (.string (sget ss k)) := (HB.out.cell (World.block_lt_of_cell? w _ hd)).trans hd
      subst hA
      have hsz : (sget ss k).size ≤ maxLen := HSS.out _ (by rw [sget_eq hlt]; exact List.getElem_mem hlt)
      have hcall := Owner_any p each v pts (sget ss k) wr (HS.out.later HB.out) hR hsz hl
      have hsn := share_snoc pts nd (ss.take k) (sget ss k)
      rw [← take_s hlt] at hsn
      have HN := Lib.hid hsn
      clear hd hsn
      by_cases hq : ownerN pts (hashI (sget ss k)) = nd
      · have hqt : (ownerN pts (hashI (sget ss k)) == nd) = true := by simpa using hq
        have HQ := Lib.hid hq
        clear hq
        go_wp2_with (go_at_call 17; refine hcall.mono ?_; rintro e w' ⟨rfl, hb⟩; have HB2 := Lib.hid hb; clear hb)
        go_roundw
        case rel =>
          refine ⟨k + 1, by omega, by go_num, ?_, HB.out.trans (HB2.out.mono HB.out.size)⟩
          rw [HN.out, if_pos HQ.out]
        case measure => simp [intOf]; omega
      · have hqt : (ownerN pts (hashI (sget ss k)) == nd) = false := by simpa using hq
        have HQ := Lib.hid hq
        clear hq
        go_wp2_with (go_at_call 17; refine hcall.mono ?_; rintro e w' ⟨rfl, hb⟩; have HB2 := Lib.hid hb; clear hb)
        go_roundw
        case rel =>
          refine ⟨k + 1, by omega, by go_num, ?_, HB.out.trans (HB2.out.mono HB.out.size)⟩
          rw [HN.out, if_neg HQ.out]; simp
        case measure => simp [intOf]; omega
    · obtain rfl : k = ss.length := by omega
      go_wp2
      go_ret
      exact ⟨ret_int (by rw [List.take_length]), HB.out⟩

theorem nodes_succ (L : List Pt) (n : Nat) : nodesN L (n + 1) = if hasN L n = true then nodesN L n ++ [(n : Int)] else nodesN L n := by
  unfold nodesN
  rw [List.range_succ, List.map_append, List.filter_append]
  cases h : hasN L n <;> simp [h]
theorem nodes_len (L : List Pt) (n : Nat) : (nodesN L n).length ≤ n := by
  unfold nodesN
  exact Nat.le_trans (List.length_filter_le _ _) (by simp)
set_option maxHeartbeats 1000000 in
theorem Nodes_any (p : Nat) (each : Int) (v : Value) (pts : List Pt) (w : World) (hS : IsRg w p each v pts) :
    Calls Tryd.prog 16 #[.pointer (some ⟨p, 0, none⟩)] w fun e w' => ∃ u, e = .returned u ∧ Kd.R (Kd.int .i64) 3 w' w.heap.size (fun _ => True) u (nodesN pts 17) ∧ Below w.heap.size w w' := by
  have HS := Lib.hid hS
  clear hS
  go_enter Tryd.func16, Tryd.ntmps16
  go_wp2
  go_loopw [3, 5] (fun u i wr => ∃ k : Nat, k ≤ 17 ∧ i = .int .i64 k ∧ Hid (Kd.R (Kd.int .i64) 3 wr w.heap.size (fun _ => True) u (nodesN pts k) ∧ Below w.heap.size w wr)) (fun _ i _ => 17 - (intOf i).toNat)
  case atStart => exact ⟨0, Nat.zero_le _, rfl, Kd.R_nil _ _ _ _ _, Below.refl _ _⟩
  case round =>
    obtain ⟨k, hk, rfl, HB⟩ := hrel
    by_cases hlt : k < 17
    · have hcall := has_any p each v pts (k : Int) wr (HS.out.later HB.out.2)
      have hnl := nodes_len pts k
      cases hq : hasN pts (k : Int) with
      | true =>
        rw [hq] at hcall
        have HQ := Lib.hid hq
        clear hq
        go_wp2_with (first
          | (go_at_call 27; refine hcall.mono ?_; rintro e w' ⟨rfl, hb⟩; have HB2 := Lib.hid hb; clear hb)
          | (at_builtin; refine Kd.R_append (Kd.int .i64) (w0 := w) w.heap.size rfl (.tmp 11) (.tmp 13) 31 3 (.int .i64 0) 8 rfl Tryd.underlying31 info_int rfl (by decide) (by omega) _ (nodesN pts k) (k : Int) [.int .i64 (k : Int)] (fun _ => True) (fun _ => False) rfl rfl rfl (fun _ hk => hk.elim) (fun _ _ => trivial) (Kd.R_below HB.out.1 HB2.out) (HB.out.2.trans (HB2.out.mono HB.out.2.size)) (Nat.le_trans HB.out.2.size HB2.out.size) (by omega) ?_; intro v1 w1 ho hb hg hat; have HO := Lib.hid ho; have HB3 := Lib.hid hb; clear ho hb hg hat))
        go_roundw
        case rel => exact ⟨k + 1, by omega, by go_num, by rw [nodes_succ, if_pos HQ.out]; exact HO.out, HB3.out⟩
        case measure => simp [intOf]; omega
      | false =>
        rw [hq] at hcall
        have HQ := Lib.hid hq
        clear hq
        go_wp2_with (go_at_call 27; refine hcall.mono ?_; rintro e w' ⟨rfl, hb⟩; have HB2 := Lib.hid hb; clear hb)
        go_roundw
        case rel => exact ⟨k + 1, by omega, by go_num, by rw [nodes_succ, if_neg (by rw [HQ.out]; decide)]; exact Kd.R_below HB.out.1 HB2.out, HB.out.2.trans (HB2.out.mono HB.out.2.size)⟩
        case measure => simp [intOf]; omega
    · obtain rfl : k = 17 := by omega
      go_wp2
      go_ret
      exact ⟨_, rfl, HB.out.1, HB.out.2⟩
end Go.Proofs.YtdaliiaagkhhhaaDoor
