/- The law RingOwners: what its call comes to. -/
import Derived.Test.YtdaliiaagkhhhaaDoorRgO
import Derived.Test.YtdaliiaagkhhhaaDoorRgW
namespace Go.Proofs.YtdaliiaagkhhhaaDoor
set_option linter.unusedVariables false
open Go.RowKit Go.Proofs.YtdaliiaagkhhhaaDoorW.PrintWords

/-- An act. -/
structure Op where
  kind : Int
  node : Int
def kOp : Kd Op := Kd.iso (Kd.pair (Kd.int .i64) (Kd.int .i64)) (fun x : Op => (x.kind, x.node))
def oget (xs : List Op) (k : Nat) : Op := xs.getD k ⟨0, 0⟩
theorem oget_eq {xs : List Op} {k : Nat} (h : k < xs.length) : oget xs k = xs[k] := by simp [oget, h]
theorem take_o {xs : List Op} {k : Nat} (h : k < xs.length) : xs.take (k + 1) = xs.take k ++ [oget xs k] := by rw [List.take_succ_eq_append_getElem h, oget_eq h]
theorem at_op {w : World} {A : Option Addr} {n : Nat} {xs : List Op} (h : kOp.C w A n xs) {k : Nat} (hk : k < n) : ∃ ad, A = some ad ∧ w.cell? (ad.add (k * 2)) = some (.int .i64 (oget xs k).kind) ∧ w.cell? ⟨(ad.add (k * 2)).block, (ad.add (k * 2)).off + 1, none⟩ = some (.int .i64 (oget xs k).node) := by
  obtain ⟨ad, c, e, _, hK, hc⟩ := Kd.C_get h ⟨0, 0⟩ (k : Int) (by omega) (by omega)
  obtain ⟨_, _, rfl, rfl, rfl⟩ := hK
  refine ⟨ad, e, ?_, ?_⟩
  · have := hc 0 _ rfl
    simpa [oget, show kOp.sz = 2 from rfl] using this
  · rw [← add_field _ _ 1 (by omega)]
    have := hc 1 _ rfl
    simpa [oget, show kOp.sz = 2 from rfl] using this
def step (each : Nat) (pts : List Pt) (o : Op) : List Pt := if o.kind = 0 then addR each pts o.node else dropN pts o.node
def runOps (each : Nat) (ops : List Op) : List Pt := ops.foldl (step each) []
theorem run_snoc (each : Nat) (ops : List Op) (o : Op) : runOps each (ops ++ [o]) = step each (runOps each ops) o := by simp [runOps]
theorem run_ok (each : Nat) (ops : List Op) : NodesOk (runOps each ops) ∧ (runOps each ops).length ≤ ops.length * each ∧ Rising (runOps each ops) := by
  induction ops using list_snoc with
  | h0 => exact ⟨fun y hy => by simp [runOps] at hy, by simp [runOps], .nil⟩
  | h1 l o ih =>
    rw [run_snoc, step]
    obtain ⟨i1, i2, i3⟩ := ih
    have e : (l ++ [o]).length * each = l.length * each + each := by rw [List.length_append, List.length_singleton, Nat.add_mul, Nat.one_mul]
    split
    · exact ⟨addR_ok i1 _ _, by have := addR_len each (runOps each l) o.node; omega, addR_rising i3 _⟩
    · exact ⟨dropN_ok i1 _, by have := dropN_len (runOps each l) o.node; omega, dropN_rising i3 _⟩
theorem C_take {α : Type} {d : Kd α} {w : World} {A : Option Addr} {n m : Nat} {xs : List α} (h : d.C w A n xs) (hm : m ≤ n) : d.C w A m (xs.take m) := by
  obtain ⟨h1, h2, h3⟩ := h
  refine ⟨by rw [List.length_take]; omega, by omega, fun hp => ?_⟩
  obtain ⟨ad, e, hc⟩ := h3 (by omega)
  refine ⟨ad, e, fun j p hj => hc j p ?_⟩
  rw [List.getElem?_take] at hj
  split at hj
  · exact hj
  · cases hj
theorem works_below {w0 w : World} {base : Nat} (hg : HG w0) (h0 : 0 < base) (hb : Below base w0 w) (hs : base ≤ w.heap.size) :
    Calls Tryd.prog 7 #[] w fun e w' => e = .returned (.bool true) ∧ Below base w0 w' :=
  (works_any w (hg.below' hb h0)).mono fun e w' ⟨he, h⟩ => ⟨he, hb.trans (h.mono hs)⟩

set_option maxHeartbeats 4000000 in
theorem owners_law (ev : Nat) (A : Option Addr) (c : Nat) (ops : List Op) (key : ByteArray) (most : Nat) (w : World) (hr : kOp.C w A ops.length ops) (hk : key.size ≤ maxLen) (hev : ev ≤ 255) (hmost : most ≤ 255) (hg : HG w) :
    Calls Tryd.prog 5 #[.int .u8 ev, .slice A ops.length c, .string key, .int .u8 most] w fun e w' => e = .returned (.bool true) ∧ Below w.heap.size w w' := by
  have HR := Lib.hid hr
  have HH := Lib.hid hg
  have h0 := Lib.hid (hg_pos hg)
  clear hr hg
  by_cases hs1 : ops.length ≤ 25 ∧ key.size ≤ 200
  · obtain ⟨hs1, hs2⟩ := hs1
    have HK := Lib.hid hk
    clear hk
    go_enter Tryd.func5, Tryd.ntmps5
    go_wp2_with fail
    refine (New_st (Below.refl w.heap.size w) (Nat.le_refl _) (1 + ev % 9) _ (by omega) (by omega) (by omega)).mono ?_
    rintro e w1 ⟨rfl, i1, b1⟩
    have I1 := Lib.hid i1
    clear i1 b1
    have he1 : 1 + ev % 9 ≤ 9 := by omega
    generalize 1 + ev % 9 = each at *
    generalize hp : w.heap.size = p at *
    have HP := Lib.hid hp
    clear hp
    go_wp2_with fail
    go_loopw [11] (fun i wr => ∃ k : Nat, k ≤ ops.length ∧ i = .int .i64 k ∧ Hid (∃ v', RSt w wr p p each v' (runOps each (ops.take k)))) (fun i _ => ops.length - (intOf i).toNat)
    case atStart => exact ⟨0, Nat.zero_le _, rfl, _, I1.out⟩
    case round =>
      obtain ⟨k, hk, rfl, HD⟩ := hrel
      obtain ⟨vk, HD⟩ : ∃ v', Hid (RSt w wr p p each v' (runOps each (ops.take k))) := HD.out
      by_cases hlt : k < ops.length
      · obtain ⟨ad, hA, hc0, hc1⟩ := at_op HR.out hlt
        subst hA
        have hd0 : wr.cell? (ad.add (k * 2)) = some (.int .i64 (oget ops k).kind) := (HD.out.bel.cell (by rw [← HP.out]; exact World.block_lt_of_cell? w _ hc0)).trans hc0
        have hd1 : wr.cell? ⟨(ad.add (k * 2)).block, (ad.add (k * 2)).off + 1, none⟩ = some (.int .i64 (oget ops k).node) := (HD.out.bel.cell (by rw [← HP.out]; exact World.block_lt_of_cell? w _ hc1)).trans hc1
        obtain ⟨r1, r2, r3⟩ := run_ok each (ops.take k)
        have r4 : (ops.take k).length * each ≤ 25 * 9 := Nat.mul_le_mul (by rw [List.length_take]; omega) he1
        have HS := Lib.hid (run_snoc each (ops.take k) (oget ops k))
        have HT := Lib.hid (take_o hlt)
        have hl1 : (runOps each (ops.take k)).length ≤ 100000 := by omega
        clear hc0 hc1 r1 r2 r3 r4
        by_cases hq : (oget ops k).kind = 0
        · have hqt : ((oget ops k).kind == 0) = true := by simpa using hq
          have HQ := Lib.hid hq
          clear hq
          go_wp2_with fail
          refine (Add_st HD.out _ hl1).mono ?_
          rintro e w3 ⟨ev3, v3, l3, rfl, i3, -, e3, -⟩
          have I3 := Lib.hid i3
          obtain ⟨h3, -⟩ | ⟨b3, h3, -⟩ := e3.code <;> subst h3 <;> clear i3 e3
          all_goals
            go_wp2_with fail
            go_roundw
            case rel => exact ⟨k + 1, by omega, by go_num, v3, by rw [HT.out, HS.out, step, if_pos HQ.out]; exact I3.out⟩
            case measure => simp [intOf]; omega
        · have hqt : ((oget ops k).kind == 0) = false := by simpa using hq
          have HQ := Lib.hid hq
          clear hq
          go_wp2_with fail
          refine (Rem_st HD.out _ hl1).mono ?_
          rintro e w3 ⟨ev3, v3, l3, rfl, i3, -, e3, -⟩
          have I3 := Lib.hid i3
          obtain ⟨h3, -⟩ | ⟨b3, h3, -⟩ := e3.code <;> subst h3 <;> clear i3 e3
          all_goals
            go_wp2_with fail
            go_roundw
            case rel => exact ⟨k + 1, by omega, by go_num, v3, by rw [HT.out, HS.out, step, if_neg HQ.out]; exact I3.out⟩
            case measure => simp [intOf]; omega
      · have hT : ops.take k = ops := List.take_of_length_le (by omega)
        rw [hT] at HD
        obtain ⟨r1, r2, r3⟩ := run_ok each ops
        have r4 : ops.length * each ≤ 25 * 9 := Nat.mul_le_mul hs1 he1
        clear hT
        generalize runOps each ops = pts at *
        have R1 := Lib.hid r1
        have R3 := Lib.hid r3
        have r5 : pts.length ≤ 1000000 := by omega
        clear r1 r3
        go_wp2_with fail
        refine (Nodes_any p _ _ _ _ HD.out.rg).mono ?_
        rintro e w3 ⟨u, rfl, hr, b3⟩
        have I3 := Lib.hid (HD.out.later b3)
        obtain ⟨A3, c3, rfl, hc3, hC3⟩ := Kd.R_reads hr
        have D3 := Lib.hid hC3
        clear b3 hr hC3
        obtain ⟨n, hn, hn20⟩ : ∃ n : Nat, (most : Int) % 20 = (n : Int) ∧ n < 20 := ⟨most % 20, by omega, by omega⟩
        go_wp2_with fail
        refine (Owners_any p _ _ _ key n _ I3.out.rg R3.out HK.out r5).mono ?_
        rintro e w4 ⟨u, rfl, hr, b4⟩
        have I4 := Lib.hid (I3.out.later b4)
        obtain ⟨A4, c4, rfl, hc4, hC4⟩ := Kd.R_reads hr
        have D4 := Lib.hid (And.intro hC4 (Kd.C_below D3.out b4))
        clear b4 hr hC4 I3 D3
        go_wp2_with fail
        refine (Owners_any p _ _ _ key ((n : Int) + 1) _ I4.out.rg R3.out HK.out r5).mono ?_
        rintro e w5 ⟨u, rfl, hr, b5⟩
        have I5 := Lib.hid (I4.out.later b5)
        obtain ⟨A5, c5, rfl, hc5, hC5⟩ := Kd.R_reads hr
        have L4 := owners_len R1.out (hashI key) n
        have L5 := owners_len R1.out (hashI key) ((n : Int) + 1)
        have LP := owners_prefix pts (hashI key) n
        have LN := owners_nodup pts (hashI key) n
        have LM : ∀ x, x ∈ ownersN pts (hashI key) n → x ∈ nodesN pts 17 := fun x hx => owners_mem R1.out hx
        have Lk := nodes_len pts 17
        have l1 : (ownersN pts (hashI key) n).length = min n (nodesN pts 17).length := by rw [L4]; congr 1
        have l2 : (ownersN pts (hashI key) ((n : Int) + 1)).length = min (n + 1) (nodesN pts 17).length := by rw [L5]; congr 1
        obtain ⟨a, ha⟩ : ∃ a, a = ownersN pts (hashI key) n := ⟨_, rfl⟩
        obtain ⟨b, hb⟩ : ∃ b, b = ownersN pts (hashI key) ((n : Int) + 1) := ⟨_, rfl⟩
        obtain ⟨nn, hnn⟩ : ∃ nn, nn = nodesN pts 17 := ⟨_, rfl⟩
        rw [← ha] at D4 hc4 LP LN LM l1 ⊢
        rw [← hb] at hc5 hC5 LP l2 ⊢
        rw [← hnn] at D4 hc3 LM Lk l1 l2 ⊢
        have D5 := Lib.hid (And.intro hC5 (And.intro (Kd.C_below D4.out.1 b5) (Kd.C_below D4.out.2 b5)))
        clear b5 hr hC5 I4 D4 ha hb hnn L4 L5
        have hab : a.length ≤ b.length := by omega
        have hC5' : (Kd.int .i64).C w5 A5 a.length a := by
          have := C_take D5.out.1 hab
          rwa [LP] at this
        have hI := ints_any A4 A5 c4 c5 a a w5 D5.out.2.1 hc4 hC5' (by omega) (by omega)
        rw [show decide (a = a) = true from decide_eq_true rfl] at hI
        have HI := Lib.hid hI
        have HLN := Lib.hid LN
        have HLM := Lib.hid LM
        have hd1 : decide ((b.length : Int) < (a.length : Int)) = false := decide_eq_false (by omega)
        have ha17 : a.length ≤ 17 := by omega
        have hb18 : b.length ≤ 18 := by omega
        clear LP LN LM l2 hI hC5'
        have hd : (nn.length ≤ n ∧ ((a.length : Int) != (nn.length : Int)) = false ∧ ¬ n < nn.length) ∨ (¬ nn.length ≤ n ∧ n < nn.length ∧ ((a.length : Int) != (n : Int)) = false) := by
          by_cases hcase : nn.length ≤ n
          · exact .inl ⟨hcase, by simp; omega, by omega⟩
          · exact .inr ⟨hcase, by omega, by simp; omega⟩
        have hd0 : ¬ b.length < a.length := by omega
        clear l1
        rcases hd with ⟨hd2, hd3, hd4⟩ | ⟨hd2, hd3, hd4⟩
        all_goals
          go_wp2_with fail
          refine HI.out.mono ?_
          rintro e w6 ⟨rfl, n6, hn6⟩
          have I6 : Hid (RSt w w6 p p each vk pts) := by rw [hn6]; exact I5.out.drewN n6
          have b6 : Below w5.heap.size w5 w6 := by rw [hn6]; exact Drawn0.below ⟨_, rfl⟩
          have D6 := Lib.hid (And.intro (Kd.C_below D5.out.2.1 b6) (Kd.C_below D5.out.2.2 b6))
          clear hn6 b6
          go_wp2_with fail
          clear hd0 hd2 hd3 hd4
          go_loopw [16] (fun i wr => ∃ k : Nat, k ≤ a.length ∧ i = .int .i64 k ∧ Hid (∃ m, wr = w6.drewN m)) (fun i _ => a.length - (intOf i).toNat)
          case atStart => exact ⟨0, Nat.zero_le _, rfl, 0, rfl⟩
          case round =>
            obtain ⟨k2, hk2, rfl, HW⟩ := hrel
            have b7 : Below w6.heap.size w6 wr := by
              obtain ⟨m, hm⟩ := HW.out
              rw [hm]; exact Drawn0.below ⟨_, rfl⟩
            have hCa := Kd.C_below D6.out.1 b7
            have hCn := Kd.C_below D6.out.2 b7
            have I7 := Lib.hid (I6.out.later b7)
            clear b7
            by_cases hlt2 : k2 < a.length
            · obtain ⟨ad, hA, hc0⟩ := at_num hCa hlt2
              have hx : iget a k2 ∈ a := by rw [iget_eq hlt2]; exact List.getElem_mem hlt2
              have hnt : iget a k2 ∉ a.take k2 := by
                intro h
                obtain ⟨j, hj, e⟩ := List.getElem_of_mem h
                have hj2 : j < k2 := by simp at hj; omega
                rw [iget_eq hlt2] at e
                have hne := List.pairwise_iff_getElem.1 HLN.out j k2 (by omega) hlt2 hj2
                simp at e
                exact hne e
              have hcon1 : ∀ q, Calls Tryd.prog 22 #[.slice A3 nn.length c3, .int .i64 (iget a k2)] (wr.drewN q) fun e w' => e = .returned (.bool true) ∧ ∃ m, w' = (wr.drewN q).drewN m := fun q => by
                have := refhas_any A3 c3 nn (iget a k2) (wr.drewN q) hCn hc3 (by omega)
                rwa [show decide (iget a k2 ∈ nn) = true from decide_eq_true (HLM.out _ hx)] at this
              have hcon2 : ∀ q, Calls Tryd.prog 22 #[.slice A4 k2 c4, .int .i64 (iget a k2)] (wr.drewN q) fun e w' => e = .returned (.bool false) ∧ ∃ m, w' = (wr.drewN q).drewN m := fun q => by
                have htl : (a.take k2).length = k2 := by rw [List.length_take]; omega
                have := refhas_any A4 c4 (a.take k2) (iget a k2) (wr.drewN q) (by rw [htl]; exact C_take hCa (by omega)) (by omega) (by omega)
                rwa [show decide (iget a k2 ∈ a.take k2) = false from decide_eq_false hnt, htl] at this
              subst hA
              clear hCa hCn hx hnt
              go_wp2_with fail
              go_quiet (first | (go_at_call_of 22 (Value.slice A3 nn.length c3); exact Calls.quiet_of (hcon1 _)) | (go_at_call_of 22 (Value.slice (some ad) k2 c4); exact Calls.quiet_of (hcon2 _)))
              go_wp2_with fail
              go_roundw
              case rel =>
                exact ⟨k2 + 1, by omega, by go_num, (Drawn0.step ⟨HW.out⟩ _).out⟩
              case measure => simp [intOf]; omega
            · clear hCa hCn
              go_wp2_with fail
              refine (works_below HH.out h0.out I7.out.bel I7.out.hb).mono ?_
              rintro e w9 ⟨rfl, hb9⟩
              have HB := Lib.hid hb9
              clear hb9
              go_wp2_with fail
              go_ret
              exact ⟨rfl, by rw [HP.out]; exact HB.out⟩
  · have hd : decide (25 < (ops.length : Int)) = true ∨ (decide (25 < (ops.length : Int)) = false ∧ decide (200 < (key.size : Int)) = true) := by
      by_cases h : 25 < ops.length
      · exact .inl (decide_eq_true (by omega))
      · exact .inr ⟨decide_eq_false (by omega), decide_eq_true (by omega)⟩
    rcases hd with hd1 | ⟨hd1, hd2⟩
    all_goals
      go_enter Tryd.func5, Tryd.ntmps5
      go_wp2_with fail
      refine (works_below HH.out h0.out (Below.refl _ _) (Nat.le_refl _)).mono ?_
      rintro e w9 ⟨rfl, hb9⟩
      have HB := Lib.hid hb9
      clear hb9
      go_wp2_with fail
      go_ret
      exact ⟨rfl, HB.out⟩
end Go.Proofs.YtdaliiaagkhhhaaDoor
