/- The contract of the program's Join. What SketchJoins keeps: two sketches, each with the document's one in a box. The law SketchJoins: the guard's arms; the good arm. The law SketchJoins: what its call comes to. -/
import Derived.Test.YtpjdaglblckgfaaDoorG3
import Derived.Test.YtpjdaglblckgfaaDoorG2
import Derived.Deep.RegionHeld3
import Derived.Deep.DrawnRows
import Derived.Lib.MinMax
import Derived.Test.YtpjdaglblckgfaaDoorIntsA
import Derived.Deep.DeepCutAuto
import Derived.Deep.RegionWith
namespace Go.Proofs.YtpjdaglblckgfaaDoor
set_option linter.unusedVariables false
open Go.RowKit Go.Proofs.YtpjdaglblckgfaaDoorW.PrintWords

theorem Join_nil (p : Nat) (w : World) :
    Calls Tryd.prog 27 #[.pointer (some ⟨p, 0, none⟩), .pointer none] w fun e w' => ∃ op at_, e = .returned (.tuple #[.pointer none, faultV w.heap.size]) ∧ w' = w.alloc (faultO op at_ 1 .nilIface) := by
  go_enter Tryd.func27, Tryd.ntmps27
  go_wp2_with (go_at_call 32; refine (new_any _ _ 1 rfl _).mono ?_; rintro e w' ⟨rfl, rfl⟩)
  go_ret2
  exact ⟨_, _, rfl, rfl⟩

set_option maxHeartbeats 1000000 in
theorem Join_ne (p q : Nat) (B C : Nat → Nat) (S T : Sk) (w : World) (hS : IsSk w p B S) (hT : IsSk w q C T) (hw : S.width ≠ T.width) :
    Calls Tryd.prog 27 #[.pointer (some ⟨p, 0, none⟩), .pointer (some ⟨q, 0, none⟩)] w fun e w' => ∃ op at_ b, e = .returned (.tuple #[.pointer none, faultV b]) ∧ w.heap.size ≤ b ∧ w'.heap[b]? = some (faultO op at_ 3 .nilIface) ∧ Below w.heap.size w w' := by
  have c0 := hS.cell0
  have d0 := hT.cell0
  have hne0 : ¬ (S.width : Int) = (T.width : Int) := by omega
  have hne : ((S.width : Int) == (T.width : Int)) = false := by simpa using hne0
  have hne2 : (!((S.width : Int) == (T.width : Int))) = true := by rw [hne]; rfl
  have hne3 : ((S.width : Int) != (T.width : Int)) = true := by simpa using hne0
  clear hS hT hw
  go_enter Tryd.func27, Tryd.ntmps27
  go_wp2_with fail
  go_quiet (fail)
  go_wp2_with (go_at_call 32; refine (new_any _ _ 3 rfl _).mono ?_; rintro e w' ⟨rfl, rfl⟩)
  go_ret2
  exact ⟨_, _, w.heap.size, rfl, Nat.le_refl _, heap_alloc_new _ _, (Drawn0.below ⟨nq, rfl⟩ : Below w.heap.size w (w.drewN nq)).trans (bel_alloc (w.drewN nq) _)⟩

/-- Two sketches joined in a new one, row r as far as c. -/
def Sk.joinN (S T : Sk) (r c : Nat) : Sk := { Sk.new S.width 0 with row := fun r' k' => if r' < r ∨ r' = r ∧ k' < c then capI (S.row r' k' + T.row r' k') else 0 }
structure JRel (w wr : World) (S T : Sk) (r k : Nat) : Prop where
  sk : IsSk wr w.heap.size (fun r => w.heap.size + (1 + r)) (S.joinN T r k)
  bel : Below w.heap.size w wr
theorem JRel.congr {w wr : World} {S T : Sk} {r k r2 k2 : Nat} (h : JRel w wr S T r k) (hc : ∀ r' k', r' < 4 → k' < S.width → (S.joinN T r2 k2).row r' k' = (S.joinN T r k).row r' k') : JRel w wr S T r2 k2 :=
  ⟨h.sk.congr rfl rfl rfl rfl hc, h.bel⟩
theorem JRel.later {w wr W : World} {S T : Sk} {r k : Nat} (h : JRel w wr S T r k) (hW : Below wr.heap.size wr W) : JRel w W S T r k := ⟨h.sk.later hW, h.bel.trans (hW.mono h.bel.size)⟩
theorem JRel.step {w wr : World} {S T : Sk} {r k : Nat} (h : JRel w wr S T r k) (hr : r < 4) (hk : k < S.width) (W : World) (v : Int) (hv : v = capI (S.row r k + T.row r k)) (h0 : 0 ≤ S.row r k + T.row r k) (hW : Below wr.heap.size wr W) :
    JRel w (W.setCell ⟨w.heap.size + (1 + r), k, none⟩ (.int .u8 v)) S T r (k + 1) := by
  subst hv
  refine ⟨(IsSk.setRow (h.sk.later hW) (r := r) (k := k) hr (v := capI (S.row r k + T.row r k)) (by unfold capI; split <;> omega)).congr rfl rfl rfl rfl fun r' k' h1 h2 => ?_, (h.bel.trans (hW.mono h.bel.size)).setCell (by show w.heap.size ≤ w.heap.size + (1 + r); omega) _⟩
  simp only [Sk.joinN, Sk.new]
  by_cases e : r' = r ∧ k' = k
  · obtain ⟨rfl, rfl⟩ := e
    simp
  · rw [if_neg e]
    by_cases e2 : r' < r ∨ r' = r ∧ k' < k
    · rw [if_pos e2, if_pos (by omega)]
    · rw [if_neg e2, if_neg (by omega)]

set_option maxHeartbeats 4000000 in
set_option maxRecDepth 100000 in
theorem Join_ok (p q : Nat) (B C : Nat → Nat) (S T : Sk) (w : World) (hS : IsSk w p B S) (hT : IsSk w q C T) (hw : T.width = S.width)
    (ta0 : 0 ≤ S.total) (ta1 : S.total ≤ 1000000000) (tb0 : 0 ≤ T.total) (tb1 : T.total ≤ 1000000000) (aa0 : 0 ≤ S.aged) (aa1 : S.aged ≤ 1000000000) (ab0 : 0 ≤ T.aged) (ab1 : T.aged ≤ 1000000000) :
    Calls Tryd.prog 27 #[.pointer (some ⟨p, 0, none⟩), .pointer (some ⟨q, 0, none⟩)] w fun e w' => e = .returned (.tuple #[.pointer (some ⟨w.heap.size, 0, none⟩), .nilIface]) ∧ IsSk w' w.heap.size (fun r => w.heap.size + (1 + r)) (S.join T) ∧ Below w.heap.size w w' := by
  have hw1 := hS.w1
  have hw2 := hS.w2
  have c0 := hS.cell0
  have d0 : w.cell? ⟨q, 0, none⟩ = some (.int .i64 S.width) := by rw [← hw]; exact hT.cell0
  have HS := Lib.hid hS
  have HT := Lib.hid hT
  have HW := Lib.hid hw
  clear hS hT hw
  go_enter Tryd.func27, Tryd.ntmps27
  go_wp2_with fail
  go_quiet (fail)
  go_wp2_with fail
  refine (New_ok S.width 0 _ hw1 hw2 (by omega) (by omega)).mono ?_
  rintro e w1 ⟨rfl, i1, b1, s1⟩
  have J1 : Hid (JRel w w1 S T 0 0) := ⟨i1.congr rfl rfl rfl rfl (fun r k _ _ => by simp [Sk.joinN, Sk.new]), ⟨b1.os, b1.tape, b1.output, b1.size, b1.block⟩⟩
  clear i1 b1 s1 c0 d0
  go_wp2_with fail
  go_loopw [47] (fun i wr => ∃ r : Nat, r ≤ 4 ∧ i = .int .i64 r ∧ Hid (JRel w wr S T r 0)) (fun i _ => 4 - (intOf i).toNat)
  case atStart => exact ⟨0, Nat.zero_le _, rfl, J1.out⟩
  case round =>
    obtain ⟨r, hr, rfl, HD⟩ := hrel
    obtain ⟨wo, rfl⟩ : ∃ wo : World, wo = wr := ⟨_, rfl⟩
    by_cases hlt : r < 4
    · have i2 : (0 : Int) ≤ (r : Int) := by omega
      have i3 : (r : Int) < 4 := by omega
      have y1 : wo.cell? ⟨w.heap.size, 1 + r, none⟩ = some (.slice (some ⟨w.heap.size + (1 + r), 0, none⟩) S.width S.width) := HD.out.sk.cell1 hlt
      go_wp2_with fail
      go_loopw [57] (fun i wr => ∃ k : Nat, k ≤ S.width ∧ i = .int .i64 k ∧ Hid (JRel w wr S T r k)) (fun i _ => S.width - (intOf i).toNat)
      case atStart => exact ⟨0, Nat.zero_le _, rfl, HD.out⟩
      case round =>
        obtain ⟨k, hk, rfl, HE⟩ := hrel
        have y1 : wr.cell? ⟨w.heap.size, 1 + r, none⟩ = some (.slice (some ⟨w.heap.size + (1 + r), 0, none⟩) S.width S.width) := HE.out.sk.cell1 hlt
        have ya : wr.cell? ⟨p, 1 + r, none⟩ = some (.slice (some ⟨B r, 0, none⟩) S.width S.width) := (HS.out.later HE.out.bel).cell1 hlt
        have yb : wr.cell? ⟨q, 1 + r, none⟩ = some (.slice (some ⟨C r, 0, none⟩) S.width S.width) := by rw [← HW.out]; exact (HT.out.later HE.out.bel).cell1 hlt
        by_cases hkl : k < S.width
        · have hkb : k < T.width := by rw [HW.out]; exact hkl
          have f3 : wr.frozen? ⟨w.heap.size + (1 + r), k, none⟩ = false := (HE.out.sk.row r hlt).frozen k
          have c3 : wr.cell? ⟨w.heap.size + (1 + r), k, none⟩ = some (.int .u8 0) := by
            rw [(HE.out.sk.row r hlt).cell hkl]; simp [Sk.joinN]
          have ca : wr.cell? ⟨B r, k, none⟩ = some (.int .u8 (S.row r k)) := ((HS.out.later HE.out.bel).row r hlt).cell hkl
          have cb : wr.cell? ⟨C r, k, none⟩ = some (.int .u8 (T.row r k)) := ((HT.out.later HE.out.bel).row r hlt).cell hkb
          obtain ⟨b0, b1⟩ : 0 ≤ S.row r k ∧ S.row r k ≤ 255 := HS.out.bd r k hlt hkl
          obtain ⟨b2, b3⟩ : 0 ≤ T.row r k ∧ T.row r k ≤ 255 := HT.out.bd r k hlt hkb
          have hst := fun W v hv => HE.out.step hlt hkl W v hv (by omega)
          have HST := Lib.hid hst
          clear hst
          have i0 : (0 : Int) ≤ (k : Int) := by omega
          have i1 : (k : Int) < (S.width : Int) := by omega
          have hwr : IntKind.i64.wrap (S.row r k + T.row r k) = S.row r k + T.row r k := IntWalk.i64_in _ (by omega)
          generalize S.row r k = x at *
          generalize T.row r k = y at *
          by_cases h255 : 255 < x + y
          all_goals
            go_wp2_with fail
            go_still_tail 31, (by kernel_rfl)
            go_wp2_with fail
            go_roundw
            case rel =>
              exact ⟨k + 1, by omega, by go_num, (HST.out wr _ (by unfold capI; split <;> omega) (Below.refl _ _)).later (Drawn0.below ⟨1, rfl⟩)⟩
            case measure => simp [intOf]; omega
        · obtain rfl : k = S.width := by omega
          go_wp2_with fail
          go_roundw
          case rel =>
            refine ⟨r + 1, by omega, by go_num, HE.out.congr fun r' k' h1 h2 => ?_⟩
            simp only [Sk.joinN]
            have h2' : k' < S.width := h2
            by_cases e2 : r' < r ∨ r' = r ∧ k' < S.width
            · rw [if_pos e2, if_pos (by omega)]
            · rw [if_neg e2, if_neg (by omega)]
          case measure => simp [intOf]; omega
    · obtain rfl : r = 4 := by omega
      have x5 : wo.cell? ⟨p, 5, none⟩ = some (.int .i64 S.total) := (HS.out.later HD.out.bel).cell5
      have x7 : wo.cell? ⟨p, 7, none⟩ = some (.int .i64 S.aged) := (HS.out.later HD.out.bel).cell7
      have z5 : wo.cell? ⟨q, 5, none⟩ = some (.int .i64 T.total) := (HT.out.later HD.out.bel).cell5
      have z7 : wo.cell? ⟨q, 7, none⟩ = some (.int .i64 T.aged) := (HT.out.later HD.out.bel).cell7
      have o5 : wo.cell? ⟨w.heap.size, 5, none⟩ = some (.int .i64 0) := HD.out.sk.cell5
      have o7 : wo.cell? ⟨w.heap.size, 7, none⟩ = some (.int .i64 0) := HD.out.sk.cell7
      have f5 : wo.frozen? ⟨w.heap.size, 5, none⟩ = false := HD.out.sk.head.frozen 5
      have f7 : wo.frozen? ⟨w.heap.size, 7, none⟩ = false := HD.out.sk.head.frozen 7
      have hwt : IntKind.i64.wrap (S.total + T.total) = S.total + T.total := IntWalk.i64_in _ (by omega)
      have hwa : IntKind.i64.wrap (S.aged + T.aged) = S.aged + T.aged := IntWalk.i64_in _ (by omega)
      have HX : Hid (∀ W, Below w.heap.size w W → W.cell? ⟨p, 5, none⟩ = some (.int .i64 S.total) ∧ W.cell? ⟨p, 7, none⟩ = some (.int .i64 S.aged) ∧ W.cell? ⟨q, 5, none⟩ = some (.int .i64 T.total) ∧ W.cell? ⟨q, 7, none⟩ = some (.int .i64 T.aged)) := fun W hW =>
        ⟨(HS.out.later hW).cell5, (HS.out.later hW).cell7, (HT.out.later hW).cell5, (HT.out.later hW).cell7⟩
      have HF := Lib.hid ((HD.out.sk.setTotal (S.total + T.total)).setAged (S.aged + T.aged))
      have b0 := Lib.hid HD.out.bel
      have b1 := Lib.hid (HD.out.bel.setCell (p := ⟨w.heap.size, 5, none⟩) (Nat.le_refl _) (.int .i64 (S.total + T.total)))
      have b2 := Lib.hid (HD.out.bel.setCell (p := ⟨w.heap.size, 7, none⟩) (Nat.le_refl _) (.int .i64 (S.aged + T.aged)))
      have b3 := Lib.hid (b1.out.setCell (p := ⟨w.heap.size, 7, none⟩) (Nat.le_refl _) (.int .i64 (S.aged + T.aged)))
      go_wp2_with fail
      go_region_held3 (fun W => W.cell? ⟨p, 5, none⟩ = some (.int .i64 S.total) ∧ W.cell? ⟨p, 7, none⟩ = some (.int .i64 S.aged) ∧ W.cell? ⟨q, 5, none⟩ = some (.int .i64 T.total) ∧ W.cell? ⟨q, 7, none⟩ = some (.int .i64 T.aged))
        (first | exact HX.out _ b0.out | exact HX.out _ b0.out.drew | exact HX.out _ b1.out.drew | exact HX.out _ b2.out.drew | exact HX.out _ b3.out.drew) (fail)
      all_goals
        go_wp2_with fail
        go_ret2
        exact ⟨rfl, (IsSk.congr (S' := S.join T) HF.out rfl rfl rfl rfl (fun r' k' h1 h2 => by simp [Sk.join, Sk.joinN, h1])).drewN 1, b3.out.drew⟩
end Go.Proofs.YtpjdaglblckgfaaDoor
namespace Go.Proofs.YtpjdaglblckgfaaDoor
set_option linter.unusedVariables false
open Go.RowKit Go.Proofs.YtpjdaglblckgfaaDoorW.PrintWords

/-- Another sketch's blocks and another box were written: this one stays. -/
theorem SkTwo.other {w0 w w' : World} {base p q LA nL p1 q1 : Nat} {B R cp B1 : Nat → Nat} {S T S1 : Sk} (h : SkTwo w0 w base p B S q LA nL R cp T) (h1 : IsSk w p1 B1 S1) (hq1 : ∃ cs, w.heap[q1]? = some (.cells cs 38 (0, 0)))
    (hd : ∀ k, skM p1 B1 k → ¬ skM p B k) (hne : q ≠ q1) (hc : ∀ k, k < w.heap.size → ¬ skM p1 B1 k → k ≠ q1 → w'.heap[k]? = w.heap[k]?) (hb : Below base w0 w') (hs : base ≤ w'.heap.size) : SkTwo w0 w' base p B S q LA nL R cp T := by
  obtain ⟨cs, hq1⟩ := hq1
  have off : ∀ {k : Nat} {o : Obj}, w.heap[k]? = some o → ¬ skM p1 B1 k → k ≠ q1 → w'.heap[k]? = w.heap[k]? := fun {k o} hk h2 h3 => hc k (Array.getElem?_eq_some_iff.1 hk).1 h2 h3
  have n1 := not_skM h.st.sk hq1 (by decide) (by decide)
  obtain ⟨hc1, hp, _⟩ := h.st.sk.head
  refine ⟨⟨h.st.sk.move (off hp (fun hm => hd _ hm (.inl rfl)) (fun e => n1 (.inl e.symm))) (fun r hr => ?_), hb, hs, h.st.hp, h.st.hB, h.st.t0, h.st.t1, h.st.a0, h.st.a1⟩, ?_, (off h.box (not_skM h1 h.box (by decide) (by decide)) hne).trans h.box, h.hq⟩
  · obtain ⟨c2, h2, _⟩ := h.st.sk.row r hr
    exact off h2 (fun hm => hd _ hm (.inr ⟨r, hr, rfl⟩)) (fun e => n1 (.inr ⟨r, hr, e.symm⟩))
  · obtain ⟨f, h2, h3⟩ := h.rf.head
    have hb' : ∀ {b : Nat} {t : TypeId} {n : Nat} {g : Nat → Value}, w.rowIs b t n g → t ≠ 62 → t ≠ 5 → t ≠ 38 → w'.heap[b]? = w.heap[b]? := fun {b t n g} hr e1 e2 e3 => by
      obtain ⟨c, h4, _⟩ := hr
      refine off h4 (not_skM h1 h4 e1 e2) (fun e => ?_)
      rw [e, hq1] at h4
      simp at h4
      exact e3 h4.2.symm
    refine ⟨h.rf.w1, h.rf.w2, ⟨f, h2.of_block (hb' h2 (by decide) (by decide) (by decide)), h3⟩, fun r hr => ?_, h.rf.n4, h.rf.cw, h.rf.inj, h.rf.bd⟩
    obtain ⟨g, h4, h5⟩ := h.rf.row r hr
    exact ⟨g, h4.of_block (hb' h4 (by decide) (by decide) (by decide)), h5⟩

/-- Two sketches (S1, S2), two of the document's (T1, T2) in boxes. -/
structure SkPair (w0 w : World) (base p1 : Nat) (B1 : Nat → Nat) (S1 : Sk) (q1 LA1 nL1 : Nat) (R1 cp1 : Nat → Nat) (T1 : Sk) (p2 : Nat) (B2 : Nat → Nat) (S2 : Sk) (q2 LA2 nL2 : Nat) (R2 cp2 : Nat → Nat) (T2 : Sk) : Prop where
  a : SkTwo w0 w base p1 B1 S1 q1 LA1 nL1 R1 cp1 T1
  b : SkTwo w0 w base p2 B2 S2 q2 LA2 nL2 R2 cp2 T2
  dis : ∀ k, skM p1 B1 k → ¬ skM p2 B2 k
  hne : q1 ≠ q2
namespace SkPair
variable {w0 w w' : World} {base p1 p2 q1 q2 LA1 LA2 nL1 nL2 : Nat} {B1 B2 R1 R2 cp1 cp2 : Nat → Nat} {S1 S2 T1 T2 S' T' : Sk}
theorem swap (h : SkPair w0 w base p1 B1 S1 q1 LA1 nL1 R1 cp1 T1 p2 B2 S2 q2 LA2 nL2 R2 cp2 T2) : SkPair w0 w base p2 B2 S2 q2 LA2 nL2 R2 cp2 T2 p1 B1 S1 q1 LA1 nL1 R1 cp1 T1 :=
  ⟨h.b, h.a, fun k h1 h2 => h.dis k h2 h1, h.hne.symm⟩
theorem later (h : SkPair w0 w base p1 B1 S1 q1 LA1 nL1 R1 cp1 T1 p2 B2 S2 q2 LA2 nL2 R2 cp2 T2) (hb : Below w.heap.size w w') : SkPair w0 w' base p1 B1 S1 q1 LA1 nL1 R1 cp1 T1 p2 B2 S2 q2 LA2 nL2 R2 cp2 T2 :=
  ⟨h.a.later hb, h.b.later hb, h.dis, h.hne⟩
theorem chg (h : SkPair w0 w base p1 B1 S1 q1 LA1 nL1 R1 cp1 T1 p2 B2 S2 q2 LA2 nL2 R2 cp2 T2) (h1 : St w0 w' base p1 B1 S') (hc : Chg (skM p1 B1) w w') : SkPair w0 w' base p1 B1 S' q1 LA1 nL1 R1 cp1 T1 p2 B2 S2 q2 LA2 nL2 R2 cp2 T2 :=
  ⟨h.a.chg h1 hc, h.b.other h.a.st.sk ⟨_, h.a.box⟩ h.dis h.hne.symm (fun k hk h2 _ => hc.block k hk h2) h1.bel h1.hb, h.dis, h.hne⟩
theorem put (h : SkPair w0 w base p1 B1 S1 q1 LA1 nL1 R1 cp1 T1 p2 B2 S2 q2 LA2 nL2 R2 cp2 T2) {LA' nL' : Nat} {R' cp' : Nat → Nat} (h1 : IsRf w' LA' nL' R' cp' T') (h2 : RfOwn w.heap.size LA' R') (hb : Below w.heap.size w w') :
    SkPair w0 (((((w'.setCell ⟨q1, 0, none⟩ (.int .i64 T'.width)).setCell ⟨q1, 1, none⟩ (.slice (some ⟨LA', 0, none⟩) 4 nL')).setCell ⟨q1, 2, none⟩ (.int .i64 T'.total)).setCell ⟨q1, 3, none⟩ (.int .i64 T'.limit)).setCell ⟨q1, 4, none⟩ (.int .i64 T'.aged)) base p1 B1 S1 q1 LA' nL' R' cp' T' p2 B2 S2 q2 LA2 nL2 R2 cp2 T2 := by
  have h3 := h.a.put h1 h2 hb
  have h4 := h.b.later hb
  have h5 := h.a.later hb
  obtain ⟨_, off⟩ := set5 h5.box (.int .i64 T'.width) (.slice (some ⟨LA', 0, none⟩) 4 nL') (.int .i64 T'.total) (.int .i64 T'.limit) (.int .i64 T'.aged)
  exact ⟨h3, h4.other h5.st.sk ⟨_, h5.box⟩ h.dis h.hne.symm (fun k _ _ h6 => off k h6) h3.st.bel h3.st.hb, h.dis, h.hne⟩
end SkPair

/-- .. each the same as the document's. -/
def PR (w0 w : World) (base p1 q1 p2 q2 : Nat) (S T : Sk) : Prop := ∃ LA1 nL1 R1 cp1 LA2 nL2 R2 cp2, SkPair w0 w base p1 (fun r => p1 + (1 + r)) S q1 LA1 nL1 R1 cp1 S p2 (fun r => p2 + (1 + r)) T q2 LA2 nL2 R2 cp2 T
theorem New_st2 {w0 w : World} {base : Nat} (hb : Below base w0 w) (hs : base ≤ w.heap.size) (n : Nat) (z : Int) (hz : z = n) (h1 : 1 ≤ n) (h2 : n ≤ 4096) :
    Calls Tryd.prog 11 #[.int .i64 z, .int .i64 0] w fun e w' => e = .returned (.tuple #[.pointer (some ⟨w.heap.size, 0, none⟩), .nilIface]) ∧ St w0 w' base w.heap.size (fun r => w.heap.size + (1 + r)) (Sk.new n 0) ∧ Below w.heap.size w w' := by
  subst hz
  exact (New_ok n 0 w h1 h2 (by omega) (by omega)).mono fun e w' ⟨he, h1, h2, h3⟩ => ⟨he, St.new hb hs h1 h2, h2⟩
theorem refNew_z (n : Nat) (z : Int) (hz : z = n) (w : World) (h1 : 1 ≤ n) (h2 : n ≤ 4096) :
    Calls Tryd.prog 17 #[.int .i64 z, .int .i64 0] w (RfPostN w (Sk.new n 0)) := by
  subst hz
  exact refNew_ok n 0 w h1 h2 (by omega) (by omega)
theorem new_dis {w2 : World} {p : Nat} {S : Sk} (h : IsSk w2 p (fun r => p + (1 + r)) S) (k : Nat) (hk : skM p (fun r => p + (1 + r)) k) : ¬ skM w2.heap.size (fun r => w2.heap.size + (1 + r)) k := by
  have hlt : k < w2.heap.size := by
    rcases hk with rfl | ⟨r, hr, rfl⟩
    · exact h.head.lt
    · exact (h.row r hr).lt
  rintro (e | ⟨r, hr, e⟩)
  · omega
  · have e' : k = w2.heap.size + (1 + r) := e
    omega

theorem join_least (S T : Sk) (hw : T.width = S.width) (h x y : Int) (hx : x ≤ leastI S h 4) (hy : y ≤ leastI T h 4) (hxy : x + y ≤ 255) : x + y ≤ leastI (S.join T) h 4 := by
  refine least_ge _ h (x + y) hxy 4 fun r hr => ?_
  have h1 := least_le S h 4 r hr
  have h2 := least_le T h 4 r hr
  rw [hw] at h2
  show x + y ≤ capI (S.row r _ + T.row r _)
  have e : (S.join T).width = S.width := rfl
  rw [e]
  unfold capI
  split <;> omega
theorem join_counts (n : Nat) (l m : List ByteArray) (key : ByteArray) (hl : l.length ≤ 60) (hm : m.length ≤ 60) : ((cnt key l + cnt key m : Nat) : Int) ≤ ofI (((Sk.new n 0).adds l).join ((Sk.new n 0).adds m)) key := by
  have h1 := (adds_least n key l).1
  have h2 := (adds_least n key m).1
  have h3 := cnt_le key l
  have h4 := cnt_le key m
  have h5 := (adds_fields (Sk.new n 0) rfl l).2.1
  have h6 := (adds_fields (Sk.new n 0) rfl m).2.1
  have := join_least ((Sk.new n 0).adds l) ((Sk.new n 0).adds m) (by rw [h5, h6]) (hashI key) (cnt key l) (cnt key m) (by unfold ofI at h1; omega) (by unfold ofI at h2; omega) (by omega)
  unfold ofI
  omega
end Go.Proofs.YtpjdaglblckgfaaDoor
namespace Go.Proofs.YtpjdaglblckgfaaDoor
set_option linter.unusedVariables false
open Go.RowKit Go.Proofs.YtpjdaglblckgfaaDoorW.PrintWords
attribute [local go_sem ↓] Go.wp_at_zero Go.wp_at_succ

set_option maxHeartbeats 4000000 in
set_option maxRecDepth 100000 in
theorem joins_out (A B : Option Addr) (c d a b : Nat) (l m : List ByteArray) (key : ByteArray) (w : World) (hl : Kd.string.C w A l.length l) (hm : Kd.string.C w B m.length m) (hg : HG w)
    (hout : 60 < l.length ∨ 60 < m.length ∨ shortB l = false ∨ shortB m = false ∨ shortB [key] = false) :
    Calls Tryd.prog 7 #[.int .u16 a, .int .u16 b, .slice A l.length c, .slice B m.length d, .string key] w fun e w' => e = .returned (.bool true) ∧ Below w.heap.size w w' := by
  have HL := Lib.hid hl
  have HM := Lib.hid hm
  have HH := Lib.hid hg
  have h0 := Lib.hid (hg_pos hg)
  clear hl hm hg
  have hc : decide (60 < (l.length : Int)) = true ∨ (decide (60 < (l.length : Int)) = false ∧ (decide (60 < (m.length : Int)) = true ∨ (decide (60 < (m.length : Int)) = false ∧ (shortB l = false ∨ (shortB l = true ∧ (shortB m = false ∨ (shortB m = true ∧ shortB [key] = false))))))) := by
    by_cases h1 : 60 < l.length
    · exact .inl (decide_eq_true (by omega))
    · refine .inr ⟨decide_eq_false (by omega), ?_⟩
      by_cases h2 : 60 < m.length
      · exact .inl (decide_eq_true (by omega))
      · refine .inr ⟨decide_eq_false (by omega), ?_⟩
        cases h3 : shortB l
        · exact .inl rfl
        · refine .inr ⟨rfl, ?_⟩
          cases h4 : shortB m
          · exact .inl rfl
          · refine .inr ⟨rfl, ?_⟩
            rcases hout with h | h | h | h | h
            · omega
            · omega
            · rw [h3] at h; cases h
            · rw [h4] at h; cases h
            · exact h
  clear hout
  go_enter Tryd.func7, Tryd.ntmps7
  rcases hc with d1 | ⟨d1, d2 | ⟨d2, hs1 | ⟨hs1, hs2 | ⟨hs2, hs3⟩⟩⟩⟩
  · go_wp2_with fail
    refine (works_below HH.out h0.out (Below.refl _ _) (Nat.le_refl _)).mono ?_
    rintro e w6 ⟨rfl, b6⟩
    have B6 := Lib.hid b6
    clear b6
    go_wp2_with fail
    go_ret
    exact ⟨rfl, B6.out⟩
  · go_wp2_with fail
    refine (works_below HH.out h0.out (Below.refl _ _) (Nat.le_refl _)).mono ?_
    rintro e w6 ⟨rfl, b6⟩
    have B6 := Lib.hid b6
    clear b6
    go_wp2_with fail
    go_ret
    exact ⟨rfl, B6.out⟩
  · go_wp2_with fail
    refine (short_any A c l _ HL.out).mono ?_
    rintro e w' ⟨rfl, rfl⟩
    go_wp2_with fail
    refine (works_below HH.out h0.out (Below.refl _ _) (Nat.le_refl _)).mono ?_
    rintro e w6 ⟨rfl, b6⟩
    have B6 := Lib.hid b6
    clear b6
    go_wp2_with fail
    go_ret
    exact ⟨rfl, B6.out⟩
  · go_wp2_with fail
    refine (short_any A c l _ HL.out).mono ?_
    rintro e w' ⟨rfl, rfl⟩
    go_wp2_with fail
    refine (short_any B d m _ HM.out).mono ?_
    rintro e w' ⟨rfl, rfl⟩
    go_wp2_with fail
    refine (works_below HH.out h0.out (Below.refl _ _) (Nat.le_refl _)).mono ?_
    rintro e w6 ⟨rfl, b6⟩
    have B6 := Lib.hid b6
    clear b6
    go_wp2_with fail
    go_ret
    exact ⟨rfl, B6.out⟩
  · go_wp2_with fail
    refine (short_any A c l _ HL.out).mono ?_
    rintro e w' ⟨rfl, rfl⟩
    go_wp2_with fail
    refine (short_any B d m _ HM.out).mono ?_
    rintro e w' ⟨rfl, rfl⟩
    go_wp2_with fail
    refine (short_any _ 1 [key] _ (C_one _ _ _)).mono ?_
    rintro e w' ⟨rfl, hw⟩
    subst hw
    have B1 := Lib.hid ((Below.refl w.heap.size w).alloc (Nat.le_refl _) (.cells #[.string key] 9))
    generalize w.alloc (.cells #[.string key] 9) = w1 at *
    go_wp2_with fail
    refine (works_below HH.out h0.out B1.out B1.out.size).mono ?_
    rintro e w6 ⟨rfl, b6⟩
    have B6 := Lib.hid b6
    clear b6
    go_wp2_with fail
    go_ret
    exact ⟨rfl, B6.out⟩

set_option maxHeartbeats 8000000 in
set_option maxRecDepth 100000 in
theorem joins_good (A B : Option Addr) (c d a b : Nat) (l m : List ByteArray) (key : ByteArray) (w : World) (hl : Kd.string.C w A l.length l) (hm : Kd.string.C w B m.length m) (hg : HG w) (hk : key.size ≤ maxLen)
    (ha : a ≤ 65535) (hb : b ≤ 65535) (hl6 : l.length ≤ 60) (hm6 : m.length ≤ 60) (hs1 : shortB l = true) (hs2 : shortB m = true) (hs3 : shortB [key] = true) :
    Calls Tryd.prog 7 #[.int .u16 a, .int .u16 b, .slice A l.length c, .slice B m.length d, .string key] w fun e w' => e = .returned (.bool true) ∧ Below w.heap.size w w' := by
  have HL := Lib.hid hl
  have HM := Lib.hid hm
  have HH := Lib.hid hg
  have HK := Lib.hid hk
  have h0 := Lib.hid (hg_pos hg)
  clear hl hm hg hk
  have d1 : decide (60 < (l.length : Int)) = false := decide_eq_false (by omega)
  have d2 : decide (60 < (m.length : Int)) = false := decide_eq_false (by omega)
  obtain ⟨na, HNA, na1, na2⟩ : ∃ na : Nat, Hid (1 + (a : Int) % 40 = na) ∧ 1 ≤ na ∧ na ≤ 40 := ⟨1 + a % 40, by show 1 + (a : Int) % 40 = (((1 + a % 40) : Nat) : Int); omega, by omega, by omega⟩
  obtain ⟨nb, HNB, nb1, nb2⟩ : ∃ nb : Nat, Hid (1 + (b : Int) % 40 = nb) ∧ 1 ≤ nb ∧ nb ≤ 40 := ⟨1 + b % 40, by show 1 + (b : Int) % 40 = (((1 + b % 40) : Nat) : Int); omega, by omega, by omega⟩
  go_enter Tryd.func7, Tryd.ntmps7
  go_wp2_with fail
  refine (short_any A c l _ HL.out).mono ?_
  rintro e w' ⟨rfl, rfl⟩
  go_wp2_with fail
  refine (short_any B d m _ HM.out).mono ?_
  rintro e w' ⟨rfl, rfl⟩
  go_wp2_with fail
  refine (short_any _ 1 [key] _ (C_one _ _ _)).mono ?_
  rintro e w' ⟨rfl, hw⟩
  subst hw
  have B1 := Lib.hid ((Below.refl w.heap.size w).alloc (Nat.le_refl _) (.cells #[.string key] 9))
  generalize w.alloc (.cells #[.string key] 9) = w1 at *
  have hb1 := Lib.hid B1.out.size
  go_wp2_with fail
  refine (New_st B1.out hb1.out na _ HNA.out na1 (by omega)).mono ?_
  rintro e w2 ⟨rfl, i2⟩
  have I2 := Lib.hid i2
  clear i2 B1 hb1
  generalize w1.heap.size = p at *
  go_wp2_with fail
  refine (New_st2 I2.out.bel I2.out.hb nb _ HNB.out nb1 (by omega)).mono ?_
  rintro e w3 ⟨rfl, i3, b3⟩
  have I3 := Lib.hid i3
  have J3 := Lib.hid (I2.out.later b3)
  have DIS := Lib.hid (new_dis I2.out.sk)
  clear i3 b3 I2
  generalize w2.heap.size = p2 at *
  go_wp2_with fail
  refine (refNew_z na _ HNA.out w3 na1 (by omega)).mono ?_
  rintro e w4 ⟨LA, nL, R, cp, rfl, h4, ow4, b4⟩
  have hrf : rfCells LA nL (Sk.new na 0) = #[.int .i64 na, .slice (some ⟨LA, 0, none⟩) 4 nL, .int .i64 0, .int .i64 0, .int .i64 0] := rfl
  rw [hrf]
  clear hrf
  have T0 := Lib.hid (show SkTwo w (w4.alloc (.cells #[.int .i64 na, .slice (some ⟨LA, 0, none⟩) 4 nL, .int .i64 0, .int .i64 0, .int .i64 0] 38)) w.heap.size p (fun r => p + (1 + r)) (Sk.new na 0) w4.heap.size LA nL R cp (Sk.new na 0) from
    ⟨(J3.out.later b4).later (bel_alloc _ _), h4.later (bel_alloc _ _), heap_alloc_new _ _, Nat.le_trans J3.out.hb b4.size⟩)
  have I4 := Lib.hid ((I3.out.later b4).later (bel_alloc _ (.cells #[.int .i64 na, .slice (some ⟨LA, 0, none⟩) 4 nL, .int .i64 0, .int .i64 0, .int .i64 0] 38)))
  have Q1 := Lib.hid (show w4.heap.size < (w4.alloc (.cells #[.int .i64 na, .slice (some ⟨LA, 0, none⟩) 4 nL, .int .i64 0, .int .i64 0, .int .i64 0] 38)).heap.size by simp)
  clear h4 ow4 b4 I3 J3
  go_upto_region 8 with (fail)
  generalize w4.alloc (.cells #[.int .i64 na, .slice (some ⟨LA, 0, none⟩) 4 nL, .int .i64 0, .int .i64 0, .int .i64 0] 38) = w5 at *
  generalize w4.heap.size = q1 at *
  go_wp2_with fail
  refine (refNew_z nb _ HNB.out w5 nb1 (by omega)).mono ?_
  rintro e w6 ⟨LB, nB, RB, cB, rfl, h6, ow6, b6⟩
  have hrf : rfCells LB nB (Sk.new nb 0) = #[.int .i64 nb, .slice (some ⟨LB, 0, none⟩) 4 nB, .int .i64 0, .int .i64 0, .int .i64 0] := rfl
  rw [hrf]
  clear hrf
  have P0 := Lib.hid (show PR w (w6.alloc (.cells #[.int .i64 nb, .slice (some ⟨LB, 0, none⟩) 4 nB, .int .i64 0, .int .i64 0, .int .i64 0] 38)) w.heap.size p q1 p2 w6.heap.size (Sk.new na 0) (Sk.new nb 0) from
    ⟨LA, nL, R, cp, LB, nB, RB, cB, (T0.out.later b6).later (bel_alloc _ _), ⟨(I4.out.later b6).later (bel_alloc _ _), h6.later (bel_alloc _ _), heap_alloc_new _ _, Nat.le_trans I4.out.hb b6.size⟩, DIS.out, by have := Q1.out; have := b6.size; omega⟩)
  clear h6 ow6 b6 I4 T0 Q1 DIS
  go_upto_region 9 with (fail)
  generalize (w6.alloc (.cells #[.int .i64 nb, .slice (some ⟨LB, 0, none⟩) 4 nB, .int .i64 0, .int .i64 0, .int .i64 0] 38)) = w7 at *
  generalize w6.heap.size = q2 at *
  go_wp2_with fail
  go_loopw [19, 20] (fun v i wr => ∃ k : Nat, k ≤ l.length ∧ i = .int .i64 k ∧ v = .int .i64 (cnt key (l.take k) : Nat) ∧ Hid (PR w wr w.heap.size p q1 p2 q2 ((Sk.new na 0).adds (l.take k)) (Sk.new nb 0))) (fun _ i _ => l.length - (intOf i).toNat)
  case atStart => exact ⟨0, Nat.zero_le _, rfl, rfl, P0.out⟩
  case round =>
    obtain ⟨k, hk, rfl, rfl, HD⟩ := hrel
    by_cases hlt : k < l.length
    · obtain ⟨LA, nL, R, cp, LB, nB, RB, cB, HD⟩ : ∃ LA nL R cp LB nB RB cB, Hid (SkPair w wr w.heap.size p (fun r => p + (1 + r)) ((Sk.new na 0).adds (l.take k)) q1 LA nL R cp ((Sk.new na 0).adds (l.take k)) p2 (fun r => p2 + (1 + r)) (Sk.new nb 0) q2 LB nB RB cB (Sk.new nb 0)) := HD.out
      obtain ⟨ad, hA, hc⟩ := at_str HL.out hlt
      subst hA
      have hc1 : wr.cell? (ad.add k) = some (.string (sget l k)) := (HD.out.a.st.bel.cell (World.block_lt_of_cell? w _ hc)).trans hc
      have hf := adds_fields (Sk.new na 0) rfl (l.take k)
      have htk : (l.take k).length ≤ k := List.length_take_le _ _
      have HF := Lib.hid (show ((Sk.new na 0).adds (l.take k)).total ≤ 60 ∧ ((Sk.new na 0).adds (l.take k)).aged = 0 ∧ ((Sk.new na 0).adds (l.take k)).limit = 0 from ⟨by rw [hf.2.2.2]; simp [Sk.new]; omega, hf.2.2.1, hf.1⟩)
      have hAdd := Lib.hid (Add_stL HD.out.a.st (sget l k) (short_mem hs1 hlt) (by have := HF.out.1; omega) (by rw [HF.out.2.1]; decide))
      have HC := Lib.hid (cnt_snoc key (l.take k) (sget l k))
      have hcl : cnt key (l.take k) ≤ 60 := by have := cnt_le key (l.take k); omega
      have HT := Lib.hid (take_s hlt)
      have HSN := Lib.hid (adds_snoc (Sk.new na 0) (l.take k) (sget l k))
      clear hf htk
      go_wp2_with fail
      refine hAdd.out.mono ?_
      rintro e w8 ⟨rfl, h8, c8⟩
      have T6 := Lib.hid (HD.out.chg h8 c8)
      clear h8 c8 hAdd
      rw [← HSN.out] at T6
      have hc6 : w8.cell? (ad.add k) = some (.string (sget l k)) := (T6.out.a.st.bel.cell (World.block_lt_of_cell? w _ hc)).trans hc
      generalize hS : (Sk.new na 0).adds (l.take k) = S at *
      have HS := Lib.hid hS
      clear hS
      have v0 : w8.cell? ⟨q1, 0, none⟩ = some (.int .i64 S.width) := T6.out.a.cell 0
      have v1 : w8.cell? ⟨q1, 1, none⟩ = some (.slice (some ⟨LA, 0, none⟩) 4 nL) := T6.out.a.cell 1
      have v2 : w8.cell? ⟨q1, 2, none⟩ = some (.int .i64 S.total) := T6.out.a.cell 2
      have v3 : w8.cell? ⟨q1, 3, none⟩ = some (.int .i64 S.limit) := T6.out.a.cell 3
      have v4 : w8.cell? ⟨q1, 4, none⟩ = some (.int .i64 S.aged) := T6.out.a.cell 4
      go_wp2_with fail
      go_still_tail 5, (by kernel_rfl)
      go_wp2_with fail
      refine (refAdd_any LA nL R cp S (sget l k) (short_mem hs1 hlt) _ (by first | exact T6.out.a.rf | exact T6.out.a.rf.later (Drawn0.below ⟨_, rfl⟩)) HD.out.a.st.t0 (by have := HF.out.1; omega) HD.out.a.st.a0 (by rw [HF.out.2.1]; decide)).mono ?_
      rintro e w9 ⟨LA2, nL2, R2, cp2, rfl, h9, o9, b9⟩
      have hadd : S.add (sget l k) = (Sk.new na 0).adds (l.take k ++ [sget l k]) := HSN.out.symm
      rw [hadd] at h9
      rw [hadd]
      clear hadd
      generalize hSa : (Sk.new na 0).adds (l.take k ++ [sget l k]) = Sa at *
      have HSa := Lib.hid hSa
      clear hSa
      have T6d := Lib.hid (T6.out.later (Drawn0.below ⟨1, rfl⟩ : Below w8.heap.size w8 w8.drew))
      have T7 := Lib.hid (T6d.out.put h9 o9 b9)
      have T7b := Lib.hid (T6d.out.later b9)
      have hrf : rfCells LA2 nL2 Sa = #[.int .i64 Sa.width, .slice (some ⟨LA2, 0, none⟩) 4 nL2, .int .i64 Sa.total, .int .i64 Sa.limit, .int .i64 Sa.aged] := rfl
      rw [hrf]
      clear hrf h9 o9 b9 T6 v0 v1 v2 v3 v4 T6d hc6 hc1
      have v0 : w9.cell? ⟨q1, 0, none⟩ = some (.int .i64 S.width) := T7b.out.a.cell 0
      have v1 : w9.cell? ⟨q1, 1, none⟩ = some (.slice (some ⟨LA, 0, none⟩) 4 nL) := T7b.out.a.cell 1
      have v2 : w9.cell? ⟨q1, 2, none⟩ = some (.int .i64 S.total) := T7b.out.a.cell 2
      have v3 : w9.cell? ⟨q1, 3, none⟩ = some (.int .i64 S.limit) := T7b.out.a.cell 3
      have v4 : w9.cell? ⟨q1, 4, none⟩ = some (.int .i64 S.aged) := T7b.out.a.cell 4
      obtain ⟨f0, f1, f2, f3, f4⟩ : w9.frozen? ⟨q1, 0, none⟩ = false ∧ w9.frozen? ⟨q1, 1, none⟩ = false ∧ w9.frozen? ⟨q1, 2, none⟩ = false ∧ w9.frozen? ⟨q1, 3, none⟩ = false ∧ w9.frozen? ⟨q1, 4, none⟩ = false := ⟨T7b.out.a.fro 0, T7b.out.a.fro 1, T7b.out.a.fro 2, T7b.out.a.fro 3, T7b.out.a.fro 4⟩
      clear T7b
      go_upto_region 15 with (fail)
      generalize (((((w9.setCell ⟨q1, 0, none⟩ (.int .i64 Sa.width)).setCell ⟨q1, 1, none⟩ (.slice (some ⟨LA2, 0, none⟩) 4 nL2)).setCell ⟨q1, 2, none⟩ (.int .i64 Sa.total)).setCell ⟨q1, 3, none⟩ (.int .i64 Sa.limit)).setCell ⟨q1, 4, none⟩ (.int .i64 Sa.aged)) = wA at *
      clear v0 v1 v2 v3 v4 f0 f1 f2 f3 f4
      have hcA : wA.cell? (ad.add k) = some (.string (sget l k)) := (T7.out.a.st.bel.cell (World.block_lt_of_cell? w _ hc)).trans hc
      rw [← HSa.out, ← HT.out] at T7
      by_cases e1 : ((sget l k).toList == key.toList) = true
      · have HE := Lib.hid e1
        go_wp2_with fail
        go_roundw
        case rel => exact ⟨k + 1, by omega, by go_num, by rw [HT.out, HC.out, if_pos HE.out]; go_num, ⟨_, _, _, _, LB, nB, RB, cB, T7.out⟩⟩
        case measure => simp [intOf]; omega
      · have e2 : ((sget l k).toList == key.toList) = false := by simpa using e1
        have HE := Lib.hid e1
        clear e1
        go_wp2_with fail
        go_roundw
        case rel => exact ⟨k + 1, by omega, by go_num, by rw [HT.out, HC.out, if_neg HE.out]; rfl, ⟨_, _, _, _, LB, nB, RB, cB, T7.out⟩⟩
        case measure => simp [intOf]; omega
    · have hT : l.take k = l := List.take_of_length_le (by omega)
      rw [hT] at HD ⊢
      clear hT
      go_wp2_with fail
      go_loopw [19, 21] (fun v i wr => ∃ k : Nat, k ≤ m.length ∧ i = .int .i64 k ∧ v = .int .i64 (cnt key l + cnt key (m.take k) : Nat) ∧ Hid (PR w wr w.heap.size p q1 p2 q2 ((Sk.new na 0).adds l) ((Sk.new nb 0).adds (m.take k)))) (fun _ i _ => m.length - (intOf i).toNat)
      case atStart => exact ⟨0, Nat.zero_le _, rfl, by simp [cnt], HD.out⟩
      case round =>
        obtain ⟨k, hk, rfl, rfl, HD⟩ := hrel
        by_cases hlt : k < m.length
        · obtain ⟨LA, nL, R, cp, LB, nB, RB, cB, HD⟩ : ∃ LA nL R cp LB nB RB cB, Hid (SkPair w wr w.heap.size p2 (fun r => p2 + (1 + r)) ((Sk.new nb 0).adds (m.take k)) q2 LA nL R cp ((Sk.new nb 0).adds (m.take k)) p (fun r => p + (1 + r)) ((Sk.new na 0).adds l) q1 LB nB RB cB ((Sk.new na 0).adds l)) := by
            obtain ⟨a1, a2, a3, a4, a5, a6, a7, a8, h⟩ := HD.out
            exact ⟨a5, a6, a7, a8, a1, a2, a3, a4, h.swap⟩
          obtain ⟨ad, hA, hc⟩ := at_str HM.out hlt
          subst hA
          have hc1 : wr.cell? (ad.add k) = some (.string (sget m k)) := (HD.out.a.st.bel.cell (World.block_lt_of_cell? w _ hc)).trans hc
          have hf := adds_fields (Sk.new nb 0) rfl (m.take k)
          have htk : (m.take k).length ≤ k := List.length_take_le _ _
          have HF := Lib.hid (show ((Sk.new nb 0).adds (m.take k)).total ≤ 60 ∧ ((Sk.new nb 0).adds (m.take k)).aged = 0 ∧ ((Sk.new nb 0).adds (m.take k)).limit = 0 from ⟨by rw [hf.2.2.2]; simp [Sk.new]; omega, hf.2.2.1, hf.1⟩)
          have hAdd := Lib.hid (Add_stL HD.out.a.st (sget m k) (short_mem hs2 hlt) (by have := HF.out.1; omega) (by rw [HF.out.2.1]; decide))
          have HC := Lib.hid (cnt_snoc key (m.take k) (sget m k))
          have hcl : cnt key (m.take k) ≤ 60 := by have := cnt_le key (m.take k); omega
          have HT := Lib.hid (take_s hlt)
          have HSN := Lib.hid (adds_snoc (Sk.new nb 0) (m.take k) (sget m k))
          clear hf htk
          go_wp2_with fail
          refine hAdd.out.mono ?_
          rintro e w8 ⟨rfl, h8, c8⟩
          have T6 := Lib.hid (HD.out.chg h8 c8)
          clear h8 c8 hAdd
          rw [← HSN.out] at T6
          have hc6 : w8.cell? (ad.add k) = some (.string (sget m k)) := (T6.out.a.st.bel.cell (World.block_lt_of_cell? w _ hc)).trans hc
          generalize hS : (Sk.new nb 0).adds (m.take k) = S at *
          have HS := Lib.hid hS
          clear hS
          have v0 : w8.cell? ⟨q2, 0, none⟩ = some (.int .i64 S.width) := T6.out.a.cell 0
          have v1 : w8.cell? ⟨q2, 1, none⟩ = some (.slice (some ⟨LA, 0, none⟩) 4 nL) := T6.out.a.cell 1
          have v2 : w8.cell? ⟨q2, 2, none⟩ = some (.int .i64 S.total) := T6.out.a.cell 2
          have v3 : w8.cell? ⟨q2, 3, none⟩ = some (.int .i64 S.limit) := T6.out.a.cell 3
          have v4 : w8.cell? ⟨q2, 4, none⟩ = some (.int .i64 S.aged) := T6.out.a.cell 4
          go_wp2_with fail
          go_still_tail 5, (by kernel_rfl)
          go_wp2_with fail
          refine (refAdd_any LA nL R cp S (sget m k) (short_mem hs2 hlt) _ (by first | exact T6.out.a.rf | exact T6.out.a.rf.later (Drawn0.below ⟨_, rfl⟩)) HD.out.a.st.t0 (by have := HF.out.1; omega) HD.out.a.st.a0 (by rw [HF.out.2.1]; decide)).mono ?_
          rintro e w9 ⟨LA2, nL2, R2, cp2, rfl, h9, o9, b9⟩
          have hadd : S.add (sget m k) = (Sk.new nb 0).adds (m.take k ++ [sget m k]) := HSN.out.symm
          rw [hadd] at h9
          rw [hadd]
          clear hadd
          generalize hSa : (Sk.new nb 0).adds (m.take k ++ [sget m k]) = Sa at *
          have HSa := Lib.hid hSa
          clear hSa
          have T6d := Lib.hid (T6.out.later (Drawn0.below ⟨1, rfl⟩ : Below w8.heap.size w8 w8.drew))
          have T7 := Lib.hid (T6d.out.put h9 o9 b9)
          have T7b := Lib.hid (T6d.out.later b9)
          have hrf : rfCells LA2 nL2 Sa = #[.int .i64 Sa.width, .slice (some ⟨LA2, 0, none⟩) 4 nL2, .int .i64 Sa.total, .int .i64 Sa.limit, .int .i64 Sa.aged] := rfl
          rw [hrf]
          clear hrf h9 o9 b9 T6 v0 v1 v2 v3 v4 T6d hc6 hc1
          have v0 : w9.cell? ⟨q2, 0, none⟩ = some (.int .i64 S.width) := T7b.out.a.cell 0
          have v1 : w9.cell? ⟨q2, 1, none⟩ = some (.slice (some ⟨LA, 0, none⟩) 4 nL) := T7b.out.a.cell 1
          have v2 : w9.cell? ⟨q2, 2, none⟩ = some (.int .i64 S.total) := T7b.out.a.cell 2
          have v3 : w9.cell? ⟨q2, 3, none⟩ = some (.int .i64 S.limit) := T7b.out.a.cell 3
          have v4 : w9.cell? ⟨q2, 4, none⟩ = some (.int .i64 S.aged) := T7b.out.a.cell 4
          obtain ⟨f0, f1, f2, f3, f4⟩ : w9.frozen? ⟨q2, 0, none⟩ = false ∧ w9.frozen? ⟨q2, 1, none⟩ = false ∧ w9.frozen? ⟨q2, 2, none⟩ = false ∧ w9.frozen? ⟨q2, 3, none⟩ = false ∧ w9.frozen? ⟨q2, 4, none⟩ = false := ⟨T7b.out.a.fro 0, T7b.out.a.fro 1, T7b.out.a.fro 2, T7b.out.a.fro 3, T7b.out.a.fro 4⟩
          clear T7b
          go_upto_region 22 with (fail)
          generalize (((((w9.setCell ⟨q2, 0, none⟩ (.int .i64 Sa.width)).setCell ⟨q2, 1, none⟩ (.slice (some ⟨LA2, 0, none⟩) 4 nL2)).setCell ⟨q2, 2, none⟩ (.int .i64 Sa.total)).setCell ⟨q2, 3, none⟩ (.int .i64 Sa.limit)).setCell ⟨q2, 4, none⟩ (.int .i64 Sa.aged)) = wA at *
          clear v0 v1 v2 v3 v4 f0 f1 f2 f3 f4
          have hcA : wA.cell? (ad.add k) = some (.string (sget m k)) := (T7.out.a.st.bel.cell (World.block_lt_of_cell? w _ hc)).trans hc
          rw [← HSa.out, ← HT.out] at T7
          by_cases e1 : ((sget m k).toList == key.toList) = true
          · have HE := Lib.hid e1
            have hcl0 : cnt key l ≤ 60 := by have := cnt_le key l; omega
            go_wp2_with fail
            go_roundw
            case rel => exact ⟨k + 1, by omega, by go_num, by rw [HT.out, HC.out, if_pos HE.out]; go_num, ⟨LB, nB, RB, cB, _, _, _, _, T7.out.swap⟩⟩
            case measure => simp [intOf]; omega
          · have e2 : ((sget m k).toList == key.toList) = false := by simpa using e1
            have HE := Lib.hid e1
            clear e1
            go_wp2_with fail
            go_roundw
            case rel => exact ⟨k + 1, by omega, by go_num, by rw [HT.out, HC.out, if_neg HE.out]; rfl, ⟨LB, nB, RB, cB, _, _, _, _, T7.out.swap⟩⟩
            case measure => simp [intOf]; omega
        · have hT : m.take k = m := List.take_of_length_le (by omega)
          rw [hT] at HD ⊢
          clear hT
          obtain ⟨LA, nL, R, cp, LB, nB, RB, cB, HP⟩ : ∃ LA nL R cp LB nB RB cB, Hid (SkPair w wr w.heap.size p (fun r => p + (1 + r)) ((Sk.new na 0).adds l) q1 LA nL R cp ((Sk.new na 0).adds l) p2 (fun r => p2 + (1 + r)) ((Sk.new nb 0).adds m) q2 LB nB RB cB ((Sk.new nb 0).adds m)) := HD.out
          clear HD
          have hfS := adds_fields (Sk.new na 0) rfl l
          have hfT := adds_fields (Sk.new nb 0) rfl m
          have hwS : ((Sk.new na 0).adds l).width = na := hfS.2.1
          have hwT : ((Sk.new nb 0).adds m).width = nb := hfT.2.1
          have HTOT := Lib.hid (show ((Sk.new na 0).adds l).total ≤ 60 ∧ ((Sk.new nb 0).adds m).total ≤ 60 ∧ ((Sk.new na 0).adds l).aged = 0 ∧ ((Sk.new nb 0).adds m).aged = 0 from ⟨by rw [hfS.2.2.2]; simp [Sk.new]; omega, by rw [hfT.2.2.2]; simp [Sk.new]; omega, hfS.2.2.1, hfT.2.2.1⟩)
          have HCNT := Lib.hid (show na = nb → ((cnt key l + cnt key m : Nat) : Int) ≤ ofI (((Sk.new na 0).adds l).join ((Sk.new nb 0).adds m)) key from fun e => by rw [← e]; exact join_counts na l m key hl6 hm6)
          have hc1 := cnt_le key l
          have hc2 := cnt_le key m
          have HCL := Lib.hid (show cnt key l + cnt key m ≤ 120 by omega)
          clear hfS hfT hc1 hc2
          generalize (Sk.new na 0).adds l = S at *
          generalize (Sk.new nb 0).adds m = T at *
          generalize cnt key l + cnt key m = nn at *
          go_wp2_with fail
          refine (Join_nil p wr).mono ?_
          rintro e wB ⟨op, at_, rfl, hwB⟩
          have E1 := Lib.hid (show wB.heap[wr.heap.size]? = some (faultO op at_ 1 .nilIface) by rw [hwB]; exact heap_alloc_new _ _)
          have PB := Lib.hid (show SkPair w wB w.heap.size p (fun r => p + (1 + r)) S q1 LA nL R cp S p2 (fun r => p2 + (1 + r)) T q2 LB nB RB cB T by rw [hwB]; exact HP.out.later (bel_alloc _ _))
          clear hwB HP
          generalize wr.heap.size = g1 at *
          go_wp2_with fail
          by_cases hnm : na = nb
          · have hw : T.width = S.width := by rw [hwS, hwT, hnm]
            have HCN := Lib.hid (HCNT.out hnm)
            have HW := Lib.hid hw
            subst hnm
            clear hw HCNT hwS hwT HNB
            refine (Join_ok p p2 _ _ S T wB PB.out.a.st.sk PB.out.b.st.sk HW.out PB.out.a.st.t0 PB.out.a.st.t1 PB.out.b.st.t0 PB.out.b.st.t1 PB.out.a.st.a0 PB.out.a.st.a1 PB.out.b.st.a0 PB.out.b.st.a1).mono ?_
            rintro e wC ⟨rfl, sC, bC⟩
            have SC := Lib.hid (show St w wC w.heap.size wB.heap.size (fun r => wB.heap.size + (1 + r)) (S.join T) from
              ⟨sC, PB.out.a.st.bel.trans (bC.mono PB.out.a.st.hb), Nat.le_trans PB.out.a.st.hb bC.size, PB.out.a.st.hb, fun r _ => by have := PB.out.a.st.hb; omega, by show 0 ≤ S.total + T.total; have := PB.out.a.st.t0; have := PB.out.b.st.t0; omega, by show S.total + T.total ≤ _; have := HTOT.out; omega, by show 0 ≤ S.aged + T.aged; have := HTOT.out; omega, by show S.aged + T.aged ≤ _; have := HTOT.out; omega⟩)
            have PC := Lib.hid (PB.out.later bC)
            have E2 := Lib.hid ((bC.block g1 (Array.getElem?_eq_some_iff.1 E1.out).1).trans E1.out)
            clear sC bC E1 PB
            generalize wB.heap.size = p3 at *
            have v0 : wC.cell? ⟨q1, 0, none⟩ = some (.int .i64 S.width) := PC.out.a.cell 0
            have v1 : wC.cell? ⟨q1, 1, none⟩ = some (.slice (some ⟨LA, 0, none⟩) 4 nL) := PC.out.a.cell 1
            have v2 : wC.cell? ⟨q1, 2, none⟩ = some (.int .i64 S.total) := PC.out.a.cell 2
            have v3 : wC.cell? ⟨q1, 3, none⟩ = some (.int .i64 S.limit) := PC.out.a.cell 3
            have v4 : wC.cell? ⟨q1, 4, none⟩ = some (.int .i64 S.aged) := PC.out.a.cell 4
            have u0 : wC.cell? ⟨q2, 0, none⟩ = some (.int .i64 T.width) := PC.out.b.cell 0
            have u1 : wC.cell? ⟨q2, 1, none⟩ = some (.slice (some ⟨LB, 0, none⟩) 4 nB) := PC.out.b.cell 1
            have u2 : wC.cell? ⟨q2, 2, none⟩ = some (.int .i64 T.total) := PC.out.b.cell 2
            have u3 : wC.cell? ⟨q2, 3, none⟩ = some (.int .i64 T.limit) := PC.out.b.cell 3
            have u4 : wC.cell? ⟨q2, 4, none⟩ = some (.int .i64 T.aged) := PC.out.b.cell 4
            go_wp2_with fail
            refine (refJoin_ok LA nL R cp S LB nB RB cB T wC PC.out.a.rf PC.out.b.rf HW.out PC.out.a.st.t0 (by have := HTOT.out; omega) PC.out.b.st.t0 (by have := HTOT.out; omega) PC.out.a.st.a0 (by have := HTOT.out; omega) PC.out.b.st.a0 (by have := HTOT.out; omega)).mono ?_
            rintro e wD ⟨LZ, nZ, RZ, cZ, rfl, hZ, oZ, bD⟩
            clear v0 v1 v2 v3 v4 u0 u1 u2 u3 u4
            have hrf : rfCells LZ nZ (S.join T) = #[.int .i64 (S.join T).width, .slice (some ⟨LZ, 0, none⟩) 4 nZ, .int .i64 (S.join T).total, .int .i64 (S.join T).limit, .int .i64 (S.join T).aged] := rfl
            rw [hrf]
            clear hrf
            have HAG := Lib.hid (show (S.join T).aged = 0 by show S.aged + T.aged = 0; have := HTOT.out; omega)
            generalize S.join T = Z at *
            have TD := Lib.hid (show SkTwo w (wD.alloc (.cells #[.int .i64 Z.width, .slice (some ⟨LZ, 0, none⟩) 4 nZ, .int .i64 Z.total, .int .i64 Z.limit, .int .i64 Z.aged] 38)) w.heap.size p3 (fun r => p3 + (1 + r)) Z wD.heap.size LZ nZ RZ cZ Z from
              ⟨(SC.out.later bD).later (bel_alloc _ _), hZ.later (bel_alloc _ _), heap_alloc_new _ _, Nat.le_trans SC.out.hb bD.size⟩)
            have E3 := Lib.hid ((Below.heap_alloc wD (.cells #[.int .i64 Z.width, .slice (some ⟨LZ, 0, none⟩) 4 nZ, .int .i64 Z.total, .int .i64 Z.limit, .int .i64 Z.aged] 38) _ (Nat.lt_of_lt_of_le (Array.getElem?_eq_some_iff.1 E2.out).1 bD.size)).trans ((bD.block g1 (Array.getElem?_eq_some_iff.1 E2.out).1).trans E2.out))
            clear hZ oZ bD E2 SC PC
            go_upto_region 27 with (fail)
            generalize wD.alloc (.cells #[.int .i64 Z.width, .slice (some ⟨LZ, 0, none⟩) 4 nZ, .int .i64 Z.total, .int .i64 Z.limit, .int .i64 Z.aged] 38) = wE at *
            generalize wD.heap.size = q3 at *
            go_wp2_with fail
            refine (of_code (faultV g1) [(op, at_, 1)] wE (.new E3.out (by decide)) (HH.out.below' TD.out.st.bel h0.out)).mono ?_
            rintro e wF ⟨rfl, bF⟩
            have hco1 : codeOf [(op, at_, 1)] = 1 := rfl
            rw [hco1]
            have TF := Lib.hid (TD.out.later bF)
            clear hco1 bF TD E3
            go_wp2_with fail
            refine (of_code .nilIface [] wF .nil (HH.out.below' TF.out.st.bel h0.out)).mono ?_
            rintro e wG ⟨rfl, bG⟩
            have hco2 : codeOf [] = 0 := rfl
            rw [hco2]
            have TG := Lib.hid (TF.out.later bG)
            clear hco2 bG TF
            go_wp2_with fail
            go_loopw [28] (fun i wr => ∃ r : Nat, r ≤ 4 ∧ i = .int .i64 r ∧ Hid (SkTwo w wr w.heap.size p3 (fun r => p3 + (1 + r)) Z q3 LZ nZ RZ cZ Z)) (fun i _ => 4 - (intOf i).toNat)
            case atStart => exact ⟨0, Nat.zero_le _, rfl, TG.out⟩
            case round =>
              obtain ⟨r, hr4, rfl, HG⟩ := hrel
              by_cases hrl : r < 4
              · have hw2 := HG.out.rf.w2
                have n4 := HG.out.rf.n4
                have hS : ∀ W, Below wr.heap.size wr W → (W.cell? ⟨q3, 1, none⟩ = some (.slice (some ⟨LZ, 0, none⟩) 4 nZ) ∧ W.cell? ⟨LZ, r, none⟩ = some (.slice (some ⟨RZ r, 0, none⟩) Z.width (cZ r))) := fun W hW =>
                  ⟨(HG.out.later hW).cell 1, (HG.out.later hW).rf.cellh hrl⟩
                have hC1 : ∀ W, Below wr.heap.size wr W → Calls Tryd.prog 26 #[.pointer (some ⟨p3, 0, none⟩), .int .i64 r] W fun e w' => ∃ A c, e = .returned (.slice A Z.width c) ∧ (Kd.int .i64).C w' A Z.width (Z.rowL r) ∧ Z.width ≤ c ∧ Below wr.heap.size wr w' := fun W hW =>
                  (Row_st (HG.out.later hW).st r hrl).mono fun e w' ⟨A, c, he, hC, hc, _, hb⟩ => ⟨A, c, he, hC, hc, hW.trans (hb.mono hW.size)⟩
                have hC2 : ∀ A c W, (Kd.int .i64).C W A Z.width (Z.rowL r) → Z.width ≤ c → Below wr.heap.size wr W → Calls Tryd.prog 25 #[.slice A Z.width c, .slice (some ⟨RZ r, 0, none⟩) Z.width (cZ r)] W fun e w' => e = .returned (.bool true) ∧ Below wr.heap.size wr w' := fun A c W hC hc hW => by
                  have hl := Z.rowL_len r
                  have h1 := row_C (HG.out.later hW).rf hrl
                  have h2 := HG.out.rf.cw r hrl
                  have := ints_any A (some ⟨RZ r, 0, none⟩) c (cZ r) (Z.rowL r) (Z.rowL r) W (by rw [hl]; exact hC) (by rw [hl]; exact hc) (by rw [hl]; exact h1) (by rw [hl]; exact h2) (by rw [hl]; omega)
                  rw [hl] at this
                  exact this.mono fun e w' ⟨he, m, hm⟩ => ⟨by rw [he]; simp, by subst hm; exact hW.trans ((Drawn0.below ⟨m, rfl⟩).mono hW.size)⟩
                obtain ⟨s0, s1⟩ := hS wr (Below.refl _ _)
                have HSS := Lib.hid hS
                have HC1 := Lib.hid hC1
                have HC2 := Lib.hid hC2
                clear hS hC1 hC2
                have i3 : (0 : Int) ≤ (r : Int) := by omega
                have i4 : (r : Int) < 4 := by omega
                have i5 : (4 : Int) ≤ (nZ : Int) := by omega
                have b0 : Hid (Below wr.heap.size wr wr.drew) := Drawn0.below ⟨1, rfl⟩
                go_wp2_with fail
                go_region_held3 (fun w' => w'.cell? ⟨q3, 1, none⟩ = some (.slice (some ⟨LZ, 0, none⟩) 4 nZ) ∧ w'.cell? ⟨LZ, r, none⟩ = some (.slice (some ⟨RZ r, 0, none⟩) Z.width (cZ r)))
                  (first | exact ⟨s0, s1⟩ | exact HSS.out _ b0.out | exact HSS.out _ b5.out | exact HSS.out _ b6.out)
                  (first
                  | (go_at_call 26; ((with_reducible refine (HC1.out _ ?_).mono ?_)); (case refine_1 => exact b0.out); rintro e w5 ⟨A5, c5, rfl, hC, hc, hb⟩; have b5 := Lib.hid hb; have C5 := Lib.hid hC; have D5 := Lib.hid hc; clear hb hC hc)
                  | (go_at_call 25; ((with_reducible refine (HC2.out _ _ _ C5.out D5.out b5.out).mono ?_)); rintro e w6 ⟨rfl, hb⟩; have b6 := Lib.hid hb; clear hb))
                all_goals
                  go_wp2_with fail
                  go_roundw
                  case rel => exact ⟨r + 1, by omega, by go_num, HG.out.later b6.out⟩
                  case measure => simp [intOf]; omega
              · obtain rfl : r = 4 := by omega
                have hC1 : ∀ W, Below wr.heap.size wr W → Calls Tryd.prog 13 #[.pointer (some ⟨p3, 0, none⟩), .string key] W fun e w' => e = .returned (.int .i64 (ofI Z key)) ∧ Below wr.heap.size wr w' := fun W hW =>
                  (Of_any p3 _ Z key W (HG.out.later hW).st.sk HK.out).mono fun e w' ⟨he, m, hm⟩ => ⟨he, by subst hm; exact hW.trans ((Drawn0.below ⟨m, rfl⟩).mono hW.size)⟩
                have hC2 : ∀ W, Below wr.heap.size wr W → Calls Tryd.prog 14 #[.pointer (some ⟨p3, 0, none⟩)] W fun e w' => e = .returned (.int .i64 Z.total) ∧ W = w' := fun W hW => Total_any p3 _ Z W (HG.out.later hW).st.sk
                have hC3 : ∀ W, Below wr.heap.size wr W → Calls Tryd.prog 15 #[.pointer (some ⟨p3, 0, none⟩)] W fun e w' => e = .returned (.int .i64 0) ∧ W = w' := fun W hW => by
                  have := Aged_any p3 _ Z W (HG.out.later hW).st.sk
                  rwa [HAG.out] at this
                have hC4 : ∀ W, Below wr.heap.size wr W → Calls Tryd.prog 10 #[] W fun e w' => e = .returned (.bool true) ∧ Below wr.heap.size wr w' := fun W hW =>
                  (works_any W (HH.out.below' (HG.out.later hW).st.bel h0.out)).mono fun e w' ⟨he, hb⟩ => ⟨he, hW.trans (hb.mono hW.size)⟩
                have hS : ∀ W, Below wr.heap.size wr W → W.cell? ⟨q3, 2, none⟩ = some (.int .i64 Z.total) := fun W hW => (HG.out.later hW).cell 2
                have s0 := hS wr (Below.refl _ _)
                have hge : decide ((nn : Int) ≤ ofI Z key) = true := decide_eq_true HCN.out
                generalize ofI Z key = oz at *
                have HSS := Lib.hid hS
                have HC1 := Lib.hid hC1
                have HC2 := Lib.hid hC2
                have HC3 := Lib.hid hC3
                have HC4 := Lib.hid hC4
                clear hS hC1 hC2 hC3 hC4
                have b0 : Hid (Below wr.heap.size wr wr.drew) := Drawn0.below ⟨1, rfl⟩
                go_wp2_with fail
                go_region_held3 (fun w' => w'.cell? ⟨q3, 2, none⟩ = some (.int .i64 Z.total))
                  (first | exact s0 | exact HSS.out _ b0.out | exact HSS.out _ b5.out | exact HSS.out _ b6.out)
                  (first
                  | (go_at_call 13; ((with_reducible refine (HC1.out _ ?_).mono ?_)); (case refine_1 => exact b0.out); rintro e w5 ⟨rfl, hb⟩; have b5 := Lib.hid hb; clear hb)
                  | (go_at_call 14; ((with_reducible refine (HC2.out _ ?_).mono ?_)); (case refine_1 => first | exact b5.out | exact b0.out); rintro e w' ⟨rfl, rfl⟩)
                  | (go_at_call 15; ((with_reducible refine (HC3.out _ ?_).mono ?_)); (case refine_1 => first | exact b5.out | exact b0.out); rintro e w' ⟨rfl, rfl⟩)
                  | (go_at_call 10; ((with_reducible refine (HC4.out _ ?_).mono ?_)); (case refine_1 => first | exact b5.out | exact b0.out); rintro e w6 ⟨rfl, hb⟩; have b6 := Lib.hid hb; clear hb))
                all_goals
                  go_wp2_with fail
                  go_ret
                  exact ⟨rfl, HG.out.st.bel.trans (b6.out.mono HG.out.st.hb)⟩
          · have hw : S.width ≠ T.width := by rw [hwS, hwT]; exact hnm
            have HW := Lib.hid hw
            clear hw HCNT hwS hwT hnm
            refine (Join_ne p p2 _ _ S T wB PB.out.a.st.sk PB.out.b.st.sk HW.out).mono ?_
            rintro e wC ⟨op2, at2, g2, rfl, hg2, eC, bC⟩
            have PC := Lib.hid (PB.out.later bC)
            have E2 := Lib.hid ((bC.block g1 (Array.getElem?_eq_some_iff.1 E1.out).1).trans E1.out)
            have F2 := Lib.hid eC
            clear eC bC E1 PB hg2
            have v0 : wC.cell? ⟨q1, 0, none⟩ = some (.int .i64 S.width) := PC.out.a.cell 0
            have v1 : wC.cell? ⟨q1, 1, none⟩ = some (.slice (some ⟨LA, 0, none⟩) 4 nL) := PC.out.a.cell 1
            have v2 : wC.cell? ⟨q1, 2, none⟩ = some (.int .i64 S.total) := PC.out.a.cell 2
            have v3 : wC.cell? ⟨q1, 3, none⟩ = some (.int .i64 S.limit) := PC.out.a.cell 3
            have v4 : wC.cell? ⟨q1, 4, none⟩ = some (.int .i64 S.aged) := PC.out.a.cell 4
            have u0 : wC.cell? ⟨q2, 0, none⟩ = some (.int .i64 T.width) := PC.out.b.cell 0
            have u1 : wC.cell? ⟨q2, 1, none⟩ = some (.slice (some ⟨LB, 0, none⟩) 4 nB) := PC.out.b.cell 1
            have u2 : wC.cell? ⟨q2, 2, none⟩ = some (.int .i64 T.total) := PC.out.b.cell 2
            have u3 : wC.cell? ⟨q2, 3, none⟩ = some (.int .i64 T.limit) := PC.out.b.cell 3
            have u4 : wC.cell? ⟨q2, 4, none⟩ = some (.int .i64 T.aged) := PC.out.b.cell 4
            go_wp2_with fail
            refine (refJoin_bad LA nL S LB nB T wC HW.out).mono ?_
            rintro e wD ⟨rfl, bD⟩
            clear v0 v1 v2 v3 v4 u0 u1 u2 u3 u4
            have LD := Lib.hid (show Below wC.heap.size wC (wD.alloc (.cells #[.int .i64 0, .slice none 0 0, .int .i64 0, .int .i64 0, .int .i64 0] 38)) from bD.trans ((bel_alloc _ _).mono bD.size))
            have E3 := Lib.hid ((LD.out.block g1 (Array.getElem?_eq_some_iff.1 E2.out).1).trans E2.out)
            have F3 := Lib.hid ((LD.out.block g2 (Array.getElem?_eq_some_iff.1 F2.out).1).trans F2.out)
            have PE := Lib.hid (PC.out.later LD.out)
            clear bD LD E2 F2 PC
            go_upto_region 27 with (fail)
            generalize wD.alloc (.cells #[.int .i64 0, .slice none 0 0, .int .i64 0, .int .i64 0, .int .i64 0] 38) = wE at *
            generalize wD.heap.size = q3 at *
            go_wp2_with fail
            refine (of_code (faultV g1) [(op, at_, 1)] wE (.new E3.out (by decide)) (HH.out.below' PE.out.a.st.bel h0.out)).mono ?_
            rintro e wF ⟨rfl, bF⟩
            have hco1 : codeOf [(op, at_, 1)] = 1 := rfl
            rw [hco1]
            have PF := Lib.hid (PE.out.later bF)
            have F4 := Lib.hid ((bF.block g2 (Array.getElem?_eq_some_iff.1 F3.out).1).trans F3.out)
            clear hco1 bF PE E3 F3
            go_wp2_with fail
            refine (of_code (faultV g2) [(op2, at2, 3)] wF (.new F4.out (by decide)) (HH.out.below' PF.out.a.st.bel h0.out)).mono ?_
            rintro e wG ⟨rfl, bG⟩
            have hco2 : codeOf [(op2, at2, 3)] = 3 := rfl
            rw [hco2]
            have PG := Lib.hid (PF.out.later bG)
            clear hco2 bG PF F4
            go_wp2_with fail
            refine (works_below HH.out h0.out PG.out.a.st.bel PG.out.a.st.hb).mono ?_
            rintro e w6 ⟨rfl, b6⟩
            have B6 := Lib.hid b6
            clear b6
            go_wp2_with fail
            go_ret
            exact ⟨rfl, B6.out⟩
end Go.Proofs.YtpjdaglblckgfaaDoor
namespace Go.Proofs.YtpjdaglblckgfaaDoor
set_option linter.unusedVariables false
open Go.RowKit Go.Proofs.YtpjdaglblckgfaaDoorW.PrintWords

theorem joins_law (A B : Option Addr) (c d a b : Nat) (l m : List ByteArray) (key : ByteArray) (w : World) (hl : Kd.string.C w A l.length l) (hm : Kd.string.C w B m.length m) (hk : key.size ≤ maxLen) (ha : a ≤ 65535) (hb : b ≤ 65535) (hg : HG w) :
    Calls Tryd.prog 7 #[.int .u16 a, .int .u16 b, .slice A l.length c, .slice B m.length d, .string key] w fun e w' => e = .returned (.bool true) ∧ Below w.heap.size w w' := by
  by_cases hout : 60 < l.length ∨ 60 < m.length ∨ shortB l = false ∨ shortB m = false ∨ shortB [key] = false
  · exact joins_out A B c d a b l m key w hl hm hg hout
  · have t : ∀ {x : Bool}, ¬ x = false → x = true := fun {x} h => by cases x <;> simp_all
    refine joins_good A B c d a b l m key w hl hm hg hk ha hb ?_ ?_ (t fun h => hout (.inr (.inr (.inl h)))) (t fun h => hout (.inr (.inr (.inr (.inl h))))) (t fun h => hout (.inr (.inr (.inr (.inr h)))))
    · by_cases h : 60 < l.length
      · exact absurd (Or.inl h) hout
      · omega
    · by_cases h : 60 < m.length
      · exact absurd (Or.inr (Or.inl h)) hout
      · omega
end Go.Proofs.YtpjdaglblckgfaaDoor
