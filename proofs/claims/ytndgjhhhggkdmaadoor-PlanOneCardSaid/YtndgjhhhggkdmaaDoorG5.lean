/- The contracts of plan.Spread, and of the document's On, Load, Spread, Path, Owner. The contracts of the document's On, Load, Spread, Path, Owner. The contracts of plan.Best and of the document's Load, Spread, Path, Owner, Best. The contract of the document's Best. -/
import Derived.Test.YtndgjhhhggkdmaaDoorG4
import Derived.Test.YtndgjhhhggkdmaaDoorG3
import Derived.Deep.RegionWith
import Derived.Lib.MinMax
import Derived.Deep.RegionHeld3
import Derived.Deep.DrawnRows
import Derived.Deep.DeepCutAuto
namespace Go.Proofs.YtndgjhhhggkdmaaDoor
set_option linter.unusedVariables false
open Go.RowKit Go.Proofs.YtndgjhhhggkdmaaDoorW.PrintWords

theorem add_plain' (g o j : Nat) : (⟨g, o, none⟩ : Addr).add j = ⟨g, o + j, none⟩ := by unfold Addr.add; split <;> simp_all
theorem leastF_min (x : Int) (r : List Int) (y : Int) : leastF x (r ++ [y]) = min (leastF x r) y := by rw [leastF_snoc]; split <;> omega
theorem mostF_max (x : Int) (r : List Int) (y : Int) : mostF x (r ++ [y]) = max (mostF x r) y := by rw [mostF_snoc]; split <;> omega
theorem iget_cons (x : Int) (r : List Int) (k : Nat) : iget (x :: r) (k + 1) = iget r k := by simp [iget]
set_option maxHeartbeats 2000000 in
theorem Spread_any (p : Nat) (each : Int) (v : Value) (pts : List Pt) (A : Option Addr) (c : Nat) (ks : List ByteArray) (w : World) (hS : IsRg w p each v pts) (hR : Rising pts) (hC : Kd.string.C w A ks.length ks) (hss : ∀ s ∈ ks, s.size ≤ maxLen) (hl : pts.length ≤ 1000000) (hks : ks.length ≤ 1000) :
    Calls Tryd.prog 11 #[.pointer (some ⟨p, 0, none⟩), .slice A ks.length c] w fun e w' => e = .returned (.tuple #[.int .i64 (leastN (loadN pts ks)), .int .i64 (mostN (loadN pts ks))]) ∧ Below w.heap.size w w' := by
  have HL := Lib.hid (Load_any p each v pts A c ks w hS hR hC hss hl hks)
  have hnl : (loadN pts ks).length ≤ 17 := by unfold loadN; rw [List.length_map]; exact nodes_le pts
  clear hS hC hss
  obtain ⟨l, hle⟩ : ∃ l, l = loadN pts ks := ⟨_, rfl⟩
  rw [← hle] at HL hnl ⊢
  clear hle
  cases l with
  | nil =>
    go_enter Tryd.func11, Tryd.ntmps11
    go_wp2_with fail
    refine HL.out.mono ?_
    rintro e w1 ⟨u1, rfl, hr1, hb1⟩
    obtain ⟨A1, c1, rfl, hc1, hC1⟩ := Kd.R_reads hr1
    have B1 := Lib.hid hb1
    clear hr1 hb1 hC1 HL
    go_wp2_with fail
    go_ret2
    exact ⟨rfl, B1.out⟩
  | cons x r =>
    have hrl : r.length ≤ 17 := by simp at hnl; omega
    have hd1 : (((r.length + 1 : Nat) : Int) == 0) = false := by simp; omega
    have hln : leastN (x :: r) = leastF x r := rfl
    have hmn : mostN (x :: r) = mostF x r := rfl
    rw [hln, hmn]
    clear hln hmn hnl
    go_enter Tryd.func11, Tryd.ntmps11
    go_wp2_with fail
    refine HL.out.mono ?_
    rintro e w1 ⟨u1, rfl, hr1, hb1⟩
    obtain ⟨A1, c1, rfl, hc1, hC1⟩ := Kd.R_reads hr1
    have B1 := Lib.hid hb1
    have C1 := Lib.hid hC1
    obtain ⟨ad, hA, hc0⟩ := at_num C1.out (k := 0) (by simp)
    subst hA
    have hd0 : w1.cell? ad = some (.int .i64 x) := hc0
    rw [List.length_cons] at hc1 C1 ⊢
    clear hr1 hb1 hC1 HL hc0
    have hb0 : (0 : Int) < (r.length : Int) + 1 := by omega
    by_cases hcz : c1 = 1
    · have hr0 : r.length = 0 := by omega
      obtain rfl : r = [] := List.eq_nil_of_length_eq_zero hr0
      subst hcz
      clear hr0 hd1 hb0 hrl hc1
      go_wp2_with fail
      go_quiet (fail)
      go_wp2_with fail
      go_loop [7, 8, 26] (fun a b i => i = .int .i64 0 ∧ a = .int .i64 x ∧ b = .int .i64 x) (fun _ _ _ => 0)
      case atStart => exact ⟨rfl, rfl, rfl⟩
      case round =>
        obtain ⟨rfl, rfl, rfl⟩ := hrel
        go_wp2_with fail
        go_ret2
        exact ⟨rfl, B1.out.trans ((Drawn0.below ⟨_, rfl⟩).mono B1.out.size)⟩
    · have hc2 : 1 < c1 := by omega
      go_wp2_with fail
      go_quiet (fail)
      go_wp2_with fail
      go_loop [7, 8, 26] (fun a b i => ∃ k : Nat, k ≤ r.length ∧ i = .int .i64 k ∧ a = .int .i64 (leastF x (r.take k)) ∧ b = .int .i64 (mostF x (r.take k))) (fun _ _ i => r.length - (intOf i).toNat)
      case atStart => exact ⟨0, Nat.zero_le _, rfl, rfl, rfl⟩
      case round =>
        obtain ⟨k, hk, rfl, rfl, rfl⟩ := hrel
        by_cases hlt : k < r.length
        · obtain ⟨ad2, hA2, hc3⟩ := at_num C1.out (k := k + 1) (by simp; omega)
          injection hA2 with hA2
          subst hA2
          rw [iget_cons] at hc3
          have e1 : ad.add (k + 1) = (⟨ad.block, ad.off + 1, none⟩ : Addr).add k := by
            have := add_field ad 0 (k + 1) (by omega)
            rw [Nat.zero_add] at this
            rw [this, add_plain' ad.block (ad.off + 1) k]
            show (⟨ad.block, ad.off + (k + 1), none⟩ : Addr) = _
            congr 1
            omega
          rw [e1] at hc3
          rw [add_plain'] at hc3
          have hd3 : w1.cell? ⟨ad.block, ad.off + 1 + k, none⟩ = some (.int .i64 (iget r k)) := hc3
          have HL := Lib.hid (leastF_min x (r.take k) (iget r k))
          have HM := Lib.hid (mostF_max x (r.take k) (iget r k))
          have HT := Lib.hid (take_i hlt)
          clear hc3 e1
          go_wp2_with fail
          go_round
          case rel => exact ⟨k + 1, by omega, by go_num, by rw [HT.out, HL.out], by rw [HT.out, HM.out]⟩
          case measure => simp [intOf]; omega
        · obtain rfl : k = r.length := by omega
          go_wp2_with fail
          go_ret2
          refine ⟨?_, B1.out.trans ((Drawn0.below ⟨_, rfl⟩).mono B1.out.size)⟩
          rfl
end Go.Proofs.YtndgjhhhggkdmaaDoor
namespace Go.Proofs.YtndgjhhhggkdmaaDoor
set_option linter.unusedVariables false
open Go.RowKit Go.Proofs.YtndgjhhhggkdmaaDoorW.PrintWords
attribute [local go_sem ↓] Go.wp_at_zero Go.wp_at_succ

/-- What lies while the document's On goes on. -/
structure OnRel (w wr : World) (q : Nat) (each : Int) (xv : Value) (L : List Int) : Prop where
  b4 : wr.heap[w.heap.size]? = some (.cells #[.int .i64 0, .slice none 0 0] 32 (0, 0))
  b6 : wr.heap[q]? = some (.cells #[.int .i64 each, xv] 32 (0, 0))
  row : (Kd.int .i64).R 3 wr w.heap.size (fun _ => True) xv L
  bel : Below w.heap.size w wr
  hq : w.heap.size < q
namespace OnRel
variable {w wr w1 : World} {q : Nat} {each each' : Int} {xv xv' : Value} {L L' : List Int}
theorem later (h : OnRel w wr q each xv L) (hb : Below wr.heap.size wr w1) : OnRel w w1 q each xv L :=
  ⟨(hb.block _ (Array.getElem?_eq_some_iff.1 h.b4).1).trans h.b4, (hb.block _ (Array.getElem?_eq_some_iff.1 h.b6).1).trans h.b6, Kd.R_below h.row hb, h.bel.trans (hb.mono h.bel.size), h.hq⟩
theorem cell0 (h : OnRel w wr q each xv L) : wr.cell? ⟨q, 0, none⟩ = some (.int .i64 each) := cell_row h.b6 0
theorem cell1 (h : OnRel w wr q each xv L) : wr.cell? ⟨q, 1, none⟩ = some xv := cell_row h.b6 1
theorem fro (h : OnRel w wr q each xv L) (j : Nat) : wr.frozen? ⟨q, j, none⟩ = false := by simp [World.frozen?, h.b6]
theorem setx (h : OnRel w wr q each xv L) (hr : (Kd.int .i64).R 3 wr w.heap.size (fun _ => True) xv' L') : OnRel w ((wr.setCell ⟨q, 0, none⟩ (.int .i64 each')).setCell ⟨q, 1, none⟩ xv') q each' xv' L' := by
  have e : (wr.setCell ⟨q, 0, none⟩ (.int .i64 each')).heap[q]? = some (.cells #[.int .i64 each', xv] 32 (0, 0)) := by
    rw [setCell_eq_setRow wr _ 0 _ _ _ _ h.b6]
    exact setRow_heap wr _ _ _ _ _ h.b6
  have hoff : ∀ k, k ≠ q → ((wr.setCell ⟨q, 0, none⟩ (.int .i64 each')).setCell ⟨q, 1, none⟩ xv').heap[k]? = wr.heap[k]? := fun k hk => by
    rw [Below.heap_setCell _ _ _ _ hk, Below.heap_setCell _ _ _ _ hk]
  exact ⟨(hoff _ (Nat.ne_of_lt h.hq)).trans h.b4, block_set2 h.b6 _ _, Kd.R_set (Kd.R_set hr h.b6 (fun q hq => ring_ne hq) 0 _) e (fun q hq => ring_ne hq) 1 _, (h.bel.setCell (Nat.le_of_lt h.hq) _).setCell (Nat.le_of_lt h.hq) _, h.hq⟩
theorem fin (h : OnRel w wr q each xv L) :
    ((wr.setCell ⟨w.heap.size, 0, none⟩ (.int .i64 each)).setCell ⟨w.heap.size, 1, none⟩ xv).heap[w.heap.size]? = some (.cells #[.int .i64 each, xv] 32 (0, 0)) ∧
    (Kd.int .i64).R 3 ((wr.setCell ⟨w.heap.size, 0, none⟩ (.int .i64 each)).setCell ⟨w.heap.size, 1, none⟩ xv) w.heap.size (fun _ => True) xv L ∧
    Below w.heap.size w ((wr.setCell ⟨w.heap.size, 0, none⟩ (.int .i64 each)).setCell ⟨w.heap.size, 1, none⟩ xv) := by
  have e : (wr.setCell ⟨w.heap.size, 0, none⟩ (.int .i64 each)).heap[w.heap.size]? = some (.cells #[.int .i64 each, .slice none 0 0] 32 (0, 0)) := by
    rw [setCell_eq_setRow wr _ 0 _ _ _ _ h.b4]
    exact setRow_heap wr _ _ _ _ _ h.b4
  exact ⟨block_set2 h.b4 _ _, Kd.R_set (Kd.R_set h.row h.b4 (fun q hq => ring_ne hq) 0 _) e (fun q hq => ring_ne hq) 1 _, (h.bel.setCell (Nat.le_refl _) _).setCell (Nat.le_refl _) _⟩
end OnRel
/-- Behind some nodes: what the document's ring is, and what is wrong. -/
def OnAt (each : Nat) (l : List Int) (k : Nat) (cc : Int) (P : List Pt) : Prop :=
  Good each P ∧ ((cc = 0 ∧ P = adds each [] (l.take k) ∧ addsC each [] (l.take k) = 0) ∨ (cc ≠ 0 ∧ addsC each [] l = cc))
def RefOnPost (w : World) (each : Nat) (l : List Int) (e : Ending) (w' : World) : Prop :=
  ∃ u L, e = .returned (.tuple #[.agg #[.int .i64 each, u], .int .i64 (addsC each [] l)]) ∧ (Kd.int .i64).R 3 w' w.heap.size (fun _ => True) u L ∧ Below w.heap.size w w' ∧ (addsC each [] l = 0 → L = nodesN (adds each [] l) 17)

set_option maxHeartbeats 2000000 in
theorem refOn_any (each : Nat) (h1 : 1 ≤ each) (h2 : each ≤ 9) (A : Option Addr) (c : Nat) (l : List Int) (w : World) (hC : (Kd.int .i64).C w A l.length l) (hl : l.length ≤ 1000) :
    Calls Tryd.prog 9 #[.int .i64 each, .slice A l.length c] w (RefOnPost w each l) := by
  have HC := Lib.hid hC
  clear hC
  have hn1 : (if (each : Int) < 1 ∨ 64 < (each : Int) then (0 : Int) else each) = each := if_neg (by omega)
  have hn2 : (if (each : Int) < 1 ∨ 64 < (each : Int) then (2 : Int) else 0) = 0 := if_neg (by omega)
  have hnew := refNew_any (each : Int)
  rw [hn1, hn2] at hnew
  have HNEW := Lib.hid hnew
  clear hn1 hn2 hnew
  go_enter Tryd.func9, Tryd.ntmps9
  go_wp2_with fail
  refine (HNEW.out _).mono ?_
  rintro e w2 ⟨xv, rfl, hxr, hxb⟩
  obtain ⟨xA, xc, hxv⟩ := Kd.R_slice hxr
  subst hxv
  have H0 : Hid (OnRel w (w2.alloc (.cells #[.int .i64 each, .slice xA 0 xc] 32)) w2.heap.size each (.slice xA 0 xc) []) := by
    have hs : w.heap.size < w2.heap.size := by have := hxb.size; simp at this; omega
    refine ⟨(Below.heap_alloc _ _ _ hs).trans ((hxb.block _ (by simp)).trans (heap_alloc_new _ _)), heap_alloc_new _ _, Kd.R_below (Kd.R_lower hxr (by simp)) (bel_alloc _ _), ?_, hs⟩
    exact ((bel_alloc w _).trans (hxb.mono (by simp))).trans ((bel_alloc w2 _).mono (by omega))
  clear hxr hxb HNEW
  generalize hW3 : w2.alloc (.cells #[.int .i64 each, .slice xA 0 xc] 32) = w3 at *
  go_wp2_with fail
  clear hW3
  generalize w2.heap.size = q at *
  go_loopw [7, 8] (fun d i wr => ∃ (k : Nat) (cc : Int), k ≤ l.length ∧ i = .int .i64 k ∧ d = .int .i64 cc ∧ Hid (∃ P xv, OnRel w wr q each xv (nodesN P 17) ∧ OnAt each l k cc P)) (fun _ i _ => l.length - (intOf i).toNat)
  case atStart => exact ⟨0, 0, Nat.zero_le _, rfl, rfl, [], _, H0.out, Good.nil each, .inl ⟨rfl, rfl, rfl⟩⟩
  case round =>
    obtain ⟨k, cc, hk, rfl, rfl, HD⟩ := hrel
    obtain ⟨P, xv, HD⟩ : ∃ P xv, Hid (OnRel w wr q each xv (nodesN P 17) ∧ OnAt each l k cc P) := by
      obtain ⟨P, xv, h⟩ := HD.out
      exact ⟨P, xv, h⟩
    obtain ⟨xA2, xc2, hxv⟩ := Kd.R_slice HD.out.1.row
    subst hxv
    have x0 := HD.out.1.cell0
    have x1 := HD.out.1.cell1
    by_cases hlt : k < l.length ∧ cc = 0
    · obtain ⟨hlt, rfl⟩ := hlt
      obtain ⟨hg, hat⟩ := HD.out.2
      have hat2 := hat.resolve_right (fun e => e.1 rfl)
      obtain ⟨-, hP, hz⟩ := hat2
      have HG := Lib.hid hg
      have HZ := Lib.hid hz
      have HP := Lib.hid hP
      clear hg hat hz hP
      obtain ⟨ad, hA, hc0⟩ := at_num HC.out hlt
      subst hA
      have hnl := nodes_le P
      have hdd : ∀ W, Below wr.heap.size wr W → W.cell? (ad.add k) = some (.int .i64 (iget l k)) ∧ W.cell? ⟨q, 0, none⟩ = some (.int .i64 each) ∧ W.cell? ⟨q, 1, none⟩ = some (.slice xA2 (nodesN P 17).length xc2) := fun W hW =>
        ⟨((HD.out.1.later hW).bel.cell (World.block_lt_of_cell? w _ hc0)).trans hc0, (HD.out.1.later hW).cell0, (HD.out.1.later hW).cell1⟩
      have hcall : ∀ W, Below wr.heap.size wr W → _ := fun W hW => refAdd_any each xA2 xc2 (nodesN P 17) (iget l k) w.heap.size W (HD.out.1.later hW).row (HD.out.1.later hW).bel.size (by omega)
      have HS := Lib.hid (addsC_snoc each [] (l.take k) (iget l k) HZ.out)
      have HAS := Lib.hid (adds_snoc each [] (l.take k) (iget l k))
      have HT := Lib.hid (take_i hlt)
      generalize iget l k = nd at *
      obtain ⟨s0, s1, s2⟩ := hdd wr (Below.refl _ _)
      have HSS := Lib.hid hdd
      have HCALL := Lib.hid hcall
      have b0 : Hid (Below wr.heap.size wr wr.drew) := Drawn0.below ⟨1, rfl⟩
      have bz : Hid (Below wr.heap.size wr (wr.alloc (.cells #[.int .i64 0, .slice none 0 0] 32)).drew) := ((bel_alloc _ _).trans ((Drawn0.below ⟨1, rfl⟩).mono (bel_alloc _ _).size))
      clear hc0 hdd hcall x0 x1
      go_wp2_with fail
      go_cut [9, 10] (fun t d wx => ∃ b9 A5 n5 c5, t = .pointer (some ⟨b9, 0, none⟩) ∧ d = .int .i64 (addLC (nodesN P 17) nd) ∧ Hid (wx.heap[b9]? = some (.cells #[.int .i64 each, .slice A5 n5 c5] 32 (0, 0)) ∧ b9 ≠ q ∧ (Kd.int .i64).R 3 wx w.heap.size (fun _ => True) (.slice A5 n5 c5) (addL (nodesN P 17) nd) ∧ Below wr.heap.size wr wx))
      case first =>
        go_region_held3 (fun w' => w'.cell? (ad.add k) = some (.int .i64 nd) ∧ w'.cell? ⟨q, 0, none⟩ = some (.int .i64 each) ∧ w'.cell? ⟨q, 1, none⟩ = some (.slice xA2 (nodesN P 17).length xc2)) (first | exact ⟨s0, s1, s2⟩ | exact HSS.out _ b0.out | exact HSS.out _ bz.out | exact HSS.out _ b5.out | exact HSS.out _ (b0.out.trans ((bel_alloc _ _).mono b0.out.size)) | exact HSS.out _ (b5.out.trans ((bel_alloc _ _).mono b5.out.size)) | exact HSS.out _ ((b5.out.setCell (Nat.le_refl _) _).setCell (Nat.le_refl _) _))
          ((go_at_call 27; first
            | (((with_reducible refine (HCALL.out wr.drew ?_).mono ?_)); (case refine_1 => exact b0.out); rintro e w5 ⟨A5, n5, c5, rfl, hr5, hb5⟩; have R5 := Lib.hid hr5; have b5 := Lib.hid (b0.out.trans (hb5.mono b0.out.size)); clear hr5 hb5)
            | (((with_reducible refine (HCALL.out ((wr.alloc (.cells #[.int .i64 0, .slice none 0 0] 32)).drew) ?_).mono ?_)); (case refine_1 => exact bz.out); rintro e w5 ⟨A5, n5, c5, rfl, hr5, hb5⟩; have R5 := Lib.hid hr5; have b5 := Lib.hid (bz.out.trans (hb5.mono bz.out.size)); have Y5 := Lib.hid ((hb5.block wr.heap.size (by simp)).trans (heap_alloc_new wr (.cells #[.int .i64 0, .slice none 0 0] 32))); have y0 : w5.cell? ⟨wr.heap.size, 0, none⟩ = some (.int .i64 0) := cell_row Y5.out 0; have y1 : w5.cell? ⟨wr.heap.size, 1, none⟩ = some (.slice none 0 0) := cell_row Y5.out 1; have g0 : w5.frozen? ⟨wr.heap.size, 0, none⟩ = false := (by simp [World.frozen?, Y5.out]); have g1 : w5.frozen? ⟨wr.heap.size, 1, none⟩ = false := (by simp [World.frozen?, Y5.out]); clear hr5 hb5)))
        · go_wp2_with fail
          go_meet
          refine ⟨_, _, _, _, rfl, rfl, heap_alloc_new _ _, ?_, Kd.R_below R5.out (bel_alloc _ _), b5.out.trans ((bel_alloc _ _).mono b5.out.size)⟩
          have h1 := (Array.getElem?_eq_some_iff.1 HD.out.1.b6).1
          have h2 := b5.out.size
          omega
        · go_wp2_with fail
          go_meet
          have e : (w5.setCell ⟨wr.heap.size, 0, none⟩ (.int .i64 each)).heap[wr.heap.size]? = some (.cells #[.int .i64 each, .slice none 0 0] 32 (0, 0)) := by
            rw [setCell_eq_setRow _ _ 0 _ _ _ _ Y5.out]
            exact setRow_heap _ _ _ _ _ _ Y5.out
          refine ⟨_, _, _, _, rfl, rfl, block_set2 Y5.out _ _, ?_, Kd.R_set (Kd.R_set R5.out Y5.out (fun q hq => ring_ne hq) 0 _) e (fun q hq => ring_ne hq) 1 _, (b5.out.setCell (Nat.le_refl _) _).setCell (Nat.le_refl _) _⟩
          have h1 := (Array.getElem?_eq_some_iff.1 HD.out.1.b6).1
          omega
      case rest =>
        obtain ⟨b9, A5, n5, c5, rfl, rfl, HX⟩ := hcut
        have z0 : wc.cell? ⟨b9, 0, none⟩ = some (.int .i64 each) := cell_row HX.out.1 0
        have z1 : wc.cell? ⟨b9, 1, none⟩ = some (.slice A5 n5 c5) := cell_row HX.out.1 1
        have I5 := Lib.hid (HD.out.1.later HX.out.2.2.2)
        have y0 := I5.out.cell0
        have y1 := I5.out.cell1
        have g0 := I5.out.fro 0
        have g1 := I5.out.fro 1
        have hxq := HX.out.2.1
        have hlc := Lib.hid (link_code HG.out.ok nd).1
        have hla := Lib.hid (link_add HG.out.ok (by omega : 0 < each) nd)
        have I6 := Lib.hid (I5.out.setx (each' := each) HX.out.2.2.1)
        rw [hlc.out]
        generalize hcd : addC P nd = cd at *
        have HCD := Lib.hid hcd
        clear hcd s0 s1 s2 HSS HCALL b0 bz
        go_wp2_with fail
        go_roundw
        case rel =>
          refine ⟨k + 1, cd, by omega, by go_num, rfl, addR each P nd, _, by rw [hla.out]; exact I6.out, HG.out.addR h2 nd, ?_⟩
          rw [HT.out, HAS.out, HS.out, ← HP.out, HCD.out]
          by_cases hz : cd = 0
          · exact .inl ⟨hz, rfl, hz⟩
          · refine .inr ⟨hz, ?_⟩
            have h3 : addsC each [] (l.take (k + 1)) = cd := by rw [HT.out, HS.out, ← HP.out, HCD.out]
            rw [addsC_stop each [] l (k + 1) (by rw [h3]; exact hz), h3]
        case measure => simp [intOf]; omega
    · have hnl := nodes_le P
      have e0 : wr.cell? ⟨w.heap.size, 0, none⟩ = some (.int .i64 0) := cell_row HD.out.1.b4 0
      have e1 : wr.cell? ⟨w.heap.size, 1, none⟩ = some (.slice none 0 0) := cell_row HD.out.1.b4 1
      have f0 : wr.frozen? ⟨w.heap.size, 0, none⟩ = false := by simp [World.frozen?, HD.out.1.b4]
      have f1 : wr.frozen? ⟨w.heap.size, 1, none⟩ = false := by simp [World.frozen?, HD.out.1.b4]
      have hends : addsC each [] l = cc ∧ (cc = 0 → nodesN P 17 = nodesN (adds each [] l) 17) := by
        rcases HD.out.2.2 with ⟨h3, h4, h5⟩ | ⟨h3, h4⟩
        · have hkl : k = l.length := by
            rcases Nat.lt_or_ge k l.length with h | h
            · exact absurd ⟨h, h3⟩ hlt
            · omega
          rw [hkl, List.take_length] at h4 h5
          exact ⟨by rw [h5, h3], fun _ => by rw [h4]⟩
        · exact ⟨h4, fun h => absurd h h3⟩
      have HE := Lib.hid hends
      clear hends
      have hd : decide (k < l.length) = false ∨ (decide (k < l.length) = true ∧ (cc == 0) = false) := by
        by_cases h : k < l.length
        · exact .inr ⟨decide_eq_true h, by simpa using fun e => hlt ⟨h, e⟩⟩
        · exact .inl (decide_eq_false h)
      clear hlt
      rcases hd with hd1 | ⟨hd1, hd2⟩
      all_goals
        go_wp2_with fail
        refine bodyPost_ret (results_ct rfl _ _ w.heap.size 32 #[.int .i64 each, .slice xA2 (nodesN P 17).length xc2] (0, 0) _ rfl HD.out.1.fin.1 Tryd.underlying32 rfl (by kernel_rfl)) rfl ?_
        refine ⟨_, _, ?_, HD.out.1.fin.2.1, HD.out.1.fin.2.2, fun h => HE.out.2 (HE.out.1 ▸ h)⟩
        rw [HE.out.1]
        rfl
end Go.Proofs.YtndgjhhhggkdmaaDoor
namespace Go.Proofs.YtndgjhhhggkdmaaDoor
set_option linter.unusedVariables false
open Go.RowKit Go.Proofs.YtndgjhhhggkdmaaDoorW.PrintWords

theorem leastF_bd {B : Int} : ∀ (r : List Int) (x : Int), (0 ≤ x ∧ x ≤ B) → (∀ y ∈ r, 0 ≤ y ∧ y ≤ B) → 0 ≤ leastF x r ∧ leastF x r ≤ B
  | [], x, h, _ => h
  | y :: r, x, h, hr => leastF_bd r (if y < x then y else x) (by split; exact hr y List.mem_cons_self; exact h) (fun z hz => hr z (List.mem_cons_of_mem _ hz))
theorem mostF_bd {B : Int} : ∀ (r : List Int) (x : Int), (0 ≤ x ∧ x ≤ B) → (∀ y ∈ r, 0 ≤ y ∧ y ≤ B) → 0 ≤ mostF x r ∧ mostF x r ≤ B
  | [], x, h, _ => h
  | y :: r, x, h, hr => mostF_bd r (if x < y then y else x) (by split; exact hr y List.mem_cons_self; exact h) (fun z hz => hr z (List.mem_cons_of_mem _ hz))
theorem spread_bd (P : List Pt) (ks : List ByteArray) : 0 ≤ leastN (loadN P ks) ∧ leastN (loadN P ks) ≤ ks.length ∧ 0 ≤ mostN (loadN P ks) ∧ mostN (loadN P ks) ≤ ks.length := by
  have h : ∀ x ∈ loadN P ks, 0 ≤ x ∧ x ≤ ks.length := fun x hx => by
    obtain ⟨n, _, rfl⟩ := List.mem_map.1 hx
    exact share_bd P n ks
  generalize loadN P ks = l at h
  cases l with
  | nil => exact ⟨by simp [leastN], by simp [leastN], by simp [mostN], by simp [mostN]⟩
  | cons x r =>
    have h1 := leastF_bd r x (h x List.mem_cons_self) (fun y hy => h y (List.mem_cons_of_mem _ hy))
    have h2 := mostF_bd r x (h x List.mem_cons_self) (fun y hy => h y (List.mem_cons_of_mem _ hy))
    exact ⟨h1.1, h1.2, h2.1, h2.2⟩
def gapN (P : List Pt) (ks : List ByteArray) : Int := mostN (loadN P ks) - leastN (loadN P ks)
/-- The best number of points, so many numbers on. -/
def bestGo (nodes : List Int) (ks : List ByteArray) : Nat → Int → Int → Int → Int × Int
  | 0, _, b, _ => (b, if b = 0 then 2 else 0)
  | f + 1, e, b, g => if addsC e.toNat [] nodes = 0 then (if b = 0 ∨ gapN (adds e.toNat [] nodes) ks < g then bestGo nodes ks f (e + 1) e (gapN (adds e.toNat [] nodes) ks) else bestGo nodes ks f (e + 1) b g) else (0, addsC e.toNat [] nodes)
def bestN (fr to_ : Int) (nodes : List Int) (ks : List ByteArray) : Int × Int := bestGo nodes ks (min to_ 64 + 1 - max fr 1).toNat (max fr 1) 0 0
def BestPost (w : World) (r : Int × Int) (e : Ending) (w' : World) : Prop := ∃ ev lst, e = .returned (.tuple #[.int .i64 r.1, ev]) ∧ ErrIs w' ev lst ∧ codeOf lst = r.2 ∧ Below w.heap.size w w'
theorem nil_none (w : World) : ErrIs w .nilIface [] := .nil

set_option maxHeartbeats 2000000 in
theorem Best_any (fr to_ : Int) (hto : to_ ≤ 8 ∨ 64 < fr) (A : Option Addr) (c : Nat) (l : List Int) (KA : Option Addr) (kc : Nat) (ks : List ByteArray) (w : World) (hC : (Kd.int .i64).C w A l.length l) (hK : Kd.string.C w KA ks.length ks) (hss : ∀ s ∈ ks, s.size ≤ maxLen) (hl : l.length ≤ 100) (hks : ks.length ≤ 100) :
    Calls Tryd.prog 20 #[.int .i64 fr, .int .i64 to_, .slice A l.length c, .slice KA ks.length kc] w (BestPost w (bestN fr to_ l ks)) := by
  have HC := Lib.hid hC
  have HK := Lib.hid hK
  have HSS := Lib.hid hss
  have HTO := Lib.hid hto
  clear hC hK hss hto
  generalize hR : bestN fr to_ l ks = R
  have HR := Lib.hid hR
  clear hR
  go_enter Tryd.func20, Tryd.ntmps20
  go_wp2_with fail
  go_loopw [10, 11, 12] (fun b g e wr => ∃ bv gv ev : Int, b = .int .i64 bv ∧ g = .int .i64 gv ∧ e = .int .i64 ev ∧ max fr 1 ≤ ev ∧ Hid (bestGo l ks (min to_ 64 + 1 - ev).toNat ev bv gv = R ∧ Below w.heap.size w wr)) (fun _ _ e _ => (min to_ 64 + 1 - intOf e).toNat)
  case atStart => exact ⟨0, 0, max fr 1, rfl, rfl, rfl, Int.le_refl _, HR.out, Below.refl _ _⟩
  case round =>
    obtain ⟨bv, gv, ev, rfl, rfl, rfl, he, HD⟩ := hrel
    by_cases hle : ev ≤ min to_ 64
    · have hto8 : to_ ≤ 8 := by
        rcases HTO.out with h | h
        · exact h
        · omega
      have hev0 : 1 ≤ ev := by omega
      have hev8 : ev ≤ 8 := by omega
      obtain ⟨n, hn⟩ := Int.eq_ofNat_of_zero_le (show 0 ≤ ev by omega)
      subst hn
      have hn1 : 1 ≤ n := by omega
      have hn8 : n ≤ 8 := by omega
      have hdle : decide ((n : Int) ≤ min to_ 64) = true := decide_eq_true hle
      have hfu : (min to_ 64 + 1 - (n : Int)).toNat = (min to_ 64 + 1 - ((n : Int) + 1)).toNat + 1 := by omega
      have hgo := HD.out.1
      rw [hfu, bestGo, Int.toNat_natCast] at hgo
      have HGO := Lib.hid hgo
      have HLE := Lib.hid hle
      have HEE := Lib.hid he
      have HCALL := Lib.hid (On_any n hn1 (by omega) A c l wr (Kd.C_below HC.out HD.out.2) (by omega))
      clear hgo hfu hto8 hev0 hev8 hle he
      go_wp2_with fail
      refine HCALL.out.mono ?_
      rintro e w1 hon
      rcases hon with ⟨hz, p, v, rfl, hst⟩ | ⟨hz, b1, lst, rfl, herr, hcd, hb1⟩
      · have HZ := Lib.hid hz
        have ST := Lib.hid hst
        have HW := Lib.hid (hst.bel)
        have B1 := Lib.hid (HD.out.2.trans (hst.bel.mono HD.out.2.size))
        have hal := adds_len n l []
        have hmul : l.length * n ≤ 100 * 8 := Nat.mul_le_mul hl hn8
        simp only [List.length_nil, Nat.zero_add] at hal
        have HSP := Lib.hid (Spread_any p n v (adds n [] l) KA kc ks w1 hst.rg hst.ris (Kd.C_below HK.out B1.out) HSS.out (by omega) (by omega))
        obtain ⟨d0, d1, d2, d3⟩ := spread_bd (adds n [] l) ks
        have hgap : gapN (adds n [] l) ks = mostN (loadN (adds n [] l) ks) - leastN (loadN (adds n [] l) ks) := rfl
        have hgo := HGO.out
        rw [if_pos HZ.out, hgap] at hgo
        clear hz hst HCALL hal hmul hgap HGO HR
        generalize leastN (loadN (adds n [] l) ks) = lv at *
        generalize mostN (loadN (adds n [] l) ks) = mv at *
        have HGO := Lib.hid hgo
        clear hgo
        go_wp2_with fail
        refine HSP.out.mono ?_
        rintro e w2 ⟨rfl, hb2⟩
        have B2 := Lib.hid (B1.out.trans (hb2.mono B1.out.size))
        clear hb2 HSP B1 HW ST
        have hdd : (bv = 0 ∧ (bv == 0) = true) ∨ (bv ≠ 0 ∧ (bv == 0) = false ∧ mv - lv < gv ∧ decide (mv - lv < gv) = true) ∨ (bv ≠ 0 ∧ (bv == 0) = false ∧ ¬ (mv - lv < gv) ∧ decide (mv - lv < gv) = false) := by
          by_cases hb : bv = 0
          · exact .inl ⟨hb, by simp [hb]⟩
          · by_cases hg : mv - lv < gv
            · exact .inr (.inl ⟨hb, by simpa using hb, hg, decide_eq_true hg⟩)
            · exact .inr (.inr ⟨hb, by simpa using hb, hg, decide_eq_false hg⟩)
        rcases hdd with ⟨hb, hb1⟩ | ⟨hb, hb1, hg, hg2⟩ | ⟨hb, hb1, hg, hg2⟩
        · have hgo := HGO.out
          rw [if_pos (.inl hb)] at hgo
          have HGO2 := Lib.hid hgo
          clear hgo hb
          go_wp2_with fail
          go_roundw
          case rel => exact ⟨(n : Int), mv - lv, (n : Int) + 1, rfl, rfl, rfl, by have := HEE.out; omega, HGO2.out, B2.out⟩
          case measure => have := HLE.out; simp [intOf]; omega
        · have hgo := HGO.out
          rw [if_pos (.inr hg)] at hgo
          have HGO2 := Lib.hid hgo
          clear hgo hb hg
          go_wp2_with fail
          go_roundw
          case rel => exact ⟨(n : Int), mv - lv, (n : Int) + 1, rfl, rfl, rfl, by have := HEE.out; omega, HGO2.out, B2.out⟩
          case measure => have := HLE.out; simp [intOf]; omega
        · have hgo := HGO.out
          rw [if_neg (fun e => e.elim hb hg)] at hgo
          have HGO2 := Lib.hid hgo
          clear hgo hb hg
          go_wp2_with fail
          go_roundw
          case rel => exact ⟨bv, gv, (n : Int) + 1, rfl, rfl, rfl, by have := HEE.out; omega, HGO2.out, B2.out⟩
          case measure => have := HLE.out; simp [intOf]; omega
      · have HZ := Lib.hid hz
        have E1 := Lib.hid herr
        have CD := Lib.hid hcd
        have B1 := Lib.hid (HD.out.2.trans (hb1.mono HD.out.2.size))
        have hgo := HGO.out
        rw [if_neg HZ.out] at hgo
        have HGO2 := Lib.hid hgo
        clear hz herr hcd hb1 hgo HGO HCALL
        go_wp2_with fail
        refine (wrap_any _ _ _ lst w1 E1.out (by rw [CD.out]; exact HZ.out)).mono ?_
        rintro e w3 ⟨rfl, e3, hcd3, b3⟩
        have E3 := Lib.hid e3
        have C3 := Lib.hid hcd3
        have B3 := Lib.hid b3
        clear e3 hcd3 b3
        go_wp2_with fail
        go_ret2
        exact ⟨_, _, by rw [← HGO2.out]; rfl, E3.out, by rw [C3.out, CD.out, ← HGO2.out], B1.out.trans (B3.out.mono B1.out.size)⟩
    · have hdle : decide (ev ≤ min to_ 64) = false := decide_eq_false hle
      have hfu : (min to_ 64 + 1 - ev).toNat = 0 := by omega
      have hgo := HD.out.1
      rw [hfu, bestGo] at hgo
      have HGO := Lib.hid hgo
      have HLE := Lib.hid hle
      clear hgo hfu hle
      by_cases hb : bv = 0
      · subst hb
        go_wp2_with fail
        refine (new_any _ _ 2 rfl _).mono ?_
        rintro e w2 ⟨rfl, hw2⟩
        have E2 := Lib.hid (show ErrIs w2 (faultV wr.heap.size) [(_, fr, 2)] by rw [hw2]; exact ErrIs.new_alloc _ _ fr 2 (by decide))
        have B2 := Lib.hid (show Below wr.heap.size wr w2 by rw [hw2]; exact bel_alloc _ _)
        clear hw2
        go_wp2_with fail
        go_ret2
        exact ⟨_, _, by rw [← HGO.out]; rfl, E2.out, by rw [← HGO.out]; rfl, HD.out.2.trans (B2.out.mono HD.out.2.size)⟩
      · have hb1 : (bv == 0) = false := by simpa using hb
        have HB := Lib.hid hb
        clear hb
        go_wp2_with fail
        go_ret2
        exact ⟨_, _, by rw [← HGO.out]; rfl, .nil, by rw [← HGO.out, if_neg HB.out]; rfl, HD.out.2⟩

/-! the document's Owner, Load, Spread, Path at a ring that is good -/
theorem refowner_ev (each : Nat) (he : each ≤ 64) (L : List Int) (hL : L.length ≤ 100) (s : ByteArray) (hs : s.size ≤ maxLen) : Evt (fun k => PR.butteryref22_Owner.f k each L s) ((refOwners each L (hashI s) 1).headD 0) := by
  unfold maxLen at hs
  obtain ⟨K, hK⟩ := refowners_f each he L hL s (by omega) 1
  refine ⟨K, fun k hk => ?_⟩
  unfold PR.butteryref22_Owner.f
  dsimp only
  rw [hK k hk, Option.bind_some]
  cases h : refOwners each L (hashI s) 1 with
  | nil => simp
  | cons x r =>
    rw [if_neg (by first | (simp; done) | (simp; omega)), if_pos (by first | (simp; done) | (simp; omega))]
    simp [rd]
theorem refowner_good {each : Nat} {P : List Pt} (hg : Good each P) (h0 : 0 < each) (he : each ≤ 9) (s : ByteArray) (hs : s.size ≤ maxLen) : Evt (fun k => PR.butteryref22_Owner.f k each (nodesN P 17) s) (ownerN P (hashI s)) := by
  have hnl := nodes_le P
  have := refowner_ev each (by omega) (nodesN P 17) (by omega) s hs
  rw [← owners_ref hg h0 he (hashI_bd s).1 (hashI_bd s).2 1] at this
  exact this
section
variable {each : Nat} {P : List Pt} (hg : Good each P) (h0 : 0 < each) (he : each ≤ 9) (A : Option Addr) (c : Nat) (KA : Option Addr) (kc : Nat) (ks : List ByteArray) (w : World) (hC : (Kd.int .i64).C w A (nodesN P 17).length (nodesN P 17)) (hc : (nodesN P 17).length ≤ c)
include hg h0 he hC hc
theorem refOwner_good (s : ByteArray) (hs : s.size ≤ maxLen) :
    Calls Tryd.prog 19 #[.agg #[.int .i64 each, .slice A (nodesN P 17).length c], .string s] w fun e w' => e = .returned (.int .i64 (ownerN P (hashI s))) ∧ Below w.heap.size w w' := by
  obtain ⟨K, hK⟩ := refowner_good hg h0 he s hs
  exact PR.butteryref22_Owner.calls K each A c _ s _ w hC hc (hK K (Nat.le_refl _))
theorem refLoad_good (hK : Kd.string.C w KA ks.length ks) (hkc : ks.length ≤ kc) (hss : ∀ s ∈ ks, s.size ≤ maxLen) (hks : ks.length ≤ 1000) :
    Calls Tryd.prog 15 #[.agg #[.int .i64 each, .slice A (nodesN P 17).length c], .slice KA ks.length kc] w fun e w' => ∃ u, e = .returned u ∧ Kd.R (Kd.int .i64) 3 w' w.heap.size (fun _ => True) u (loadN P ks) ∧ Below w.heap.size w w' := by
  have hnl := nodes_le P
  obtain ⟨K, hK2⟩ := refload_f each (nodesN P 17) P ks (by omega) (by omega) (fun s hs => refowner_good hg h0 he s (hss s hs))
  exact PR.butteryref34_Load.calls K each A c _ KA kc ks _ w hC hc hK hkc (hK2 K (Nat.le_refl _))
theorem refSpread_good (hK : Kd.string.C w KA ks.length ks) (hkc : ks.length ≤ kc) (hss : ∀ s ∈ ks, s.size ≤ maxLen) (hks : ks.length ≤ 1000) :
    Calls Tryd.prog 12 #[.agg #[.int .i64 each, .slice A (nodesN P 17).length c], .slice KA ks.length kc] w fun e w' => e = .returned (.tuple #[.int .i64 (leastN (loadN P ks)), .int .i64 (mostN (loadN P ks))]) ∧ Below w.heap.size w w' := by
  have hnl := nodes_le P
  obtain ⟨K, hK2⟩ := refspread_f each (nodesN P 17) P ks (by omega) (by omega) (fun s hs => refowner_good hg h0 he s (hss s hs))
  exact PR.butteryref34_Spread.calls K each A c _ KA kc ks _ _ w hC hc hK hkc (hK2 K (Nat.le_refl _))
theorem refPath_good (s : ByteArray) (hs : s.size ≤ maxLen) (gone : List Int) (hG : (Kd.int .i64).C w KA gone.length gone) (hgc : gone.length ≤ kc) (hgl : gone.length < 1000000) :
    Calls Tryd.prog 17 #[.agg #[.int .i64 each, .slice A (nodesN P 17).length c], .string s, .slice KA gone.length kc] w fun e w' => ∃ u, e = .returned u ∧ Kd.R (Kd.int .i64) 3 w' w.heap.size (fun _ => True) u (pathN P (hashI s) gone) ∧ Below w.heap.size w w' := by
  have hnl := nodes_le P
  have hs' := hs
  unfold maxLen at hs'
  have how := refowners_f each (by omega) (nodesN P 17) (by omega) s (by omega) 16
  rw [← owners_ref hg h0 he (hashI_bd s).1 (hashI_bd s).2 16] at how
  obtain ⟨K, hK2⟩ := refpath_f each (nodesN P 17) s gone (ownersN P (hashI s) 16) hgl (by rw [owners_len hg.ok]; omega) how
  exact PR.butteryref34_Path.calls K each A c _ s KA kc gone _ w hC hc hG hgc (hK2 K (Nat.le_refl _))
end
end Go.Proofs.YtndgjhhhggkdmaaDoor
namespace Go.Proofs.YtndgjhhhggkdmaaDoor
set_option linter.unusedVariables false
open Go.RowKit Go.Proofs.YtndgjhhhggkdmaaDoorW.PrintWords

set_option maxHeartbeats 2000000 in
theorem refBest_any (fr to_ : Int) (hto : to_ ≤ 8 ∨ 64 < fr) (A : Option Addr) (c : Nat) (l : List Int) (KA : Option Addr) (kc : Nat) (ks : List ByteArray) (w : World) (hC : (Kd.int .i64).C w A l.length l) (hK : Kd.string.C w KA ks.length ks) (hkc : ks.length ≤ kc) (hss : ∀ s ∈ ks, s.size ≤ maxLen) (hl : l.length ≤ 100) (hks : ks.length ≤ 100) :
    Calls Tryd.prog 21 #[.int .i64 fr, .int .i64 to_, .slice A l.length c, .slice KA ks.length kc] w fun e w' => e = .returned (.tuple #[.int .i64 (bestN fr to_ l ks).1, .int .i64 (bestN fr to_ l ks).2]) ∧ Below w.heap.size w w' := by
  have HC := Lib.hid hC
  have HK := Lib.hid hK
  have HSS := Lib.hid hss
  have HTO := Lib.hid hto
  clear hC hK hss hto
  generalize hR : bestN fr to_ l ks = R
  have HR : Hid (bestGo l ks (min to_ 64 + 1 - max 1 (max fr 1)).toNat (max 1 (max fr 1)) 0 0 = R) := Lib.hid (by rw [← hR, show max 1 (max fr 1) = max fr 1 by omega]; rfl)
  clear hR
  go_enter Tryd.func21, Tryd.ntmps21
  go_wp2_with fail
  go_loopw [10, 11, 12] (fun b g e wr => ∃ bv gv ev : Int, b = .int .i64 bv ∧ g = .int .i64 gv ∧ e = .int .i64 ev ∧ 1 ≤ ev ∧ ev ≤ 65 ∧ Hid (bestGo l ks (min to_ 64 + 1 - max ev (max fr 1)).toNat (max ev (max fr 1)) bv gv = R ∧ Below w.heap.size w wr)) (fun _ _ e _ => (65 - intOf e).toNat)
  case atStart => exact ⟨0, 0, 1, rfl, rfl, rfl, by omega, by omega, HR.out, Below.refl _ _⟩
  case round =>
    obtain ⟨bv, gv, ev, rfl, rfl, rfl, he0, he1, HD⟩ := hrel
    by_cases h64 : ev ≤ 64
    · have hd64 : decide (ev ≤ 64) = true := decide_eq_true h64
      by_cases hsk : ev < fr ∨ to_ < ev
      · have hnext : bestGo l ks (min to_ 64 + 1 - max (ev + 1) (max fr 1)).toNat (max (ev + 1) (max fr 1)) bv gv = R := by
          rw [← HD.out.1]
          by_cases h1 : ev < fr
          · rw [show max (ev + 1) (max fr 1) = max ev (max fr 1) by omega]
          · have h2 : to_ < ev := hsk.resolve_left h1
            rw [show (min to_ 64 + 1 - max (ev + 1) (max fr 1)).toNat = 0 by omega, show (min to_ 64 + 1 - max ev (max fr 1)).toNat = 0 by omega, bestGo, bestGo]
        have HN := Lib.hid hnext
        have hd : decide (ev < fr) = true ∨ (decide (ev < fr) = false ∧ decide (to_ < ev) = true) := by
          by_cases h1 : ev < fr
          · exact .inl (decide_eq_true h1)
          · exact .inr ⟨decide_eq_false h1, decide_eq_true (hsk.resolve_left h1)⟩
        clear hnext hsk
        rcases hd with hd1 | ⟨hd1, hd2⟩
        all_goals
          go_wp2_with fail
          go_roundw
          case rel => exact ⟨bv, gv, ev + 1, rfl, rfl, rfl, by omega, by omega, HN.out, HD.out.2⟩
          case measure => simp [intOf]; omega
      · have hfe : fr ≤ ev := by omega
        have hte : ev ≤ to_ := by omega
        have hto8 : to_ ≤ 8 := by
          rcases HTO.out with h | h
          · exact h
          · omega
        have hev8 : ev ≤ 8 := by omega
        obtain ⟨n, hn⟩ := Int.eq_ofNat_of_zero_le (show 0 ≤ ev by omega)
        subst hn
        have hn1 : 1 ≤ n := by omega
        have hn8 : n ≤ 8 := by omega
        have hd1 : decide ((n : Int) < fr) = false := decide_eq_false (by omega)
        have hd2 : decide (to_ < (n : Int)) = false := decide_eq_false (by omega)
        have hgo := HD.out.1
        rw [show max (n : Int) (max fr 1) = n by omega, show (min to_ 64 + 1 - (n : Int)).toNat = (min to_ 64 + 1 - max ((n : Int) + 1) (max fr 1)).toNat + 1 by omega, bestGo, Int.toNat_natCast, show (n : Int) + 1 = max ((n : Int) + 1) (max fr 1) by omega] at hgo
        rw [show max (max ((n : Int) + 1) (max fr 1)) (max fr 1) = max ((n : Int) + 1) (max fr 1) by omega] at hgo
        have HGO := Lib.hid hgo
        have HCALL := Lib.hid (refOn_any n hn1 (by omega) A c l wr (Kd.C_below HC.out HD.out.2) (by omega))
        clear hgo hsk hfe hte hto8 hev8
        go_wp2_with fail
        refine HCALL.out.mono ?_
        rintro e w1 ⟨u, L, rfl, hr, hb1, hL⟩
        obtain ⟨A5, c5, rfl⟩ := Kd.R_slice hr
        have B1 := Lib.hid (HD.out.2.trans (hb1.mono HD.out.2.size))
        have R1 := Lib.hid hr
        have HL := Lib.hid hL
        clear hr hb1 hL HCALL
        by_cases hz : addsC n [] l = 0
        · have hLn := HL.out hz
          subst hLn
          have hz2 : (addsC n [] l == 0) = true := by simpa using hz
          have hz3 : (addsC n [] l != 0) = false := by simpa using hz
          have hgo := HGO.out
          have hgap : gapN (adds n [] l) ks = mostN (loadN (adds n [] l) ks) - leastN (loadN (adds n [] l) ks) := rfl
          rw [if_pos hz, hgap] at hgo
          obtain ⟨d0, d1, d2, d3⟩ := spread_bd (adds n [] l) ks
          have hsp : ∀ W, Below w1.heap.size w1 W → Calls Tryd.prog 12 #[.agg #[.int .i64 n, .slice A5 (nodesN (adds n [] l) 17).length c5], .slice KA ks.length kc] W fun e w' => e = .returned (.tuple #[.int .i64 (leastN (loadN (adds n [] l) ks)), .int .i64 (mostN (loadN (adds n [] l) ks))]) ∧ Below W.heap.size W w' := fun W hW => by
            obtain ⟨A', c', he, hcc, hC⟩ := Kd.R_reads (Kd.R_below R1.out hW)
            injection he with e1 e2 e3
            subst e1
            subst e3
            exact refSpread_good (adds_good (by omega) l (Good.nil n)) (by omega) (by omega) _ _ KA kc ks W hC hcc (Kd.C_below HK.out (B1.out.trans (hW.mono B1.out.size))) hkc HSS.out (by omega)
          generalize leastN (loadN (adds n [] l) ks) = lv at *
          generalize mostN (loadN (adds n [] l) ks) = mv at *
          generalize (nodesN (adds n [] l) 17).length = nl at *
          have HZ := Lib.hid hz
          have HSP := Lib.hid hsp
          have HGO2 := Lib.hid hgo
          clear hz hgo hgap hsp HGO HL R1
          go_wp2_with fail
          refine (HSP.out _ (bel_alloc _ _)).mono ?_
          rintro e w2 ⟨rfl, hb2⟩
          have B2 := Lib.hid ((B1.out.trans ((bel_alloc w1 (.cells #[.int .i64 n, .slice A5 nl c5] 32)).mono B1.out.size)).trans (hb2.mono (Nat.le_trans B1.out.size (bel_alloc w1 (.cells #[.int .i64 n, .slice A5 nl c5] 32)).size)))
          clear hb2 HSP B1
          have hdd : (bv = 0 ∧ (bv == 0) = true) ∨ (bv ≠ 0 ∧ (bv == 0) = false ∧ mv - lv < gv ∧ decide (mv - lv < gv) = true) ∨ (bv ≠ 0 ∧ (bv == 0) = false ∧ ¬ (mv - lv < gv) ∧ decide (mv - lv < gv) = false) := by
            by_cases hb : bv = 0
            · exact .inl ⟨hb, by simp [hb]⟩
            · by_cases hg : mv - lv < gv
              · exact .inr (.inl ⟨hb, by simpa using hb, hg, decide_eq_true hg⟩)
              · exact .inr (.inr ⟨hb, by simpa using hb, hg, decide_eq_false hg⟩)
          rcases hdd with ⟨hb, hb1⟩ | ⟨hb, hb1, hg, hg2⟩ | ⟨hb, hb1, hg, hg2⟩
          · have hgo := HGO2.out
            rw [if_pos (.inl hb)] at hgo
            have HGO3 := Lib.hid hgo
            clear hgo hb
            go_wp2_with fail
            go_roundw
            case rel => exact ⟨(n : Int), mv - lv, (n : Int) + 1, rfl, rfl, rfl, by omega, by omega, HGO3.out, B2.out⟩
            case measure => simp [intOf]; omega
          · have hgo := HGO2.out
            rw [if_pos (.inr hg)] at hgo
            have HGO3 := Lib.hid hgo
            clear hgo hb hg
            go_wp2_with fail
            go_roundw
            case rel => exact ⟨(n : Int), mv - lv, (n : Int) + 1, rfl, rfl, rfl, by omega, by omega, HGO3.out, B2.out⟩
            case measure => simp [intOf]; omega
          · have hgo := HGO2.out
            rw [if_neg (fun e => e.elim hb hg)] at hgo
            have HGO3 := Lib.hid hgo
            clear hgo hb hg
            go_wp2_with fail
            go_roundw
            case rel => exact ⟨bv, gv, (n : Int) + 1, rfl, rfl, rfl, by omega, by omega, HGO3.out, B2.out⟩
            case measure => simp [intOf]; omega
        · have hz2 : (addsC n [] l != 0) = true := by simpa using hz
          have hgo := HGO.out
          rw [if_neg hz] at hgo
          generalize addsC n [] l = cd at *
          have HGO2 := Lib.hid hgo
          clear hz hgo HGO HL
          go_wp2_with fail
          go_ret2
          exact ⟨by rw [← HGO2.out]; rfl, B1.out.trans ((bel_alloc _ _).mono B1.out.size)⟩
    · have hd64 : decide (ev ≤ 64) = false := decide_eq_false h64
      have hgo := HD.out.1
      rw [show (min to_ 64 + 1 - max ev (max fr 1)).toNat = 0 by omega, bestGo] at hgo
      have HGO := Lib.hid hgo
      clear hgo
      by_cases hb : bv = 0
      · subst hb
        go_wp2_with fail
        go_ret2
        exact ⟨by rw [← HGO.out]; rfl, HD.out.2⟩
      · have hb1 : (bv == 0) = false := by simpa using hb
        have HB := Lib.hid hb
        clear hb
        go_wp2_with fail
        go_ret2
        exact ⟨by rw [← HGO.out, if_neg HB.out]; rfl, HD.out.2⟩
end Go.Proofs.YtndgjhhhggkdmaaDoor
