/- The values of the example of plans. Written by wip/tools/genpl.py. The example with which each statement of plans ends: it works. A ring and the document's ring together; what a law of plans asks of both. -/
import Derived.Test.YtndgjhhhggkdmaaDoorG3
import Derived.Test.YtndgjhhhggkdmaaDoorG5
namespace Go.Proofs.YtndgjhhhggkdmaaDoor
set_option linter.unusedVariables false
open Go.RowKit Go.Proofs.YtndgjhhhggkdmaaDoorW.PrintWords

abbrev sA : ByteArray := ⟨#[97]⟩
theorem hu_a : hashI sA = 9413272369427828315 := by decide +kernel
abbrev sB : ByteArray := ⟨#[98]⟩
theorem hu_b : hashI sB = 7955382828454826704 := by decide +kernel
abbrev sC : ByteArray := ⟨#[99]⟩
theorem hu_c : hashI sC = 8577447940197089550 := by decide +kernel
abbrev sD : ByteArray := ⟨#[100]⟩
theorem hu_d : hashI sD = 11931666213460935262 := by decide +kernel
def U0 : List Pt := []
theorem uat_3_0 : atI 3 (0 : Nat) = 7622081820967644264 := by decide +kernel
def U3_1 : List Pt := [⟨7622081820967644264, 3⟩]
theorem uput_3_0 : put U0 ⟨7622081820967644264, 3⟩ = U3_1 := by decide +kernel
theorem uat_3_1 : atI 3 (1 : Nat) = 14535176373112485973 := by decide +kernel
def U3_2 : List Pt := [⟨7622081820967644264, 3⟩, ⟨14535176373112485973, 3⟩]
theorem uput_3_1 : put U3_1 ⟨14535176373112485973, 3⟩ = U3_2 := by decide +kernel
theorem uat_3_2 : atI 3 (2 : Nat) = 8948304144762494505 := by decide +kernel
def U3_3 : List Pt := [⟨7622081820967644264, 3⟩, ⟨8948304144762494505, 3⟩, ⟨14535176373112485973, 3⟩]
theorem uput_3_2 : put U3_2 ⟨8948304144762494505, 3⟩ = U3_3 := by decide +kernel
theorem uat_3_3 : atI 3 (3 : Nat) = 6628254330794333529 := by decide +kernel
def U3_4 : List Pt := [⟨6628254330794333529, 3⟩, ⟨7622081820967644264, 3⟩, ⟨8948304144762494505, 3⟩, ⟨14535176373112485973, 3⟩]
theorem uput_3_3 : put U3_3 ⟨6628254330794333529, 3⟩ = U3_4 := by decide +kernel
theorem uadd_3 : addTo U0 3 4 = U3_4 := by
  have h0 : addTo U0 3 0 = U0 := rfl
  have h1 : addTo U0 3 1 = U3_1 := by rw [addTo, h0, uat_3_0, uput_3_0]
  have h2 : addTo U0 3 2 = U3_2 := by rw [addTo, h1, uat_3_1, uput_3_1]
  have h3 : addTo U0 3 3 = U3_3 := by rw [addTo, h2, uat_3_2, uput_3_2]
  have h4 : addTo U0 3 4 = U3_4 := by rw [addTo, h3, uat_3_3, uput_3_3]
  exact h4
theorem uat_5_0 : atI 5 (0 : Nat) = 1532777913440935793 := by decide +kernel
def U5_1 : List Pt := [⟨1532777913440935793, 5⟩, ⟨6628254330794333529, 3⟩, ⟨7622081820967644264, 3⟩, ⟨8948304144762494505, 3⟩, ⟨14535176373112485973, 3⟩]
theorem uput_5_0 : put U3_4 ⟨1532777913440935793, 5⟩ = U5_1 := by decide +kernel
theorem uat_5_1 : atI 5 (1 : Nat) = 6358590168078720600 := by decide +kernel
def U5_2 : List Pt := [⟨1532777913440935793, 5⟩, ⟨6358590168078720600, 5⟩, ⟨6628254330794333529, 3⟩, ⟨7622081820967644264, 3⟩, ⟨8948304144762494505, 3⟩, ⟨14535176373112485973, 3⟩]
theorem uput_5_1 : put U5_1 ⟨6358590168078720600, 5⟩ = U5_2 := by decide +kernel
theorem uat_5_2 : atI 5 (2 : Nat) = 6609529513714300288 := by decide +kernel
def U5_3 : List Pt := [⟨1532777913440935793, 5⟩, ⟨6358590168078720600, 5⟩, ⟨6609529513714300288, 5⟩, ⟨6628254330794333529, 3⟩, ⟨7622081820967644264, 3⟩, ⟨8948304144762494505, 3⟩, ⟨14535176373112485973, 3⟩]
theorem uput_5_2 : put U5_2 ⟨6609529513714300288, 5⟩ = U5_3 := by decide +kernel
theorem uat_5_3 : atI 5 (3 : Nat) = 8954564308403532307 := by decide +kernel
def U5_4 : List Pt := [⟨1532777913440935793, 5⟩, ⟨6358590168078720600, 5⟩, ⟨6609529513714300288, 5⟩, ⟨6628254330794333529, 3⟩, ⟨7622081820967644264, 3⟩, ⟨8948304144762494505, 3⟩, ⟨8954564308403532307, 5⟩, ⟨14535176373112485973, 3⟩]
theorem uput_5_3 : put U5_3 ⟨8954564308403532307, 5⟩ = U5_4 := by decide +kernel
theorem uadd_5 : addTo U3_4 5 4 = U5_4 := by
  have h0 : addTo U3_4 5 0 = U3_4 := rfl
  have h1 : addTo U3_4 5 1 = U5_1 := by rw [addTo, h0, uat_5_0, uput_5_0]
  have h2 : addTo U3_4 5 2 = U5_2 := by rw [addTo, h1, uat_5_1, uput_5_1]
  have h3 : addTo U3_4 5 3 = U5_3 := by rw [addTo, h2, uat_5_2, uput_5_2]
  have h4 : addTo U3_4 5 4 = U5_4 := by rw [addTo, h3, uat_5_3, uput_5_3]
  exact h4
theorem uhas : hasN U0 3 = false ∧ hasN U3_4 3 = true ∧ hasN U3_4 5 = false := by decide +kernel
theorem ur_3 : addR 4 U0 3 = U3_4 ∧ addC U0 3 = 0 := ⟨by unfold addR; rw [if_pos ⟨by omega, by omega, uhas.1⟩, uadd_3], by decide +kernel⟩
theorem ur_33 : addC U3_4 3 = 13 := by decide +kernel
theorem ur_5 : addR 4 U3_4 5 = U5_4 ∧ addC U3_4 5 = 0 := ⟨by unfold addR; rw [if_pos ⟨by omega, by omega, uhas.2.2⟩, uadd_5], by decide +kernel⟩
theorem us_3 : adds 4 [] [3] = U3_4 ∧ addsC 4 [] [3] = 0 := by
  have h : adds 4 U0 [3] = U3_4 := ur_3.1
  exact ⟨h, by show addsC 4 U0 [3] = 0; rw [addsC, if_pos ur_3.2]; rfl⟩
theorem us_33 : addsC 4 [] [3, 3] = 13 := by
  show addsC 4 U0 [3, 3] = 13
  rw [addsC, if_pos ur_3.2, ur_3.1, addsC, if_neg (by rw [ur_33]; decide), ur_33]
theorem us_35 : adds 4 [] [3, 5] = U5_4 ∧ addsC 4 [] [3, 5] = 0 := by
  have h : adds 4 U0 [3, 5] = U5_4 := by show addR 4 (addR 4 U0 3) 5 = U5_4; rw [ur_3.1, ur_5.1]
  refine ⟨h, ?_⟩
  show addsC 4 U0 [3, 5] = 0
  rw [addsC, if_pos ur_3.2, ur_3.1, addsC, if_pos ur_5.2]; rfl
theorem un : nodesN U5_4 17 = [3, 5] ∧ nodesN U3_4 17 = [3] := by decide +kernel
theorem ul4 : loadN U5_4 [sA, sB, sC, sD] = [4, 0] := by
  unfold loadN
  rw [un.1]
  simp only [List.map, shareN, hu_a, hu_b, hu_c, hu_d]
  decide +kernel
theorem ul2 : loadN U3_4 [sA, sB] = [2] := by
  unfold loadN
  rw [un.2]
  simp only [List.map, shareN, hu_a, hu_b]
  decide +kernel
theorem um4 : (movesN U5_4 U3_4 [sA, sB, sC, sD]).length = 0 := by
  simp only [movesN, hu_a, hu_b, hu_c, hu_d]
  decide +kernel
theorem up5 : (pathN U5_4 (hashI sA) [5]).length = 1 := by
  rw [hu_a]
  decide +kernel
theorem ulen : U5_4.length = 8 ∧ U3_4.length = 4 ∧ (ownersN U5_4 (hashI sA) 16).length ≤ 1000 := ⟨by decide, by decide, Nat.le_trans (ownTo_len _ _ _ _) (by decide)⟩
end Go.Proofs.YtndgjhhhggkdmaaDoor
namespace Go.Proofs.YtndgjhhhggkdmaaDoor
set_option linter.unusedVariables false
open Go.RowKit Go.Proofs.YtndgjhhhggkdmaaDoorW.PrintWords
attribute [local go_sem ↓] Go.wp_at_zero Go.wp_at_succ

theorem RSt.up {w0 w w' : World} {base p each : Nat} {v : Value} {P : List Pt} (h : RSt w w' w.heap.size p each v P) (hb : Below base w0 w) (hs : base ≤ w.heap.size) : RSt w0 w' base p each v P :=
  ⟨h.rg, h.ris, hb.trans (h.bel.mono hs), Nat.le_trans hs h.hb, Nat.le_trans hs h.hp, h.he⟩
theorem On_ok {w0 w : World} {base : Nat} (hb : Below base w0 w) (hs : base ≤ w.heap.size) (z : Int) (each : Nat) (hz : z = each) (h1 : 1 ≤ each) (h2 : each ≤ 9) (A : Option Addr) (c : Nat) (l : List Int) (hC : (Kd.int .i64).C w A l.length l) (hl : l.length ≤ 1000) (hok : addsC each [] l = 0) :
    Calls Tryd.prog 8 #[.int .i64 z, .slice A l.length c] w fun e w' => ∃ p v, e = .returned (.tuple #[.pointer (some ⟨p, 0, none⟩), .nilIface]) ∧ RSt w0 w' base p each v (adds each [] l) ∧ Below w.heap.size w w' := by
  subst hz
  refine (On_any each h1 h2 A c l w hC hl).mono fun e w' h => ?_
  rcases h with ⟨_, p, v, he, hst⟩ | ⟨h3, _⟩
  · exact ⟨p, v, he, hst.up hb hs, hst.bel⟩
  · exact absurd hok h3
theorem On_no (w : World) (z : Int) (each : Nat) (hz : z = each) (h1 : 1 ≤ each) (h2 : each ≤ 9) (A : Option Addr) (c : Nat) (l : List Int) (hC : (Kd.int .i64).C w A l.length l) (hl : l.length ≤ 1000) (hok : addsC each [] l ≠ 0) :
    Calls Tryd.prog 8 #[.int .i64 z, .slice A l.length c] w fun e w' => ∃ b lst, e = .returned (.tuple #[.pointer none, faultV b]) ∧ ErrIs w' (faultV b) lst ∧ codeOf lst = addsC each [] l ∧ Below w.heap.size w w' := by
  subst hz
  refine (On_any each h1 h2 A c l w hC hl).mono fun e w' h => ?_
  rcases h with ⟨h3, _⟩ | ⟨_, b, lst, h⟩
  · exact absurd h3 hok
  · exact ⟨b, lst, h⟩
theorem C_nil {α : Type} (d : Kd α) (w : World) (A : Option Addr) : d.C w A 0 [] := ⟨rfl, Nat.zero_le _, fun h => absurd h (by simp)⟩
theorem small_mem {l : List ByteArray} (h : ∀ s ∈ l, s.size ≤ 1) : ∀ s ∈ l, s.size ≤ maxLen := fun s hs => Nat.le_trans (h s hs) (by decide)
theorem small4 : ∀ s ∈ [sA, sB, sC, sD], s.size ≤ 1 := by decide
theorem small2 : ∀ s ∈ [sA, sB], s.size ≤ 1 := by decide

set_option maxHeartbeats 2000000 in
theorem works_any (w : World) (hg : HG w) :
    Calls Tryd.prog 7 #[] w fun e w' => e = .returned (.bool true) ∧ Below w.heap.size w w' := by
  have HH := Lib.hid hg
  have h0 := Lib.hid (hg_pos hg)
  clear hg
  go_enter Tryd.func7, Tryd.ntmps7
  go_wp2_with fail
  refine (On_ok (w0 := w) (base := w.heap.size) (bel_alloc _ _) (by simp) 4 4 rfl (by omega) (by omega) _ 2 [3, 5] (C_lit w [3, 5] 3 (by decide)) (by decide) us_35.2).mono ?_
  rintro e w1 ⟨p, v, rfl, i1, b1⟩
  rw [us_35.1] at i1
  have I1 := Lib.hid i1
  clear i1 b1
  generalize hB : w.heap.size = B at *
  have HB := Lib.hid hB
  clear hB
  go_wp2_with fail
  refine (On_ok (w0 := w) (base := B) (I1.out.bel.trans ((bel_alloc _ _).mono I1.out.hb)) (Nat.le_trans I1.out.hb (bel_alloc _ _).size) 4 4 rfl (by omega) (by omega) _ 1 [3] (C_lit w1 [3] 3 (by decide)) (by decide) us_3.2).mono ?_
  rintro e w2 ⟨q, v2, rfl, i2, b2⟩
  rw [us_3.1] at i2
  have J2 := Lib.hid i2
  have I2 := Lib.hid ((I1.out.later (bel_alloc _ _)).later b2)
  clear i2 b2 I1
  go_wp2_with fail
  refine (On_no _ 4 4 rfl (by omega) (by omega) _ 2 [3, 3] (C_lit w2 [3, 3] 3 (by decide)) (by decide) (by rw [us_33]; decide)).mono ?_
  rintro e w3 ⟨eb, lst, rfl, e3, hcd, b3⟩
  rw [us_33] at hcd
  have E3 := Lib.hid e3
  have CD := Lib.hid hcd
  have I3 := Lib.hid ((I2.out.later (bel_alloc _ _)).later b3)
  have J3 := Lib.hid ((J2.out.later (bel_alloc _ _)).later b3)
  clear e3 hcd b3 I2 J2
  go_wp2_with fail
  have c4 : Kd.string.C (w3.alloc (.cells #[.string sA, .string sB, .string sC, .string sD] 9)) (some ⟨w3.heap.size, 0, none⟩) 4 [sA, sB, sC, sD] := C_lit w3 [sA, sB, sC, sD] 9 (by decide)
  have I3a := I3.out.later (bel_alloc w3 (.cells #[.string sA, .string sB, .string sC, .string sD] 9))
  have J3a := J3.out.later (bel_alloc w3 (.cells #[.string sA, .string sB, .string sC, .string sD] 9))
  refine (Moves_any p q 4 4 v v2 U5_4 U3_4 _ 4 [sA, sB, sC, sD] _ I3a.rg I3a.ris J3a.rg J3a.ris c4 (small_mem small4) (by rw [ulen.1]; omega) (by rw [ulen.2.1]; omega) (by decide)).mono ?_
  rintro e w4 ⟨u4, rfl, hr4, hb4⟩
  obtain ⟨A4, cc4, hu4⟩ := Kd.R_slice hr4
  rw [um4] at hu4
  subst hu4
  have I4 := Lib.hid (I3a.later hb4)
  have J4 := Lib.hid (J3a.later hb4)
  have E4 := Lib.hid ((E3.out.later (bel_alloc w3 (.cells #[.string sA, .string sB, .string sC, .string sD] 9))).later hb4)
  clear hr4 hb4 c4 I3a J3a I3 J3 E3
  go_wp2_with fail
  have c4 : Kd.string.C (w4.alloc (.cells #[.string sA, .string sB, .string sC, .string sD] 9)) (some ⟨w4.heap.size, 0, none⟩) 4 [sA, sB, sC, sD] := C_lit w4 [sA, sB, sC, sD] 9 (by decide)
  have I4a := I4.out.later (bel_alloc w4 (.cells #[.string sA, .string sB, .string sC, .string sD] 9))
  have J4a := J4.out.later (bel_alloc w4 (.cells #[.string sA, .string sB, .string sC, .string sD] 9))
  refine (Load_any p 4 v U5_4 _ 4 [sA, sB, sC, sD] _ I4a.rg I4a.ris c4 (small_mem small4) (by rw [ulen.1]; omega) (by decide)).mono ?_
  rintro e w5 ⟨u5, rfl, hr5, hb5⟩
  rw [ul4] at hr5
  obtain ⟨A5, c5, rfl, hc5, hC5⟩ := Kd.R_reads hr5
  obtain ⟨ad, hA, hx0⟩ := at_num hC5 (k := 0) (by decide)
  subst hA
  obtain ⟨ad', hA, hx1⟩ := at_num hC5 (k := 1) (by decide)
  injection hA with hA
  subst hA
  have X5 := Lib.hid (show w5.cell? ad = some (.int .i64 4) ∧ w5.cell? (ad.add 1) = some (.int .i64 0) from ⟨hx0, hx1⟩)
  have hc52 : 2 ≤ c5 := hc5
  have I5 := Lib.hid (I4a.later hb5)
  have J5 := Lib.hid (J4a.later hb5)
  have E5 := Lib.hid ((E4.out.later (bel_alloc w4 (.cells #[.string sA, .string sB, .string sC, .string sD] 9))).later hb5)
  clear hr5 hb5 c4 I4a J4a I4 J4 E4 hc5 hC5 hx0 hx1
  go_wp2_with fail
  have c2 : Kd.string.C (w5.alloc (.cells #[.string sA, .string sB] 9)) (some ⟨w5.heap.size, 0, none⟩) 2 [sA, sB] := C_lit w5 [sA, sB] 9 (by decide)
  have I5a := I5.out.later (bel_alloc w5 (.cells #[.string sA, .string sB] 9))
  have J5a := J5.out.later (bel_alloc w5 (.cells #[.string sA, .string sB] 9))
  have hsp := Spread_any q 4 v2 U3_4 _ 2 [sA, sB] _ J5a.rg J5a.ris c2 (small_mem small2) (by rw [ulen.2.1]; omega) (by decide)
  rw [ul2, show leastN [2] = 2 from rfl, show mostN [2] = 2 from rfl] at hsp
  refine hsp.mono ?_
  rintro e w6 ⟨rfl, hb6⟩
  have hb56 := (bel_alloc w5 (.cells #[.string sA, .string sB] 9)).trans (hb6.mono (bel_alloc w5 (.cells #[.string sA, .string sB] 9)).size)
  have X6 := Lib.hid (show w6.cell? ad = some (.int .i64 4) ∧ w6.cell? (ad.add 1) = some (.int .i64 0) from ⟨(hb56.cell (World.block_lt_of_cell? w5 _ X5.out.1)).trans X5.out.1, (hb56.cell (World.block_lt_of_cell? w5 _ X5.out.2)).trans X5.out.2⟩)
  have I6 := Lib.hid (I5.out.later hb56)
  have E6 := Lib.hid (E5.out.later hb56)
  clear hb6 hb56 c2 I5a J5a I5 J5 E5 X5 hsp
  go_wp2_with fail
  refine (Best_any 2 1 (by omega) _ 1 [3] none 0 [] _ (C_lit w6 [3] 3 (by decide)) (C_nil _ _ _) (fun s hs => by simp at hs) (by decide) (by decide)).mono ?_
  rintro e w7 ⟨ev7, lst7, rfl, e7, hcd7, hb7⟩
  rw [show bestN 2 1 [3] [] = (0, 2) from rfl] at hcd7 ⊢
  dsimp only at hcd7 ⊢
  obtain ⟨eb7, rfl⟩ := e7.some (by rw [hcd7]; decide)
  have hb67 := (bel_alloc w6 (.cells #[.int .i64 3] 3)).trans (hb7.mono (bel_alloc w6 (.cells #[.int .i64 3] 3)).size)
  have X7 : ∀ W, Below w7.heap.size w7 W → W.cell? ad = some (.int .i64 4) ∧ W.cell? (ad.add 1) = some (.int .i64 0) ∧ W.cell? ⟨ad.block, ad.off + 1, none⟩ = some (.int .i64 0) := fun W hW => by
    have h1 := (hb67.cell (World.block_lt_of_cell? w6 _ X6.out.1)).trans X6.out.1
    have h2 := (hb67.cell (World.block_lt_of_cell? w6 _ X6.out.2)).trans X6.out.2
    have h3 := (hW.cell (World.block_lt_of_cell? w7 _ h2)).trans h2
    have h4 := h3
    have e1 := add_field ad 0 1 (by omega)
    rw [Nat.zero_add] at e1
    rw [e1] at h4
    exact ⟨(hW.cell (World.block_lt_of_cell? w7 _ h1)).trans h1, h3, h4⟩
  have I7 := Lib.hid (I6.out.later hb67)
  have hof1 : ∀ W, Below w7.heap.size w7 W → Calls Tryd.prog 10 #[faultV eb] W fun e w' => e = .returned (.int .i64 13) ∧ Below W.heap.size W w' := fun W hW => by
    have := of_code (faultV eb) lst W ((E6.out.later hb67).later hW) (HH.out.below' (I7.out.later hW).bel h0.out)
    rwa [CD.out] at this
  have hof2 : ∀ W, Below w7.heap.size w7 W → Calls Tryd.prog 10 #[faultV eb7] W fun e w' => e = .returned (.int .i64 2) ∧ Below W.heap.size W w' := fun W hW => by
    have := of_code (faultV eb7) lst7 W (e7.later hW) (HH.out.below' (I7.out.later hW).bel h0.out)
    rwa [hcd7] at this
  have hpath : ∀ W, Below w7.heap.size w7 W → Calls Tryd.prog 16 #[.pointer (some ⟨p, 0, none⟩), .string sA, .slice (some ⟨W.heap.size, 0, none⟩) 1 1] (W.alloc (.cells #[.int .i64 5] 3)) fun e w' => ∃ A c, e = .returned (.slice A 1 c) ∧ Below W.heap.size W w' := fun W hW => by
    have ia := (I7.out.later hW).later (bel_alloc W (.cells #[.int .i64 5] 3))
    refine (Path_any p 4 v U5_4 sA _ 1 [5] _ ia.rg ia.ris (by decide) (C_lit W [5] 3 (by decide)) (by decide) (by rw [ulen.1]; omega) (by decide) ulen.2.2).mono fun e w' ⟨u, he, hr, hb⟩ => ?_
    obtain ⟨A, c, hu⟩ := Kd.R_slice hr
    rw [up5] at hu
    exact ⟨A, c, by rw [he, hu], (bel_alloc W _).trans (hb.mono (bel_alloc W _).size)⟩
  have HX := Lib.hid X7
  have HO1 := Lib.hid hof1
  have HO2 := Lib.hid hof2
  have HPA := Lib.hid hpath
  obtain ⟨s0, s1, s2⟩ := X7 w7 (Below.refl _ _)
  have b0 : Hid (Below w7.heap.size w7 w7.drew) := Drawn0.below ⟨1, rfl⟩
  clear e7 hcd7 hb7 hb67 X7 hof1 hof2 hpath I6 E6 X6
  go_wp2_with fail
  go_region_held3 (fun w' => w'.cell? ad = some (.int .i64 4) ∧ w'.cell? (ad.add 1) = some (.int .i64 0) ∧ w'.cell? ⟨ad.block, ad.off + 1, none⟩ = some (.int .i64 0)) (first | exact ⟨s0, s1, s2⟩ | exact HX.out _ b0.out | exact HX.out _ b3.out | exact HX.out _ b2.out | exact HX.out _ b1.out | exact HX.out _ (b2.out.trans ((bel_alloc _ _).mono b2.out.size)))
    (first
    | (go_at_call 10; first
      | (((with_reducible refine (HO1.out _ ?_).mono ?_)); (case refine_1 => exact b0.out); rintro e w8 ⟨rfl, hb⟩; have b1 := Lib.hid (b0.out.trans (hb.mono b0.out.size)); clear hb)
      | (((with_reducible refine (HO2.out _ ?_).mono ?_)); (case refine_1 => exact b1.out); rintro e w9 ⟨rfl, hb⟩; have b2 := Lib.hid (b1.out.trans (hb.mono b1.out.size)); clear hb))
    | (go_at_call 16; ((with_reducible refine (HPA.out _ ?_).mono ?_)); (case refine_1 => exact b2.out); rintro e w10 ⟨A10, c10, rfl, hb⟩; have b3 := Lib.hid (b2.out.trans (hb.mono b2.out.size)); clear hb))
  all_goals
    go_wp2_with fail
    go_ret
    exact ⟨rfl, by rw [HB.out]; exact (I7.out.later b3.out).bel⟩
theorem works_below {w0 w : World} {base : Nat} (hg : HG w0) (h0 : 0 < base) (hb : Below base w0 w) (hs : base ≤ w.heap.size) :
    Calls Tryd.prog 7 #[] w fun e w' => e = .returned (.bool true) ∧ Below base w0 w' :=
  (works_any w (hg.below' hb h0)).mono fun e w' ⟨he, h⟩ => ⟨he, hb.trans (h.mono hs)⟩
end Go.Proofs.YtndgjhhhggkdmaaDoor
namespace Go.Proofs.YtndgjhhhggkdmaaDoor
set_option linter.unusedVariables false
open Go.RowKit Go.Proofs.YtndgjhhhggkdmaaDoorW.PrintWords

structure Two (w0 w : World) (B p each : Nat) (v : Value) (P : List Pt) (q : Nat) (xA : Option Addr) (xc : Nat) : Prop where
  st : RSt w0 w B p each v P
  good : Good each P
  box : w.heap[q]? = some (.cells #[.int .i64 each, .slice xA (nodesN P 17).length xc] 32 (0, 0))
  row : (Kd.int .i64).C w xA (nodesN P 17).length (nodesN P 17)
  hc : (nodesN P 17).length ≤ xc
  h0 : 0 < each
  he : each ≤ 8
  hl : P.length ≤ 1000
namespace Two
variable {w0 w w' W : World} {B p each q : Nat} {v : Value} {P : List Pt} {xA : Option Addr} {xc : Nat}
theorem later (h : Two w0 w B p each v P q xA xc) (hb : Below w.heap.size w w') : Two w0 w' B p each v P q xA xc :=
  ⟨h.st.later hb, h.good, (hb.block q (Array.getElem?_eq_some_iff.1 h.box).1).trans h.box, Kd.C_below h.row hb, h.hc, h.h0, h.he, h.hl⟩
theorem cell0 (h : Two w0 w B p each v P q xA xc) : w.cell? ⟨q, 0, none⟩ = some (.int .i64 each) := cell_row h.box 0
theorem cell1 (h : Two w0 w B p each v P q xA xc) : w.cell? ⟨q, 1, none⟩ = some (.slice xA (nodesN P 17).length xc) := cell_row h.box 1
theorem new {w1 : World} {L : List Int} {u : Value} (hst : RSt w0 w1 B p each v P) (hr : (Kd.int .i64).R 3 w B (fun _ => True) u L) (hb : Below w1.heap.size w1 w) (hL : L = nodesN P 17) (hg : Good each P) (h0 : 0 < each) (he : each ≤ 8) (hl : P.length ≤ 1000) :
    ∃ xA xc, u = .slice xA (nodesN P 17).length xc ∧ Two w0 (w.alloc (.cells #[.int .i64 each, u] 32)) B p each v P w.heap.size xA xc := by
  subst hL
  obtain ⟨A, c, rfl, hc, hC⟩ := Kd.R_reads hr
  exact ⟨A, c, rfl, (hst.later hb).later (bel_alloc _ _), hg, heap_alloc_new _ _, Kd.C_below hC (bel_alloc _ _), hc, h0, he, hl⟩
section
variable (h : Two w0 w B p each v P q xA xc)
include h
theorem owner (s : ByteArray) (hs : s.size ≤ maxLen) (hW : Below w.heap.size w W) : Calls Tryd.prog 19 #[.agg #[.int .i64 each, .slice xA (nodesN P 17).length xc], .string s] W fun e w' => e = .returned (.int .i64 (ownerN P (hashI s))) ∧ Below w.heap.size w w' :=
  (refOwner_good h.good h.h0 (Nat.le_trans h.he (by decide)) _ _ W (h.later hW).row h.hc s hs).mono fun e w' ⟨he, hb⟩ => ⟨he, hW.trans (hb.mono hW.size)⟩
variable {KA : Option Addr} {kc : Nat} {ks : List ByteArray} (hK : Kd.string.C w KA ks.length ks) (hss : ∀ s ∈ ks, s.size ≤ maxLen) (hks : ks.length ≤ 100)
include hK hss hks
theorem load (hW : Below w.heap.size w W) : Calls Tryd.prog 14 #[.pointer (some ⟨p, 0, none⟩), .slice KA ks.length kc] W fun e w' => ∃ A' c', e = .returned (.slice A' (loadN P ks).length c') ∧ (loadN P ks).length ≤ c' ∧ (Kd.int .i64).C w' A' (loadN P ks).length (loadN P ks) ∧ Below w.heap.size w w' ∧ Below W.heap.size W w' :=
  (Load_any p each v P KA kc ks W (h.later hW).st.rg h.st.ris (Kd.C_below hK hW) hss (Nat.le_trans h.hl (by decide)) (by omega)).mono fun e w' ⟨u, he, hr, hb⟩ => by
    obtain ⟨A', c', rfl, hcc, hC⟩ := Kd.R_reads hr
    exact ⟨A', c', he, hcc, hC, hW.trans (hb.mono hW.size), hb⟩
theorem refload (hkc : ks.length ≤ kc) (hW : Below w.heap.size w W) : Calls Tryd.prog 15 #[.agg #[.int .i64 each, .slice xA (nodesN P 17).length xc], .slice KA ks.length kc] W fun e w' => ∃ A' c', e = .returned (.slice A' (loadN P ks).length c') ∧ (loadN P ks).length ≤ c' ∧ (Kd.int .i64).C w' A' (loadN P ks).length (loadN P ks) ∧ Below w.heap.size w w' ∧ Below W.heap.size W w' :=
  (refLoad_good h.good h.h0 (Nat.le_trans h.he (by decide)) _ _ KA kc ks W (h.later hW).row h.hc (Kd.C_below hK hW) hkc hss (by omega)).mono fun e w' ⟨u, he, hr, hb⟩ => by
    obtain ⟨A', c', rfl, hcc, hC⟩ := Kd.R_reads hr
    exact ⟨A', c', he, hcc, hC, hW.trans (hb.mono hW.size), hb⟩
theorem spread : Calls Tryd.prog 11 #[.pointer (some ⟨p, 0, none⟩), .slice KA ks.length kc] w fun e w' => e = .returned (.tuple #[.int .i64 (leastN (loadN P ks)), .int .i64 (mostN (loadN P ks))]) ∧ Below w.heap.size w w' :=
  Spread_any p each v P KA kc ks w h.st.rg h.st.ris hK hss (Nat.le_trans h.hl (by decide)) (by omega)
theorem refspread (hkc : ks.length ≤ kc) : Calls Tryd.prog 12 #[.agg #[.int .i64 each, .slice xA (nodesN P 17).length xc], .slice KA ks.length kc] w fun e w' => e = .returned (.tuple #[.int .i64 (leastN (loadN P ks)), .int .i64 (mostN (loadN P ks))]) ∧ Below w.heap.size w w' :=
  refSpread_good h.good h.h0 (Nat.le_trans h.he (by decide)) _ _ KA kc ks w h.row h.hc hK hkc hss (by omega)
end
section
variable (h : Two w0 w B p each v P q xA xc) {GA : Option Addr} {gc : Nat} {gone : List Int} (hG : (Kd.int .i64).C w GA gone.length gone) (hgc : gone.length ≤ gc) (hgl : gone.length ≤ 100) (s : ByteArray) (hs : s.size ≤ maxLen)
include h hG hgc hgl hs
theorem path (hW : Below w.heap.size w W) : Calls Tryd.prog 16 #[.pointer (some ⟨p, 0, none⟩), .string s, .slice GA gone.length gc] W fun e w' => ∃ A' c', e = .returned (.slice A' (pathN P (hashI s) gone).length c') ∧ (pathN P (hashI s) gone).length ≤ c' ∧ (Kd.int .i64).C w' A' (pathN P (hashI s) gone).length (pathN P (hashI s) gone) ∧ Below w.heap.size w w' ∧ Below W.heap.size W w' :=
  (Path_any p each v P s GA gc gone W (h.later hW).st.rg h.st.ris hs (Kd.C_below hG hW) hgc (Nat.le_trans h.hl (by decide)) (by omega) (by rw [owners_len h.good.ok]; omega)).mono fun e w' ⟨u, he, hr, hb⟩ => by
    obtain ⟨A', c', rfl, hcc, hC⟩ := Kd.R_reads hr
    exact ⟨A', c', he, hcc, hC, hW.trans (hb.mono hW.size), hb⟩
theorem refpath (hW : Below w.heap.size w W) : Calls Tryd.prog 17 #[.agg #[.int .i64 each, .slice xA (nodesN P 17).length xc], .string s, .slice GA gone.length gc] W fun e w' => ∃ A' c', e = .returned (.slice A' (pathN P (hashI s) gone).length c') ∧ (pathN P (hashI s) gone).length ≤ c' ∧ (Kd.int .i64).C w' A' (pathN P (hashI s) gone).length (pathN P (hashI s) gone) ∧ Below w.heap.size w w' ∧ Below W.heap.size W w' :=
  (refPath_good h.good h.h0 (Nat.le_trans h.he (by decide)) _ _ GA gc W (h.later hW).row h.hc s hs gone (Kd.C_below hG hW) hgc (by omega)).mono fun e w' ⟨u, he, hr, hb⟩ => by
    obtain ⟨A', c', rfl, hcc, hC⟩ := Kd.R_reads hr
    exact ⟨A', c', he, hcc, hC, hW.trans (hb.mono hW.size), hb⟩
end
end Two
theorem load_len (P : List Pt) (ks : List ByteArray) : (loadN P ks).length ≤ 17 := by unfold loadN; rw [List.length_map]; exact nodes_le P
theorem path_len {P : List Pt} (h : NodesOk P) (x : Int) (gone : List Int) : (pathN P x gone).length ≤ 17 := by
  have h1 := nodes_le P
  have h2 := owners_len h x 16
  have h3 : (pathN P x gone).length ≤ (ownersN P x 16).length := List.length_filter_le _ _
  omega
theorem moves_at (P Q : List Pt) (ks : List ByteArray) (j : Nat) (hj : j < ks.length) (hne : ownerN P (hashI (sget ks j)) ≠ ownerN Q (hashI (sget ks j))) :
    (movesN P Q (ks.take j)).length < (movesN P Q ks).length ∧ mvget (movesN P Q ks) (movesN P Q (ks.take j)).length = ⟨sget ks j, ownerN P (hashI (sget ks j)), ownerN Q (hashI (sget ks j))⟩ := by
  have h : movesN P Q ks = movesN P Q (ks.take j) ++ (⟨sget ks j, ownerN P (hashI (sget ks j)), ownerN Q (hashI (sget ks j))⟩ :: movesN P Q (ks.drop (j + 1))) := by
    conv => lhs; rw [← List.take_append_drop j ks, List.drop_eq_getElem_cons hj, moves_append, movesN, ← sget_eq hj, if_neg hne]
  constructor
  · rw [h]; simp
  · rw [h]; simp [mvget]
/-- What has been kept of a ring's making, in both ways. -/
theorem adds_small {each : Nat} (he : each ≤ 8) (l : List Int) (hl : l.length ≤ 20) : (adds each [] l).length ≤ 1000 := by
  have h1 := adds_len each l []
  have h2 : l.length * each ≤ 20 * 8 := Nat.mul_le_mul hl he
  simp only [List.length_nil, Nat.zero_add] at h1
  omega
end Go.Proofs.YtndgjhhhggkdmaaDoor
