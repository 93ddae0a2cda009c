/- Two rows of bytes compared (the document's Same). DeedsWords: the words of kinds, digits, numbers, bytes as words, and back. -/
import Derived.Test.YtbckbpimabmacaaDoorPRall
import Derived.Test.YtbckbpimabmacaaDoorBase
import Derived.Test.YtbckbpimabmacaaDoorGB
namespace Go.Proofs.YtbckbpimabmacaaDoor
set_option linter.unusedVariables false
open Go.RowKit Go.Proofs.YtbckbpimabmacaaDoorW.PrintWords

theorem sameB_f (l m : List Int) (hlm : l.length = m.length) (hl : l.length < 9223372036854775807) : ∀ (n k i : Nat), i + n = l.length → n < k → PR.butteryref02_Same.l0 k l m i = some (decide (l.drop i = m.drop i))
  | 0, k + 1, i, h1, h2 => by
    rw [PR.butteryref02_Same.l0, if_neg (by omega), List.drop_of_length_le (by omega), List.drop_of_length_le (by omega)]
    simp
  | n + 1, k + 1, i, h1, h2 => by
    have hi : i < l.length := by omega
    have hi2 : i < m.length := by omega
    have hr : rd l (i : Int) = l[i] := by simp [rd, hi]
    have hr2 : rd m (i : Int) = m[i] := by simp [rd, hi2]
    have hw : wrap64 ((i : Int) + 1) = ((i + 1 : Nat) : Int) := by unfold wrap64; omega
    rw [PR.butteryref02_Same.l0, if_pos (by omega), if_pos (by omega), if_pos (by omega), hr, hr2, hw, List.drop_eq_getElem_cons hi, List.drop_eq_getElem_cons hi2]
    by_cases he : l[i] = m[i]
    · rw [if_pos he, sameB_f l m hlm hl n k (i + 1) (by omega) (by omega)]
      exact congrArg some (decide_eq_decide.2 ⟨fun e => by rw [e, he], fun e => (List.cons.inj e).2⟩)
    · rw [if_neg he]
      exact congrArg some (decide_eq_false (fun e => he (List.cons.inj e).1)).symm
theorem sameB_any (A B : Option Addr) (c d : Nat) (l m : List Int) (w : World) (hC : (Kd.int .u8).C w A l.length l) (hc : l.length ≤ c) (hD : (Kd.int .u8).C w B m.length m) (hd : m.length ≤ d) (hl : l.length < 1000000) :
    Calls Tryd.prog 12 #[.slice A l.length c, .slice B m.length d] w fun e w' => e = .returned (.bool (decide (l = m))) ∧ ∃ n, w' = w.drewN n := by
  refine (PR.butteryref02_Same.calls (l.length + 2) A c l B d m (decide (l = m)) w hC hc hD hd ?_).mono fun e w' ⟨he, hdr⟩ => ⟨he, hdr.out⟩
  unfold PR.butteryref02_Same.f
  by_cases hlm : l.length = m.length
  · rw [if_pos (by omega)]
    have := sameB_f l m hlm (by omega) l.length (l.length + 2) 0 (by omega) (by omega)
    simpa using this
  · rw [if_neg (by omega)]
    have : ¬ l = m := fun e => hlm (by rw [e])
    simp [this]
end Go.Proofs.YtbckbpimabmacaaDoor
namespace Go.Proofs.YtbckbpimabmacaaDoor
set_option linter.unusedVariables false
set_option linter.unusedSimpArgs false
open Go.RowKit Go.Proofs.YtbckbpimabmacaaDoorW.PrintWords
attribute [local go_sem ↓] Go.wp_at_zero Go.wp_at_succ
attribute [local go_sem] bsV_get bsV_size bsV_toList

theorem num_both {s : Bs} {x y : Int} {o p : Bool} (h : NumIs s x o) (g : NumIs s y p) : (o = true ∧ p = true ∧ x = y) ∨ (o = false ∧ p = false) := by
  unfold NumIs at h g
  rw [h] at g
  cases o <;> cases p
  · exact .inr ⟨rfl, rfl⟩
  · cases g
  · cases g
  · exact .inl ⟨rfl, rfl, Option.some.inj g⟩
theorem unq_both {s x y : Bs} {o p : Bool} (h : UnqIs s x o) (g : UnqIs s y p) : (o = true ∧ p = true ∧ x = y) ∨ (o = false ∧ p = false) := by
  rcases h with ⟨rfl, h⟩ | ⟨rfl, h⟩ <;> rcases g with ⟨rfl, g⟩ | ⟨rfl, g⟩
  · rw [h] at g; exact .inl ⟨rfl, rfl, Option.some.inj g⟩
  · rw [h] at g; cases g
  · rw [h] at g; cases g
  · exact .inr ⟨rfl, rfl⟩
theorem unq_short {s p : Bs} {o : Bool} (h : UnqIs s p o) (ho : o = true) : p.length ≤ s.length := by
  rcases h with ⟨_, h⟩ | ⟨rfl, _⟩
  · have := quo_ge p
    rw [unqS_some h] at this
    exact this
  · cases ho
set_option maxHeartbeats 4000000 in
set_option maxRecDepth 100000 in
theorem words_law (kind n : Int) (s b : Bs) (A : Option Addr) (c : Nat) (w : World) (hC : (Kd.int .u8).C w A b.length (bI b)) (hc : b.length ≤ c) (hn : I64 n) (hg : HG w) (hm : MX w) : Calls Tryd.prog 3 #[.int .i64 kind, .int .i64 n, .string (bsV s), .slice A b.length c] w fun e w' => e = .returned (.bool true) ∧ Below w.heap.size w w' := by
  have HW := Lib.hid (works_later hg hm)
  have HC := Lib.hid hC
  have HN := Lib.hid hn
  clear hg hm hC hn
  by_cases hgd : s.length ≤ 1000 ∧ b.length ≤ 1000
  · obtain ⟨hs, hb⟩ := hgd
    have d1 : ¬ (1000 : Int) < (s.length : Int) := by omega
    have d2 : ¬ (1000 : Int) < (b.length : Int) := by omega
    have HL := Lib.hid hs
    have HLb := Lib.hid hb
    clear hs hb
    go_enter Tryd.func3, Tryd.ntmps3
    go_wp2_with fail
    refine (num_any s (by have := HL.out; omega) w).mono ?_
    rintro e w1 ⟨x, o1, rfl, hx, hb1⟩
    have HX := Lib.hid hx
    have HB1 := Lib.hid hb1
    clear hx hb1
    go_wp2_with fail
    refine (refNum_any s (Lib.hid (by have := HL.out; omega)) w1).mono ?_
    rintro e w2 ⟨y, o2, rfl, hy, hb2⟩
    have HNB := Lib.hid (num_both HX.out hy)
    have HB2 := Lib.hid (HB1.out.trans (hb2.mono HB1.out.size))
    clear hy hb2 HX HB1
    go_wp2_with fail
    refine (unq_any s (Lib.hid (by have := HL.out; omega)) w2).mono ?_
    rintro e w3 ⟨v3, p, o3, rfl, hp, hR3, hb3⟩
    have HP := Lib.hid hp
    have HR3 := Lib.hid hR3
    have HB3 := Lib.hid (HB2.out.trans (hb3.mono HB2.out.size))
    clear hp hR3 hb3 HB2
    go_wp2_with fail
    refine (refUnq_any s (by have := HL.out; omega) w3).mono ?_
    rintro e w4 ⟨v4, q, o4, rfl, hq, hR4, hb4⟩
    have HUB := Lib.hid (unq_both HP.out hq)
    have HR5 := Lib.hid (Kd.R_below HR3.out hb4)
    have HR4 := Lib.hid hR4
    have HB4 := Lib.hid (HB3.out.trans (hb4.mono HB3.out.size))
    have HPL := Lib.hid (unq_short HP.out)
    clear hq hR4 hb4 HP HR3 HB3
    have HWK := Lib.hid (show ∀ W, Below w.heap.size w W → Calls Tryd.prog 13 #[.int .i64 kind] W fun e w' => e = .returned (.string (bsV (wordS kind))) ∧ Below w.heap.size w w' from fun W hW => (word_any kind W).mono fun e w' ⟨he, hb⟩ => ⟨he, hW.trans (hb.mono hW.size)⟩)
    have HWR := Lib.hid (show ∀ W, Below w.heap.size w W → Calls Tryd.prog 14 #[.int .i64 kind] W fun e w' => e = .returned (.string (bsV (wordS kind))) ∧ Below w.heap.size w w' from fun W hW => (refWord_any kind W).mono fun e w' ⟨he, hb⟩ => ⟨he, hW.trans (hb.mono hW.size)⟩)
    have HDK := Lib.hid (show ∀ W, Below w.heap.size w W → Calls Tryd.prog 15 #[.int .i64 n] W fun e w' => e = .returned (.string (bsV (decS n))) ∧ Below w.heap.size w w' from fun W hW => (dec_any n HN W).mono fun e w' ⟨he, hb⟩ => ⟨he, by rw [hb]; exact hW⟩)
    have HDR := Lib.hid (show ∀ W, Below w.heap.size w W → Calls Tryd.prog 16 #[.int .i64 n] W fun e w' => e = .returned (.string (bsV (decS n))) ∧ Below w.heap.size w w' from fun W hW => (refDec_any n HN W).mono fun e w' ⟨he, hb⟩ => ⟨he, hW.trans (hb.mono hW.size)⟩)
    have HQK := Lib.hid (show ∀ W, Below w.heap.size w W → Calls Tryd.prog 17 #[.slice A b.length c] W fun e w' => e = .returned (.string (bsV (quoS b))) ∧ Below w.heap.size w w' from fun W hW => (quote_any b A c W (Kd.C_below HC.out hW) (Lib.hid (by have := HLb.out; omega))).mono fun e w' ⟨he, hb⟩ => ⟨he, hW.trans (hb.mono hW.size)⟩)
    have HQR := Lib.hid (show ∀ W, Below w.heap.size w W → Calls Tryd.prog 18 #[.slice A b.length c] W fun e w' => e = .returned (.string (bsV (quoS b))) ∧ Below w.heap.size w w' from fun W hW => (refQuote_any b A c W (Kd.C_below HC.out hW) hc (Lib.hid (by have := HLb.out; omega))).mono fun e w' ⟨he, hb⟩ => ⟨he, hW.trans (hb.mono hW.size)⟩)
    generalize wordS kind = t1 at HWK HWR
    generalize decS n = t2 at HDK HDR
    generalize quoS b = t3 at HQK HQR
    have h1 : (t1 == t1) = true := by simp
    have h2 : (t2 == t2) = true := by simp
    have h3 : (t3 == t3) = true := by simp
    have hxy : (x == x) = true := by simp
    obtain ⟨A3, c3, rfl, hc3, hC3⟩ := Kd.R_reads HR5.out
    obtain ⟨A4, c4, rfl, hc4, hC4⟩ := Kd.R_reads HR4.out
    have HC3 := Lib.hid hC3
    have HC4 := Lib.hid hC4
    clear hC3 hC4 HR5 HR4
    rcases HNB.out with ⟨rfl, rfl, rfl⟩ | ⟨rfl, rfl⟩ <;> rcases HUB.out with ⟨rfl, rfl, rfl⟩ | ⟨rfl, rfl⟩
    all_goals
      go_wp2_with fail
      try
        refine (sameB_any A3 A4 c3 c4 (bI p) (bI p) w4 HC3.out hc3 HC4.out hc4 (by have := HPL.out (by first | rfl | trivial); have := HL.out; rw [bI_len]; omega)).mono ?_
        rintro e w5 ⟨rfl, n5, hd⟩
        have HB4 := Lib.hid (HB4.out.trans ((show Below w4.heap.size w4 w5 by rw [hd]; exact Drawn0.below ⟨n5, rfl⟩).mono HB4.out.size))
        rw [decide_eq_true rfl]
        clear hd
        go_wp2_with fail
      refine (HWK.out _ HB4.out).mono ?_
      rintro e u0 ⟨rfl, hb⟩
      have HU0 := Lib.hid hb
      clear hb
      go_wp2_with fail
      refine (HWR.out _ HU0.out).mono ?_
      rintro e u1 ⟨rfl, hb⟩
      have HU1 := Lib.hid hb
      clear hb
      go_wp2_with fail
      refine (HDK.out _ HU1.out).mono ?_
      rintro e u2 ⟨rfl, hb⟩
      have HU2 := Lib.hid hb
      clear hb
      go_wp2_with fail
      refine (HDR.out _ HU2.out).mono ?_
      rintro e u3 ⟨rfl, hb⟩
      have HU3 := Lib.hid hb
      clear hb
      go_wp2_with fail
      refine (HQK.out _ HU3.out).mono ?_
      rintro e u4 ⟨rfl, hb⟩
      have HU4 := Lib.hid hb
      clear hb
      go_wp2_with fail
      refine (HQR.out _ HU4.out).mono ?_
      rintro e u5 ⟨rfl, hb⟩
      have HU5 := Lib.hid hb
      clear hb
      go_wp2_with fail
      refine (HW.out _ HU5.out).mono ?_
      rintro e u9 ⟨rfl, hb⟩
      have HU9 := Lib.hid hb
      clear hb
      go_wp2_with fail
      go_ret
      exact ⟨rfl, HU9.out⟩
  · have hdd : (1000 : Int) < (s.length : Int) ∨ (¬ (1000 : Int) < (s.length : Int) ∧ (1000 : Int) < (b.length : Int)) := by omega
    clear hgd
    rcases hdd with d1 | ⟨d1, d2⟩
    all_goals
      go_enter Tryd.func3, Tryd.ntmps3
      go_wp2_with fail
      refine (HW.out _ (Below.refl _ _)).mono ?_
      rintro e w9 ⟨rfl, hb9⟩
      have HB9 := Lib.hid hb9
      clear hb9
      go_wp2_with fail
      go_ret
      exact ⟨rfl, HB9.out⟩
end Go.Proofs.YtbckbpimabmacaaDoor
