/- The contract of the document's Add. The contract of the document's New. The document's New, called wrongly. The document's New. The contract of the document's Join. The document's Join of two widths. What SketchDoes keeps: the sketch (S) and the document's (T) in the law's box, one behind the other. -/
import Derived.Test.YtpjdaglblckgfaaDoorG1
import Derived.Deep.AppendLies
import Derived.Deep.RegionLaw
import Derived.BigQuiet
namespace Go.Proofs.YtpjdaglblckgfaaDoor
set_option linter.unusedVariables false
set_option linter.unusedSimpArgs false
open Go.RowKit Go.Proofs.YtpjdaglblckgfaaDoorW.PrintWords
attribute [local go_sem ↓] Go.wp_at_zero Go.wp_at_succ

theorem WorkRel.bumpYes {w wr : World} {a : Array Value} {q LA nL r : Nat} {R cp : Nat → Nat} {S : Sk} {hash least : Int} (h : WorkRel w wr a q LA nL R cp (S.bumpTo hash least r)) (hr : r < 4) (h1 : S.row r (atI r hash S.width).toNat = least) (h2 : least < 255) (h0 : 0 ≤ least) :
    WorkRel w (wr.setCell ⟨R r, (atI r hash S.width).toNat, none⟩ (.int .i64 (least + 1))) a q LA nL R cp (S.bumpTo hash least (r + 1)) := by
  refine (h.setRow (r := r) (k := (atI r hash S.width).toNat) hr (v := least + 1) (by omega)).congr rfl rfl rfl rfl fun r' k' h3 h4 => ?_
  simp only [Sk.bumpTo]
  by_cases e : r' = r ∧ k' = (atI r hash S.width).toNat
  · obtain ⟨rfl, rfl⟩ := e
    simp [h1]
    omega
  · rw [if_neg e]
    by_cases e2 : r' < r ∧ k' = (atI r' hash S.width).toNat ∧ S.row r' k' = least ∧ S.row r' k' < 255
    · rw [if_pos e2, if_pos ⟨by omega, e2.2⟩]
    · rw [if_neg e2, if_neg]
      rintro ⟨h5, h6⟩
      by_cases h7 : r' = r
      · subst h7
        exact e ⟨rfl, h6.1⟩
      · exact e2 ⟨by omega, h6⟩
theorem WorkRel.bumpNo {w wr : World} {a : Array Value} {q LA nL r : Nat} {R cp : Nat → Nat} {S : Sk} {hash least : Int} (h : WorkRel w wr a q LA nL R cp (S.bumpTo hash least r)) (hr : r < 4) (h1 : ¬ (S.row r (atI r hash S.width).toNat = least ∧ least < 255)) :
    WorkRel w wr a q LA nL R cp (S.bumpTo hash least (r + 1)) := by
  refine h.congr rfl rfl rfl rfl fun r' k' h3 h4 => ?_
  simp only [Sk.bumpTo]
  by_cases e2 : r' < r ∧ k' = (atI r' hash S.width).toNat ∧ S.row r' k' = least ∧ S.row r' k' < 255
  · rw [if_pos e2, if_pos ⟨by omega, e2.2⟩]
  · rw [if_neg e2, if_neg]
    rintro ⟨h5, h6, h7, h8⟩
    by_cases h9 : r' = r
    · subst h9
      rw [h6] at h7 h8
      exact h1 ⟨h7, by omega⟩
    · exact e2 ⟨by omega, h6, h7, h8⟩

theorem toNat_lt' {x : Int} {n : Nat} (h0 : 0 ≤ x) (h1 : x < n) : x.toNat < n := by omega

set_option maxHeartbeats 4000000 in
set_option maxRecDepth 100000 in
theorem refAdd_any (LA nL : Nat) (R cp : Nat → Nat) (S : Sk) (key : ByteArray) (hk : key.size ≤ maxLen) (w : World) (hS : IsRf w LA nL R cp S) (ht0 : 0 ≤ S.total) (ht1 : S.total < 4611686018427387904) (ha0 : 0 ≤ S.aged) (ha1 : S.aged ≤ 4611686018427387904) :
    Calls Tryd.prog 19 #[.agg (rfCells LA nL S), .string key] w (RfPost w (S.add key)) := by
  have hw1 := hS.w1
  have hw2 := hS.w2
  have n4 := hS.n4
  have HS := Lib.hid hS
  have HLB := Lib.hid (least_bd hS (hashI key) 4 (Nat.le_refl _))
  clear hS
  have hcop : ∀ W, Below w.heap.size w W → _ := fun W hW => copied_any LA nL R cp S W (HS.out.later hW)
  have hof : ∀ W, Below w.heap.size w W → _ := fun W hW => refOf_any LA nL R cp S key hk W (HS.out.later hW)
  have hat : ∀ (k : Nat) W, _ := fun k W => refAt_any LA nL S k key hk hw1 hw2 W
  have HCOP := Lib.hid hcop
  have HOF := Lib.hid hof
  have HAT := Lib.hid hat
  clear hcop hof hat
  have hrf : rfCells LA nL S = #[.int .i64 S.width, .slice (some ⟨LA, 0, none⟩) 4 nL, .int .i64 S.total, .int .i64 S.limit, .int .i64 S.aged] := rfl
  rw [hrf] at HCOP HOF HAT ⊢
  clear hrf
  obtain ⟨lst, hlst⟩ : ∃ lst, lst = ofI S key := ⟨_, rfl⟩
  have HLST := Lib.hid (show lst = leastI S (hashI key) 4 from hlst)
  have HLB2 := Lib.hid (show 0 ≤ lst ∧ lst ≤ 255 by rw [HLST.out]; exact HLB.out)
  rw [← hlst] at HOF
  clear hlst HLB
  go_enter Tryd.func19, Tryd.ntmps19
  go_wp2_with fail
  refine (HCOP.out _ (((Below.refl _ _).alloc (Nat.le_refl _) _).alloc (by simp) _)).mono ?_
  rintro e w3 ⟨LA', nL', R', cp', rfl, hrf', hown', hb'⟩
  have hrf2 : rfCells LA' nL' S = #[.int .i64 S.width, .slice (some ⟨LA', 0, none⟩) 4 nL', .int .i64 S.total, .int .i64 S.limit, .int .i64 S.aged] := rfl
  rw [hrf2]
  clear hrf2
  have H0 : Hid (WorkRel w (w3.alloc (.cells #[.int .i64 S.width, .slice (some ⟨LA', 0, none⟩) 4 nL', .int .i64 S.total, .int .i64 S.limit, .int .i64 S.aged] 38)) #[.int .i64 S.width, .slice (some ⟨LA, 0, none⟩) 4 nL, .int .i64 S.total, .int .i64 S.limit, .int .i64 S.aged] w3.heap.size LA' nL' R' cp' S) := by
    have hs := hb'.size
    simp at hs
    refine ⟨?_, ?_, heap_alloc_new _ _, hrf'.later (bel_alloc _ _), ⟨by simpa using hown'.1, fun r hr => by simpa using hown'.2 r hr⟩, by omega, ?_⟩
    · exact (Below.heap_alloc _ _ _ (by omega)).trans ((hb'.block _ (by simp; omega)).trans ((Below.heap_alloc _ _ _ (by simp)).trans (heap_alloc_new _ _)))
    · refine (Below.heap_alloc _ _ _ (by omega)).trans ((hb'.block _ (by simp)).trans ?_)
      have := heap_alloc_new (w.alloc (.cells #[.int .i64 S.width, .slice (some ⟨LA, 0, none⟩) 4 nL, .int .i64 S.total, .int .i64 S.limit, .int .i64 S.aged] 38)) (.cells #[.int .i64 0, .slice none 0 0, .int .i64 0, .int .i64 0, .int .i64 0] 38)
      simpa using this
    · have h2 : Below w.heap.size w ((w.alloc (.cells #[.int .i64 S.width, .slice (some ⟨LA, 0, none⟩) 4 nL, .int .i64 S.total, .int .i64 S.limit, .int .i64 S.aged] 38)).alloc (.cells #[.int .i64 0, .slice none 0 0, .int .i64 0, .int .i64 0, .int .i64 0] 38)) := ((Below.refl _ _).alloc (Nat.le_refl _) _).alloc (by simp) _
      have h3 := h2.trans (hb'.mono h2.size)
      exact h3.trans ((bel_alloc w3 _).mono h3.size)
  clear hrf' hown' hb' HCOP
  generalize hW4 : w3.alloc (.cells #[.int .i64 S.width, .slice (some ⟨LA', 0, none⟩) 4 nL', .int .i64 S.total, .int .i64 S.limit, .int .i64 S.aged] 38) = w4 at *
  have v0 : w4.cell? ⟨w.heap.size, 0, none⟩ = some (.int .i64 S.width) := cell_of_row w4 _ 0 _ _ (0, 0) H0.out.b0
  have v1 : w4.cell? ⟨w.heap.size, 1, none⟩ = some (.slice (some ⟨LA, 0, none⟩) 4 nL) := cell_of_row w4 _ 1 _ _ (0, 0) H0.out.b0
  have v2 : w4.cell? ⟨w.heap.size, 2, none⟩ = some (.int .i64 S.total) := cell_of_row w4 _ 2 _ _ (0, 0) H0.out.b0
  have v3 : w4.cell? ⟨w.heap.size, 3, none⟩ = some (.int .i64 S.limit) := cell_of_row w4 _ 3 _ _ (0, 0) H0.out.b0
  have v4 : w4.cell? ⟨w.heap.size, 4, none⟩ = some (.int .i64 S.aged) := cell_of_row w4 _ 4 _ _ (0, 0) H0.out.b0
  go_wp2_with fail
  clear hW4
  generalize w3.heap.size = q at *
  refine (HOF.out w4 H0.out.bel).mono ?_
  rintro e w5 ⟨rfl, hb5⟩
  have H5 := Lib.hid (H0.out.later hb5)
  clear hb5 H0 HOF v0 v1 v2 v3 v4
  go_wp2_with fail
  go_loopw [7] (fun i wr => ∃ r : Nat, r ≤ 4 ∧ i = .int .i64 r ∧ Hid (WorkRel w wr #[.int .i64 S.width, .slice (some ⟨LA, 0, none⟩) 4 nL, .int .i64 S.total, .int .i64 S.limit, .int .i64 S.aged] q LA' nL' R' cp' (S.bumpTo (hashI key) lst r))) (fun i _ => 4 - (intOf i).toNat)
  case atStart => exact ⟨0, Nat.zero_le _, rfl, H5.out.congr rfl rfl rfl rfl (by simp [Sk.bumpTo])⟩
  case round =>
    obtain ⟨k, hk4, rfl, HD⟩ := hrel
    obtain ⟨lb0, lb1⟩ := HLB2.out
    have n4' := HD.out.rf.n4
    by_cases hlt : k < 4
    · obtain ⟨a0, a1⟩ := atI_bd k (hashI key) S.width (by omega)
      have atn : (atI k (hashI key) S.width).toNat < S.width := toNat_lt' a0 a1
      have hbox : ∀ WW j, WorkRel w WW #[.int .i64 S.width, .slice (some ⟨LA, 0, none⟩) 4 nL, .int .i64 S.total, .int .i64 S.limit, .int .i64 S.aged] q LA' nL' R' cp' (S.bumpTo (hashI key) lst j) → WW.cell? ⟨w.heap.size, 0, none⟩ = some (.int .i64 S.width) ∧ WW.cell? ⟨w.heap.size, 1, none⟩ = some (.slice (some ⟨LA, 0, none⟩) 4 nL) ∧ WW.cell? ⟨w.heap.size, 2, none⟩ = some (.int .i64 S.total) ∧ WW.cell? ⟨w.heap.size, 3, none⟩ = some (.int .i64 S.limit) ∧ WW.cell? ⟨w.heap.size, 4, none⟩ = some (.int .i64 S.aged) := fun WW j h => ⟨cell_of_row WW _ 0 _ _ (0, 0) h.b0, cell_of_row WW _ 1 _ _ (0, 0) h.b0, cell_of_row WW _ 2 _ _ (0, 0) h.b0, cell_of_row WW _ 3 _ _ (0, 0) h.b0, cell_of_row WW _ 4 _ _ (0, 0) h.b0⟩
      have hyes := fun (WW : World) (h : WorkRel w WW #[.int .i64 S.width, .slice (some ⟨LA, 0, none⟩) 4 nL, .int .i64 S.total, .int .i64 S.limit, .int .i64 S.aged] q LA' nL' R' cp' (S.bumpTo (hashI key) lst k)) => h.bumpYes hlt
      have hno := fun (WW : World) (h : WorkRel w WW #[.int .i64 S.width, .slice (some ⟨LA, 0, none⟩) 4 nL, .int .i64 S.total, .int .i64 S.limit, .int .i64 S.aged] q LA' nL' R' cp' (S.bumpTo (hashI key) lst k)) => h.bumpNo hlt
      have HATk := Lib.hid (HAT.out k)
      have hcw := HS.out.cw k hlt
      have hcw2 : S.width ≤ cp' k := HD.out.rf.cw k hlt
      have hXa : ∀ WW, WorkRel w WW #[.int .i64 S.width, .slice (some ⟨LA, 0, none⟩) 4 nL, .int .i64 S.total, .int .i64 S.limit, .int .i64 S.aged] q LA' nL' R' cp' (S.bumpTo (hashI key) lst k) → WW.cell? ⟨LA, k, none⟩ = some (.slice (some ⟨R k, 0, none⟩) S.width (cp k)) ∧ WW.cell? ⟨R k, (atI k (hashI key) S.width).toNat, none⟩ = some (.int .i64 (S.row k (atI k (hashI key) S.width).toNat)) := fun WW h =>
        ⟨(HS.out.later h.bel).cellh hlt, (HS.out.later h.bel).cellr hlt atn⟩
      have hrc : ∀ WW, WorkRel w WW #[.int .i64 S.width, .slice (some ⟨LA, 0, none⟩) 4 nL, .int .i64 S.total, .int .i64 S.limit, .int .i64 S.aged] q LA' nL' R' cp' (S.bumpTo (hashI key) lst k) → ∃ x, WW.cell? ⟨R' k, (atI k (hashI key) S.width).toNat, none⟩ = some (.int .i64 x) := fun WW h => ⟨_, h.rf.cellr hlt atn⟩
      have i3 : (0 : Int) ≤ (k : Int) := by omega
      have i4 : (k : Int) < 4 := by omega
      have i5 : (4 : Int) ≤ (nL' : Int) := by omega
      have i6 : (4 : Int) ≤ (nL : Int) := by omega
      have i7 : (S.width : Int) ≤ (cp k : Int) := by omega
      have i8 : (S.width : Int) ≤ (cp' k : Int) := by omega
      generalize hat : atI k (hashI key) S.width = at_ at *
      generalize hrv : S.row k at_.toNat = rv at *
      have HYES := Lib.hid hyes
      have HNO := Lib.hid hno
      have HX6 := Lib.hid (show ∀ WW, WorkRel w WW #[.int .i64 S.width, .slice (some ⟨LA, 0, none⟩) 4 nL, .int .i64 S.total, .int .i64 S.limit, .int .i64 S.aged] q LA' nL' R' cp' (S.bumpTo (hashI key) lst k) → (WW.cell? ⟨w.heap.size, 0, none⟩ = some (.int .i64 S.width) ∧ WW.cell? ⟨w.heap.size, 1, none⟩ = some (.slice (some ⟨LA, 0, none⟩) 4 nL) ∧ WW.cell? ⟨w.heap.size, 2, none⟩ = some (.int .i64 S.total) ∧ WW.cell? ⟨w.heap.size, 3, none⟩ = some (.int .i64 S.limit) ∧ WW.cell? ⟨w.heap.size, 4, none⟩ = some (.int .i64 S.aged) ∧ WW.cell? ⟨LA, k, none⟩ = some (.slice (some ⟨R k, 0, none⟩) S.width (cp k)) ∧ WW.cell? ⟨R k, at_.toNat, none⟩ = some (.int .i64 rv)) from fun WW h => ⟨(hbox WW k h).1, (hbox WW k h).2.1, (hbox WW k h).2.2.1, (hbox WW k h).2.2.2.1, (hbox WW k h).2.2.2.2, hXa WW h⟩)
      have HX7 := Lib.hid (show ∀ WW j, WorkRel w WW #[.int .i64 S.width, .slice (some ⟨LA, 0, none⟩) 4 nL, .int .i64 S.total, .int .i64 S.limit, .int .i64 S.aged] q LA' nL' R' cp' (S.bumpTo (hashI key) lst j) → (WW.cell? ⟨w.heap.size, 0, none⟩ = some (.int .i64 S.width) ∧ WW.cell? ⟨w.heap.size, 1, none⟩ = some (.slice (some ⟨LA, 0, none⟩) 4 nL) ∧ WW.cell? ⟨w.heap.size, 2, none⟩ = some (.int .i64 S.total) ∧ WW.cell? ⟨w.heap.size, 3, none⟩ = some (.int .i64 S.limit) ∧ WW.cell? ⟨w.heap.size, 4, none⟩ = some (.int .i64 S.aged) ∧ WW.cell? ⟨q, 1, none⟩ = some (.slice (some ⟨LA', 0, none⟩) 4 nL') ∧ WW.cell? ⟨LA', k, none⟩ = some (.slice (some ⟨R' k, 0, none⟩) S.width (cp' k))) from fun WW j h => ⟨(hbox WW j h).1, (hbox WW j h).2.1, (hbox WW j h).2.2.1, (hbox WW j h).2.2.2.1, (hbox WW j h).2.2.2.2, h.cell 1, h.rf.cellh hlt⟩)
      have HRC := Lib.hid hrc
      have hcase : (rv = lst ∧ (rv == lst) = true ∧ lst < 255 ∧ decide (lst < 255) = true) ∨ (¬ (rv = lst ∧ lst < 255) ∧ ((rv == lst) = false ∨ ((rv == lst) = true ∧ decide (lst < 255) = false))) := by
        by_cases h1 : rv = lst
        · by_cases h2 : lst < 255
          · exact .inl ⟨h1, by simp [h1], h2, decide_eq_true h2⟩
          · exact .inr ⟨fun e => h2 e.2, .inr ⟨by simp [h1], decide_eq_false h2⟩⟩
        · exact .inr ⟨fun e => h1 e.1, .inl (by simpa using h1)⟩
      obtain ⟨s0, s1, s2, s3, s4, s5, s6⟩ := HX6.out wr HD.out
      have D0 := Lib.hid (HD.out.later (Drawn0.below ⟨1, rfl⟩ : Below wr.heap.size wr wr.drew))
      clear hat hrv hyes hno hbox hXa hrc
      rcases hcase with ⟨c1, c2, c3, c4⟩ | ⟨c1, c2 | ⟨c2, c3⟩⟩
      · have C1 := Lib.hid c1
        clear c1
        go_wp2_with fail
        go_region_held3 (fun WW => WW.cell? ⟨w.heap.size, 0, none⟩ = some (.int .i64 S.width) ∧ WW.cell? ⟨w.heap.size, 1, none⟩ = some (.slice (some ⟨LA, 0, none⟩) 4 nL) ∧ WW.cell? ⟨w.heap.size, 2, none⟩ = some (.int .i64 S.total) ∧ WW.cell? ⟨w.heap.size, 3, none⟩ = some (.int .i64 S.limit) ∧ WW.cell? ⟨w.heap.size, 4, none⟩ = some (.int .i64 S.aged) ∧ WW.cell? ⟨LA, k, none⟩ = some (.slice (some ⟨R k, 0, none⟩) S.width (cp k)) ∧ WW.cell? ⟨R k, at_.toNat, none⟩ = some (.int .i64 rv)) (first | exact ⟨s0, s1, s2, s3, s4, s5, s6⟩ | exact HX6.out _ D0.out | exact HX6.out _ D1.out)
          ((go_at_call 38; ((with_reducible refine (HATk.out _).mono ?_)); rintro e y1 ⟨rfl, hb⟩; have D1 := Lib.hid (D0.out.later hb); clear hb))
        all_goals
          obtain ⟨z0, z1, z2, z3, z4, z5, z6⟩ := HX7.out _ k D1.out
          have hwr : IntKind.i64.wrap (lst + 1) = lst + 1 := IntWalk.i64_in _ (by omega)
          have E0 := Lib.hid (D1.out.later (Drawn0.below ⟨1, rfl⟩ : Below y1.heap.size y1 y1.drew))
          go_wp2_with fail
          go_region_held3 (fun WW => WW.cell? ⟨w.heap.size, 0, none⟩ = some (.int .i64 S.width) ∧ WW.cell? ⟨w.heap.size, 1, none⟩ = some (.slice (some ⟨LA, 0, none⟩) 4 nL) ∧ WW.cell? ⟨w.heap.size, 2, none⟩ = some (.int .i64 S.total) ∧ WW.cell? ⟨w.heap.size, 3, none⟩ = some (.int .i64 S.limit) ∧ WW.cell? ⟨w.heap.size, 4, none⟩ = some (.int .i64 S.aged) ∧ WW.cell? ⟨q, 1, none⟩ = some (.slice (some ⟨LA', 0, none⟩) 4 nL') ∧ WW.cell? ⟨LA', k, none⟩ = some (.slice (some ⟨R' k, 0, none⟩) S.width (cp' k))) (first | exact ⟨z0, z1, z2, z3, z4, z5, z6⟩ | exact HX7.out _ _ E0.out | exact HX7.out _ _ E1.out | exact HX7.out _ _ (HYES.out _ E1.out C1.out c3 lb0))
            ((go_at_call 38; ((with_reducible refine (HATk.out _).mono ?_)); rintro e y2 ⟨rfl, hb⟩; have E1 := Lib.hid (E0.out.later hb); obtain ⟨xv, hxv⟩ := HRC.out _ E1.out; have fz : y2.frozen? ⟨R' k, at_.toNat, none⟩ = false := E1.out.rf.fror hlt _; clear hb))
          all_goals
            have E2 := Lib.hid (HYES.out _ E1.out C1.out c3 lb0)
            go_wp2_with fail
            go_roundw
            case rel => exact ⟨k + 1, by omega, by go_num, E2.out⟩
            case measure => simp [intOf]; omega
      all_goals
        have C1 := Lib.hid c1
        clear c1
        go_wp2_with fail
        refine wp_region_held_drew (S := (fun WW => WW.cell? ⟨w.heap.size, 0, none⟩ = some (.int .i64 S.width) ∧ WW.cell? ⟨w.heap.size, 1, none⟩ = some (.slice (some ⟨LA, 0, none⟩) 4 nL) ∧ WW.cell? ⟨w.heap.size, 2, none⟩ = some (.int .i64 S.total) ∧ WW.cell? ⟨w.heap.size, 3, none⟩ = some (.int .i64 S.limit) ∧ WW.cell? ⟨w.heap.size, 4, none⟩ = some (.int .i64 S.aged) ∧ WW.cell? ⟨LA, k, none⟩ = some (.slice (some ⟨R k, 0, none⟩) S.width (cp k)) ∧ WW.cell? ⟨R k, at_.toNat, none⟩ = some (.int .i64 rv))) (by kernel_rfl) ?_ (fun hHeld => ?_)
        · exact HX6.out _ D0.out
        refine wpAnyH_take (i := 0) (oi := ⟨some 17, _, _, _, _, _⟩) (v := ?_) rfl (by kernel_rfl) (by kernel_rfl) (by kernel_rfl) (fun _ _ _ h => h) (Or.inl ⟨by rfl, ?_⟩) (by assumption) ?_
        rotate_left
        · intro WW hSw
          try dsimp only at hSw
          go_simp
          try with_reducible rfl
        try simp only [Act.put, List.setIfInBounds_toArray, List.set_cons_zero, List.set_cons_succ]
        refine wpAnyH_take (i := 1) (oi := ⟨some 18, _, _, _, _, _⟩) (v := ?_) rfl (by kernel_rfl) (by kernel_rfl) (by kernel_rfl) (fun _ _ _ h => h) (Or.inl ⟨by rfl, ?_⟩) (by assumption) ?_
        rotate_left
        · intro WW hSw
          try dsimp only at hSw
          go_simp
          try with_reducible rfl
        try simp only [Act.put, List.setIfInBounds_toArray, List.set_cons_zero, List.set_cons_succ]
        refine wpAnyH_take (i := 2) (oi := ⟨some 19, _, _, _, _, _⟩) (v := ?_) rfl (by kernel_rfl) (by kernel_rfl) (by kernel_rfl) (fun _ _ _ h => h) (Or.inl ⟨by rfl, ?_⟩) (by assumption) ?_
        rotate_left
        · intro WW hSw
          try dsimp only at hSw
          go_simp
          try with_reducible rfl
        try simp only [Act.put, List.setIfInBounds_toArray, List.set_cons_zero, List.set_cons_succ]
        refine wpAnyH_take (i := 3) (oi := ⟨some 20, _, _, _, _, _⟩) (v := ?_) rfl (by kernel_rfl) (by kernel_rfl) (by kernel_rfl) (fun _ _ _ h => h) (Or.inl ⟨by rfl, ?_⟩) (by assumption) ?_
        rotate_left
        · intro WW hSw
          try dsimp only at hSw
          go_simp
          try with_reducible rfl
        try simp only [Act.put, List.setIfInBounds_toArray, List.set_cons_zero, List.set_cons_succ]
        refine wpAnyH_take (i := 4) (oi := ⟨some 21, _, _, _, _, _⟩) (v := ?_) rfl (by kernel_rfl) (by kernel_rfl) (by kernel_rfl) (fun _ _ _ h => h) (Or.inl ⟨by rfl, ?_⟩) (by assumption) ?_
        rotate_left
        · intro WW hSw
          try dsimp only at hSw
          go_simp
          try with_reducible rfl
        try simp only [Act.put, List.setIfInBounds_toArray, List.set_cons_zero, List.set_cons_succ]
        refine wpAnyH_take (i := 5) (oi := ⟨some 22, _, _, _, _, _⟩) (v := ?_) rfl (by kernel_rfl) (by kernel_rfl) (by kernel_rfl) (fun _ _ _ h => h) (Or.inl ⟨by rfl, ?_⟩) (by assumption) ?_
        rotate_left
        · intro WW hSw
          try dsimp only at hSw
          go_simp
          try with_reducible rfl
        try simp only [Act.put, List.setIfInBounds_toArray, List.set_cons_zero, List.set_cons_succ]
        refine wpAnyH_take (i := 6) (oi := ⟨some 23, _, _, _, _, _⟩) (v := ?_) rfl (by kernel_rfl) (by kernel_rfl) (by kernel_rfl) (fun _ _ _ h => h) (Or.inl ⟨by rfl, ?_⟩) (by assumption) ?_
        rotate_left
        · intro WW hSw
          try dsimp only at hSw
          go_simp
          try with_reducible rfl
        try simp only [Act.put, List.setIfInBounds_toArray, List.set_cons_zero, List.set_cons_succ]
        refine wpAnyH_take (i := 7) (oi := ⟨some 24, _, _, _, _, _⟩) (v := ?_) rfl (by kernel_rfl) (by kernel_rfl) (by kernel_rfl) (fun _ _ _ h => h) (Or.inl ⟨by rfl, ?_⟩) (by assumption) ?_
        rotate_left
        · intro WW hSw
          try dsimp only at hSw
          go_simp
          try with_reducible rfl
        try simp only [Act.put, List.setIfInBounds_toArray, List.set_cons_zero, List.set_cons_succ]
        refine wpAnyH_take (i := 11) (oi := ⟨some 28, _, _, _, _, _⟩) (v := ?_) rfl (by kernel_rfl) (by kernel_rfl) (by kernel_rfl) (fun _ _ _ h => h) (Or.inl ⟨by rfl, ?_⟩) (by assumption) ?_
        rotate_left
        · intro WW hSw
          try dsimp only at hSw
          go_simp
          try with_reducible rfl
        try simp only [Act.put, List.setIfInBounds_toArray, List.set_cons_zero, List.set_cons_succ]
        refine wpAnyH_ready (rs := [8]) (by kernel_rfl) (by simp) ?_
        refine AllReadyH.cons (o := ⟨some 25, _, _, _, _, _⟩) rfl (fun K hK => ?_) AllReadyH.nil
        go_simp
        go_at_call 38
        ((with_reducible refine (HATk.out _).mono ?_))
        rintro e y1 ⟨rfl, hb⟩
        have D1 := Lib.hid (D0.out.later hb)
        clear hb
        refine hK.out _ _ ?_ (fun hHeld2 => ?_)
        · exact HX6.out _ D1.out
        clear hK K hHeld
        try simp only [Act.put, List.setIfInBounds_toArray, List.set_cons_zero, List.set_cons_succ]
        refine wpAnyH_take (i := 9) (oi := ⟨some 26, _, _, _, _, _⟩) (v := ?_) rfl (by kernel_rfl) (by kernel_rfl) (by kernel_rfl) (fun _ _ _ h => h) (Or.inl ⟨by rfl, ?_⟩) (by assumption) ?_
        rotate_left
        · intro WW hSw
          try dsimp only at hSw
          go_simp
          try with_reducible rfl
        try simp only [Act.put, List.setIfInBounds_toArray, List.set_cons_zero, List.set_cons_succ]
        refine wpAnyH_take (i := 10) (oi := ⟨some 27, _, _, _, _, _⟩) (v := ?_) rfl (by kernel_rfl) (by kernel_rfl) (by kernel_rfl) (fun _ _ _ h => h) (Or.inl ⟨by rfl, ?_⟩) (by assumption) ?_
        rotate_left
        · intro WW hSw
          try dsimp only at hSw
          go_simp
          try with_reducible rfl
        try simp only [Act.put, List.setIfInBounds_toArray, List.set_cons_zero, List.set_cons_succ]
        refine wpAnyH_take (i := 12) (oi := ⟨some 29, _, _, _, _, _⟩) (v := ?_) rfl (by kernel_rfl) (by kernel_rfl) (by kernel_rfl) (fun _ _ _ h => h) (Or.inl ⟨by rfl, ?_⟩) (by assumption) ?_
        rotate_left
        · intro WW hSw
          try dsimp only at hSw
          go_simp
          try with_reducible rfl
        try simp only [Act.put, List.setIfInBounds_toArray, List.set_cons_zero, List.set_cons_succ]
        refine wpAnyH_take (i := 13) (oi := ⟨some 30, _, _, _, _, _⟩) (v := ?_) rfl (by kernel_rfl) (by kernel_rfl) (by kernel_rfl) (fun _ _ _ h => h) (Or.inl ⟨by rfl, ?_⟩) (by assumption) ?_
        rotate_left
        · intro WW hSw
          try dsimp only at hSw
          go_simp
          try with_reducible rfl
        try simp only [Act.put, List.setIfInBounds_toArray, List.set_cons_zero, List.set_cons_succ]
        first
        | (
          have _h3 := c3
          refine wpAnyH_take (i := 14) (oi := ⟨some 31, _, _, _, _, _⟩) (v := ?_) rfl (by kernel_rfl) (by kernel_rfl) (by kernel_rfl) (fun _ _ _ h => h) (Or.inl ⟨by rfl, ?_⟩) (by assumption) ?_
          rotate_left
          · intro WW hSw
            try dsimp only at hSw
            go_simp
            try with_reducible rfl
          try simp only [Act.put, List.setIfInBounds_toArray, List.set_cons_zero, List.set_cons_succ]
          refine wpAnyH_take (i := 15) (oi := ⟨some 32, _, _, _, _, _⟩) (v := ?_) rfl (by kernel_rfl) (by kernel_rfl) (by kernel_rfl) (fun _ _ _ h => h) (Or.inl ⟨by rfl, ?_⟩) (by assumption) ?_
          rotate_left
          · intro WW hSw
            try dsimp only at hSw
            go_simp
            try with_reducible rfl
          try simp only [Act.put, List.setIfInBounds_toArray, List.set_cons_zero, List.set_cons_succ])
        | (
          refine wpAnyH_take (i := 14) (oi := ⟨some 31, _, _, _, _, _⟩) (v := undef) rfl (by kernel_rfl) (by kernel_rfl) (by kernel_rfl) (fun _ _ _ h => h) (Or.inr ⟨by rfl, rfl⟩) (by assumption) ?_
          try simp only [Act.put, List.setIfInBounds_toArray, List.set_cons_zero, List.set_cons_succ]
          refine wpAnyH_take (i := 15) (oi := ⟨some 32, _, _, _, _, _⟩) (v := undef) rfl (by kernel_rfl) (by kernel_rfl) (by kernel_rfl) (fun _ _ _ h => h) (Or.inr ⟨by rfl, rfl⟩) (by assumption) ?_
          try simp only [Act.put, List.setIfInBounds_toArray, List.set_cons_zero, List.set_cons_succ])
        refine wpAnyH_take (i := 16) (oi := ⟨some 33, _, _, _, _, _⟩) (v := ?_) rfl (by kernel_rfl) (by kernel_rfl) (by kernel_rfl) (fun _ _ _ h => h) (Or.inl ⟨by rfl, ?_⟩) (by assumption) ?_
        rotate_left
        · intro WW hSw
          try dsimp only at hSw
          go_simp
          try with_reducible rfl
        try simp only [Act.put, List.setIfInBounds_toArray, List.set_cons_zero, List.set_cons_succ]
        refine wpAnyH_done (by kernel_rfl) ?_ _
        all_goals
          have D2 := Lib.hid (HNO.out _ D1.out C1.out)
          go_wp2_with fail
          go_roundw
          case rel => exact ⟨k + 1, by omega, by go_num, D2.out⟩
          case measure => simp [intOf]; omega
    · obtain rfl : k = 4 := by omega
      have hq2 := HD.out.hq
      have hne1 : q ≠ w.heap.size := by omega
      have hne2 : q ≠ w.heap.size + 1 := by omega
      have hne3 : w.heap.size ≠ q := by omega
      have hne4 : w.heap.size + 1 ≠ q := by omega
      have p2 : wr.cell? ⟨w.heap.size, 2, none⟩ = some (.int .i64 S.total) := cell_of_row wr _ 2 _ _ (0, 0) HD.out.b0
      have p3 : wr.cell? ⟨w.heap.size, 3, none⟩ = some (.int .i64 S.limit) := cell_of_row wr _ 3 _ _ (0, 0) HD.out.b0
      have x0 : wr.cell? ⟨q, 0, none⟩ = some (.int .i64 S.width) := HD.out.cell 0
      have x1 : wr.cell? ⟨q, 1, none⟩ = some (.slice (some ⟨LA', 0, none⟩) 4 nL') := HD.out.cell 1
      have x2 : wr.cell? ⟨q, 2, none⟩ = some (.int .i64 S.total) := HD.out.cell 2
      have x3 : wr.cell? ⟨q, 3, none⟩ = some (.int .i64 S.limit) := HD.out.cell 3
      have x4 : wr.cell? ⟨q, 4, none⟩ = some (.int .i64 S.aged) := HD.out.cell 4
      have g2 := HD.out.fro 2
      have hz1 : wr.cell? ⟨w.heap.size + 1, 0, none⟩ = some (.int .i64 0) := cell_of_row wr _ 0 _ _ (0, 0) HD.out.b1
      have hz2 : wr.cell? ⟨w.heap.size + 1, 1, none⟩ = some (.slice none 0 0) := cell_of_row wr _ 1 _ _ (0, 0) HD.out.b1
      have hz3 : wr.cell? ⟨w.heap.size + 1, 2, none⟩ = some (.int .i64 0) := cell_of_row wr _ 2 _ _ (0, 0) HD.out.b1
      have hz4 : wr.cell? ⟨w.heap.size + 1, 3, none⟩ = some (.int .i64 0) := cell_of_row wr _ 3 _ _ (0, 0) HD.out.b1
      have hz5 : wr.cell? ⟨w.heap.size + 1, 4, none⟩ = some (.int .i64 0) := cell_of_row wr _ 4 _ _ (0, 0) HD.out.b1
      have hf0 : ∀ j, wr.frozen? ⟨w.heap.size + 1, j, none⟩ = false := fun j => by simp [World.frozen?, HD.out.b1]
      obtain ⟨f0, f1, f2, f3, f4⟩ : wr.frozen? ⟨w.heap.size + 1, 0, none⟩ = false ∧ wr.frozen? ⟨w.heap.size + 1, 1, none⟩ = false ∧ wr.frozen? ⟨w.heap.size + 1, 2, none⟩ = false ∧ wr.frozen? ⟨w.heap.size + 1, 3, none⟩ = false ∧ wr.frozen? ⟨w.heap.size + 1, 4, none⟩ = false := ⟨hf0 0, hf0 1, hf0 2, hf0 3, hf0 4⟩
      clear hf0 hq2
      have hwt : IntKind.i64.wrap (S.total + 1) = S.total + 1 := IntWalk.i64_in _ (by omega)
      have HT : Hid (WorkRel w (wr.setCell ⟨q, 2, none⟩ (.int .i64 (S.total + 1))) #[.int .i64 S.width, .slice (some ⟨LA, 0, none⟩) 4 nL, .int .i64 S.total, .int .i64 S.limit, .int .i64 S.aged] q LA' nL' R' cp' (S.bump (hashI key))) := by
        refine (HD.out.setTot (S.total + 1)).congr rfl rfl rfl rfl (fun r' k' h1 h2 => ?_)
        simp only [Sk.bump, ← HLST.out]
      by_cases e1 : 0 < S.limit
      · by_cases e2 : S.limit ≤ S.total + 1
        · have hadd : S.add key = (S.bump (hashI key)).age := by rw [Sk.add, if_pos ⟨e1, e2⟩]
          have HADD := Lib.hid hadd
          clear hadd
          have hage : ∀ W, IsRf W LA' nL' R' cp' (S.bump (hashI key)) → Calls Tryd.prog 20 #[.agg #[.int .i64 S.width, .slice (some ⟨LA', 0, none⟩) 4 nL', .int .i64 (S.total + 1), .int .i64 S.limit, .int .i64 S.aged]] W (RfPost W (S.bump (hashI key)).age) := fun W h => refAge_any LA' nL' R' cp' (S.bump (hashI key)) W h (by show 0 ≤ S.total + 1; omega) (by show S.total + 1 ≤ _; omega) ha0 ha1
          generalize (S.bump (hashI key)).age = T at *
          have HAGE := Lib.hid hage
          clear hage
          go_wp2_with fail
          refine (HAGE.out _ (by first | exact HT.out.rf | exact HT.out.rf.later (Drawn0.below ⟨_, rfl⟩))).mono ?_
          rintro e w7 ⟨LA2, nL2, R2, cp2, rfl, hrf2, hown2, hb2⟩
          have hrf3 : rfCells LA2 nL2 T = #[.int .i64 T.width, .slice (some ⟨LA2, 0, none⟩) 4 nL2, .int .i64 T.total, .int .i64 T.limit, .int .i64 T.aged] := rfl
          rw [hrf3]
          clear hrf3
          have hlt1 : w.heap.size + 1 < (wr.setCell ⟨q, 2, none⟩ (.int .i64 (S.total + 1))).heap.size := (Array.getElem?_eq_some_iff.1 HT.out.b1).1
          have hb1 : w7.heap[w.heap.size + 1]? = some (.cells #[.int .i64 0, .slice none 0 0, .int .i64 0, .int .i64 0, .int .i64 0] 38 (0, 0)) := (hb2.block _ hlt1).trans HT.out.b1
          have hz1 : w7.cell? ⟨w.heap.size + 1, 0, none⟩ = some (.int .i64 0) := cell_of_row w7 _ 0 _ _ (0, 0) hb1
          have hz2 : w7.cell? ⟨w.heap.size + 1, 1, none⟩ = some (.slice none 0 0) := cell_of_row w7 _ 1 _ _ (0, 0) hb1
          have hz3 : w7.cell? ⟨w.heap.size + 1, 2, none⟩ = some (.int .i64 0) := cell_of_row w7 _ 2 _ _ (0, 0) hb1
          have hz4 : w7.cell? ⟨w.heap.size + 1, 3, none⟩ = some (.int .i64 0) := cell_of_row w7 _ 3 _ _ (0, 0) hb1
          have hz5 : w7.cell? ⟨w.heap.size + 1, 4, none⟩ = some (.int .i64 0) := cell_of_row w7 _ 4 _ _ (0, 0) hb1
          have hf0 : ∀ j, w7.frozen? ⟨w.heap.size + 1, j, none⟩ = false := fun j => by simp [World.frozen?, hb1]
          obtain ⟨f0, f1, f2, f3, f4⟩ : w7.frozen? ⟨w.heap.size + 1, 0, none⟩ = false ∧ w7.frozen? ⟨w.heap.size + 1, 1, none⟩ = false ∧ w7.frozen? ⟨w.heap.size + 1, 2, none⟩ = false ∧ w7.frozen? ⟨w.heap.size + 1, 3, none⟩ = false ∧ w7.frozen? ⟨w.heap.size + 1, 4, none⟩ = false := ⟨hf0 0, hf0 1, hf0 2, hf0 3, hf0 4⟩
          have HB1 := Lib.hid hb1
          have HRF := Lib.hid hrf2
          have HOW := Lib.hid hown2
          have HBW := Lib.hid (HT.out.bel.trans (hb2.mono (by omega)))
          clear hf0 hb1 hrf2 hown2 hb2 p2 p3 x0 x1 x2 x3 x4 g2
          go_wp2_with fail
          obtain ⟨q1, q2⟩ := set5 HB1.out (.int .i64 T.width) (.slice (some ⟨LA2, 0, none⟩) 4 nL2) (.int .i64 T.total) (.int .i64 T.limit) (.int .i64 T.aged)
          have o1 := HOW.out.1
          refine bodyPost_ret (results_c rfl _ _ (w.heap.size + 1) 38 (rfCells LA2 nL2 T) (0, 0) _ rfl q1 Tryd.underlying38 rfl (by kernel_rfl)) rfl ?_
          rw [HADD.out]
          exact ⟨LA2, nL2, R2, cp2, rfl, HRF.out.off q2 (by omega) (fun r hr => by have := HOW.out.2 r hr; omega), ⟨by omega, fun r hr => by have := HOW.out.2 r hr; omega⟩, (((((HBW.out.setCell (by show w.heap.size ≤ w.heap.size + 1; omega) _).setCell (by show w.heap.size ≤ w.heap.size + 1; omega) _).setCell (by show w.heap.size ≤ w.heap.size + 1; omega) _).setCell (by show w.heap.size ≤ w.heap.size + 1; omega) _).setCell (by show w.heap.size ≤ w.heap.size + 1; omega) _)⟩
        · have hadd : S.add key = S.bump (hashI key) := by rw [Sk.add, if_neg (by omega)]
          have HADD := Lib.hid hadd
          clear hadd
          go_wp2_with fail
          obtain ⟨h3, h4⟩ := HT.out.fin
          refine bodyPost_ret (results_c rfl _ _ (w.heap.size + 1) 38 (rfCells LA' nL' (S.bump (hashI key))) (0, 0) _ rfl (set5 HT.out.b1 _ _ _ _ _).1 Tryd.underlying38 rfl (by kernel_rfl)) rfl ?_
          rw [HADD.out]
          exact ⟨LA', nL', R', cp', rfl, h3, ⟨by have := HT.out.own.1; omega, fun r hr => by have := HT.out.own.2 r hr; omega⟩, h4⟩
      · have d1 : decide (0 < S.limit) = false := by simpa using e1
        have hadd : S.add key = S.bump (hashI key) := by rw [Sk.add, if_neg (by omega)]
        have HADD := Lib.hid hadd
        clear hadd
        go_wp2_with fail
        obtain ⟨h3, h4⟩ := HT.out.fin
        refine bodyPost_ret (results_c rfl _ _ (w.heap.size + 1) 38 (rfCells LA' nL' (S.bump (hashI key))) (0, 0) _ rfl (set5 HT.out.b1 _ _ _ _ _).1 Tryd.underlying38 rfl (by kernel_rfl)) rfl ?_
        rw [HADD.out]
        exact ⟨LA', nL', R', cp', rfl, h3, ⟨by have := HT.out.own.1; omega, fun r hr => by have := HT.out.own.2 r hr; omega⟩, h4⟩
end Go.Proofs.YtpjdaglblckgfaaDoor
namespace Go.Proofs.YtpjdaglblckgfaaDoor
set_option linter.unusedVariables false
open Go.RowKit Go.Proofs.YtpjdaglblckgfaaDoorW.PrintWords
attribute [local go_sem ↓] Go.wp_at_zero Go.wp_at_succ

/-- The first rows of a new sketch. -/
structure NewRel (w wr : World) (S : Sk) (i : Nat) (R cp : Nat → Nat) (lv : Value) : Prop where
  b1 : wr.heap[w.heap.size]? = some (.cells #[.int .i64 0, .slice none 0 0, .int .i64 0, .int .i64 0, .int .i64 0] 38 (0, 0))
  b2 : wr.heap[w.heap.size + 1]? = some (.cells #[.int .i64 S.width, lv, .int .i64 S.total, .int .i64 S.limit, .int .i64 S.aged] 38 (0, 0))
  row : kHd.R 48 wr (w.heap.size + 2) (fun _ => True) lv (hdL S.width R cp i)
  rows : ∀ r, r < i → w.heap.size + 2 ≤ R r ∧ S.width ≤ cp r ∧ ∃ f, wr.rowIs (R r) 3 (cp r) f ∧ ∀ k, k < S.width → f k = .int .i64 (S.row r k)
  inj : ∀ r s, r < i → s < i → r ≠ s → R r ≠ R s
  bel : Below w.heap.size w wr
  hs : w.heap.size + 2 ≤ wr.heap.size
theorem NewRel.later {w wr w1 : World} {i : Nat} {S : Sk} {R cp : Nat → Nat} {lv : Value} (h : NewRel w wr S i R cp lv) (hb : Below wr.heap.size wr w1) : NewRel w w1 S i R cp lv := by
  have blk : ∀ {k : Nat} {o : Obj}, wr.heap[k]? = some o → w1.heap[k]? = some o := fun {k o} hk => (hb.block k (Array.getElem?_eq_some_iff.1 hk).1).trans hk
  refine ⟨blk h.b1, blk h.b2, Kd.R_below h.row hb, fun r hr => ?_, h.inj, h.bel.trans (hb.mono h.bel.size), Nat.le_trans h.hs hb.size⟩
  obtain ⟨h1, h2, f, h3, h4⟩ := h.rows r hr
  exact ⟨h1, h2, f, h3.of_block (hb.block _ h3.lt), h4⟩
theorem NewRel.push {w wr w1 : World} {i g c : Nat} {S : Sk} {R cp : Nat → Nat} {lv v1 : Value} {f : Nat → Value} (h : NewRel w wr S i R cp lv) (hg : w.heap.size + 2 ≤ g) (hc : S.width ≤ c) (hf : wr.rowIs g 3 c f) (hfv : ∀ k, k < S.width → f k = .int .i64 (S.row i k)) (hne : ∀ r, r < i → R r ≠ g)
    (hr : kHd.R 48 w1 (w.heap.size + 2) (fun _ => True) v1 (hdL S.width R cp i ++ [(some ⟨g, 0, none⟩, S.width, c)])) (hb : Below (w.heap.size + 2) wr w1) (hgr : wr.grownBy w1 lv.ownBlock) :
    NewRel w (w1.setCell ⟨w.heap.size + 1, 1, none⟩ v1) S (i + 1) (fun r => if r = i then g else R r) (fun r => if r = i then c else cp r) v1 := by
  obtain ⟨inner, ho⟩ := Kd.R_own h.row
  have keep : ∀ {k : Nat} {cs : Array Value} {t : TypeId}, wr.heap[k]? = some (.cells cs t (0, 0)) → t ≠ 48 → w1.heap[k]? = some (.cells cs t (0, 0)) := fun {k cs t} hk ht => by
    refine (hgr.block k (Array.getElem?_eq_some_iff.1 hk).1 fun e => ?_).trans hk
    obtain ⟨cells, hcl⟩ := own_typed ho k e.symm
    rw [hk] at hcl
    simp at hcl
    exact ht hcl.2
  have keepr : ∀ {k n : Nat} {q : Nat → Value}, wr.rowIs k 3 n q → k ≠ w.heap.size + 1 → (w1.setCell ⟨w.heap.size + 1, 1, none⟩ v1).rowIs k 3 n q := fun {k n q} hk hne2 => by
    obtain ⟨cs, h1, h2⟩ := hk
    refine World.rowIs.of_block (w := wr) ⟨cs, h1, h2⟩ ?_
    rw [Below.heap_setCell _ _ _ _ hne2, keep h1 (by decide), h1]
  have b2 := keep h.b2 (by decide)
  have off : ∀ k, k ≠ w.heap.size + 1 → (w1.setCell ⟨w.heap.size + 1, 1, none⟩ v1).heap[k]? = w1.heap[k]? := fun k hk => Below.heap_setCell _ _ _ _ hk
  refine ⟨(off _ (by omega)).trans (keep h.b1 (by decide)), ?_, ?_, fun r hr' => ?_, fun r s hr' hs' hrs => ?_, ?_, ?_⟩
  · have := blk_set b2 1 v1
    simpa using this
  · rw [hdL_succ, hdL_congr S.width i (R := R) (cp := cp) (fun r hr => by rw [if_neg (by omega), if_neg (by omega)]; exact ⟨rfl, rfl⟩), if_pos rfl, if_pos rfl]
    exact Kd.R_set hr b2 (fun q hq => by
      have : q = 48 := by simpa [kHd, Kd.scalar] using hq
      rw [this]; decide) 1 _
  · by_cases e : r = i
    · subst e
      rw [if_pos rfl, if_pos rfl]
      exact ⟨hg, hc, f, keepr hf (by omega), hfv⟩
    · rw [if_neg e, if_neg e]
      obtain ⟨h1, h2, f', h3, h4⟩ := h.rows r (by omega)
      exact ⟨h1, h2, f', keepr h3 (by omega), h4⟩
  · by_cases e : r = i
    · subst e
      rw [if_pos rfl, if_neg (fun e => hrs e.symm)]
      exact fun e2 => hne s (by omega) e2.symm
    · rw [if_neg e]
      by_cases e2 : s = i
      · rw [if_pos e2]; exact hne r (by omega)
      · rw [if_neg e2]; exact h.inj r s (by omega) (by omega) hrs
  · exact (h.bel.trans (hb.mono (by omega))).setCell (by show w.heap.size ≤ w.heap.size + 1; omega) _
  · have := hgr.size
    have := h.hs
    simp [World.setCell]
    omega

theorem NewRel.slot {w wr w1 : World} {i : Nat} {S : Sk} {R cp : Nat → Nat} {lv : Value} (h : NewRel w wr S i R cp lv) (hgr : wr.grownBy w1 lv.ownBlock) : w1.cell? ⟨w.heap.size + 1, 1, none⟩ = some lv ∧ w1.frozen? ⟨w.heap.size + 1, 1, none⟩ = false := by
  obtain ⟨inner, ho⟩ := Kd.R_own h.row
  have b2 : w1.heap[w.heap.size + 1]? = some (.cells #[.int .i64 S.width, lv, .int .i64 S.total, .int .i64 S.limit, .int .i64 S.aged] 38 (0, 0)) := by
    refine (hgr.block _ (Array.getElem?_eq_some_iff.1 h.b2).1 fun e => ?_).trans h.b2
    obtain ⟨cells, hcl⟩ := own_typed ho _ e.symm
    rw [h.b2] at hcl
    simp at hcl
  exact ⟨cell_of_row w1 _ 1 _ _ (0, 0) b2, by simp [World.frozen?, b2]⟩
theorem results_ct {P : Program} {fn : Func} {p q : Tmp} {ty : TypeId} (h : fn.results = #[.cell p ty, .tmp q]) (tmps : Array Value) (w : World) (g : Nat) (t : TypeId) (cs : Array Value) (fr : Nat × Nat) (d : TypeDesc)
    (hp : tmps.getD p undef = .pointer (some ⟨g, 0, none⟩)) (hg : w.heap[g]? = some (.cells cs t fr))
    (hu : P.underlying ty = some d) (hd : (match d with | .struct _ | .array _ _ => true | _ => false) = true) (hi : (P.info? ty).map (·.size) = some cs.size) :
    (results fn tmps).run P w = .ok (.tuple #[.agg cs, tmps.getD q undef]) w := by
  have hp' : tmps[p]?.getD undef = .pointer (some ⟨g, 0, none⟩) := by simpa using hp
  simp [results, h, hp', asAddr, run_loadVar_row w g t ty cs fr d hg hu hd hi]
/-- append at a step of a region that draws its order. -/
theorem step_R_append {α : Type} {P : Program} {ops : Array Oper} {o : Oper} {a : Act} {K : Act → World → Prop} {Q : Exit → Act → World → Prop} {E : Prop} (d : Kd α) {w0 W : World} (base : Nat) (hgd : o.guard = none) (s x : Operand) (t e : TypeId) (z : Value) (bytes : Nat)
    (ho : o.op = .call { callee := .builtin .append, args := #[s, x], argTypes := #[t, t] })
    (ht : P.underlying t = some (.slice e)) (hinfo : (P.info? e).map (fun i => (i.zero, i.size, i.bytes)) = some (some z, d.sz, bytes)) (hz : z.cells.size = d.sz) (hs0 : 0 < d.sz) (hb0 : 0 < bytes)
    (v : Value) (xs : List α) (p : α) (cs : List Value) (ok okp : Nat → Prop) (hs : a.eval s = v) (hx : a.eval x = .slice (some ⟨W.heap.size, 0, none⟩) 1 1) (hp : d.M W base okp p cs) (hokp : ∀ k, okp k → ok k ∧ some k ≠ v.ownBlock) (hfresh : ∀ k, W.heap.size ≤ k → ok k)
    (HO : d.R e W base ok v xs) (HB : Below base w0 W) (hbase : base ≤ W.heap.size) (hl : (xs.length + 1) * bytes ≤ 140737488355328)
    (h : ∀ v1 w1, d.R e w1 base ok v1 (xs ++ [p]) → Below base w0 w1 → W.grownBy w1 v.ownBlock → (v1.ownBlock = v.ownBlock ∨ ∃ b, v1.ownBlock = some b ∧ W.heap.size ≤ b) → K (a.put o.dst v1) w1) :
    if Region.wanted o (yielded ops a.tmps) = true then Oper.wp P o a (W.alloc (.cells cs.toArray e)) K Q else E := by
  have hw : Region.wanted o (yielded ops a.tmps) = true := by simp [Region.wanted, hgd]
  rw [if_pos hw]
  obtain ⟨h0, inner, hown0, hr⟩ := HO
  obtain ⟨i0, hi, hzz⟩ := Option.map_eq_some_iff.1 hinfo
  simp only [Prod.mk.injEq] at hzz
  obtain ⟨hz0, hz1, hz2⟩ := hzz
  have hlen : xs.length + 1 ≤ 140737488355328 := Nat.le_trans (Nat.le_mul_of_pos_right _ hb0) hl
  have hys := d.K_len (d.K_of_M hp)
  obtain ⟨v1, w1, hrun, hown, hg, _, hat⟩ := run_append_own_at (P := P) (W.alloc (.cells cs.toArray e)) base t o.type e i0 z d.sz bytes ht hi hz0 hz1 hz2 hz hs0 v xs.length inner (hown0.alloc _) ⟨W.heap.size, 0, none⟩ 1 1 cs (by rw [hys]; simp)
    (by simpa using World.news_of_block (cs := cs.toArray) (t := e) (fr := (0, 0)) (heap_alloc_new W (.cells cs.toArray e))) (d.K_one (d.K_of_M hp)) (by simp only [maxLen]; omega) hl (by simp; omega)
  unfold Oper.wp execOp
  simp only [ho, resolve, invoke, builtin, Sem.run_bind, Sem.run_pure, Result.andThen_ok, List.map_toArray, List.map_cons, List.map_nil, hs, hx, hrun]
  have hg1 := World.grownBy.trans (World.grownBy_alloc W (.cells cs.toArray e) v.ownBlock) hg
  have hat1 : v1.ownBlock = v.ownBlock ∨ ∃ b, v1.ownBlock = some b ∧ W.heap.size ≤ b := by
    rcases hat with hat | hat
    · exact .inl hat
    · exact .inr ⟨_, hat, by simp⟩
  exact h v1 w1 (Kd.R_appended h0 hr hp hokp hfresh hown hg1 hat1) ((HB.alloc hbase _).grown hg (by simp; omega) (own_base hown0)) hg1 hat1

end Go.Proofs.YtpjdaglblckgfaaDoor
namespace Go.Proofs.YtpjdaglblckgfaaDoor
set_option linter.unusedVariables false
open Go.RowKit Go.Proofs.YtpjdaglblckgfaaDoorW.PrintWords
attribute [local go_sem ↓] Go.wp_at_zero Go.wp_at_succ

set_option maxHeartbeats 4000000 in
theorem refNew_bad (t l : Int) (w : World) (h : t < 1 ∨ 4096 < t ∨ l < 0 ∨ 1099511627776 < l) :
    Calls Tryd.prog 17 #[.int .i64 t, .int .i64 l] w fun e w' => e = .returned (.tuple #[.agg #[.int .i64 0, .slice none 0 0, .int .i64 0, .int .i64 0, .int .i64 0], .int .i64 2]) ∧ Below w.heap.size w w' := by
  have hb1 : w.heap.size + 1 = w.heap.size + 1 := rfl
  have hc : (decide (t < 1) = true) ∨ (decide (t < 1) = false ∧ decide (4096 < t) = true) ∨ (decide (t < 1) = false ∧ decide (4096 < t) = false ∧ decide (l < 0) = true) ∨ (decide (t < 1) = false ∧ decide (4096 < t) = false ∧ decide (l < 0) = false ∧ decide (1099511627776 < l) = true) := by
    simp only [decide_eq_true_eq, decide_eq_false_iff_not]; omega
  clear h
  go_enter Tryd.func17, Tryd.ntmps17
  rcases hc with d1 | ⟨d1, d2⟩ | ⟨d1, d2, d3⟩ | ⟨d1, d2, d3, d4⟩
  all_goals
    go_wp2_with fail
    try go_quiet (fail)
    go_wp2_with fail
    have hb0 := heap_alloc_new w (.cells #[.int .i64 0, .slice none 0 0, .int .i64 0, .int .i64 0, .int .i64 0] 38)
    have hbw : Below w.heap.size w (w.alloc (.cells #[.int .i64 0, .slice none 0 0, .int .i64 0, .int .i64 0, .int .i64 0] 38)) := bel_alloc _ _
    refine bodyPost_ret (results_ct rfl _ _ w.heap.size 38 _ (0, 0) _ rfl hb0 Tryd.underlying38 rfl (by kernel_rfl)) rfl ?_
    exact ⟨rfl, hbw⟩
end Go.Proofs.YtpjdaglblckgfaaDoor
namespace Go.Proofs.YtpjdaglblckgfaaDoor
set_option linter.unusedVariables false
open Go.RowKit Go.Proofs.YtpjdaglblckgfaaDoorW.PrintWords
attribute [local go_sem ↓] Go.wp_at_zero Go.wp_at_succ

/-- A new sketch of the document's, made by the call. -/
def RfPostN (w : World) (S : Sk) (e : Ending) (w' : World) : Prop := ∃ LA nL R cp, e = .returned (.tuple #[.agg (rfCells LA nL S), .int .i64 0]) ∧ IsRf w' LA nL R cp S ∧ RfOwn w.heap.size LA R ∧ Below w.heap.size w w'
theorem NewRel.fin {w wr : World} {S : Sk} {R cp : Nat → Nat} {lv : Value} (h : NewRel w wr S 4 R cp lv) (w1 : 1 ≤ S.width) (w2 : S.width ≤ 4096) (hbd : ∀ r k, r < 4 → k < S.width → 0 ≤ S.row r k ∧ S.row r k ≤ 255) :
    ∃ LA' nL', lv = .slice (some ⟨LA', 0, none⟩) 4 nL' ∧ IsRf wr LA' nL' R cp S ∧ w.heap.size + 2 ≤ LA' := by
  have ho := Kd.own_of_R h.row
  rw [hdL_len] at ho
  obtain ⟨g, cap, f, hv, hb, hc, hf, hx⟩ := own_row ho (by omega)
  refine ⟨g, cap, hv, ⟨w1, w2, ⟨f, hf, fun r hr => ?_⟩, fun r hr => (h.rows r hr).2.2, hc, fun r hr => (h.rows r hr).2.1, fun r s hr hs => h.inj r s hr hs, hbd⟩, hb⟩
  have := hx r hr
  simp [encs, hdL, hr] at this
  exact this.symm
set_option maxHeartbeats 4000000 in
theorem refNew_ok (n : Nat) (limit : Int) (w : World) (h1 : 1 ≤ n) (h2 : n ≤ 4096) (l0 : 0 ≤ limit) (l1 : limit ≤ 1099511627776) :
    Calls Tryd.prog 17 #[.int .i64 n, .int .i64 limit] w (RfPostN w (Sk.new n limit)) := by
  have hmk := run_make_row' (P := Tryd.prog) 48 3 (.int .i64 0) 8 Tryd.underlying48 info_int rfl .i64 .i64 n (by omega) (by omega)
  have d1 : decide ((n : Int) < 1) = false := decide_eq_false (by omega)
  have d2 : decide (4096 < (n : Int)) = false := decide_eq_false (by omega)
  have d3 : decide (limit < 0) = false := decide_eq_false (by omega)
  have d4 : decide (1099511627776 < limit) = false := decide_eq_false (by omega)
  go_enter Tryd.func17, Tryd.ntmps17
  go_wp2_with fail
  try go_quiet (fail)
  go_wp2_with fail
  have H0 : Hid (NewRel w ((w.alloc (.cells #[.int .i64 0, .slice none 0 0, .int .i64 0, .int .i64 0, .int .i64 0] 38)).alloc (.cells #[.int .i64 n, .slice none 0 0, .int .i64 0, .int .i64 limit, .int .i64 0] 38)) (Sk.new n limit) 0 (fun _ => 0) (fun _ => 0) (.slice none 0 0)) := by
    refine ⟨?_, ?_, Kd.R_nil _ _ _ _ _, fun r hr => absurd hr (Nat.not_lt_zero _), fun r s hr => absurd hr (Nat.not_lt_zero _), ?_, by simp⟩
    · exact (Below.heap_alloc _ _ _ (by simp)).trans (heap_alloc_new _ _)
    · have := heap_alloc_new (w.alloc (.cells #[.int .i64 0, .slice none 0 0, .int .i64 0, .int .i64 0, .int .i64 0] 38)) (.cells #[.int .i64 n, .slice none 0 0, .int .i64 0, .int .i64 limit, .int .i64 0] 38)
      simpa [Sk.new] using this
    · exact ((Below.refl _ _).alloc (Nat.le_refl _) _).alloc (by simp) _
  generalize (w.alloc (.cells #[.int .i64 0, .slice none 0 0, .int .i64 0, .int .i64 0, .int .i64 0] 38)).alloc (.cells #[.int .i64 n, .slice none 0 0, .int .i64 0, .int .i64 limit, .int .i64 0] 38) = wb at *
  go_loopw [7] (fun i wr => ∃ k : Nat, k ≤ 4 ∧ i = .int .i64 k ∧ Hid (∃ R' cp' lv, NewRel w wr (Sk.new n limit) k R' cp' lv)) (fun i _ => 4 - (intOf i).toNat)
  case atStart => exact ⟨0, Nat.zero_le _, rfl, _, _, _, H0.out⟩
  case round =>
    obtain ⟨k, hk4, rfl, HD⟩ := hrel
    obtain ⟨R', cp', lv, HD⟩ : ∃ R' cp' lv, Hid (NewRel w wr (Sk.new n limit) k R' cp' lv) := by
      obtain ⟨a, b, c, h⟩ := HD.out
      exact ⟨a, b, c, h⟩
    obtain ⟨lA, lc, hlv⟩ := Kd.R_slice HD.out.row
    rw [hdL_len] at hlv
    subst hlv
    have x1 : wr.cell? ⟨w.heap.size + 1, 1, none⟩ = some (.slice lA k lc) := cell_of_row wr _ 1 _ _ (0, 0) HD.out.b2
    have hlt2 : w.heap.size + 1 < wr.heap.size := HD.out.hs
    have hlt0 : w.heap.size < wr.heap.size := by omega
    have hlt3 : w.heap.size + 1 < wr.heap.size + 1 := by omega
    by_cases hlt : k < 4
    · go_wp2_with fail
      have hbel : Below wr.heap.size wr (wr.alloc (.cells (madeCells #[.int .i64 0] n) 3)).drew := ((Below.refl _ _).alloc (Nat.le_refl _) _).drew
      have D5 := Lib.hid (HD.out.later hbel)
      have G5 : Hid ((wr.alloc (.cells (madeCells #[.int .i64 0] n) 3)).drew.rowIs wr.heap.size 3 n (fun _ => .int .i64 0)) := (World.rowIs_made wr (.int .i64 0) n 3).drew
      clear hbel
      go_region_law (first
        | (refine step_R_append kHd (w0 := (wr.alloc (.cells (madeCells #[.int .i64 0] n) 3)).drew) (W := (wr.alloc (.cells (madeCells #[.int .i64 0] n) 3)).drew) (w.heap.size + 2) rfl (.tmp 31) (.tmp 34) 36 48 (.slice none 0 0) 24 rfl Tryd.underlying36 info_hd rfl (by decide) (by omega) (.slice lA k lc) (hdL n R' cp' k) (some ⟨wr.heap.size, 0, none⟩, n, n) [.slice (some ⟨wr.heap.size, 0, none⟩) n n] (fun _ => True) (fun _ => False) rfl (by show Value.slice _ 1 1 = _; simp) rfl (fun _ hk => hk.elim) (fun _ _ => trivial) D5.out.row (Below.refl _ _) D5.out.hs (by rw [hdL_len]; omega) ?_; intro v6 w6 ho6 hb6 hg6 hat6; obtain ⟨A6, c6, hv6⟩ := Kd.R_slice ho6; rw [List.length_append, hdL_len, List.length_singleton] at hv6; subst hv6; obtain ⟨z1, z2⟩ := D5.out.slot hg6; have D6 := Lib.hid (D5.out.push HD.out.hs (Nat.le_refl n) G5.out (fun j hj => rfl) (fun r hr e => by obtain ⟨_, _, f, h1, _⟩ := HD.out.rows r hr; have := h1.lt; omega) ho6 hb6 hg6); clear ho6 hb6 hg6 hat6)
        | go_simp)
      all_goals
        go_wp2_with fail
        go_roundw
        case rel => exact ⟨k + 1, by omega, by go_num, _, _, _, D6.out⟩
        case measure => simp [intOf]; omega
    · obtain rfl : k = 4 := by omega
      obtain ⟨LA2, nL2, hlv, F, hbase⟩ := HD.out.fin h1 h2 (fun r k _ _ => by simp [Sk.new])
      injection hlv with e1 e2 e3
      subst e1 e3
      have FF := Lib.hid F
      have hp1 : wr.cell? ⟨w.heap.size + 1, 0, none⟩ = some (.int .i64 n) := cell_of_row wr _ 0 _ _ (0, 0) HD.out.b2
      have hp2 : wr.cell? ⟨w.heap.size + 1, 1, none⟩ = some (.slice (some ⟨LA2, 0, none⟩) 4 lc) := cell_of_row wr _ 1 _ _ (0, 0) HD.out.b2
      have hp3 : wr.cell? ⟨w.heap.size + 1, 2, none⟩ = some (.int .i64 0) := cell_of_row wr _ 2 _ _ (0, 0) HD.out.b2
      have hp4 : wr.cell? ⟨w.heap.size + 1, 3, none⟩ = some (.int .i64 limit) := cell_of_row wr _ 3 _ _ (0, 0) HD.out.b2
      have hp5 : wr.cell? ⟨w.heap.size + 1, 4, none⟩ = some (.int .i64 0) := cell_of_row wr _ 4 _ _ (0, 0) HD.out.b2
      have hq1 : wr.cell? ⟨w.heap.size, 0, none⟩ = some (.int .i64 0) := cell_of_row wr _ 0 _ _ (0, 0) HD.out.b1
      have hq2 : wr.cell? ⟨w.heap.size, 1, none⟩ = some (.slice none 0 0) := cell_of_row wr _ 1 _ _ (0, 0) HD.out.b1
      have hq3 : wr.cell? ⟨w.heap.size, 2, none⟩ = some (.int .i64 0) := cell_of_row wr _ 2 _ _ (0, 0) HD.out.b1
      have hq4 : wr.cell? ⟨w.heap.size, 3, none⟩ = some (.int .i64 0) := cell_of_row wr _ 3 _ _ (0, 0) HD.out.b1
      have hq5 : wr.cell? ⟨w.heap.size, 4, none⟩ = some (.int .i64 0) := cell_of_row wr _ 4 _ _ (0, 0) HD.out.b1
      have hf0 : ∀ j, wr.frozen? ⟨w.heap.size, j, none⟩ = false := fun j => by simp [World.frozen?, HD.out.b1]
      obtain ⟨f0, f1, f2, f3, f4⟩ : wr.frozen? ⟨w.heap.size, 0, none⟩ = false ∧ wr.frozen? ⟨w.heap.size, 1, none⟩ = false ∧ wr.frozen? ⟨w.heap.size, 2, none⟩ = false ∧ wr.frozen? ⟨w.heap.size, 3, none⟩ = false ∧ wr.frozen? ⟨w.heap.size, 4, none⟩ = false := ⟨hf0 0, hf0 1, hf0 2, hf0 3, hf0 4⟩
      clear F hf0
      go_wp2_with fail
      obtain ⟨q1, q2⟩ := set5 HD.out.b1 (.int .i64 n) (.slice (some ⟨LA2, 0, none⟩) 4 lc) (.int .i64 0) (.int .i64 limit) (.int .i64 0)
      refine bodyPost_ret (results_ct rfl _ _ w.heap.size 38 (rfCells LA2 lc (Sk.new n limit)) (0, 0) _ rfl q1 Tryd.underlying38 rfl (by kernel_rfl)) rfl ?_
      refine ⟨LA2, lc, R', cp', rfl, FF.out.off q2 (by omega) (fun r hr => by have := (HD.out.rows r hr).1; omega), ⟨by omega, fun r hr => by have := (HD.out.rows r hr).1; omega⟩, ?_⟩
      exact ((((HD.out.bel.setCell (Nat.le_refl _) _).setCell (Nat.le_refl _) _).setCell (Nat.le_refl _) _).setCell (Nat.le_refl _) _).setCell (Nat.le_refl _) _
end Go.Proofs.YtpjdaglblckgfaaDoor
namespace Go.Proofs.YtpjdaglblckgfaaDoor
set_option linter.unusedVariables false
open Go.RowKit Go.Proofs.YtpjdaglblckgfaaDoorW.PrintWords

def capI (x : Int) : Int := if 255 < x then 255 else x
/-- Two sketches joined, row r as far as c. -/
def Sk.joinTo (A B : Sk) (r c : Nat) : Sk := { A with limit := 0, row := fun r' k' => if r' < r ∨ r' = r ∧ k' < c then capI (A.row r' k' + B.row r' k') else A.row r' k' }
def Sk.join (A B : Sk) : Sk := { width := A.width, row := fun r k => capI (A.row r k + B.row r k), total := A.total + B.total, limit := 0, aged := A.aged + B.aged }
theorem WorkRel.setLim {w wr : World} {a : Array Value} {q LA nL : Nat} {R cp : Nat → Nat} {T : Sk} (h : WorkRel w wr a q LA nL R cp T) (n : Int) : WorkRel w (wr.setCell ⟨q, 3, none⟩ (.int .i64 n)) a q LA nL R cp { T with limit := n } := by
  have off : ∀ b, b ≠ q → (wr.setCell ⟨q, 3, none⟩ (.int .i64 n)).heap[b]? = wr.heap[b]? := fun b hb => Below.heap_setCell _ _ _ _ hb
  have hq := h.hq
  exact ⟨(off _ (by omega)).trans h.b0, (off _ (by omega)).trans h.b1, by simpa [rfCells] using blk_set h.b2 3 (.int .i64 n), (h.rf.off off (h.ne_row h.b2 (r := 0) (by omega)).2.symm (fun r hr => (h.ne_row h.b2 hr).1.symm)).congr rfl (fun _ _ _ _ => rfl), h.own, h.hq, h.bel.setCell (by show w.heap.size ≤ q; omega) _⟩

set_option maxHeartbeats 4000000 in
set_option maxRecDepth 100000 in
theorem refJoin_ok (LA nL : Nat) (R cp : Nat → Nat) (A : Sk) (LB nB : Nat) (RB cB : Nat → Nat) (B : Sk) (w : World) (hA : IsRf w LA nL R cp A) (hB : IsRf w LB nB RB cB B) (hw : B.width = A.width)
    (ta0 : 0 ≤ A.total) (ta1 : A.total ≤ 2305843009213693952) (tb0 : 0 ≤ B.total) (tb1 : B.total ≤ 2305843009213693952) (aa0 : 0 ≤ A.aged) (aa1 : A.aged ≤ 2305843009213693952) (ab0 : 0 ≤ B.aged) (ab1 : B.aged ≤ 2305843009213693952) :
    Calls Tryd.prog 28 #[.agg (rfCells LA nL A), .agg (rfCells LB nB B)] w (RfPostN w (A.join B)) := by
  have hw1 := hA.w1
  have hw2 := hA.w2
  have n4 := hA.n4
  have m4 := hB.n4
  have HA := Lib.hid hA
  have HB := Lib.hid hB
  clear hA hB
  have hcop : ∀ W, Below w.heap.size w W → _ := fun W hW => copied_any LA nL R cp A W (HA.out.later hW)
  have HCOP := Lib.hid hcop
  clear hcop
  have hrf : rfCells LA nL A = #[.int .i64 A.width, .slice (some ⟨LA, 0, none⟩) 4 nL, .int .i64 A.total, .int .i64 A.limit, .int .i64 A.aged] := rfl
  have hrb : rfCells LB nB B = #[.int .i64 A.width, .slice (some ⟨LB, 0, none⟩) 4 nB, .int .i64 B.total, .int .i64 B.limit, .int .i64 B.aged] := by rw [rfCells, hw]
  rw [hrf] at HCOP ⊢
  rw [hrb]
  clear hrf hrb
  have HW := Lib.hid hw
  clear hw
  obtain ⟨w1, hw1e⟩ : ∃ w1, w1 = w.alloc (.cells #[.int .i64 A.width, .slice (some ⟨LA, 0, none⟩) 4 nL, .int .i64 A.total, .int .i64 A.limit, .int .i64 A.aged] 38) := ⟨_, rfl⟩
  have W1 := Lib.hid hw1e
  clear hw1e
  go_enter Tryd.func28, Tryd.ntmps28
  go_wp2_with fail
  refine (HCOP.out _ ((((Below.refl _ _).alloc (Nat.le_refl _) _).alloc (by simp) _).alloc (by simp; omega) _)).mono ?_
  rintro e w3 ⟨LA', nL', R', cp', rfl, hrf', hown', hb'⟩
  have hrf2 : rfCells LA' nL' A = #[.int .i64 A.width, .slice (some ⟨LA', 0, none⟩) 4 nL', .int .i64 A.total, .int .i64 A.limit, .int .i64 A.aged] := rfl
  rw [hrf2]
  clear hrf2
  rw [← W1.out] at hown' hb'
  have s1 : w1.heap.size = w.heap.size + 1 := by rw [W1.out]; simp
  have bw1 : Below w.heap.size w w1 := by rw [W1.out]; exact bel_alloc _ _
  have k0 : w1.heap[w.heap.size]? = some (.cells #[.int .i64 A.width, .slice (some ⟨LA, 0, none⟩) 4 nL, .int .i64 A.total, .int .i64 A.limit, .int .i64 A.aged] 38 (0, 0)) := by rw [W1.out]; exact heap_alloc_new _ _
  have H0 : Hid (WorkRel w1 (w3.alloc (.cells #[.int .i64 A.width, .slice (some ⟨LA', 0, none⟩) 4 nL', .int .i64 A.total, .int .i64 A.limit, .int .i64 A.aged] 38)) #[.int .i64 A.width, .slice (some ⟨LB, 0, none⟩) 4 nB, .int .i64 B.total, .int .i64 B.limit, .int .i64 B.aged] w3.heap.size LA' nL' R' cp' A) := by
    have hs := hb'.size
    simp at hs
    refine ⟨?_, ?_, heap_alloc_new _ _, hrf'.later (bel_alloc _ _), ⟨by simpa using hown'.1, fun r hr => by simpa using hown'.2 r hr⟩, by omega, ?_⟩
    · exact (Below.heap_alloc _ _ _ (by omega)).trans ((hb'.block _ (by simp; omega)).trans ((Below.heap_alloc _ _ _ (by simp)).trans (heap_alloc_new _ _)))
    · refine (Below.heap_alloc _ _ _ (by omega)).trans ((hb'.block _ (by simp)).trans ?_)
      have := heap_alloc_new (w1.alloc (.cells #[.int .i64 A.width, .slice (some ⟨LB, 0, none⟩) 4 nB, .int .i64 B.total, .int .i64 B.limit, .int .i64 B.aged] 38)) (.cells #[.int .i64 0, .slice none 0 0, .int .i64 0, .int .i64 0, .int .i64 0] 38)
      simpa using this
    · have h2 : Below w1.heap.size w1 ((w1.alloc (.cells #[.int .i64 A.width, .slice (some ⟨LB, 0, none⟩) 4 nB, .int .i64 B.total, .int .i64 B.limit, .int .i64 B.aged] 38)).alloc (.cells #[.int .i64 0, .slice none 0 0, .int .i64 0, .int .i64 0, .int .i64 0] 38)) := ((Below.refl _ _).alloc (Nat.le_refl _) _).alloc (by simp) _
      have h3 := h2.trans (hb'.mono h2.size)
      exact h3.trans ((bel_alloc w3 _).mono h3.size)
  have S1 := Lib.hid s1
  have BW1 := Lib.hid bw1
  have K0 := Lib.hid k0
  clear hrf' hown' hb' HCOP s1 bw1 k0
  generalize hW4 : w3.alloc (.cells #[.int .i64 A.width, .slice (some ⟨LA', 0, none⟩) 4 nL', .int .i64 A.total, .int .i64 A.limit, .int .i64 A.aged] 38) = w4 at *
  have x3 : w4.cell? ⟨w3.heap.size, 3, none⟩ = some (.int .i64 A.limit) := H0.out.cell 3
  have g3 : w4.frozen? ⟨w3.heap.size, 3, none⟩ = false := H0.out.fro 3
  have H1 := Lib.hid ((H0.out.setLim 0).congr (T' := A.joinTo B 0 0) rfl rfl rfl rfl (fun r k h1 h2 => by simp [Sk.joinTo]))
  clear H0 W1
  go_wp2_with fail
  clear hW4 x3 g3
  generalize w3.heap.size = q at *
  generalize w4.setCell ⟨q, 3, none⟩ (.int .i64 0) = w5 at *
  have HBX : Hid (∀ wr r c, WorkRel w1 wr #[.int .i64 A.width, .slice (some ⟨LB, 0, none⟩) 4 nB, .int .i64 B.total, .int .i64 B.limit, .int .i64 B.aged] q LA' nL' R' cp' (A.joinTo B r c) → Below w.heap.size w wr ∧ wr.heap[w.heap.size]? = some (.cells #[.int .i64 A.width, .slice (some ⟨LA, 0, none⟩) 4 nL, .int .i64 A.total, .int .i64 A.limit, .int .i64 A.aged] 38 (0, 0)) ∧ wr.heap[w.heap.size + 1]? = some (.cells #[.int .i64 A.width, .slice (some ⟨LB, 0, none⟩) 4 nB, .int .i64 B.total, .int .i64 B.limit, .int .i64 B.aged] 38 (0, 0))) := fun wr r c h =>
    ⟨BW1.out.trans (h.bel.mono (by have := S1.out; omega)), (h.bel.block _ (by have := S1.out; omega)).trans K0.out, by have := h.b0; rw [S1.out] at this; exact this⟩
  go_loopw [7] (fun i wr => ∃ r : Nat, r ≤ 4 ∧ i = .int .i64 r ∧ Hid (WorkRel w1 wr #[.int .i64 A.width, .slice (some ⟨LB, 0, none⟩) 4 nB, .int .i64 B.total, .int .i64 B.limit, .int .i64 B.aged] q LA' nL' R' cp' (A.joinTo B r 0))) (fun i _ => 4 - (intOf i).toNat)
  case atStart => exact ⟨0, Nat.zero_le _, rfl, H1.out⟩
  case round =>
    obtain ⟨r, hr, rfl, HD⟩ := hrel
    obtain ⟨wo, rfl⟩ : ∃ wo : World, wo = wr := ⟨_, rfl⟩
    have n4' := HD.out.rf.n4
    by_cases hlt : r < 4
    · have i3 : (0 : Int) ≤ (r : Int) := by omega
      have i4 : (r : Int) < 4 := by omega
      have i5 : (4 : Int) ≤ (nL' : Int) := by omega
      have i6 : (4 : Int) ≤ (nL : Int) := by omega
      have i7 : (4 : Int) ≤ (nB : Int) := by omega
      go_wp2_with fail
      go_loopw [8] (fun i wr => ∃ k : Nat, k ≤ A.width ∧ i = .int .i64 k ∧ Hid (WorkRel w1 wr #[.int .i64 A.width, .slice (some ⟨LB, 0, none⟩) 4 nB, .int .i64 B.total, .int .i64 B.limit, .int .i64 B.aged] q LA' nL' R' cp' (A.joinTo B r k))) (fun i _ => A.width - (intOf i).toNat)
      case atStart => exact ⟨0, Nat.zero_le _, rfl, HD.out⟩
      case round =>
        obtain ⟨k, hk, rfl, HE⟩ := hrel
        obtain ⟨hbw, ha0, hb0⟩ := HBX.out wr r k HE.out
        have ya0 : wr.cell? ⟨w.heap.size, 0, none⟩ = some (.int .i64 A.width) := cell_of_row wr _ 0 _ _ (0, 0) ha0
        have ya1 : wr.cell? ⟨w.heap.size, 1, none⟩ = some (.slice (some ⟨LA, 0, none⟩) 4 nL) := cell_of_row wr _ 1 _ _ (0, 0) ha0
        have yb1 : wr.cell? ⟨w.heap.size + 1, 1, none⟩ = some (.slice (some ⟨LB, 0, none⟩) 4 nB) := cell_of_row wr _ 1 _ _ (0, 0) hb0
        have y1 : wr.cell? ⟨q, 1, none⟩ = some (.slice (some ⟨LA', 0, none⟩) 4 nL') := HE.out.cell 1
        have y2 : wr.cell? ⟨LA', r, none⟩ = some (.slice (some ⟨R' r, 0, none⟩) A.width (cp' r)) := HE.out.rf.cellh hlt
        have za1 : wr.cell? ⟨LA, r, none⟩ = some (.slice (some ⟨R r, 0, none⟩) A.width (cp r)) := (HA.out.later hbw).cellh hlt
        have zb1 : wr.cell? ⟨LB, r, none⟩ = some (.slice (some ⟨RB r, 0, none⟩) A.width (cB r)) := by rw [← HW.out]; exact (HB.out.later hbw).cellh hlt
        have hcw : A.width ≤ cp' r := HE.out.rf.cw r hlt
        have hca : A.width ≤ cp r := HA.out.cw r hlt
        have hcb : A.width ≤ cB r := by rw [← HW.out]; exact HB.out.cw r hlt
        clear ha0 hb0
        by_cases hkl : k < A.width
        · have hkb : k < B.width := by rw [HW.out]; exact hkl
          have c3 : wr.cell? ⟨R' r, k, none⟩ = some (.int .i64 (A.row r k)) := by
            rw [HE.out.rf.cellr hlt hkl]; simp [Sk.joinTo]
          have f3 : wr.frozen? ⟨R' r, k, none⟩ = false := HE.out.rf.fror hlt k
          have ca : wr.cell? ⟨R r, k, none⟩ = some (.int .i64 (A.row r k)) := (HA.out.later hbw).cellr hlt hkl
          have cb : wr.cell? ⟨RB r, k, none⟩ = some (.int .i64 (B.row r k)) := (HB.out.later hbw).cellr hlt hkb
          obtain ⟨b0, b1⟩ : 0 ≤ A.row r k ∧ A.row r k ≤ 255 := HA.out.bd r k hlt hkl
          obtain ⟨b2, b3⟩ : 0 ≤ B.row r k ∧ B.row r k ≤ 255 := HB.out.bd r k hlt hkb
          have i0 : (0 : Int) ≤ (k : Int) := by omega
          have i1 : (k : Int) < (A.width : Int) := by omega
          have i2 : (A.width : Int) ≤ (cp' r : Int) := by omega
          have i2a : (A.width : Int) ≤ (cp r : Int) := by omega
          have i2b : (A.width : Int) ≤ (cB r : Int) := by omega
          have hwr : IntKind.i64.wrap (A.row r k + B.row r k) = A.row r k + B.row r k := IntWalk.i64_in _ (by omega)
          have hst : Hid (∀ W v, v = capI (A.row r k + B.row r k) → Below wr.heap.size wr W → WorkRel w1 (W.setCell ⟨R' r, k, none⟩ (.int .i64 v)) #[.int .i64 A.width, .slice (some ⟨LB, 0, none⟩) 4 nB, .int .i64 B.total, .int .i64 B.limit, .int .i64 B.aged] q LA' nL' R' cp' (A.joinTo B r (k + 1))) := fun W v hv hW => by
            subst hv
            refine ((HE.out.later hW).setRow (r := r) (k := k) hlt (v := capI (A.row r k + B.row r k)) (by unfold capI; split <;> omega)).congr rfl rfl rfl rfl fun r' k' h1 h2 => ?_
            simp only [Sk.joinTo]
            by_cases e : r' = r ∧ k' = k
            · obtain ⟨rfl, rfl⟩ := e
              simp
            · rw [if_neg e]
              by_cases e2 : r' < r ∨ r' = r ∧ k' < k
              · rw [if_pos e2, if_pos (by omega)]
              · rw [if_neg e2, if_neg (by omega)]
          clear hbw
          by_cases h255 : 255 < A.row r k + B.row r k
          all_goals
            go_wp2_with fail
            try go_quiet (fail)
            go_wp2_with fail
            try go_still_tail 8, (by kernel_rfl)
            go_wp2_with fail
            go_roundw
            case rel =>
              refine ⟨k + 1, by omega, by go_num, ?_⟩
              first
                | exact hst.out _ _ (by unfold capI; split <;> omega) (Below.refl _ _)
                | exact hst.out _ _ (by unfold capI; split <;> omega) (Drawn0.below ⟨_, rfl⟩)
                | exact hst.out _ _ (by unfold capI; split <;> omega) (Drawn0.below ⟨1, rfl⟩)
            case measure => simp [intOf]; omega
        · obtain rfl : k = A.width := by omega
          go_wp2_with fail
          go_roundw
          case rel =>
            refine ⟨r + 1, by omega, by go_num, ?_⟩
            refine HE.out.congr rfl rfl rfl rfl fun r' k' h1 h2 => ?_
            simp only [Sk.joinTo]
            have h2' : k' < A.width := h2
            by_cases e2 : r' < r ∨ r' = r ∧ k' < A.width
            · rw [if_pos e2, if_pos (by omega)]
            · rw [if_neg e2, if_neg (by omega)]
          case measure => simp [intOf]; omega
    · obtain rfl : r = 4 := by omega
      have hq0 := HD.out.hq
      have s1 := S1.out
      have hq2 : w.heap.size + 3 ≤ q := by omega
      clear s1 hq0
      have hne1 : q ≠ w.heap.size := by omega
      have hne2 : q ≠ w.heap.size + 1 := by omega
      have hne3 : w.heap.size ≠ q := by omega
      have hne4 : w.heap.size + 1 ≠ q := by omega
      have hne5 : q ≠ w.heap.size + 1 + 1 := by omega
      have hne6 : w.heap.size + 1 + 1 ≠ q := by omega
      obtain ⟨hbw, ha0, hb0⟩ := HBX.out wo 4 0 HD.out
      have p2 : wo.cell? ⟨w.heap.size, 2, none⟩ = some (.int .i64 A.total) := cell_of_row wo _ 2 _ _ (0, 0) ha0
      have p4 : wo.cell? ⟨w.heap.size, 4, none⟩ = some (.int .i64 A.aged) := cell_of_row wo _ 4 _ _ (0, 0) ha0
      have r2 : wo.cell? ⟨w.heap.size + 1, 2, none⟩ = some (.int .i64 B.total) := cell_of_row wo _ 2 _ _ (0, 0) hb0
      have r4 : wo.cell? ⟨w.heap.size + 1, 4, none⟩ = some (.int .i64 B.aged) := cell_of_row wo _ 4 _ _ (0, 0) hb0
      have x0 : wo.cell? ⟨q, 0, none⟩ = some (.int .i64 A.width) := HD.out.cell 0
      have x1 : wo.cell? ⟨q, 1, none⟩ = some (.slice (some ⟨LA', 0, none⟩) 4 nL') := HD.out.cell 1
      have x2 : wo.cell? ⟨q, 2, none⟩ = some (.int .i64 A.total) := HD.out.cell 2
      have x3 : wo.cell? ⟨q, 3, none⟩ = some (.int .i64 0) := HD.out.cell 3
      have x4 : wo.cell? ⟨q, 4, none⟩ = some (.int .i64 A.aged) := HD.out.cell 4
      have g2 := HD.out.fro 2
      have g4 := HD.out.fro 4
      have hb1 : wo.heap[w.heap.size + 1 + 1]? = some (.cells #[.int .i64 0, .slice none 0 0, .int .i64 0, .int .i64 0, .int .i64 0] 38 (0, 0)) := by have := HD.out.b1; rw [S1.out] at this; exact this
      have hz1 : wo.cell? ⟨w.heap.size + 1 + 1, 0, none⟩ = some (.int .i64 0) := cell_of_row wo _ 0 _ _ (0, 0) hb1
      have hz2 : wo.cell? ⟨w.heap.size + 1 + 1, 1, none⟩ = some (.slice none 0 0) := cell_of_row wo _ 1 _ _ (0, 0) hb1
      have hz3 : wo.cell? ⟨w.heap.size + 1 + 1, 2, none⟩ = some (.int .i64 0) := cell_of_row wo _ 2 _ _ (0, 0) hb1
      have hz4 : wo.cell? ⟨w.heap.size + 1 + 1, 3, none⟩ = some (.int .i64 0) := cell_of_row wo _ 3 _ _ (0, 0) hb1
      have hz5 : wo.cell? ⟨w.heap.size + 1 + 1, 4, none⟩ = some (.int .i64 0) := cell_of_row wo _ 4 _ _ (0, 0) hb1
      have hf0 : ∀ j, wo.frozen? ⟨w.heap.size + 1 + 1, j, none⟩ = false := fun j => by simp [World.frozen?, hb1]
      obtain ⟨f0, f1, f2, f3, f4⟩ : wo.frozen? ⟨w.heap.size + 1 + 1, 0, none⟩ = false ∧ wo.frozen? ⟨w.heap.size + 1 + 1, 1, none⟩ = false ∧ wo.frozen? ⟨w.heap.size + 1 + 1, 2, none⟩ = false ∧ wo.frozen? ⟨w.heap.size + 1 + 1, 3, none⟩ = false ∧ wo.frozen? ⟨w.heap.size + 1 + 1, 4, none⟩ = false := ⟨hf0 0, hf0 1, hf0 2, hf0 3, hf0 4⟩
      have hwt : IntKind.i64.wrap (A.total + B.total) = A.total + B.total := IntWalk.i64_in _ (by omega)
      have hwa : IntKind.i64.wrap (A.aged + B.aged) = A.aged + B.aged := IntWalk.i64_in _ (by omega)
      clear hf0 hq2 hb1 ha0 hb0 hbw
      go_wp2_with fail
      have h2 : WorkRel w1 ((wo.setCell ⟨q, 2, none⟩ (.int .i64 (A.total + B.total))).setCell ⟨q, 4, none⟩ (.int .i64 (A.aged + B.aged))) #[.int .i64 A.width, .slice (some ⟨LB, 0, none⟩) 4 nB, .int .i64 B.total, .int .i64 B.limit, .int .i64 B.aged] q LA' nL' R' cp' (A.join B) := ((HD.out.setTot (A.total + B.total)).setAge (A.aged + B.aged)).congr rfl rfl rfl rfl (fun r' k' h1 h2 => by simp [Sk.join, Sk.joinTo, h1])
      have hb2 := h2.b1
      rw [S1.out] at hb2
      obtain ⟨q1, q2⟩ := set5 hb2 (.int .i64 A.width) (.slice (some ⟨LA', 0, none⟩) 4 nL') (.int .i64 (A.total + B.total)) (.int .i64 0) (.int .i64 (A.aged + B.aged))
      have o1 := h2.own.1
      have s1 := S1.out
      refine bodyPost_ret (results_ct rfl _ _ (w.heap.size + 1 + 1) 38 (rfCells LA' nL' (A.join B)) (0, 0) _ rfl q1 Tryd.underlying38 rfl (by kernel_rfl)) rfl ?_
      refine ⟨LA', nL', R', cp', rfl, h2.rf.off q2 (by omega) (fun r hr => by have := h2.own.2 r hr; omega), ⟨by omega, fun r hr => by have := h2.own.2 r hr; omega⟩, ?_⟩
      exact ((((((BW1.out.trans (h2.bel.mono (by omega))).setCell (by show w.heap.size ≤ w.heap.size + 1 + 1; omega) _).setCell (by show w.heap.size ≤ w.heap.size + 1 + 1; omega) _).setCell (by show w.heap.size ≤ w.heap.size + 1 + 1; omega) _).setCell (by show w.heap.size ≤ w.heap.size + 1 + 1; omega) _).setCell (by show w.heap.size ≤ w.heap.size + 1 + 1; omega) _)
end Go.Proofs.YtpjdaglblckgfaaDoor
namespace Go.Proofs.YtpjdaglblckgfaaDoor
set_option linter.unusedVariables false
open Go.RowKit Go.Proofs.YtpjdaglblckgfaaDoorW.PrintWords

set_option maxHeartbeats 1000000 in
theorem refJoin_bad (LA nL : Nat) (A : Sk) (LB nB : Nat) (B : Sk) (w : World) (hne : A.width ≠ B.width) :
    Calls Tryd.prog 28 #[.agg (rfCells LA nL A), .agg (rfCells LB nB B)] w fun e w' => e = .returned (.tuple #[.agg #[.int .i64 0, .slice none 0 0, .int .i64 0, .int .i64 0, .int .i64 0], .int .i64 3]) ∧ Below w.heap.size w w' := by
  have hrf : rfCells LA nL A = #[.int .i64 A.width, .slice (some ⟨LA, 0, none⟩) 4 nL, .int .i64 A.total, .int .i64 A.limit, .int .i64 A.aged] := rfl
  have hrb : rfCells LB nB B = #[.int .i64 B.width, .slice (some ⟨LB, 0, none⟩) 4 nB, .int .i64 B.total, .int .i64 B.limit, .int .i64 B.aged] := rfl
  rw [hrf, hrb]
  clear hrf hrb
  go_enter Tryd.func28, Tryd.ntmps28
  go_wp2_with fail
  have h0 := heap_alloc_new ((w.alloc (.cells #[.int .i64 A.width, .slice (some ⟨LA, 0, none⟩) 4 nL, .int .i64 A.total, .int .i64 A.limit, .int .i64 A.aged] 38)).alloc (.cells #[.int .i64 B.width, .slice (some ⟨LB, 0, none⟩) 4 nB, .int .i64 B.total, .int .i64 B.limit, .int .i64 B.aged] 38)) (.cells #[.int .i64 0, .slice none 0 0, .int .i64 0, .int .i64 0, .int .i64 0] 38)
  have hs : ((w.alloc (.cells #[.int .i64 A.width, .slice (some ⟨LA, 0, none⟩) 4 nL, .int .i64 A.total, .int .i64 A.limit, .int .i64 A.aged] 38)).alloc (.cells #[.int .i64 B.width, .slice (some ⟨LB, 0, none⟩) 4 nB, .int .i64 B.total, .int .i64 B.limit, .int .i64 B.aged] 38)).heap.size = w.heap.size + 1 + 1 := by simp
  rw [hs] at h0
  refine bodyPost_ret (results_ct rfl _ _ (w.heap.size + 1 + 1) 38 _ (0, 0) _ rfl h0 Tryd.underlying38 rfl (by kernel_rfl)) rfl ?_
  exact ⟨rfl, (((Below.refl _ _).alloc (Nat.le_refl _) _).alloc (by simp) _).alloc (by simp; omega) _⟩
end Go.Proofs.YtpjdaglblckgfaaDoor
namespace Go.Proofs.YtpjdaglblckgfaaDoor
set_option linter.unusedVariables false
open Go.RowKit Go.Proofs.YtpjdaglblckgfaaDoorW.PrintWords

structure SkTwo (w0 w : World) (base p : Nat) (B : Nat → Nat) (S : Sk) (q LA nL : Nat) (R cp : Nat → Nat) (T : Sk) : Prop where
  st : St w0 w base p B S
  rf : IsRf w LA nL R cp T
  box : w.heap[q]? = some (.cells (rfCells LA nL T) 38 (0, 0))
  hq : base ≤ q
namespace SkTwo
variable {w0 w w' : World} {base p q LA nL : Nat} {B R cp : Nat → Nat} {S S' T T' : Sk}
theorem later (h : SkTwo w0 w base p B S q LA nL R cp T) (hb : Below w.heap.size w w') : SkTwo w0 w' base p B S q LA nL R cp T :=
  ⟨h.st.later hb, h.rf.later hb, (hb.block q (Array.getElem?_eq_some_iff.1 h.box).1).trans h.box, h.hq⟩
theorem cell (h : SkTwo w0 w base p B S q LA nL R cp T) (j : Nat) : w.cell? ⟨q, j, none⟩ = (rfCells LA nL T)[j]? := cell_of_row w q j _ _ (0, 0) h.box
theorem fro (h : SkTwo w0 w base p B S q LA nL R cp T) (j : Nat) : w.frozen? ⟨q, j, none⟩ = false := by simp [World.frozen?, h.box]
/-- The sketch moves on; the document's stays. -/
theorem chg (h : SkTwo w0 w base p B S q LA nL R cp T) (h1 : St w0 w' base p B S') (hc : Chg (skM p B) w w') : SkTwo w0 w' base p B S' q LA nL R cp T :=
  ⟨h1, h.rf.chg h.st.sk hc, (hc.block q (Array.getElem?_eq_some_iff.1 h.box).1 (not_skM h.st.sk h.box (by decide) (by decide))).trans h.box, h.hq⟩
/-- The document's moves on: a new value is laid into the box. -/
theorem put (h : SkTwo w0 w base p B S q LA nL R cp T) {LA' nL' : Nat} {R' cp' : Nat → Nat} (h1 : IsRf w' LA' nL' R' cp' T') (h2 : RfOwn w.heap.size LA' R') (hb : Below w.heap.size w w') :
    SkTwo w0 (((((w'.setCell ⟨q, 0, none⟩ (.int .i64 T'.width)).setCell ⟨q, 1, none⟩ (.slice (some ⟨LA', 0, none⟩) 4 nL')).setCell ⟨q, 2, none⟩ (.int .i64 T'.total)).setCell ⟨q, 3, none⟩ (.int .i64 T'.limit)).setCell ⟨q, 4, none⟩ (.int .i64 T'.aged)) base p B S q LA' nL' R' cp' T' := by
  have hlt : q < w.heap.size := (Array.getElem?_eq_some_iff.1 h.box).1
  have h3 := h.later hb
  obtain ⟨q1, q2⟩ := set5 h3.box (.int .i64 T'.width) (.slice (some ⟨LA', 0, none⟩) 4 nL') (.int .i64 T'.total) (.int .i64 T'.limit) (.int .i64 T'.aged)
  have hn := not_skM h3.st.sk h3.box (by decide) (by decide)
  have hp : p ≠ q := fun e => hn (.inl e.symm)
  have hB : ∀ r, r < 4 → B r ≠ q := fun r hr e => hn (.inr ⟨r, hr, e.symm⟩)
  have o1 := h2.1
  refine ⟨⟨h3.st.sk.move (q2 _ hp) (fun r hr => q2 _ (hB r hr)), ?_, ?_, h.st.hp, h.st.hB, h.st.t0, h.st.t1, h.st.a0, h.st.a1⟩, h1.off q2 (by omega) (fun r hr => by have := h2.2 r hr; omega), q1, h.hq⟩
  · exact ((((h3.st.bel.setCell h.hq _).setCell h.hq _).setCell h.hq _).setCell h.hq _).setCell h.hq _
  · have := h3.st.hb
    simpa [World.setCell] using this
end SkTwo
end Go.Proofs.YtpjdaglblckgfaaDoor
