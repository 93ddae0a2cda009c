/- The law FloorsRise, at every input. -/
import Derived.Test.YtmoiochblmdgfaaDoorG6
namespace Go.Proofs.YtmoiochblmdgfaaDoor
set_option linter.unusedVariables false
set_option linter.unusedSimpArgs false
open Go.RowKit Go.Proofs.YtmoiochblmdgfaaDoorW.PrintWords
attribute [local go_sem ↓] Go.wp_at_zero Go.wp_at_succ

/-- The floors of the law's own cell: those that were handed in, or some that were made. -/
structure LI (w W : World) (low : Int) (A : Option Addr) (c : Nat) (M : List Fl) : Prop where
  blk : W.heap[w.heap.size]? = some (.cells #[.int .i64 low, .slice A M.length c] 24 (0, 0))
  cap : M.length ≤ c
  src : kF.C w A M.length M ∨ kF.R 43 W w.heap.size (fun _ => True) (.slice A M.length c) M
  bel : Below w.heap.size w W
theorem LI.fb {w W : World} {low : Int} {A : Option Addr} {c : Nat} {M : List Fl} (h : LI w W low A c M) : FB W w.heap.size low A c M :=
  ⟨h.blk, h.cap, h.src.elim (fun h1 => Kd.C_below h1 h.bel) (fun h1 => (Kd.R_reads' h1).2.2)⟩
theorem LI.later {w W W' : World} {low : Int} {A : Option Addr} {c : Nat} {M : List Fl} (h : LI w W low A c M) (hb : Below W.heap.size W W') : LI w W' low A c M :=
  ⟨(hb.block _ h.fb.lt).trans h.blk, h.cap, h.src.imp id (fun h1 => Kd.R_below h1 hb), h.bel.trans (hb.mono h.bel.size)⟩
/-- Floors that were made, in a cell of their own. -/
structure GR (w W : World) (g : Nat) (low : Int) (A : Option Addr) (c : Nat) (M : List Fl) : Prop where
  blk : W.heap[g]? = some (.cells #[.int .i64 low, .slice A M.length c] 24 (0, 0))
  ne : w.heap.size < g
  cap : M.length ≤ c
  own : kF.R 43 W w.heap.size (fun _ => True) (.slice A M.length c) M
theorem GR.fb {w W : World} {g : Nat} {low : Int} {A : Option Addr} {c : Nat} {M : List Fl} (h : GR w W g low A c M) : FB W g low A c M := ⟨h.blk, h.cap, (Kd.R_reads' h.own).2.2⟩
theorem GR.later {w W W' : World} {g : Nat} {low : Int} {A : Option Addr} {c : Nat} {M : List Fl} (h : GR w W g low A c M) (hb : Below W.heap.size W W') : GR w W' g low A c M :=
  ⟨(hb.block _ h.fb.lt).trans h.blk, h.ne, h.cap, Kd.R_below h.own hb⟩
theorem LI.set {w W : World} {g : Nat} {lo low : Int} {A B : Option Addr} {c d : Nat} {L M : List Fl} (h : LI w W lo B d L) (k : GR w W g low A c M) :
    LI w ((W.setCell ⟨w.heap.size, 0, none⟩ (.int .i64 low)).setCell ⟨w.heap.size, 1, none⟩ (.slice A M.length c)) low A c M := by
  obtain ⟨h1, h2⟩ := set2 h.blk (.int .i64 low) (.slice A M.length c)
  exact ⟨h1, k.cap, .inr (R_put2 k.own h.blk _ _), (h.bel.setCell (p := ⟨w.heap.size, 0, none⟩) (Nat.le_refl _) _).setCell (p := ⟨w.heap.size, 1, none⟩) (Nat.le_refl _) _⟩
theorem FB.froz {W : World} {b : Nat} {low : Int} {A : Option Addr} {c : Nat} {L : List Fl} (h : FB W b low A c L) : W.frozen? ⟨b, 0, none⟩ = false ∧ W.frozen? ⟨b, 1, none⟩ = false :=
  ⟨by simp [World.frozen?, h.blk], by simp [World.frozen?, h.blk]⟩

set_option maxHeartbeats 8000000 in
set_option maxRecDepth 100000 in
theorem rise_law (low : Int) (A : Option Addr) (c : Nat) (L : List Fl) (B : Option Addr) (d : Nat) (l : List Fl) (limit ask : Int) (w : World) (hc : L.length ≤ c) (hC : kF.C w A L.length L) (hd : l.length ≤ d) (hD : kF.C w B l.length l) (hg : HG w) :
    Calls Tryd.prog 5 #[.agg #[.int .i64 low, .slice A L.length c], .slice B l.length d, .int .i64 limit, .int .u64 ask] w fun e w' => e = .returned (.bool true) ∧ Below w.heap.size w w' := by
  have HW := Lib.hid (fun W hW => works_below (w1 := W) hg hW)
  have h0 := Lib.hid (hg_pos hg)
  have HD := Lib.hid hD
  have F0 := Lib.hid (show LI w (w.alloc (.cells #[.int .i64 low, .slice A L.length c] 24)) low A c L from ⟨heap_alloc_new _ _, hc, .inl hC, bel_alloc _ _⟩)
  have HRC := Lib.hid (refCheck_all low A c L _ F0.out.fb.rd hc)
  obtain ⟨c0, c1⟩ := F0.out.fb.cells
  by_cases hgd : chk low L = 0 ∧ l.length ≤ 60 ∧ (L.length : Int) ≤ limit
  · obtain ⟨hk, g1, g2⟩ := hgd
    have hcb : (chk low L != 0) = false := by simpa using hk
    have d1 : decide (60 < (l.length : Int)) = false := decide_eq_false (by omega)
    have d2 : decide (limit < (L.length : Int)) = false := decide_eq_false (by omega)
    have HOK := Lib.hid (okf_of hk)
    clear hk hg hC hD
    go_enter Tryd.func5, Tryd.ntmps5
    go_wp2_with fail
    generalize w.alloc (.cells #[.int .i64 low, .slice A L.length c] 24) = w1 at *
    refine HRC.out.mono ?_
    rintro e w2 ⟨rfl, hb2⟩
    have F2 := Lib.hid (F0.out.later hb2)
    clear hb2 HRC c0 c1 F0
    obtain ⟨c0, c1⟩ := F2.out.fb.cells
    go_wp2_with fail
    clear c0 c1
    have hl12 := HOK.out.2.2
    go_loopw [9] (fun iv wr => ∃ (k : Nat) (lw : Int) (A' : Option Addr) (c' : Nat) (M : List Fl), k ≤ l.length ∧ iv = .int .i64 k ∧ M.length ≤ 12 ∧ (M.length : Int) ≤ limit ∧ Hid (LI w wr lw A' c' M ∧ OKF lw M)) (fun iv _ => l.length - (intOf iv).toNat)
    case atStart => exact ⟨0, low, A, c, L, Nat.zero_le _, rfl, hl12, g2, F2.out, HOK.out⟩
    case round =>
      obtain ⟨k, lw, A', c', M, hk, rfl, hm1, hm2, HI⟩ := hrel
      obtain ⟨wo, rfl⟩ : ∃ wo : World, wo = wr := ⟨_, rfl⟩
      have FO := Lib.hid HI.out.1
      have KO := Lib.hid HI.out.2
      clear HI F2 HOK
      by_cases hlt : k < l.length
      · obtain ⟨ad, hB, hx0, hx1⟩ := at_fl HD.out hlt
        subst hB
        have hxl0 := World.block_lt_of_cell? w _ hx0
        have hxl1 := World.block_lt_of_cell? w _ hx1
        obtain ⟨r1, r2, r3, r4⟩ := raise_ok KO.out (fget l k).f0 (fget l k).f1 limit ask
        have hra := fun W (hF : LI w W lw A' c' M) => Raise_any lw A' c' M (fget l k).f0 (fget l k).f1 limit W hF.fb.rd hF.cap (by omega) KO.out.2.1 KO.out.1
        generalize (fget l k).f0 = hx at *
        generalize (fget l k).f1 = ax at *
        generalize raiseP lw M hx ax limit = P at *
        obtain ⟨lr, Mr⟩ := P
        dsimp only at r1 r2 r3 r4 hra
        have hn1 : Mr.length ≤ 12 := r1.2.2
        have hn2 : (Mr.length : Int) ≤ limit := by
          rcases r2 with h | h
          · omega
          · unfold kOf at h
            omega
        have HRA := Lib.hid hra
        have hX : ∀ W, Below wo.heap.size wo W → W.cell? (ad.add (k * 2)) = some (.int .u64 hx) ∧ W.cell? ⟨(ad.add (k * 2)).block, (ad.add (k * 2)).off + 1, none⟩ = some (.int .i64 ax) ∧ W.cell? ⟨w.heap.size, 0, none⟩ = some (.int .i64 lw) ∧ W.cell? ⟨w.heap.size, 1, none⟩ = some (.slice A' M.length c') := fun W hW => by
          have hb := FO.out.bel.trans (hW.mono FO.out.bel.size)
          have hf := (FO.out.later hW).fb.cells
          exact ⟨(hb.cell hxl0).trans hx0, (hb.cell (p := ⟨(ad.add (k * 2)).block, (ad.add (k * 2)).off + 1, none⟩) hxl1).trans hx1, hf.1, hf.2⟩
        have HXE := Lib.hid (fun W (hW : Below w.heap.size w W) => (hW.cell (p := ⟨(ad.add (k * 2)).block, (ad.add (k * 2)).off + 1, none⟩) hxl1).trans hx1)
        obtain ⟨s0, s1, s2, s3⟩ := hX wo (Below.refl _ _)
        have HX := Lib.hid hX
        have i1 : (0 : Int) ≤ (k : Int) := by omega
        have i2 : (k : Int) < (l.length : Int) := by omega
        have R1 := Lib.hid r1
        have hmn : min ax 1099511627776 ≤ fOf lr Mr hx := r4
        have HOA := Lib.hid r3
        have HOH := Lib.hid hmn
        have b0 : Hid (Below wo.heap.size wo wo.drew) := Drawn0.below ⟨1, rfl⟩
        have bz : Hid (Below wo.heap.size wo (wo.alloc (.cells #[.int .i64 0, .slice none 0 0] 24)).drew) := ((bel_alloc _ _).trans ((Drawn0.below ⟨1, rfl⟩).mono (bel_alloc _ _).size))
        have HLTW := Lib.hid (FO.out.fb.lt)
        clear hra hX hx0 hx1 hxl0 hxl1 r1 r2 r3 r4 hmn
        go_wp2_with fail
        go_cut [10] (fun t wx => ∃ g A5 c5, t = .pointer (some ⟨g, 0, none⟩) ∧ Hid (GR w wx g lr A5 c5 Mr ∧ Below wo.heap.size wo wx))
        case first =>
          go_region_held3 (fun w' => w'.cell? (ad.add (k * 2)) = some (.int .u64 hx) ∧ w'.cell? ⟨(ad.add (k * 2)).block, (ad.add (k * 2)).off + 1, none⟩ = some (.int .i64 ax) ∧ w'.cell? ⟨w.heap.size, 0, none⟩ = some (.int .i64 lw) ∧ w'.cell? ⟨w.heap.size, 1, none⟩ = some (.slice A' M.length c')) (first | exact ⟨s0, s1, s2, s3⟩ | exact HX.out _ b0.out | exact HX.out _ bz.out | exact HX.out _ b5.out | exact HX.out _ (b0.out.trans ((bel_alloc _ _).mono b0.out.size)) | exact HX.out _ (b5.out.trans ((bel_alloc _ _).mono b5.out.size)) | exact HX.out _ ((b5.out.setCell (Nat.le_refl _) _).setCell (Nat.le_refl _) _))
            ((go_at_call 17; first
              | (((with_reducible refine (HRA.out wo.drew (FO.out.later b0.out)).mono ?_)); intro e w5 h5; obtain ⟨A5, c5, rfl, hc5, _, hr5, hb5⟩ := h5.reads; have R5 := Lib.hid (Kd.R_lower hr5 (show w.heap.size ≤ wo.drew.heap.size from Nat.le_trans FO.out.bel.size b0.out.size)); have b5 := Lib.hid (b0.out.trans (hb5.mono b0.out.size)); clear h5 hr5 hb5)
              | (((with_reducible refine (HRA.out ((wo.alloc (.cells #[.int .i64 0, .slice none 0 0] 24)).drew) (FO.out.later bz.out)).mono ?_)); intro e w5 h5; obtain ⟨A5, c5, rfl, hc5, _, hr5, hb5⟩ := h5.reads; have R5 := Lib.hid (Kd.R_lower hr5 (show w.heap.size ≤ (wo.alloc (.cells #[.int .i64 0, .slice none 0 0] 24)).drew.heap.size from Nat.le_trans FO.out.bel.size bz.out.size)); have b5 := Lib.hid (bz.out.trans (hb5.mono bz.out.size)); have Y5 := Lib.hid ((hb5.block wo.heap.size (by simp)).trans (heap_alloc_new wo (.cells #[.int .i64 0, .slice none 0 0] 24))); have y0 : w5.cell? ⟨wo.heap.size, 0, none⟩ = some (.int .i64 0) := cell_of_row w5 _ 0 _ _ (0, 0) Y5.out; have y1 : w5.cell? ⟨wo.heap.size, 1, none⟩ = some (.slice none 0 0) := cell_of_row w5 _ 1 _ _ (0, 0) Y5.out; have v0 : w5.frozen? ⟨wo.heap.size, 0, none⟩ = false := (by simp [World.frozen?, Y5.out]); have v1 : w5.frozen? ⟨wo.heap.size, 1, none⟩ = false := (by simp [World.frozen?, Y5.out]); clear h5 hr5 hb5)))
          · go_wp2_with fail
            go_meet
            exact ⟨_, A5, c5, rfl, ⟨heap_alloc_new _ _, Nat.lt_of_lt_of_le HLTW.out b5.out.size, hc5, Kd.R_below R5.out (bel_alloc _ _)⟩, b5.out.trans ((bel_alloc _ _).mono b5.out.size)⟩
          · go_wp2_with fail
            go_meet
            exact ⟨_, A5, c5, rfl, ⟨(set2 Y5.out _ _).1, HLTW.out, hc5, R_put2 R5.out Y5.out _ _⟩, (b5.out.setCell (Nat.le_refl _) _).setCell (Nat.le_refl _) _⟩
        case rest =>
          obtain ⟨g, A5, c5, rfl, HG5⟩ := hcut
          obtain ⟨wd, rfl⟩ : ∃ wd : World, wd = wc := ⟨_, rfl⟩
          have G5 := Lib.hid HG5.out.1
          have F5 := Lib.hid (FO.out.later HG5.out.2)
          have hgb := G5.out.ne
          have hX : ∀ W, Below wd.heap.size wd W → W.cell? (ad.add (k * 2)) = some (.int .u64 hx) ∧ W.cell? ⟨(ad.add (k * 2)).block, (ad.add (k * 2)).off + 1, none⟩ = some (.int .i64 ax) ∧ W.cell? ⟨w.heap.size, 0, none⟩ = some (.int .i64 lw) ∧ W.cell? ⟨w.heap.size, 1, none⟩ = some (.slice A' M.length c') ∧ W.cell? ⟨g, 0, none⟩ = some (.int .i64 lr) ∧ W.cell? ⟨g, 1, none⟩ = some (.slice A5 Mr.length c5) := fun W hW => by
            obtain ⟨e1, e2, e3, e4⟩ := HX.out W (HG5.out.2.trans (hW.mono HG5.out.2.size))
            exact ⟨e1, e2, e3, e4, (G5.out.later hW).fb.cells.1, (G5.out.later hW).fb.cells.2⟩
          obtain ⟨og, hog⟩ : ∃ og, og = fOf lr Mr ask := ⟨_, rfl⟩
          obtain ⟨fo, hfo⟩ : ∃ fo, fo = fOf lw M ask := ⟨_, rfl⟩
          obtain ⟨oh, hoh⟩ : ∃ oh, oh = fOf lr Mr hx := ⟨_, rfl⟩
          have HOG := Lib.hid (show ∀ W, Below wd.heap.size wd W → Calls Tryd.prog 14 #[.agg #[.int .i64 lr, .slice A5 Mr.length c5], .int .u64 ask] W fun e w' => e = .returned (.int .i64 og) ∧ Below wd.heap.size wd w' from fun W hW => by
            rw [hog]
            exact ((G5.out.later hW).fb.of (by omega) R1.out.2.1 R1.out.1 ask).mono fun e w' ⟨he, hb⟩ => ⟨he, hW.trans (hb.mono hW.size)⟩)
          have HFO := Lib.hid (show ∀ W, Below wd.heap.size wd W → Calls Tryd.prog 14 #[.agg #[.int .i64 lw, .slice A' M.length c'], .int .u64 ask] W fun e w' => e = .returned (.int .i64 fo) ∧ Below wd.heap.size wd w' from fun W hW => by
            rw [hfo]
            exact ((F5.out.later hW).fb.of (by omega) KO.out.2.1 KO.out.1 ask).mono fun e w' ⟨he, hb⟩ => ⟨he, hW.trans (hb.mono hW.size)⟩)
          have HOX := Lib.hid (show ∀ W, Below wd.heap.size wd W → Calls Tryd.prog 14 #[.agg #[.int .i64 lr, .slice A5 Mr.length c5], .int .u64 hx] W fun e w' => e = .returned (.int .i64 oh) ∧ Below wd.heap.size wd w' from fun W hW => by
            rw [hoh]
            exact ((G5.out.later hW).fb.of (by omega) R1.out.2.1 R1.out.1 hx).mono fun e w' ⟨he, hb⟩ => ⟨he, hW.trans (hb.mono hW.size)⟩)
          have k1 : decide (og < fo) = false := decide_eq_false (by rw [hog, hfo]; have := HOA.out; omega)
          have k2 : decide (limit < (Mr.length : Int)) = false := decide_eq_false (by omega)
          have k3 : decide (12 < (Mr.length : Int)) = false := decide_eq_false (by omega)
          have k4 : (ax ≤ 1099511627776) → decide (oh < ax) = false := fun h => decide_eq_false (by rw [hoh]; have := HOH.out; omega)
          have K4 := Lib.hid k4
          clear hog hfo hoh k4 s0 s1 s2 s3 HX HOA HOH b0 bz HG5 HRA FO
          obtain ⟨s0, s1, s2, s3, s4, s5⟩ := hX wd (Below.refl _ _)
          have HX := Lib.hid hX
          have z0 : Hid (Below wd.heap.size wd wd.drew) := Drawn0.below ⟨1, rfl⟩
          clear hX
          go_wp2_with fail
          go_cut [89] (fun cc wx => cc = .bool false ∧ Hid (Below wd.heap.size wd wx))
          case first =>
            by_cases hat : ax ≤ 1099511627776
            · have k5 : decide (ax ≤ 1099511627776) = true := decide_eq_true hat
              have k6 := K4.out hat
              clear hat
              go_region_held3 (fun w' => w'.cell? (ad.add (k * 2)) = some (.int .u64 hx) ∧ w'.cell? ⟨(ad.add (k * 2)).block, (ad.add (k * 2)).off + 1, none⟩ = some (.int .i64 ax) ∧ w'.cell? ⟨w.heap.size, 0, none⟩ = some (.int .i64 lw) ∧ w'.cell? ⟨w.heap.size, 1, none⟩ = some (.slice A' M.length c') ∧ w'.cell? ⟨g, 0, none⟩ = some (.int .i64 lr) ∧ w'.cell? ⟨g, 1, none⟩ = some (.slice A5 Mr.length c5))
                (first | exact ⟨s0, s1, s2, s3, s4, s5⟩ | exact HX.out _ z0.out | exact HX.out _ z1.out | exact HX.out _ z2.out | exact HX.out _ z3.out)
                ((go_at_call 14; first
                  | (((with_reducible refine (HOX.out _ z2.out).mono ?_)); rintro e y3 ⟨rfl, hb⟩; have z3 := Lib.hid hb; clear hb)
                  | (((with_reducible refine (HFO.out _ z1.out).mono ?_)); rintro e y2 ⟨rfl, hb⟩; have z2 := Lib.hid hb; clear hb)
                  | (((with_reducible refine (HOG.out _ z0.out).mono ?_)); rintro e y1 ⟨rfl, hb⟩; have z1 := Lib.hid hb; clear hb)))
              all_goals
                go_wp2_with fail
                go_meet
                exact ⟨rfl, z3⟩
            · have k5 : decide (ax ≤ 1099511627776) = false := decide_eq_false hat
              clear hat
              refine wp_region_held_drew (S := (fun w' => w'.cell? (ad.add (k * 2)) = some (.int .u64 hx) ∧ w'.cell? ⟨(ad.add (k * 2)).block, (ad.add (k * 2)).off + 1, none⟩ = some (.int .i64 ax) ∧ w'.cell? ⟨w.heap.size, 0, none⟩ = some (.int .i64 lw) ∧ w'.cell? ⟨w.heap.size, 1, none⟩ = some (.slice A' M.length c') ∧ w'.cell? ⟨g, 0, none⟩ = some (.int .i64 lr) ∧ w'.cell? ⟨g, 1, none⟩ = some (.slice A5 Mr.length c5))) (by kernel_rfl) ?_ (fun hHeld => ?_)
              · exact HX.out _ z0.out
              refine wpAnyH_take (i := 0) (oi := ⟨some 47, _, _, _, _, _⟩) (v := ?_) rfl (by kernel_rfl) (by kernel_rfl) (by kernel_rfl) (fun _ _ _ h => h) (Or.inl ⟨by rfl, ?_⟩) (by assumption) ?_
              rotate_left
              · intro WW hSw
                try dsimp only at hSw
                go_simp
                try with_reducible rfl
              try simp only [Act.put, List.setIfInBounds_toArray, List.set_cons_zero, List.set_cons_succ]
              refine wpAnyH_take (i := 1) (oi := ⟨some 48, _, _, _, _, _⟩) (v := ?_) rfl (by kernel_rfl) (by kernel_rfl) (by kernel_rfl) (fun _ _ _ h => h) (Or.inl ⟨by rfl, ?_⟩) (by assumption) ?_
              rotate_left
              · intro WW hSw
                try dsimp only at hSw
                go_simp
                try with_reducible rfl
              try simp only [Act.put, List.setIfInBounds_toArray, List.set_cons_zero, List.set_cons_succ]
              refine wpAnyH_take (i := 3) (oi := ⟨some 50, _, _, _, _, _⟩) (v := ?_) rfl (by kernel_rfl) (by kernel_rfl) (by kernel_rfl) (fun _ _ _ h => h) (Or.inl ⟨by rfl, ?_⟩) (by assumption) ?_
              rotate_left
              · intro WW hSw
                try dsimp only at hSw
                go_simp
                try with_reducible rfl
              try simp only [Act.put, List.setIfInBounds_toArray, List.set_cons_zero, List.set_cons_succ]
              refine wpAnyH_take (i := 4) (oi := ⟨some 51, _, _, _, _, _⟩) (v := ?_) rfl (by kernel_rfl) (by kernel_rfl) (by kernel_rfl) (fun _ _ _ h => h) (Or.inl ⟨by rfl, ?_⟩) (by assumption) ?_
              rotate_left
              · intro WW hSw
                try dsimp only at hSw
                go_simp
                try with_reducible rfl
              try simp only [Act.put, List.setIfInBounds_toArray, List.set_cons_zero, List.set_cons_succ]
              refine wpAnyH_ready (rs := [2]) (by kernel_rfl) (by simp) ?_
              refine AllReadyH.cons (o := ⟨some 49, _, _, _, _, _⟩) rfl (fun K hK => ?_) AllReadyH.nil
              go_simp
              go_at_call 14
              ((with_reducible refine (HOG.out _ z0.out).mono ?_))
              rintro e y1 ⟨rfl, hb⟩
              have z1 := Lib.hid hb
              clear hb
              refine hK.out _ _ ?_ (fun hHeld6 => ?_)
              · exact HX.out _ z1.out
              clear hK K hHeld
              try simp only [Act.put, List.setIfInBounds_toArray, List.set_cons_zero, List.set_cons_succ]
              refine wpAnyH_ready (rs := [5]) (by kernel_rfl) (by simp) ?_
              refine AllReadyH.cons (o := ⟨some 52, _, _, _, _, _⟩) rfl (fun K hK => ?_) AllReadyH.nil
              go_simp
              go_at_call 14
              ((with_reducible refine (HFO.out _ z1.out).mono ?_))
              rintro e y2 ⟨rfl, hb⟩
              have z2 := Lib.hid hb
              clear hb
              refine hK.out _ _ ?_ (fun hHeld7 => ?_)
              · exact HX.out _ z2.out
              clear hK K hHeld6
              try simp only [Act.put, List.setIfInBounds_toArray, List.set_cons_zero, List.set_cons_succ]
              refine wpAnyH_take (i := 6) (oi := ⟨some 53, _, _, _, _, _⟩) (v := ?_) rfl (by kernel_rfl) (by kernel_rfl) (by kernel_rfl) (fun _ _ _ h => h) (Or.inl ⟨by rfl, ?_⟩) (by assumption) ?_
              rotate_left
              · intro WW hSw
                try dsimp only at hSw
                go_simp
                try with_reducible rfl
              try simp only [Act.put, List.setIfInBounds_toArray, List.set_cons_zero, List.set_cons_succ]
              refine wpAnyH_take (i := 7) (oi := ⟨some 54, _, _, _, _, _⟩) (v := ?_) rfl (by kernel_rfl) (by kernel_rfl) (by kernel_rfl) (fun _ _ _ h => h) (Or.inl ⟨by rfl, ?_⟩) (by assumption) ?_
              rotate_left
              · intro WW hSw
                try dsimp only at hSw
                go_simp
                try with_reducible rfl
              try simp only [Act.put, List.setIfInBounds_toArray, List.set_cons_zero, List.set_cons_succ]
              refine wpAnyH_take (i := 8) (oi := ⟨some 55, _, _, _, _, _⟩) (v := ?_) rfl (by kernel_rfl) (by kernel_rfl) (by kernel_rfl) (fun _ _ _ h => h) (Or.inl ⟨by rfl, ?_⟩) (by assumption) ?_
              rotate_left
              · intro WW hSw
                try dsimp only at hSw
                go_simp
                try with_reducible rfl
              try simp only [Act.put, List.setIfInBounds_toArray, List.set_cons_zero, List.set_cons_succ]
              refine wpAnyH_take (i := 9) (oi := ⟨some 56, _, _, _, _, _⟩) (v := ?_) rfl (by kernel_rfl) (by kernel_rfl) (by kernel_rfl) (fun _ _ _ h => h) (Or.inl ⟨by rfl, ?_⟩) (by assumption) ?_
              rotate_left
              · intro WW hSw
                try dsimp only at hSw
                go_simp
                try with_reducible rfl
              try simp only [Act.put, List.setIfInBounds_toArray, List.set_cons_zero, List.set_cons_succ]
              refine wpAnyH_take (i := 10) (oi := ⟨some 57, _, _, _, _, _⟩) (v := ?_) rfl (by kernel_rfl) (by kernel_rfl) (by kernel_rfl) (fun _ _ _ h => h) (Or.inl ⟨by rfl, ?_⟩) (by assumption) ?_
              rotate_left
              · intro WW hSw
                try dsimp only at hSw
                go_simp
                try with_reducible rfl
              try simp only [Act.put, List.setIfInBounds_toArray, List.set_cons_zero, List.set_cons_succ]
              refine wpAnyH_take (i := 11) (oi := ⟨some 58, _, _, _, _, _⟩) (v := ?_) rfl (by kernel_rfl) (by kernel_rfl) (by kernel_rfl) (fun _ _ _ h => h) (Or.inl ⟨by rfl, ?_⟩) (by assumption) ?_
              rotate_left
              · intro WW hSw
                try dsimp only at hSw
                go_simp
                try with_reducible rfl
              try simp only [Act.put, List.setIfInBounds_toArray, List.set_cons_zero, List.set_cons_succ]
              refine wpAnyH_take (i := 12) (oi := ⟨some 59, _, _, _, _, _⟩) (v := ?_) rfl (by kernel_rfl) (by kernel_rfl) (by kernel_rfl) (fun _ _ _ h => h) (Or.inl ⟨by rfl, ?_⟩) (by assumption) ?_
              rotate_left
              · intro WW hSw
                try dsimp only at hSw
                go_simp
                try with_reducible rfl
              try simp only [Act.put, List.setIfInBounds_toArray, List.set_cons_zero, List.set_cons_succ]
              refine wpAnyH_take (i := 13) (oi := ⟨some 60, _, _, _, _, _⟩) (v := ?_) rfl (by kernel_rfl) (by kernel_rfl) (by kernel_rfl) (fun _ _ _ h => h) (Or.inl ⟨by rfl, ?_⟩) (by assumption) ?_
              rotate_left
              · intro WW hSw
                try dsimp only at hSw
                go_simp
                try with_reducible rfl
              try simp only [Act.put, List.setIfInBounds_toArray, List.set_cons_zero, List.set_cons_succ]
              refine wpAnyH_take (i := 14) (oi := ⟨some 61, _, _, _, _, _⟩) (v := ?_) rfl (by kernel_rfl) (by kernel_rfl) (by kernel_rfl) (fun _ _ _ h => h) (Or.inl ⟨by rfl, ?_⟩) (by assumption) ?_
              rotate_left
              · intro WW hSw
                try dsimp only at hSw
                go_simp
                try with_reducible rfl
              try simp only [Act.put, List.setIfInBounds_toArray, List.set_cons_zero, List.set_cons_succ]
              refine wpAnyH_take (i := 15) (oi := ⟨some 62, _, _, _, _, _⟩) (v := undef) rfl (by kernel_rfl) (by kernel_rfl) (by kernel_rfl) (fun _ _ _ h => h) (Or.inr ⟨by rfl, rfl⟩) (by assumption) ?_
              try simp only [Act.put, List.setIfInBounds_toArray, List.set_cons_zero, List.set_cons_succ]
              refine wpAnyH_take (i := 16) (oi := ⟨some 63, _, _, _, _, _⟩) (v := undef) rfl (by kernel_rfl) (by kernel_rfl) (by kernel_rfl) (fun _ _ _ h => h) (Or.inr ⟨by rfl, rfl⟩) (by assumption) ?_
              try simp only [Act.put, List.setIfInBounds_toArray, List.set_cons_zero, List.set_cons_succ]
              refine wpAnyH_take (i := 17) (oi := ⟨some 64, _, _, _, _, _⟩) (v := undef) rfl (by kernel_rfl) (by kernel_rfl) (by kernel_rfl) (fun _ _ _ h => h) (Or.inr ⟨by rfl, rfl⟩) (by assumption) ?_
              try simp only [Act.put, List.setIfInBounds_toArray, List.set_cons_zero, List.set_cons_succ]
              refine wpAnyH_take (i := 18) (oi := ⟨some 65, _, _, _, _, _⟩) (v := undef) rfl (by kernel_rfl) (by kernel_rfl) (by kernel_rfl) (fun _ _ _ h => h) (Or.inr ⟨by rfl, rfl⟩) (by assumption) ?_
              try simp only [Act.put, List.setIfInBounds_toArray, List.set_cons_zero, List.set_cons_succ]
              refine wpAnyH_take (i := 19) (oi := ⟨some 66, _, _, _, _, _⟩) (v := undef) rfl (by kernel_rfl) (by kernel_rfl) (by kernel_rfl) (fun _ _ _ h => h) (Or.inr ⟨by rfl, rfl⟩) (by assumption) ?_
              try simp only [Act.put, List.setIfInBounds_toArray, List.set_cons_zero, List.set_cons_succ]
              refine wpAnyH_take (i := 20) (oi := ⟨some 67, _, _, _, _, _⟩) (v := undef) rfl (by kernel_rfl) (by kernel_rfl) (by kernel_rfl) (fun _ _ _ h => h) (Or.inr ⟨by rfl, rfl⟩) (by assumption) ?_
              try simp only [Act.put, List.setIfInBounds_toArray, List.set_cons_zero, List.set_cons_succ]
              refine wpAnyH_take (i := 21) (oi := ⟨some 68, _, _, _, _, _⟩) (v := undef) rfl (by kernel_rfl) (by kernel_rfl) (by kernel_rfl) (fun _ _ _ h => h) (Or.inr ⟨by rfl, rfl⟩) (by assumption) ?_
              try simp only [Act.put, List.setIfInBounds_toArray, List.set_cons_zero, List.set_cons_succ]
              refine wpAnyH_take (i := 22) (oi := ⟨some 69, _, _, _, _, _⟩) (v := undef) rfl (by kernel_rfl) (by kernel_rfl) (by kernel_rfl) (fun _ _ _ h => h) (Or.inr ⟨by rfl, rfl⟩) (by assumption) ?_
              try simp only [Act.put, List.setIfInBounds_toArray, List.set_cons_zero, List.set_cons_succ]
              refine wpAnyH_take (i := 23) (oi := ⟨some 70, _, _, _, _, _⟩) (v := undef) rfl (by kernel_rfl) (by kernel_rfl) (by kernel_rfl) (fun _ _ _ h => h) (Or.inr ⟨by rfl, rfl⟩) (by assumption) ?_
              try simp only [Act.put, List.setIfInBounds_toArray, List.set_cons_zero, List.set_cons_succ]
              refine wpAnyH_take (i := 24) (oi := ⟨some 71, _, _, _, _, _⟩) (v := undef) rfl (by kernel_rfl) (by kernel_rfl) (by kernel_rfl) (fun _ _ _ h => h) (Or.inr ⟨by rfl, rfl⟩) (by assumption) ?_
              try simp only [Act.put, List.setIfInBounds_toArray, List.set_cons_zero, List.set_cons_succ]
              refine wpAnyH_take (i := 25) (oi := ⟨some 72, _, _, _, _, _⟩) (v := undef) rfl (by kernel_rfl) (by kernel_rfl) (by kernel_rfl) (fun _ _ _ h => h) (Or.inr ⟨by rfl, rfl⟩) (by assumption) ?_
              try simp only [Act.put, List.setIfInBounds_toArray, List.set_cons_zero, List.set_cons_succ]
              refine wpAnyH_take (i := 26) (oi := ⟨some 73, _, _, _, _, _⟩) (v := undef) rfl (by kernel_rfl) (by kernel_rfl) (by kernel_rfl) (fun _ _ _ h => h) (Or.inr ⟨by rfl, rfl⟩) (by assumption) ?_
              try simp only [Act.put, List.setIfInBounds_toArray, List.set_cons_zero, List.set_cons_succ]
              refine wpAnyH_take (i := 27) (oi := ⟨some 74, _, _, _, _, _⟩) (v := undef) rfl (by kernel_rfl) (by kernel_rfl) (by kernel_rfl) (fun _ _ _ h => h) (Or.inr ⟨by rfl, rfl⟩) (by assumption) ?_
              try simp only [Act.put, List.setIfInBounds_toArray, List.set_cons_zero, List.set_cons_succ]
              refine wpAnyH_take (i := 28) (oi := ⟨some 75, _, _, _, _, _⟩) (v := ?_) rfl (by kernel_rfl) (by kernel_rfl) (by kernel_rfl) (fun _ _ _ h => h) (Or.inl ⟨by rfl, ?_⟩) (by assumption) ?_
              rotate_left
              · intro WW hSw
                try dsimp only at hSw
                go_simp
                try with_reducible rfl
              try simp only [Act.put, List.setIfInBounds_toArray, List.set_cons_zero, List.set_cons_succ]
              refine wpAnyH_take (i := 29) (oi := ⟨some 76, _, _, _, _, _⟩) (v := ?_) rfl (by kernel_rfl) (by kernel_rfl) (by kernel_rfl) (fun _ _ _ h => h) (Or.inl ⟨by rfl, ?_⟩) (by assumption) ?_
              rotate_left
              · intro WW hSw
                try dsimp only at hSw
                go_simp
                try with_reducible rfl
              try simp only [Act.put, List.setIfInBounds_toArray, List.set_cons_zero, List.set_cons_succ]
              refine wpAnyH_take (i := 30) (oi := ⟨some 77, _, _, _, _, _⟩) (v := ?_) rfl (by kernel_rfl) (by kernel_rfl) (by kernel_rfl) (fun _ _ _ h => h) (Or.inl ⟨by rfl, ?_⟩) (by assumption) ?_
              rotate_left
              · intro WW hSw
                try dsimp only at hSw
                go_simp
                try with_reducible rfl
              try simp only [Act.put, List.setIfInBounds_toArray, List.set_cons_zero, List.set_cons_succ]
              refine wpAnyH_take (i := 31) (oi := ⟨some 78, _, _, _, _, _⟩) (v := ?_) rfl (by kernel_rfl) (by kernel_rfl) (by kernel_rfl) (fun _ _ _ h => h) (Or.inl ⟨by rfl, ?_⟩) (by assumption) ?_
              rotate_left
              · intro WW hSw
                try dsimp only at hSw
                go_simp
                try with_reducible rfl
              try simp only [Act.put, List.setIfInBounds_toArray, List.set_cons_zero, List.set_cons_succ]
              refine wpAnyH_take (i := 32) (oi := ⟨some 79, _, _, _, _, _⟩) (v := ?_) rfl (by kernel_rfl) (by kernel_rfl) (by kernel_rfl) (fun _ _ _ h => h) (Or.inl ⟨by rfl, ?_⟩) (by assumption) ?_
              rotate_left
              · intro WW hSw
                try dsimp only at hSw
                go_simp
                try with_reducible rfl
              try simp only [Act.put, List.setIfInBounds_toArray, List.set_cons_zero, List.set_cons_succ]
              refine wpAnyH_take (i := 33) (oi := ⟨some 80, _, _, _, _, _⟩) (v := ?_) rfl (by kernel_rfl) (by kernel_rfl) (by kernel_rfl) (fun _ _ _ h => h) (Or.inl ⟨by rfl, ?_⟩) (by assumption) ?_
              rotate_left
              · intro WW hSw
                try dsimp only at hSw
                go_simp
                try with_reducible rfl
              try simp only [Act.put, List.setIfInBounds_toArray, List.set_cons_zero, List.set_cons_succ]
              refine wpAnyH_take (i := 34) (oi := ⟨some 81, _, _, _, _, _⟩) (v := ?_) rfl (by kernel_rfl) (by kernel_rfl) (by kernel_rfl) (fun _ _ _ h => h) (Or.inl ⟨by rfl, ?_⟩) (by assumption) ?_
              rotate_left
              · intro WW hSw
                try dsimp only at hSw
                go_simp
                try with_reducible rfl
              try simp only [Act.put, List.setIfInBounds_toArray, List.set_cons_zero, List.set_cons_succ]
              refine wpAnyH_take (i := 35) (oi := ⟨some 82, _, _, _, _, _⟩) (v := ?_) rfl (by kernel_rfl) (by kernel_rfl) (by kernel_rfl) (fun _ _ _ h => h) (Or.inl ⟨by rfl, ?_⟩) (by assumption) ?_
              rotate_left
              · intro WW hSw
                try dsimp only at hSw
                go_simp
                try with_reducible rfl
              try simp only [Act.put, List.setIfInBounds_toArray, List.set_cons_zero, List.set_cons_succ]
              refine wpAnyH_take (i := 36) (oi := ⟨some 83, _, _, _, _, _⟩) (v := ?_) rfl (by kernel_rfl) (by kernel_rfl) (by kernel_rfl) (fun _ _ _ h => h) (Or.inl ⟨by rfl, ?_⟩) (by assumption) ?_
              rotate_left
              · intro WW hSw
                try dsimp only at hSw
                go_simp
                try with_reducible rfl
              try simp only [Act.put, List.setIfInBounds_toArray, List.set_cons_zero, List.set_cons_succ]
              refine wpAnyH_take (i := 37) (oi := ⟨some 84, _, _, _, _, _⟩) (v := ?_) rfl (by kernel_rfl) (by kernel_rfl) (by kernel_rfl) (fun _ _ _ h => h) (Or.inl ⟨by rfl, ?_⟩) (by assumption) ?_
              rotate_left
              · intro WW hSw
                try dsimp only at hSw
                go_simp
                try with_reducible rfl
              try simp only [Act.put, List.setIfInBounds_toArray, List.set_cons_zero, List.set_cons_succ]
              refine wpAnyH_take (i := 38) (oi := ⟨some 85, _, _, _, _, _⟩) (v := ?_) rfl (by kernel_rfl) (by kernel_rfl) (by kernel_rfl) (fun _ _ _ h => h) (Or.inl ⟨by rfl, ?_⟩) (by assumption) ?_
              rotate_left
              · intro WW hSw
                try dsimp only at hSw
                go_simp
                try with_reducible rfl
              try simp only [Act.put, List.setIfInBounds_toArray, List.set_cons_zero, List.set_cons_succ]
              refine wpAnyH_take (i := 39) (oi := ⟨some 86, _, _, _, _, _⟩) (v := ?_) rfl (by kernel_rfl) (by kernel_rfl) (by kernel_rfl) (fun _ _ _ h => h) (Or.inl ⟨by rfl, ?_⟩) (by assumption) ?_
              rotate_left
              · intro WW hSw
                try dsimp only at hSw
                go_simp
                try with_reducible rfl
              try simp only [Act.put, List.setIfInBounds_toArray, List.set_cons_zero, List.set_cons_succ]
              refine wpAnyH_take (i := 40) (oi := ⟨some 87, _, _, _, _, _⟩) (v := ?_) rfl (by kernel_rfl) (by kernel_rfl) (by kernel_rfl) (fun _ _ _ h => h) (Or.inl ⟨by rfl, ?_⟩) (by assumption) ?_
              rotate_left
              · intro WW hSw
                try dsimp only at hSw
                go_simp
                try with_reducible rfl
              try simp only [Act.put, List.setIfInBounds_toArray, List.set_cons_zero, List.set_cons_succ]
              refine wpAnyH_take (i := 41) (oi := ⟨some 88, _, _, _, _, _⟩) (v := ?_) rfl (by kernel_rfl) (by kernel_rfl) (by kernel_rfl) (fun _ _ _ h => h) (Or.inl ⟨by rfl, ?_⟩) (by assumption) ?_
              rotate_left
              · intro WW hSw
                try dsimp only at hSw
                go_simp
                try with_reducible rfl
              try simp only [Act.put, List.setIfInBounds_toArray, List.set_cons_zero, List.set_cons_succ]
              refine wpAnyH_take (i := 42) (oi := ⟨some 89, _, _, _, _, _⟩) (v := ?_) rfl (by kernel_rfl) (by kernel_rfl) (by kernel_rfl) (fun _ _ _ h => h) (Or.inl ⟨by rfl, ?_⟩) (by assumption) ?_
              rotate_left
              · intro WW hSw
                try dsimp only at hSw
                go_simp
                try with_reducible rfl
              try simp only [Act.put, List.setIfInBounds_toArray, List.set_cons_zero, List.set_cons_succ]
              refine wpAnyH_done (by kernel_rfl) ?_ _
              all_goals
                go_wp2_with fail
                go_meet
                exact ⟨rfl, z2⟩
          case rest =>
            obtain ⟨rfl, BX⟩ := hcut
            obtain ⟨we, rfl⟩ : ∃ we : World, we = wc := ⟨_, rfl⟩
            have G6 := Lib.hid (G5.out.later BX.out)
            have F6 := Lib.hid (F5.out.later BX.out)
            obtain ⟨e1, e2⟩ := G6.out.fb.cells
            obtain ⟨e3, e4⟩ := F6.out.fb.cells
            obtain ⟨e5, e6⟩ := F6.out.fb.froz
            have F7 := Lib.hid (F6.out.set G6.out)
            clear s0 s1 s2 s3 s4 s5 z0 HX BX HOG HFO HOX k1 K4 k2 k3
            by_cases h5 : (k : Int) % 5 = 4
            · have h5b : ((k : Int) % 5 == 4) = true := by simpa using h5
              clear h5
              go_wp2_with fail
              generalize (we.setCell ⟨w.heap.size, 0, none⟩ (.int .i64 lr)).setCell ⟨w.heap.size, 1, none⟩ (.slice A5 Mr.length c5) = wf at *
              have hlo := lift_ok R1.out ax
              have hlm := fOf_lift (up_ge (low := lr) ax) ask Mr
              have hll : (liftL (upP lr ax) Mr).length ≤ Mr.length := List.length_filter_le _ _
              have hli := fun W (hF : LI w W lr A5 c5 Mr) => lift_any lr A5 c5 Mr W hF.fb.rd hF.cap (by omega) ax
              generalize upP lr ax = l2 at *
              generalize liftL l2 Mr = M2 at *
              have HLO := Lib.hid hlo
              have HLM := Lib.hid hlm
              have HLI := Lib.hid hli
              have hX : ∀ W, Below wf.heap.size wf W → W.cell? ⟨(ad.add (k * 2)).block, (ad.add (k * 2)).off + 1, none⟩ = some (.int .i64 ax) ∧ W.cell? ⟨w.heap.size, 0, none⟩ = some (.int .i64 lr) ∧ W.cell? ⟨w.heap.size, 1, none⟩ = some (.slice A5 Mr.length c5) := fun W hW =>
                ⟨HXE.out W (F7.out.later hW).bel, (F7.out.later hW).fb.cells.1, (F7.out.later hW).fb.cells.2⟩
              obtain ⟨s0, s1, s2⟩ := hX wf (Below.refl _ _)
              have HX := Lib.hid hX
              have b0 : Hid (Below wf.heap.size wf wf.drew) := Drawn0.below ⟨1, rfl⟩
              have bz : Hid (Below wf.heap.size wf (wf.alloc (.cells #[.int .i64 0, .slice none 0 0] 24)).drew) := ((bel_alloc _ _).trans ((Drawn0.below ⟨1, rfl⟩).mono (bel_alloc _ _).size))
              have HLTW := Lib.hid (F7.out.fb.lt)
              clear hlo hlm hli hX
              go_cut [11] (fun t wx => ∃ g A5 c5, t = .pointer (some ⟨g, 0, none⟩) ∧ Hid (GR w wx g l2 A5 c5 M2 ∧ Below wf.heap.size wf wx))
              case first =>
                go_region_held3 (fun w' => w'.cell? ⟨(ad.add (k * 2)).block, (ad.add (k * 2)).off + 1, none⟩ = some (.int .i64 ax) ∧ w'.cell? ⟨w.heap.size, 0, none⟩ = some (.int .i64 lr) ∧ w'.cell? ⟨w.heap.size, 1, none⟩ = some (.slice A5 Mr.length c5)) (first | exact ⟨s0, s1, s2⟩ | exact HX.out _ b0.out | exact HX.out _ bz.out | exact HX.out _ b5.out | exact HX.out _ (b0.out.trans ((bel_alloc _ _).mono b0.out.size)) | exact HX.out _ (b5.out.trans ((bel_alloc _ _).mono b5.out.size)) | exact HX.out _ ((b5.out.setCell (Nat.le_refl _) _).setCell (Nat.le_refl _) _))
                  ((go_at_call 18; first
                    | (((with_reducible refine (HLI.out wf.drew (F7.out.later b0.out)).mono ?_)); rintro e w7 ⟨v7, rfl, hr7, hb7⟩; obtain ⟨A7, c7, rfl, hc7, _⟩ := Kd.R_reads hr7; have R7 := Lib.hid (Kd.R_lower hr7 (show w.heap.size ≤ wf.drew.heap.size from Nat.le_trans F7.out.bel.size b0.out.size)); have b5 := Lib.hid (b0.out.trans (hb7.mono b0.out.size)); clear hr7 hb7)
                    | (((with_reducible refine (HLI.out ((wf.alloc (.cells #[.int .i64 0, .slice none 0 0] 24)).drew) (F7.out.later bz.out)).mono ?_)); rintro e w7 ⟨v7, rfl, hr7, hb7⟩; obtain ⟨A7, c7, rfl, hc7, _⟩ := Kd.R_reads hr7; have R7 := Lib.hid (Kd.R_lower hr7 (show w.heap.size ≤ (wf.alloc (.cells #[.int .i64 0, .slice none 0 0] 24)).drew.heap.size from Nat.le_trans F7.out.bel.size bz.out.size)); have b5 := Lib.hid (bz.out.trans (hb7.mono bz.out.size)); have Y5 := Lib.hid ((hb7.block wf.heap.size (by simp)).trans (heap_alloc_new wf (.cells #[.int .i64 0, .slice none 0 0] 24))); have y0 : w7.cell? ⟨wf.heap.size, 0, none⟩ = some (.int .i64 0) := cell_of_row w7 _ 0 _ _ (0, 0) Y5.out; have y1 : w7.cell? ⟨wf.heap.size, 1, none⟩ = some (.slice none 0 0) := cell_of_row w7 _ 1 _ _ (0, 0) Y5.out; have v0 : w7.frozen? ⟨wf.heap.size, 0, none⟩ = false := (by simp [World.frozen?, Y5.out]); have v1 : w7.frozen? ⟨wf.heap.size, 1, none⟩ = false := (by simp [World.frozen?, Y5.out]); clear hr7 hb7)))
                · go_wp2_with fail
                  go_meet
                  exact ⟨_, A7, c7, rfl, ⟨heap_alloc_new _ _, Nat.lt_of_lt_of_le HLTW.out b5.out.size, hc7, Kd.R_below R7.out (bel_alloc _ _)⟩, b5.out.trans ((bel_alloc _ _).mono b5.out.size)⟩
                · go_wp2_with fail
                  go_meet
                  exact ⟨_, A7, c7, rfl, ⟨(set2 Y5.out _ _).1, HLTW.out, hc7, R_put2 R7.out Y5.out _ _⟩, (b5.out.setCell (Nat.le_refl _) _).setCell (Nat.le_refl _) _⟩
              case rest =>
                obtain ⟨g7, A7, c7, rfl, HG7⟩ := hcut
                obtain ⟨wg, rfl⟩ : ∃ wg : World, wg = wc := ⟨_, rfl⟩
                have G7 := Lib.hid HG7.out.1
                have F8 := Lib.hid (F7.out.later HG7.out.2)
                obtain ⟨oa, hoa⟩ : ∃ oa, oa = fOf lr Mr ask := ⟨_, rfl⟩
                obtain ⟨ob, hob⟩ : ∃ ob, ob = fOf l2 M2 ask := ⟨_, rfl⟩
                have HOA := Lib.hid (show ∀ W, Below wg.heap.size wg W → Calls Tryd.prog 14 #[.agg #[.int .i64 lr, .slice A5 Mr.length c5], .int .u64 ask] W fun e w' => e = .returned (.int .i64 oa) ∧ Below wg.heap.size wg w' from fun W hW => by
                  rw [hoa]
                  exact ((F8.out.later hW).fb.of (by omega) R1.out.2.1 R1.out.1 ask).mono fun e w' ⟨he, hb⟩ => ⟨he, hW.trans (hb.mono hW.size)⟩)
                have HOB := Lib.hid (show ∀ W, Below wg.heap.size wg W → Calls Tryd.prog 14 #[.agg #[.int .i64 l2, .slice A7 M2.length c7], .int .u64 ask] W fun e w' => e = .returned (.int .i64 ob) ∧ Below wg.heap.size wg w' from fun W hW => by
                  rw [hob]
                  exact ((G7.out.later hW).fb.of (by omega) HLO.out.2.1 HLO.out.1 ask).mono fun e w' ⟨he, hb⟩ => ⟨he, hW.trans (hb.mono hW.size)⟩)
                have k1 : decide (ob < oa) = false := decide_eq_false (by rw [hoa, hob]; have := HLM.out; omega)
                have hX2 : ∀ W, Below wg.heap.size wg W → W.cell? ⟨w.heap.size, 0, none⟩ = some (.int .i64 lr) ∧ W.cell? ⟨w.heap.size, 1, none⟩ = some (.slice A5 Mr.length c5) ∧ W.cell? ⟨g7, 0, none⟩ = some (.int .i64 l2) ∧ W.cell? ⟨g7, 1, none⟩ = some (.slice A7 M2.length c7) := fun W hW =>
                  ⟨(F8.out.later hW).fb.cells.1, (F8.out.later hW).fb.cells.2, (G7.out.later hW).fb.cells.1, (G7.out.later hW).fb.cells.2⟩
                have z0 : Hid (Below wg.heap.size wg wg.drew) := Drawn0.below ⟨1, rfl⟩
                clear hoa hob s0 s1 s2 HX HLM HG7 HLI F7 b0 bz
                obtain ⟨s0, s1, s2, s3⟩ := hX2 wg (Below.refl _ _)
                have HX := Lib.hid hX2
                clear hX2
                go_wp2_with fail
                go_cut [107] (fun cc wx => cc = .bool false ∧ Hid (Below wg.heap.size wg wx))
                case first =>
                  go_region_held3 (fun w' => w'.cell? ⟨w.heap.size, 0, none⟩ = some (.int .i64 lr) ∧ w'.cell? ⟨w.heap.size, 1, none⟩ = some (.slice A5 Mr.length c5) ∧ w'.cell? ⟨g7, 0, none⟩ = some (.int .i64 l2) ∧ w'.cell? ⟨g7, 1, none⟩ = some (.slice A7 M2.length c7))
                    (first | exact ⟨s0, s1, s2, s3⟩ | exact HX.out _ z0.out | exact HX.out _ z1.out | exact HX.out _ z2.out)
                    ((go_at_call 14; first
                      | (((with_reducible refine (HOA.out _ z1.out).mono ?_)); rintro e y2 ⟨rfl, hb⟩; have z2 := Lib.hid hb; clear hb)
                      | (((with_reducible refine (HOB.out _ z0.out).mono ?_)); rintro e y1 ⟨rfl, hb⟩; have z1 := Lib.hid hb; clear hb)))
                  all_goals
                    go_wp2_with fail
                    go_meet
                    exact ⟨rfl, z2⟩
                case rest =>
                  obtain ⟨rfl, BY⟩ := hcut
                  obtain ⟨wh, rfl⟩ : ∃ wh : World, wh = wc := ⟨_, rfl⟩
                  have G8 := Lib.hid (G7.out.later BY.out)
                  have F9 := Lib.hid (F8.out.later BY.out)
                  obtain ⟨n1, n2⟩ := G8.out.fb.cells
                  obtain ⟨n3, n4⟩ := F9.out.fb.cells
                  obtain ⟨n5, n6⟩ := F9.out.fb.froz
                  have FA := Lib.hid (F9.out.set G8.out)
                  have hg7 := G8.out.ne
                  clear s0 s1 s2 s3 z0 HX BY HOA HOB k1
                  go_wp2_with fail
                  generalize (wh.setCell ⟨w.heap.size, 0, none⟩ (.int .i64 l2)).setCell ⟨w.heap.size, 1, none⟩ (.slice A7 M2.length c7) = wi at *
                  go_roundw
                  case rel => exact ⟨k + 1, l2, A7, c7, M2, by omega, by go_num, by omega, by omega, FA.out, HLO.out⟩
                  case measure => simp [intOf]; omega
            · have h5b : ((k : Int) % 5 == 4) = false := by simpa using h5
              clear h5
              go_wp2_with fail
              generalize (we.setCell ⟨w.heap.size, 0, none⟩ (.int .i64 lr)).setCell ⟨w.heap.size, 1, none⟩ (.slice A5 Mr.length c5) = wf at *
              go_roundw
              case rel => exact ⟨k + 1, lr, A5, c5, Mr, by omega, by go_num, hn1, hn2, F7.out, R1.out⟩
              case measure => simp [intOf]; omega
      · have hkl : k = l.length := by omega
        have hi3 : ¬ (k : Int) < (l.length : Int) := by omega
        clear hkl
        go_wp2_with fail
        refine (HW.out _ FO.out.bel).mono ?_
        rintro e w9 ⟨rfl, hb9⟩
        have HB9 := Lib.hid hb9
        clear hb9
        go_wp2_with fail
        go_ret
        exact ⟨rfl, HB9.out⟩
  · have hd3 : (chk low L != 0) = true ∨ ((chk low L != 0) = false ∧ (decide (60 < (l.length : Int)) = true ∨ (decide (60 < (l.length : Int)) = false ∧ decide (limit < (L.length : Int)) = true))) := by
      by_cases h1 : chk low L = 0
      · refine .inr ⟨by simpa using h1, ?_⟩
        by_cases h2 : 60 < l.length
        · exact .inl (decide_eq_true (by omega))
        · refine .inr ⟨decide_eq_false (by omega), decide_eq_true ?_⟩
          rcases Int.lt_or_le limit (L.length : Int) with h3 | h3
          · exact h3
          · exact absurd ⟨h1, by omega, h3⟩ hgd
      · exact .inl (by simpa using h1)
    clear hgd hg hC hD
    rcases hd3 with d1 | ⟨d1, d2 | ⟨d2, d3⟩⟩
    all_goals
      go_enter Tryd.func5, Tryd.ntmps5
      go_wp2_with fail
      refine HRC.out.mono ?_
      rintro e w2 ⟨rfl, hb2⟩
      have F2 := Lib.hid (F0.out.later hb2)
      clear hb2 HRC c0 c1
      obtain ⟨c0, c1⟩ := F2.out.fb.cells
      go_wp2_with fail
      refine (HW.out _ F2.out.bel).mono ?_
      rintro e w9 ⟨rfl, hb9⟩
      have HB9 := Lib.hid hb9
      clear hb9
      go_wp2_with fail
      go_ret
      exact ⟨rfl, HB9.out⟩
end Go.Proofs.YtmoiochblmdgfaaDoor
