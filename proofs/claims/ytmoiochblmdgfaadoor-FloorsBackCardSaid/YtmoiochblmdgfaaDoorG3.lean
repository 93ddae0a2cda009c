/- Floors: Raise: what it comes to, and the walk. Floors: the document's Raise: the plain law, and the walk. Floors: the walk of the document's Raise. -/
import Derived.Test.YtmoiochblmdgfaaDoorG2
namespace Go.Proofs.YtmoiochblmdgfaaDoor
set_option linter.unusedVariables false
set_option linter.unusedSimpArgs false
open Go.RowKit Go.Proofs.YtmoiochblmdgfaaDoorW.PrintWords
attribute [local go_sem ↓] Go.wp_at_zero Go.wp_at_succ

def minA : Int → List Fl → Int
  | a, [] => a
  | a, x :: r => minA (if x.f1 < a then x.f1 else a) r
def minL : List Fl → Int
  | [] => 0
  | x :: r => minA x.f1 r
theorem minA_le : ∀ (L : List Fl) (a : Int), minA a L ≤ a ∧ ∀ y ∈ L, minA a L ≤ y.f1
  | [], a => ⟨Int.le_refl _, fun y hy => by cases hy⟩
  | x :: r, a => by
    obtain ⟨h1, h2⟩ := minA_le r (if x.f1 < a then x.f1 else a)
    rw [minA]
    have h3 : (if x.f1 < a then x.f1 else a) ≤ a ∧ (if x.f1 < a then x.f1 else a) ≤ x.f1 := by split <;> omega
    refine ⟨Int.le_trans h1 h3.1, fun y hy => ?_⟩
    rcases List.mem_cons.1 hy with rfl | hy
    · exact Int.le_trans h1 h3.2
    · exact h2 y hy
theorem minA_in : ∀ (L : List Fl) (a : Int), minA a L = a ∨ ∃ y ∈ L, minA a L = y.f1
  | [], a => .inl rfl
  | x :: r, a => by
    rw [minA]
    rcases minA_in r (if x.f1 < a then x.f1 else a) with h | ⟨y, hy, h⟩
    · by_cases hx : x.f1 < a
      · exact .inr ⟨x, List.mem_cons_self, by rw [h, if_pos hx]⟩
      · exact .inl (by rw [h, if_neg hx])
    · exact .inr ⟨y, List.mem_cons_of_mem _ hy, h⟩
theorem minL_le {L : List Fl} {y : Fl} (hy : y ∈ L) : minL L ≤ y.f1 := by
  cases L with
  | nil => cases hy
  | cons x r =>
    rcases List.mem_cons.1 hy with rfl | hy
    · exact (minA_le r _).1
    · exact (minA_le r _).2 y hy
theorem minL_in {L : List Fl} (h : 0 < L.length) : ∃ y ∈ L, minL L = y.f1 := by
  cases L with
  | nil => cases h
  | cons x r =>
    rcases minA_in r x.f1 with h | ⟨y, hy, h⟩
    · exact ⟨x, List.mem_cons_self, h⟩
    · exact ⟨y, List.mem_cons_of_mem _ hy, h⟩
theorem minL_of {L : List Fl} {x : Fl} (hx : x ∈ L) (h : ∀ y ∈ L, x.f1 ≤ y.f1) : minL L = x.f1 := by
  obtain ⟨y, hy, e⟩ := minL_in (List.length_pos_of_mem hx)
  have h1 := minL_le hx
  have h2 := h y hy
  omega
/-- Floors in their bounds. -/
def BL (low : Int) (L : List Fl) : Prop := 0 ≤ low ∧ low ≤ 1099511627776 ∧ ∀ x ∈ L, low < x.f1 ∧ x.f1 ≤ 1099511627776
theorem upP_min {low : Int} {L : List Fl} (h : BL low L) (h0 : 0 < L.length) : upP low (minL L) = minL L := by
  obtain ⟨y, hy, e⟩ := minL_in h0
  have := h.2.2 y hy
  unfold upP
  omega
theorem BL_lift {low : Int} {L : List Fl} (h : BL low L) (n : Int) : BL (upP low n) (liftL (upP low n) L) := by
  obtain ⟨h1, h2, h3⟩ := h
  refine ⟨by unfold upP; omega, by unfold upP; omega, fun x hx => ?_⟩
  have h4 := List.mem_filter.1 hx
  exact ⟨of_decide_eq_true h4.2, (h3 x h4.1).2⟩
theorem lift_lt {low : Int} {L : List Fl} (h : BL low L) (h0 : 0 < L.length) : (liftL (upP low (minL L)) L).length < L.length := by
  obtain ⟨y, hy, e⟩ := minL_in h0
  rw [upP_min h h0]
  rcases Nat.lt_or_ge (liftL (minL L) L).length L.length with h1 | h1
  · exact h1
  · have h2 := List.length_filter_eq_length_iff.1 (Nat.le_antisymm (List.length_filter_le _ _) h1) y hy
    have := of_decide_eq_true h2
    omega
def trimF : Nat → Nat → Int → List Fl → Int × List Fl
  | 0, _, low, L => (low, L)
  | n + 1, k, low, L => if k < L.length then trimF n k (upP low (minL L)) (liftL (upP low (minL L)) L) else (low, L)
def kOf (limit : Int) : Nat := (max (min limit 12) 0).toNat
def putL (L : List Fl) (h n : Int) : List Fl := if hasF L h = true then L.set (lbF L h) ⟨h, n⟩ else ins L (lbF L h) ⟨h, n⟩
def raiseP (low : Int) (L : List Fl) (h at_ limit : Int) : Int × List Fl :=
  if min at_ 1099511627776 ≤ fOf low L h then (low, L) else trimF (L.length + 1) (kOf limit) low (putL L h (min at_ 1099511627776))
theorem fOf_ge {low : Int} {L : List Fl} (hb : ∀ x ∈ L, low < x.f1) (h : Int) : low ≤ fOf low L h := by
  induction L with
  | nil => exact Int.le_refl _
  | cons x r ih =>
    rw [fOf]
    split
    · have := hb x List.mem_cons_self
      omega
    · exact ih fun y hy => hb y (List.mem_cons_of_mem _ hy)
theorem put_mem {L : List Fl} {h n : Int} {x : Fl} (hx : x ∈ putL L h n) : x ∈ L ∨ x = ⟨h, n⟩ := by
  unfold putL at hx
  split at hx
  · exact List.mem_or_eq_of_mem_set hx
  · unfold ins at hx
    rcases List.mem_append.1 hx with h1 | h1
    · exact .inl (List.mem_of_mem_take h1)
    · rcases List.mem_cons.1 h1 with h1 | h1
      · exact .inr h1
      · exact .inl (List.mem_of_mem_drop h1)
theorem put_len (L : List Fl) (h n : Int) : (putL L h n).length ≤ L.length + 1 := by
  unfold putL
  split
  · simp
  · rw [ins_len _ _ _ (lbF_le L h)]
    exact Nat.le_refl _
theorem BL_put {low : Int} {L : List Fl} (hb : BL low L) {h n : Int} (h1 : low < n) (h2 : n ≤ 1099511627776) : BL low (putL L h n) :=
  ⟨hb.1, hb.2.1, fun x hx => by
    rcases put_mem hx with h3 | rfl
    · exact hb.2.2 x h3
    · exact ⟨h1, h2⟩⟩
theorem OwnFl.set1 {w : World} {base g n cap : Nat} {L : List Fl} (h : OwnFl w base (.slice (some ⟨g, 0, none⟩) n cap) L) {i : Nat} (hi : i < L.length) (x : Int) :
    OwnFl (w.setCell ⟨g, i * 2 + 1, none⟩ (.int .i64 x)) base (.slice (some ⟨g, 0, none⟩) n cap) (L.set i ⟨(fget L i).f0, x⟩) := by
  have h9 := h.set hi ⟨(fget L i).f0, x⟩
  obtain ⟨c0, c1, _⟩ := h.cells hi
  obtain ⟨hn, cur, h1, h2, h3, h4, h5, h6⟩ := h.block
  have hs : w.setCell ⟨g, i * 2, none⟩ (.int .u64 (fget L i).f0) = w := by
    rw [cell_row h2] at c0
    obtain ⟨hlt, he⟩ := Array.getElem?_eq_some_iff.1 c0
    have : cur.setIfInBounds (i * 2) (.int .u64 (fget L i).f0) = cur := by
      apply Array.ext
      · simp
      · intro j h8 h9
        rw [Array.getElem_setIfInBounds]
        split
        · rename_i e
          subst e
          exact he.symm
        · rfl
    rw [setCell_eq_setRow w g (i * 2) cur _ _ _ h2, this, setRow_self w g cur _ _ h2]
  rw [hs] at h9
  exact h9

/-- Floors that a call has in a cell of its own. -/
def RSt (w2 : World) (q : Nat) (W : World) (low : Int) (L : List Fl) : Prop := ∃ A c, W.heap[q]? = some (.cells #[.int .i64 low, .slice A L.length c] 24 (0, 0)) ∧ L.length ≤ c ∧ kF.C W A L.length L ∧ kF.R 43 W w2.heap.size (fun _ => True) (.slice A L.length c) L ∧ Below w2.heap.size w2 W
theorem RSt.mk {w2 : World} {q : Nat} {W : World} {low : Int} {L : List Fl} {v : Value} (h1 : W.heap[q]? = some (.cells #[.int .i64 low, v] 24 (0, 0))) (h2 : kF.R 43 W w2.heap.size (fun _ => True) v L) (h3 : Below w2.heap.size w2 W) : RSt w2 q W low L := by
  obtain ⟨A, c, rfl, hc, hC⟩ := Kd.R_reads h2
  exact ⟨A, c, h1, hc, hC, h2, h3⟩
theorem set_b {w : World} {b : Nat} {t : TypeId} {y0 y1 : Value} (h : w.heap[b]? = some (.cells #[y0, y1] t (0, 0))) (x1 : Value) :
    (w.setCell ⟨b, 1, none⟩ x1).heap[b]? = some (.cells #[y0, x1] t (0, 0)) := by
  have h1 := blk_set h 1 x1
  simpa using h1

set_option maxHeartbeats 4000000 in
set_option maxRecDepth 100000 in
theorem Raise_any (low : Int) (A : Option Addr) (c : Nat) (L : List Fl) (h at_ limit : Int) (w : World) (hC : kF.C w A L.length L) (hc : L.length ≤ c) (hL : L.length < 900) (hR : Ris L) (hB : BL low L) :
    Calls Tryd.prog 17 #[.agg #[.int .i64 low, .slice A L.length c], .int .u64 h, .int .i64 at_, .int .i64 limit] w (FlPost w (raiseP low L h at_ limit).1 (raiseP low L h at_ limit).2) := by
  have HC := Lib.hid hC
  have HR := Lib.hid hR
  have HB := Lib.hid hB
  clear hC hR hB
  go_enter Tryd.func17, Tryd.ntmps17
  go_wp2_with fail
  have hbox : ((w.alloc (.cells #[.int .i64 low, .slice A L.length c] 24)).alloc (.cells #[.int .i64 0, .slice none 0 0] 24)).heap[w.heap.size]? = some (.cells #[.int .i64 low, .slice A L.length c] 24 (0, 0)) := (Below.heap_alloc _ _ _ (by simp)).trans (heap_alloc_new _ _)
  have hzer : ((w.alloc (.cells #[.int .i64 low, .slice A L.length c] 24)).alloc (.cells #[.int .i64 0, .slice none 0 0] 24)).heap[w.heap.size + 1]? = some (.cells #[.int .i64 0, .slice none 0 0] 24 (0, 0)) := by
    have := heap_alloc_new (w.alloc (.cells #[.int .i64 low, .slice A L.length c] 24)) (.cells #[.int .i64 0, .slice none 0 0] 24)
    simpa using this
  have hbel : Below w.heap.size w ((w.alloc (.cells #[.int .i64 low, .slice A L.length c] 24)).alloc (.cells #[.int .i64 0, .slice none 0 0] 24)) := ((Below.refl _ _).alloc (Nat.le_refl _) _).alloc (by simp) _
  have hsz : w.heap.size + 2 = ((w.alloc (.cells #[.int .i64 low, .slice A L.length c] 24)).alloc (.cells #[.int .i64 0, .slice none 0 0] 24)).heap.size := by simp
  have HBOX := Lib.hid hbox
  have HZER := Lib.hid hzer
  have HBEL := Lib.hid hbel
  have HSZ := Lib.hid hsz
  clear hbox hzer hbel hsz
  generalize (w.alloc (.cells #[.int .i64 low, .slice A L.length c] 24)).alloc (.cells #[.int .i64 0, .slice none 0 0] 24) = w2 at *
  have HRP := Lib.hid (show raiseP low L h at_ limit = if min at_ 1099511627776 ≤ fOf low L h then (low, L) else trimF (L.length + 1) (kOf limit) low (putL L h (min at_ 1099511627776)) from rfl)
  have hn9 : min at_ 1099511627776 ≤ 1099511627776 := by omega
  refine (Of_any low A c L h _ (Kd.C_below HC.out HBEL.out) hc (by omega) HR.out (fun x hx => (HB.out.2.2 x hx).1)).mono ?_
  rintro e w3 ⟨rfl, hb3⟩
  have B3 := Lib.hid hb3
  have HFO := Lib.hid (fOf_ge (fun x hx => (HB.out.2.2 x hx).1) h : low ≤ fOf low L h)
  generalize min at_ 1099511627776 = n at *
  generalize raiseP low L h at_ limit = rp at *
  generalize fOf low L h = fo at *
  have hbx := (hb3.block w.heap.size (by have := HSZ.out; omega)).trans HBOX.out
  have x0 : w3.cell? ⟨w.heap.size, 0, none⟩ = some (.int .i64 low) := cell_of_row w3 _ 0 _ _ (0, 0) hbx
  have x1 : w3.cell? ⟨w.heap.size, 1, none⟩ = some (.slice A L.length c) := cell_of_row w3 _ 1 _ _ (0, 0) hbx
  clear hb3 hbx
  by_cases hle : n ≤ fo
  · have HX := Lib.hid (show rp = (low, L) by rw [HRP.out, if_pos hle])
    clear HRP
    go_wp2_with fail
    refine (Copy_any low A c L _ (Kd.C_below HC.out (HBEL.out.trans (B3.out.mono HBEL.out.size))) (by omega)).mono ?_
    rintro e w4 hp
    obtain ⟨A4, c4, rfl, hc4, hC4, hR4, hb4⟩ := hp.reads
    have B4 := Lib.hid (B3.out.trans (hb4.mono B3.out.size))
    have Z4 := Lib.hid ((B4.out.block (w.heap.size + 1) (by have := HSZ.out; omega)).trans HZER.out)
    have R4 := Lib.hid hR4
    have z0 : w4.cell? ⟨w.heap.size + 1, 0, none⟩ = some (.int .i64 0) := cell_of_row w4 _ 0 _ _ (0, 0) Z4.out
    have z1 : w4.cell? ⟨w.heap.size + 1, 1, none⟩ = some (.slice none 0 0) := cell_of_row w4 _ 1 _ _ (0, 0) Z4.out
    have f0 : w4.frozen? ⟨w.heap.size + 1, 0, none⟩ = false := by simp [World.frozen?, Z4.out]
    have f1 : w4.frozen? ⟨w.heap.size + 1, 1, none⟩ = false := by simp [World.frozen?, Z4.out]
    clear hp hC4 hR4 hb4
    go_wp2_with fail
    obtain ⟨q1, q2⟩ := set2 Z4.out (.int .i64 low) (.slice A4 L.length c4)
    refine bodyPost_ret (results_c rfl _ _ (w.heap.size + 1) 24 #[.int .i64 low, .slice A4 L.length c4] (0, 0) _ rfl q1 Tryd.underlying24 rfl (by kernel_rfl)) rfl ?_
    rw [HX.out]
    refine ⟨A4, _, c4, rfl, rfl, Kd.R_lower (R_put2 R4.out Z4.out _ _) (by have := HSZ.out; have := B3.out.size; omega), ?_⟩
    exact HBEL.out.trans (((B4.out.mono (show w.heap.size + 1 ≤ w2.heap.size by have := HSZ.out; omega)).setCell (p := ⟨w.heap.size + 1, 0, none⟩) (Nat.le_refl _) _).setCell (p := ⟨w.heap.size + 1, 1, none⟩) (Nat.le_refl _) _ |>.mono (by omega))
  · have HX := Lib.hid (show rp = trimF (L.length + 1) (kOf limit) low (putL L h n) by rw [HRP.out, if_neg hle])
    have hlt : low < n := by have := HFO.out; omega
    clear HRP
    go_wp2_with fail
    refine (Copy_any low A c L _ (Kd.C_below HC.out (HBEL.out.trans (B3.out.mono HBEL.out.size))) (by omega)).mono ?_
    rintro e w4 hp
    obtain ⟨A4, c4, rfl, hc4, hC4, hR4, hb4⟩ := hp.reads
    have B4 := Lib.hid (B3.out.trans (hb4.mono B3.out.size))
    have R4 := Lib.hid (Kd.R_lower hR4 B3.out.size)
    have C4 := Lib.hid hC4
    clear hp hC4 hR4 hb4 x0 x1
    go_wp2_with fail
    have B45 := Lib.hid (bel_alloc w4 (.cells #[.int .i64 low, .slice A4 L.length c4] 24))
    have HO5 := Lib.hid (heap_alloc_new w4 (.cells #[.int .i64 low, .slice A4 L.length c4] 24))
    have HLT := Lib.hid (show w4.heap.size < (w4.alloc (.cells #[.int .i64 low, .slice A4 L.length c4] 24)).heap.size by simp)
    generalize w4.alloc (.cells #[.int .i64 low, .slice A4 L.length c4] 24) = w5 at *
    have hq : w2.heap.size ≤ w4.heap.size := B4.out.size
    refine (find_any low A4 c4 L h _ (Kd.C_below C4.out B45.out) (by omega) HR.out).mono ?_
    rintro e w6 ⟨rfl, b6⟩
    have O6 := Lib.hid ((b6.block _ HLT.out).trans HO5.out)
    have R6 := Lib.hid (Kd.R_below (Kd.R_below R4.out B45.out) b6)
    have B6 := Lib.hid (B4.out.trans ((B45.out.trans (b6.mono B45.out.size)).mono B4.out.size))
    clear b6 B3 B4 B45 HO5 HLT R4 C4
    generalize w4.heap.size = q at *
    clear w3 w4 w5
    have o0 : w6.cell? ⟨q, 0, none⟩ = some (.int .i64 low) := cell_of_row w6 _ 0 _ _ (0, 0) O6.out
    have o1 : w6.cell? ⟨q, 1, none⟩ = some (.slice A4 L.length c4) := cell_of_row w6 _ 1 _ _ (0, 0) O6.out
    have HQ := Lib.hid hq
    go_upto_if 30 with (fail)
    go_cut [10, 11] (fun ix bx wx => Hid (RSt w2 q wx low (putL L h n)))
    case first =>
      have HOW := Lib.hid (OwnFl.of_R R6.out)
      have hpl := lbF_le L h
      have HHS := Lib.hid (show hasF L h = true → lbF L h < L.length ∧ (fget L (lbF L h)).f0 = h from fun e => of_decide_eq_true e)
      have HPT := Lib.hid (show putL L h n = if hasF L h = true then L.set (lbF L h) ⟨h, n⟩ else ins L (lbF L h) ⟨h, n⟩ from rfl)
      generalize putL L h n = PL at *
      generalize lbF L h = p at *
      cases hh : hasF L h with
      | true =>
        obtain ⟨hp, hf0⟩ := HHS.out hh
        have HP2 := Lib.hid (show PL = L.set p ⟨h, n⟩ by rw [HPT.out, hh]; rfl)
        have HF0 := Lib.hid hf0
        clear hh hf0 HPT
        rcases HOW.out.2 with ⟨_, h0⟩ | ⟨g, cap, cur, hv, hbg, hg, hnc, hcap, hsz, htk⟩
        · omega
        · injection hv with e1 e2 e3
          subst e1
          subst e3
          have hgq : g ≠ q := fun e => by rw [e, O6.out] at hg; cases hg
          have HG := Lib.hid hbg
          clear hg hnc hsz htk hcap cur hbg
          obtain ⟨d0, d1, df⟩ := HOW.out.cells hp
          have df1 := df (p * 2 + 1)
          clear df
          have i1 : (0 : Int) ≤ (p : Int) := by omega
          have i2 : (p : Int) < (L.length : Int) := by omega
          go_wp2_with fail
          go_meet
          have hO := HOW.out.set1 hp n
          rw [HF0.out] at hO
          rw [HP2.out]
          have hR := hO.to_R
          rw [show Value.slice (some ⟨g, 0, none⟩) L.length c4 = .slice (some ⟨g, 0, none⟩) (L.set p ⟨h, n⟩).length c4 by rw [List.length_set]] at hR
          refine RSt.mk ?_ hR (B6.out.setCell (p := ⟨g, p * 2 + 1, none⟩) HG.out _)
          rw [List.length_set]
          exact (Below.heap_setCell w6 ⟨g, p * 2 + 1, none⟩ _ q (fun e => hgq e.symm)).trans O6.out
      | false =>
        have HP2 := Lib.hid (show PL = ins L p ⟨h, n⟩ by rw [HPT.out, hh]; rfl)
        have HINS := Lib.hid (InsF_any w2.heap.size (.slice A4 L.length c4) L p ⟨h, n⟩ w6 hpl R6.out B6.out.size (by omega))
        have hq6 := World.block_lt_of_cell? w6 _ o0
        have HQ6 := Lib.hid (show q < w6.heap.size from hq6)
        clear hh HPT hq6
        go_wp2_with fail
        refine HINS.out.mono ?_
        rintro e w7 ⟨v7, rfl, hR7, hg7, hv7⟩
        obtain ⟨A7, c7, hv, _, _⟩ := Kd.R_reads hR7
        generalize (ins L p ⟨h, n⟩).length = l7 at hv
        subst hv
        have hown : (Value.slice A4 L.length c4).ownBlock ≠ some q := by
          rcases HOW.out.2 with ⟨hv, h0⟩ | ⟨g, cap, cur, hv, hbg, hg, hnc, hcap, hsz, htk⟩
          · injection hv with e1 e2 e3
            subst e1
            simp [Value.ownBlock]
          · injection hv with e1 e2 e3
            subst e1
            intro e
            injection e with e
            subst e
            rw [O6.out] at hg
            cases hg
        have O7 := Lib.hid ((hg7.block q HQ6.out (fun e => hown e.symm)).trans O6.out)
        have R7 := Lib.hid hR7
        have B7 := Lib.hid (show Below w2.heap.size w2 w7 from by
          refine ⟨hg7.os.trans B6.out.os, hg7.tape.trans B6.out.tape, hg7.output.trans B6.out.output, Nat.le_trans B6.out.size hg7.size, fun k hk => (hg7.block k (by have := B6.out.size; omega) (fun e => ?_)).trans (B6.out.block k hk)⟩
          rcases HOW.out.2 with ⟨hv, h0⟩ | ⟨g, cap, cur, hv, hbg, hg, hnc, hcap, hsz, htk⟩
          · injection hv with e1 e2 e3
            subst e1
            simp [Value.ownBlock] at e
          · injection hv with e1 e2 e3
            subst e1
            injection e with e
            subst e
            omega)
        clear hR7 hg7 hv7 o0 o1
        have o0 : w7.cell? ⟨q, 0, none⟩ = some (.int .i64 low) := cell_of_row w7 _ 0 _ _ (0, 0) O7.out
        have o1 : w7.cell? ⟨q, 1, none⟩ = some (.slice A4 L.length c4) := cell_of_row w7 _ 1 _ _ (0, 0) O7.out
        have f1 : w7.frozen? ⟨q, 1, none⟩ = false := by simp [World.frozen?, O7.out]
        go_wp2_with fail
        go_meet
        rw [HP2.out]
        exact RSt.mk (set_b O7.out _) (Kd.R_set R7.out O7.out (by decide) 1 _) (B7.out.setCell (p := ⟨q, 1, none⟩) HQ.out _)
    case rest =>
      have HPL := Lib.hid (put_len L h n)
      have HBP := Lib.hid (BL_put HB.out hlt hn9 : BL low (putL L h n))
      generalize putL L h n = PL at *
      obtain ⟨wb, rfl⟩ : ∃ wb : World, wb = wc := ⟨_, rfl⟩
      obtain ⟨k, hk⟩ : ∃ k, k = kOf limit := ⟨_, rfl⟩
      have HK := Lib.hid (show ∀ m : Nat, k < m ↔ max (min limit 12) 0 < (m : Int) from fun m => by rw [hk]; unfold kOf; omega)
      rw [← hk] at HX
      clear hk
      go_wp2_with fail
      go_loopg [] (L.length + 1) (fun r wr => ∃ low' L', L'.length ≤ r ∧ L'.length ≤ L.length + 1 ∧ Hid (BL low' L' ∧ trimF r k low' L' = rp ∧ RSt w2 q wr low' L'))
      case atStart => exact ⟨low, PL, HPL.out, HPL.out, HBP.out, HX.out.symm, hcut⟩
      case round =>
        obtain ⟨lw, M, hMr, hML, HD⟩ := hrel
        obtain ⟨hBM, hTM, A1, c1, hO, hc1, hC1, hR1, hB1⟩ := HD.out
        have HBM := Lib.hid hBM
        have HTM := Lib.hid hTM
        have O1 := Lib.hid hO
        have C1 := Lib.hid hC1
        have R1 := Lib.hid hR1
        have B1 := Lib.hid hB1
        obtain ⟨wo, rfl⟩ : ∃ wo : World, wo = wr := ⟨_, rfl⟩
        have o0 : wo.cell? ⟨q, 0, none⟩ = some (.int .i64 lw) := cell_of_row wo _ 0 _ _ (0, 0) hO
        have o1 : wo.cell? ⟨q, 1, none⟩ = some (.slice A1 M.length c1) := cell_of_row wo _ 1 _ _ (0, 0) hO
        have hqo := World.block_lt_of_cell? wo _ o0
        clear hBM hTM hO hC1 hR1 hB1
        by_cases hgt : max (min limit 12) 0 < (M.length : Int)
        · have hkM := (HK.out M.length).2 hgt
          obtain ⟨r', rfl⟩ : ∃ r', gk = r' + 1 := ⟨gk - 1, by omega⟩
          have hT2 : trimF r' k (upP lw (minL M)) (liftL (upP lw (minL M)) M) = rp := by
            have := HTM.out
            rw [trimF, if_pos hkM] at this
            exact this
          have HT2 := Lib.hid hT2
          have HBL := Lib.hid (BL_lift HBM.out (minL M))
          have hlt := lift_lt HBM.out (by omega : 0 < M.length)
          have HLF := Lib.hid (fun W hW => lift_any lw A1 c1 M W hW hc1 (by omega) (minL M))
          have HMI := Lib.hid (fun W hW => Min_any A1 c1 M W hW (by omega) (by omega) (fun x hx => ⟨by have := HBM.out.2.2 x hx; have := HBM.out.1; omega, (HBM.out.2.2 x hx).2⟩))
          clear hT2
          go_wp2_with fail
          refine (HMI.out _ C1.out).mono ?_
          rintro e w7 ⟨x, rfl, hx1, hx2, hb7⟩
          have hmx : minL M = x.f1 := minL_of hx1 hx2
          have B7 := Lib.hid hb7
          have HMX := Lib.hid hmx
          have O7 := Lib.hid ((hb7.block q hqo).trans O1.out)
          clear hx1 hx2 hb7 hmx o0 o1
          have o0 : w7.cell? ⟨q, 0, none⟩ = some (.int .i64 lw) := cell_of_row w7 _ 0 _ _ (0, 0) O7.out
          have o1 : w7.cell? ⟨q, 1, none⟩ = some (.slice A1 M.length c1) := cell_of_row w7 _ 1 _ _ (0, 0) O7.out
          have HQ7 := Lib.hid (World.block_lt_of_cell? w7 _ o0)
          have B8 := Lib.hid (bel_alloc w7 (.cells #[.int .u64 x.f0, .int .i64 x.f1] 43))
          have p0 := (B8.out.cell (p := ⟨q, 0, none⟩) HQ7.out).trans o0
          have p1 := (B8.out.cell (p := ⟨q, 1, none⟩) HQ7.out).trans o1
          go_wp2_with fail
          have B78 := Lib.hid (B7.out.trans (B8.out.mono B7.out.size))
          generalize w7.alloc (.cells #[.int .u64 x.f0, .int .i64 x.f1] 43) = w8 at *
          rw [HMX.out] at HLF HT2 HBL hlt
          refine (HLF.out _ (Kd.C_below C1.out B78.out)).mono ?_
          rintro e w9 ⟨v9, rfl, hR9, hb9⟩
          obtain ⟨A9, c9, rfl, hc9, hC9⟩ := Kd.R_reads hR9
          have B9 := Lib.hid (B1.out.trans ((B78.out.trans (hb9.mono B78.out.size)).mono B1.out.size))
          have O9 := Lib.hid (((B8.out.trans (hb9.mono B8.out.size)).block q HQ7.out).trans O7.out)
          have R9 := Lib.hid (Kd.R_lower hR9 (Nat.le_trans B1.out.size B78.out.size))
          clear hR9 hb9 hC9 o0 o1 p0 p1
          have o0 : w9.cell? ⟨q, 0, none⟩ = some (.int .i64 lw) := cell_of_row w9 _ 0 _ _ (0, 0) O9.out
          have o1 : w9.cell? ⟨q, 1, none⟩ = some (.slice A1 M.length c1) := cell_of_row w9 _ 1 _ _ (0, 0) O9.out
          have f0 : w9.frozen? ⟨q, 0, none⟩ = false := by simp [World.frozen?, O9.out]
          have f1 : w9.frozen? ⟨q, 1, none⟩ = false := by simp [World.frozen?, O9.out]
          go_wp2_with fail
          go_roundg r'
          case measure => omega
          case rel =>
            refine ⟨upP lw x.f1, liftL (upP lw x.f1) M, by omega, by omega, HBL.out, HT2.out, ?_⟩
            exact RSt.mk (set2 O9.out _ _).1 (R_put2 R9.out O9.out _ _) ((B9.out.setCell (p := ⟨q, 0, none⟩) HQ.out _).setCell (p := ⟨q, 1, none⟩) HQ.out _)
        · have HE := Lib.hid (show rp = (lw, M) by
            have h1 := HTM.out
            cases gk with
            | zero => exact h1.symm
            | succ r' =>
              rw [trimF, if_neg (fun e => hgt ((HK.out _).1 e))] at h1
              exact h1.symm)
          have Z9 := Lib.hid ((B1.out.block (w.heap.size + 1) (by have := HSZ.out; omega)).trans HZER.out)
          have z0 : wo.cell? ⟨w.heap.size + 1, 0, none⟩ = some (.int .i64 0) := cell_of_row wo _ 0 _ _ (0, 0) Z9.out
          have z1 : wo.cell? ⟨w.heap.size + 1, 1, none⟩ = some (.slice none 0 0) := cell_of_row wo _ 1 _ _ (0, 0) Z9.out
          have f0 : wo.frozen? ⟨w.heap.size + 1, 0, none⟩ = false := by simp [World.frozen?, Z9.out]
          have f1 : wo.frozen? ⟨w.heap.size + 1, 1, none⟩ = false := by simp [World.frozen?, Z9.out]
          go_wp2_with fail
          obtain ⟨q1, q2⟩ := set2 Z9.out (.int .i64 lw) (.slice A1 M.length c1)
          refine bodyPost_ret (results_c rfl _ _ (w.heap.size + 1) 24 #[.int .i64 lw, .slice A1 M.length c1] (0, 0) _ rfl q1 Tryd.underlying24 rfl (by kernel_rfl)) rfl ?_
          rw [HE.out]
          refine ⟨A1, _, c1, rfl, rfl, Kd.R_lower (R_put2 R1.out Z9.out _ _) (by have := HSZ.out; omega), ?_⟩
          exact HBEL.out.trans (((B1.out.mono (show w.heap.size + 1 ≤ w2.heap.size by have := HSZ.out; omega)).setCell (p := ⟨w.heap.size + 1, 0, none⟩) (Nat.le_refl _) _).setCell (p := ⟨w.heap.size + 1, 1, none⟩) (Nat.le_refl _) _ |>.mono (by omega))
end Go.Proofs.YtmoiochblmdgfaaDoor
namespace Go.Proofs.YtmoiochblmdgfaaDoor
set_option linter.unusedVariables false
set_option linter.unusedSimpArgs false
open Go.RowKit Go.Proofs.YtmoiochblmdgfaaDoorW.PrintWords
attribute [local go_sem ↓] Go.wp_at_zero Go.wp_at_succ

def insS (y : Fl) : List Fl → List Fl
  | [] => [y]
  | x :: r => if y.f0 < x.f0 then y :: x :: r else x :: insS y r
def tlS (y : Fl) (put : Bool) (r : List Fl) : List Fl := if put = true then r else insS y r
theorem tlS_nil (y : Fl) (put : Bool) : tlS y put [] = if put = true then [] else [y] := by cases put <;> rfl
theorem tlS_hit (y x : Fl) (r : List Fl) (h : y.f0 < x.f0) : tlS y false (x :: r) = y :: x :: tlS y true r := by
  show insS y (x :: r) = _
  rw [insS, if_pos h]
  rfl
theorem tlS_no (y x : Fl) (put : Bool) (r : List Fl) (h : put = true ∨ ¬ y.f0 < x.f0) : tlS y put (x :: r) = x :: tlS y put r := by
  cases put with
  | true => rfl
  | false =>
    show insS y (x :: r) = _
    rw [insS, if_neg (h.resolve_left (by decide))]
    rfl
theorem has_cons (x : Fl) (r : List Fl) (h : Int) : hasF (x :: r) h = if x.f0 < h then hasF r h else decide (x.f0 = h) := by
  unfold hasF
  rw [lbF_cons]
  by_cases e : x.f0 < h
  · rw [if_pos e, if_pos e, fget_cons]
    simp
  · rw [if_neg e, if_neg e]
    simp [fget]
theorem put_cons (x : Fl) (r : List Fl) (h n : Int) : putL (x :: r) h n = if x.f0 < h then x :: putL r h n else if x.f0 = h then ⟨h, n⟩ :: r else ⟨h, n⟩ :: x :: r := by
  unfold putL
  rw [has_cons, lbF_cons]
  by_cases e : x.f0 < h
  · rw [if_pos e, if_pos e, if_pos e]
    by_cases e2 : hasF r h = true
    · rw [if_pos e2, if_pos e2]
      rfl
    · rw [if_neg e2, if_neg e2]
      simp [ins]
  · rw [if_neg e, if_neg e, if_neg e]
    by_cases e2 : x.f0 = h
    · rw [if_pos (by simpa using e2), if_pos e2]
      rfl
    · rw [if_neg (by simpa using e2), if_neg e2]
      simp [ins]
theorem rel_id {h : Int} : ∀ {L : List Fl}, (∀ x ∈ L, h < x.f0) → relL L h = L
  | [], _ => rfl
  | x :: r, hx => by
    have := hx x List.mem_cons_self
    rw [relL_cons, if_neg (by omega), rel_id fun y hy => hx y (List.mem_cons_of_mem _ hy)]
theorem insS_head {y : Fl} : ∀ {L : List Fl}, (∀ x ∈ L, y.f0 < x.f0) → insS y L = y :: L
  | [], _ => rfl
  | x :: r, hx => by rw [insS, if_pos (hx x List.mem_cons_self)]
/-- Put where it belongs: the document's way, and the code's. -/
theorem ins_put (h n : Int) : ∀ (L : List Fl), Ris L → insS ⟨h, n⟩ (relL L h) = putL L h n
  | [], _ => by simp [relL, insS, putL, hasF, ins, lbF]
  | x :: r, hR => by
    obtain ⟨h1, h2⟩ := List.pairwise_cons.1 hR
    rw [put_cons, relL_cons]
    by_cases e : x.f0 < h
    · rw [if_pos e, if_neg (by omega), insS, if_neg (by show ¬ h < x.f0; omega), ins_put h n r h2]
    · rw [if_neg e]
      by_cases e2 : x.f0 = h
      · rw [if_pos e2, if_pos e2, rel_id (fun y hy => by have := h1 y hy; omega), insS_head (fun y hy => by have := h1 y hy; show h < y.f0; omega)]
      · rw [if_neg e2, if_neg e2, rel_id (fun y hy => by have := h1 y hy; omega), insS, if_pos (by show h < x.f0; omega)]
theorem del_cons (x : Fl) (r : List Fl) (h : Int) : delL (x :: r) h = if x.f0 < h then x :: delL r h else if x.f0 = h then r else x :: r := by
  unfold delL
  rw [has_cons, lbF_cons]
  by_cases e : x.f0 < h
  · rw [if_pos e, if_pos e, if_pos e]
    by_cases e2 : hasF r h = true
    · rw [if_pos e2, if_pos e2]
      rfl
    · rw [if_neg e2, if_neg e2]
  · rw [if_neg e, if_neg e, if_neg e]
    by_cases e2 : x.f0 = h
    · rw [if_pos (by simpa using e2), if_pos e2]
      rfl
    · rw [if_neg (by simpa using e2), if_neg e2]
theorem del_rel (h : Int) : ∀ (L : List Fl), Ris L → delL L h = relL L h
  | [], _ => rfl
  | x :: r, hR => by
    obtain ⟨h1, h2⟩ := List.pairwise_cons.1 hR
    rw [del_cons, relL_cons]
    by_cases e : x.f0 < h
    · rw [if_pos e, if_neg (by omega), del_rel h r h2]
    · rw [if_neg e]
      by_cases e2 : x.f0 = h
      · rw [if_pos e2, if_pos e2, rel_id (fun y hy => by have := h1 y hy; omega)]
      · rw [if_neg e2, if_neg e2, rel_id (fun y hy => by have := h1 y hy; omega)]
theorem minA_snoc (x : Fl) : ∀ (L : List Fl) (a : Int), minA a (L ++ [x]) = if x.f1 < minA a L then x.f1 else minA a L
  | [], a => rfl
  | y :: r, a => by
    rw [List.cons_append, minA, minA, minA_snoc x r]
theorem minA_self {L : List Fl} (h : 0 < L.length) : minA (fget L 0).f1 L = minL L := by
  cases L with
  | nil => cases h
  | cons x r =>
    show minA x.f1 (x :: r) = minA x.f1 r
    rw [minA, if_neg (by omega)]

/-- What the document's Raise has in its cells while it puts a floor. -/
structure LS (w2 w6 : World) (q10 q12 : Nat) (low : Int) (A5 : Option Addr) (c5 : Nat) (rest : List Fl) (W : World) (v : Value) (out : List Fl) : Prop where
  b10 : W.heap[q10]? = some (.cells #[.int .i64 low, v] 24 (0, 0))
  r10 : kF.R 43 W w6.heap.size (fun _ => True) v out
  b12 : W.heap[q12]? = some (.cells #[.int .i64 low, .slice A5 rest.length c5] 24 (0, 0))
  r12 : kF.R 43 W w2.heap.size (fun k => k < w6.heap.size) (.slice A5 rest.length c5) rest
  bel : Below w2.heap.size w2 W
  siz : w6.heap.size ≤ W.heap.size
theorem LS.later {w2 w6 : World} {q10 q12 : Nat} {low : Int} {A5 : Option Addr} {c5 : Nat} {rest : List Fl} {W W' : World} {v : Value} {out : List Fl} (h : LS w2 w6 q10 q12 low A5 c5 rest W v out) (hb : Below W.heap.size W W') : LS w2 w6 q10 q12 low A5 c5 rest W' v out :=
  ⟨(hb.block _ (Array.getElem?_eq_some_iff.1 h.b10).1).trans h.b10, Kd.R_below h.r10 hb, (hb.block _ (Array.getElem?_eq_some_iff.1 h.b12).1).trans h.b12, Kd.R_below h.r12 hb, h.bel.trans (hb.mono h.bel.size), Nat.le_trans h.siz hb.size⟩
theorem R_base {w : World} {base : Nat} {ok : Nat → Prop} {v : Value} {xs : List Fl} (h : kF.R 43 w base ok v xs) : ∀ k, v.ownBlock = some k → base ≤ k := by
  obtain ⟨inner, ho⟩ := Kd.R_own h
  exact fun k hk => own_base ho k hk
theorem LS.push {w2 w6 : World} {q10 q12 : Nat} {low : Int} {A5 : Option Addr} {c5 : Nat} {rest : List Fl} {W w1 : World} {v v1 : Value} {out : List Fl} {y : Fl} (h : LS w2 w6 q10 q12 low A5 c5 rest W v out)
    (hq : q10 < w6.heap.size) (hq2 : w2.heap.size ≤ q10) (hq3 : q12 < w6.heap.size) (hne : q12 ≠ q10) (hw : w2.heap.size ≤ w6.heap.size)
    (h1 : kF.R 43 w1 w6.heap.size (fun _ => True) v1 (out ++ [y])) (hg : W.grownBy w1 v.ownBlock) :
    LS w2 w6 q10 q12 low A5 c5 rest (w1.setCell ⟨q10, 1, none⟩ v1) v1 (out ++ [y]) := by
  have hbase := R_base h.r10
  have h10 : w1.heap[q10]? = some (.cells #[.int .i64 low, v] 24 (0, 0)) := (hg.block q10 (Array.getElem?_eq_some_iff.1 h.b10).1 (fun e => by have := hbase _ e.symm; omega)).trans h.b10
  have h12 : w1.heap[q12]? = some (.cells #[.int .i64 low, .slice A5 rest.length c5] 24 (0, 0)) := (hg.block q12 (Array.getElem?_eq_some_iff.1 h.b12).1 (fun e => by have := hbase _ e.symm; omega)).trans h.b12
  refine ⟨set_b h10 v1, Kd.R_set h1 h10 (by decide) 1 _, (Below.heap_setCell w1 ⟨q10, 1, none⟩ v1 q12 hne).trans h12, Kd.R_set (Kd.R_grown h.r12 hg (fun k hk e => by have := hbase _ e.symm; omega)) h10 (by decide) 1 _, ?_, ?_⟩
  · have hb : Below w2.heap.size W w1 := ⟨hg.os, hg.tape, hg.output, hg.size, fun k hk => hg.block k (Nat.lt_of_lt_of_le hk h.bel.size) (fun e => by have := hbase _ e.symm; omega)⟩
    exact (h.bel.trans hb).setCell (p := ⟨q10, 1, none⟩) hq2 v1
  · have := h.siz
    have := hg.size
    simp [World.setCell]
    omega
theorem LS.at1 {w2 w6 : World} {q10 q12 : Nat} {low : Int} {A5 : Option Addr} {c5 : Nat} {rest : List Fl} {W w1 : World} {v : Value} {out : List Fl} (h : LS w2 w6 q10 q12 low A5 c5 rest W v out) (hg : W.grownBy w1 v.ownBlock) (hq : q10 < w6.heap.size) :
    w1.heap[q10]? = some (.cells #[.int .i64 low, v] 24 (0, 0)) :=
  (hg.block q10 (Array.getElem?_eq_some_iff.1 h.b10).1 (fun e => by have := R_base h.r10 _ e.symm; omega)).trans h.b10
/-- Floors that a call returned, whoever's row it is. -/
def FlRd (w : World) (low : Int) (L : List Fl) (e : Ending) (w' : World) : Prop := ∃ A c, e = .returned (.agg #[.int .i64 low, .slice A L.length c]) ∧ L.length ≤ c ∧ kF.C w' A L.length L ∧ Below w.heap.size w w'
theorem FlPost.rd {w : World} {low : Int} {L : List Fl} {e : Ending} {w' : World} (h : FlPost w low L e w') : FlRd w low L e w' := by
  obtain ⟨A, c, he, hc, hC, _, hb⟩ := h.reads
  exact ⟨A, c, he, hc, hC, hb⟩
end Go.Proofs.YtmoiochblmdgfaaDoor
namespace Go.Proofs.YtmoiochblmdgfaaDoor
set_option linter.unusedVariables false
set_option linter.unusedSimpArgs false
open Go.RowKit Go.Proofs.YtmoiochblmdgfaaDoorW.PrintWords
attribute [local go_sem ↓] Go.wp_at_zero Go.wp_at_succ

set_option maxHeartbeats 8000000 in
set_option maxRecDepth 100000 in
theorem refRaise_any (low : Int) (A : Option Addr) (c : Nat) (L : List Fl) (h at_ limit : Int) (w : World) (hC : kF.C w A L.length L) (hc : L.length ≤ c) (hL : L.length < 900) (hR : Ris L) (hB : BL low L) :
    Calls Tryd.prog 20 #[.agg #[.int .i64 low, .slice A L.length c], .int .u64 h, .int .i64 at_, .int .i64 limit] w (FlRd w (raiseP low L h at_ limit).1 (raiseP low L h at_ limit).2) := by
  have HC := Lib.hid hC
  have HR := Lib.hid hR
  have HB := Lib.hid hB
  clear hC hR hB
  have hbox : ((w.alloc (.cells #[.int .i64 low, .slice A L.length c] 24)).alloc (.cells #[.int .i64 0, .slice none 0 0] 24)).heap[w.heap.size]? = some (.cells #[.int .i64 low, .slice A L.length c] 24 (0, 0)) := (Below.heap_alloc _ _ _ (by simp)).trans (heap_alloc_new _ _)
  have hzer : ((w.alloc (.cells #[.int .i64 low, .slice A L.length c] 24)).alloc (.cells #[.int .i64 0, .slice none 0 0] 24)).heap[w.heap.size + 1]? = some (.cells #[.int .i64 0, .slice none 0 0] 24 (0, 0)) := by
    have := heap_alloc_new (w.alloc (.cells #[.int .i64 low, .slice A L.length c] 24)) (.cells #[.int .i64 0, .slice none 0 0] 24)
    simpa using this
  have hbel : Below w.heap.size w ((w.alloc (.cells #[.int .i64 low, .slice A L.length c] 24)).alloc (.cells #[.int .i64 0, .slice none 0 0] 24)) := ((Below.refl _ _).alloc (Nat.le_refl _) _).alloc (by simp) _
  have hsz : w.heap.size + 2 = ((w.alloc (.cells #[.int .i64 low, .slice A L.length c] 24)).alloc (.cells #[.int .i64 0, .slice none 0 0] 24)).heap.size := by simp
  have HBOX := Lib.hid hbox
  have HZER := Lib.hid hzer
  have HBEL := Lib.hid hbel
  have HSZ := Lib.hid hsz
  have HRP := Lib.hid (show raiseP low L h at_ limit = if min at_ 1099511627776 ≤ fOf low L h then (low, L) else trimF (L.length + 1) (kOf limit) low (putL L h (min at_ 1099511627776)) from rfl)
  have hn9 : min at_ 1099511627776 ≤ 1099511627776 := by omega
  have HMN := Lib.hid (show (1099511627776 < at_ → min at_ 1099511627776 = 1099511627776) ∧ (¬ 1099511627776 < at_ → min at_ 1099511627776 = at_) from ⟨fun _ => by omega, fun _ => by omega⟩)
  generalize min at_ 1099511627776 = n at *
  generalize raiseP low L h at_ limit = rp at *
  clear hbox hzer hbel hsz
  go_enter Tryd.func20, Tryd.ntmps20
  go_upto_if 19 with (fail)
  generalize (w.alloc (.cells #[.int .i64 low, .slice A L.length c] 24)).alloc (.cells #[.int .i64 0, .slice none 0 0] 24) = w2 at *
  go_cut [9] (fun x wx => x = .int .i64 n ∧ Hid (wx = w2))
  case first =>
    by_cases hm : 1099511627776 < at_
    · have e := HMN.out.1 hm
      go_wp2_with fail
      go_meet
      exact ⟨by rw [e], rfl⟩
    · have e := HMN.out.2 hm
      go_wp2_with fail
      go_meet
      exact ⟨by rw [e], rfl⟩
  case rest =>
    obtain ⟨rfl, HE⟩ := hcut
    obtain rfl := HE.out
    obtain ⟨wb, rfl⟩ : ∃ wb : World, wb = wc := ⟨_, rfl⟩
    clear HMN
    have y0 : wb.cell? ⟨w.heap.size, 0, none⟩ = some (.int .i64 low) := cell_of_row wb _ 0 _ _ (0, 0) HBOX.out
    have y1 : wb.cell? ⟨w.heap.size, 1, none⟩ = some (.slice A L.length c) := cell_of_row wb _ 1 _ _ (0, 0) HBOX.out
    go_wp2_with fail
    clear y0 y1
    refine (refOf_any low A c L wb (Kd.C_below HC.out HBEL.out) hc (by omega) h).mono ?_
    rintro e w3 ⟨rfl, hb3⟩
    have B3 := Lib.hid hb3
    have HFO := Lib.hid (fOf_ge (fun x hx => (HB.out.2.2 x hx).1) h : low ≤ fOf low L h)
    generalize fOf low L h = fo at *
    have hbx := (hb3.block w.heap.size (by have := HSZ.out; omega)).trans HBOX.out
    have x0 : w3.cell? ⟨w.heap.size, 0, none⟩ = some (.int .i64 low) := cell_of_row w3 _ 0 _ _ (0, 0) hbx
    have x1 : w3.cell? ⟨w.heap.size, 1, none⟩ = some (.slice A L.length c) := cell_of_row w3 _ 1 _ _ (0, 0) hbx
    have HX3 := Lib.hid hbx
    clear hb3 hbx
    by_cases hle : n ≤ fo
    · have HX := Lib.hid (show rp = (low, L) by rw [HRP.out, if_pos hle])
      have Z4 := Lib.hid ((B3.out.block (w.heap.size + 1) (by have := HSZ.out; omega)).trans HZER.out)
      have z0 : w3.cell? ⟨w.heap.size + 1, 0, none⟩ = some (.int .i64 0) := cell_of_row w3 _ 0 _ _ (0, 0) Z4.out
      have z1 : w3.cell? ⟨w.heap.size + 1, 1, none⟩ = some (.slice none 0 0) := cell_of_row w3 _ 1 _ _ (0, 0) Z4.out
      have f0 : w3.frozen? ⟨w.heap.size + 1, 0, none⟩ = false := by simp [World.frozen?, Z4.out]
      have f1 : w3.frozen? ⟨w.heap.size + 1, 1, none⟩ = false := by simp [World.frozen?, Z4.out]
      clear HRP
      go_wp2_with fail
      obtain ⟨q1, q2⟩ := set2 Z4.out (.int .i64 low) (.slice A L.length c)
      refine bodyPost_ret (results_c rfl _ _ (w.heap.size + 1) 24 #[.int .i64 low, .slice A L.length c] (0, 0) _ rfl q1 Tryd.underlying24 rfl (by kernel_rfl)) rfl ?_
      rw [HX.out]
      have hbf : Below w.heap.size w ((w3.setCell ⟨w.heap.size + 1, 0, none⟩ (.int .i64 low)).setCell ⟨w.heap.size + 1, 1, none⟩ (.slice A L.length c)) := HBEL.out.trans (((B3.out.mono (show w.heap.size + 1 ≤ wb.heap.size by have := HSZ.out; omega)).setCell (p := ⟨w.heap.size + 1, 0, none⟩) (Nat.le_refl _) _).setCell (p := ⟨w.heap.size + 1, 1, none⟩) (Nat.le_refl _) _ |>.mono (by omega))
      exact ⟨A, c, rfl, hc, Kd.C_below HC.out hbf, hbf⟩
    · have HX := Lib.hid (show rp = trimF (L.length + 1) (kOf limit) low (putL L h n) by rw [HRP.out, if_neg hle])
      have hlt9 : low < n := by have := HFO.out; omega
      have HIP := Lib.hid (ins_put h n L HR.out)
      have hrl : (relL L h).length ≤ L.length := List.length_filter_le _ _
      clear HRP
      have HX4 := Lib.hid ((Below.heap_alloc w3 (.cells #[.int .i64 low, .slice none 0 0] 24) w.heap.size (World.block_lt_of_cell? w3 _ x0)).trans HX3.out)
      have B34 := Lib.hid (bel_alloc w3 (.cells #[.int .i64 low, .slice none 0 0] 24))
      have HO4 := Lib.hid (heap_alloc_new w3 (.cells #[.int .i64 low, .slice none 0 0] 24))
      have HQ4 := Lib.hid (show w3.heap.size + 1 = (w3.alloc (.cells #[.int .i64 low, .slice none 0 0] 24)).heap.size by simp)
      have p0 := (B34.out.cell (p := ⟨w.heap.size, 0, none⟩) (World.block_lt_of_cell? w3 _ x0)).trans x0
      have p1 := (B34.out.cell (p := ⟨w.heap.size, 1, none⟩) (World.block_lt_of_cell? w3 _ x1)).trans x1
      go_wp2_with fail
      clear x0 x1
      have B24 := Lib.hid (B3.out.trans (B34.out.mono B3.out.size))
      have hq2 : wb.heap.size ≤ w3.heap.size := B3.out.size
      generalize w3.alloc (.cells #[.int .i64 low, .slice none 0 0] 24) = w4 at *
      refine (refRel_any low A c L w4 (Kd.C_below HC.out (HBEL.out.trans (B24.out.mono HBEL.out.size))) hc (by omega) h).mono ?_
      rintro e w5 ⟨v5, rfl, hR5, hb5⟩
      obtain ⟨A5, c5, rfl, hc5, hC5⟩ := Kd.R_reads hR5
      have R5 := Lib.hid hR5
      have B45 := Lib.hid hb5
      clear hR5 hb5 hC5 p0 p1 HX3 HX4
      go_wp2_with fail
      have B56 := Lib.hid (bel_alloc w5 (.cells #[.int .i64 low, .slice A5 (relL L h).length c5] 24))
      have HO6 := Lib.hid (heap_alloc_new w5 (.cells #[.int .i64 low, .slice A5 (relL L h).length c5] 24))
      have HQ6 := Lib.hid (show w5.heap.size + 1 = (w5.alloc (.cells #[.int .i64 low, .slice A5 (relL L h).length c5] 24)).heap.size by simp)
      generalize w5.alloc (.cells #[.int .i64 low, .slice A5 (relL L h).length c5] 24) = w6 at *
      have hq3 : w4.heap.size ≤ w5.heap.size := B45.out.size
      have hq4 : w3.heap.size + 1 = w4.heap.size := HQ4.out
      have hq6 : w5.heap.size + 1 = w6.heap.size := HQ6.out
      have HLS := Lib.hid (show LS wb w6 w3.heap.size w5.heap.size low A5 c5 (relL L h) w6 (.slice none 0 0) [] from
        ⟨((B45.out.trans (B56.out.mono B45.out.size)).block w3.heap.size (by omega)).trans HO4.out, Kd.R_nil _ _ _ _ _, HO6.out,
          Kd.R_mono (Kd.R_bound (Kd.R_lower (Kd.R_below R5.out B56.out) (by omega))) (fun k hk => hk.2.2.1), B24.out.trans ((B45.out.trans (B56.out.mono B45.out.size)).mono (by omega)), Nat.le_refl _⟩)
      generalize w3.heap.size = q10 at *
      generalize w5.heap.size = q12 at *
      clear B3 B34 HO4 HQ4 B24 R5 B45 B56 HO6 HQ6
      generalize relL L h = RL at *
      have HQA := Lib.hid (show q10 < w6.heap.size ∧ wb.heap.size ≤ q10 ∧ q12 < w6.heap.size ∧ q12 ≠ q10 ∧ wb.heap.size ≤ w6.heap.size from ⟨by omega, by omega, by omega, by omega, by omega⟩)
      go_loopg [11, 13] RL.length (fun r pv iv wr => ∃ (i : Nat) (pb : Bool) (out : List Fl) (A10 : Option Addr) (c10 : Nat), i + r = RL.length ∧ iv = .int .i64 i ∧ pv = .bool pb ∧ Hid (LS wb w6 q10 q12 low A5 c5 RL wr (.slice A10 out.length c10) out ∧ out ++ tlS ⟨h, n⟩ pb (RL.drop i) = putL L h n))
      case atStart => exact ⟨0, false, [], none, 0, by omega, rfl, rfl, HLS.out, HIP.out⟩
      case round =>
        obtain ⟨i, pb, out, A10, c10, hir, rfl, rfl, HD⟩ := hrel
        have HLW := Lib.hid HD.out.1
        have HTL := Lib.hid HD.out.2
        have hol : out.length ≤ L.length + 1 := by
          have h1 := congrArg List.length HTL.out
          have h2 := put_len L h n
          rw [List.length_append] at h1
          omega
        obtain ⟨wo, rfl⟩ : ∃ wo : World, wo = wr := ⟨_, rfl⟩
        have s0 : wo.cell? ⟨q12, 0, none⟩ = some (.int .i64 low) := cell_of_row wo _ 0 _ _ (0, 0) HLW.out.b12
        have s1 : wo.cell? ⟨q12, 1, none⟩ = some (.slice A5 RL.length c5) := cell_of_row wo _ 1 _ _ (0, 0) HLW.out.b12
        have o0 : wo.cell? ⟨q10, 0, none⟩ = some (.int .i64 low) := cell_of_row wo _ 0 _ _ (0, 0) HLW.out.b10
        have o1 : wo.cell? ⟨q10, 1, none⟩ = some (.slice A10 out.length c10) := cell_of_row wo _ 1 _ _ (0, 0) HLW.out.b10
        have f1 : wo.frozen? ⟨q10, 1, none⟩ = false := by simp [World.frozen?, HLW.out.b10]
        by_cases hlt : i < RL.length
        · obtain ⟨_, _, hC5⟩ := Kd.R_reads' HLW.out.r12
          obtain ⟨ad, hA, d0, d1⟩ := at_fl hC5 hlt
          have hdr := List.drop_eq_getElem_cons hlt
          rw [← fget_eq hlt] at hdr
          have i1 : (0 : Int) ≤ (i : Int) := by omega
          have i2 : (i : Int) < (RL.length : Int) := by omega
          have HDR := Lib.hid hdr
          subst hA
          clear hdr hC5
          obtain ⟨bb, hbb⟩ : ∃ bb : Bool, bb = decide (pb = false ∧ h < (fget RL i).f0) := ⟨_, rfl⟩
          have HBB := Lib.hid hbb
          clear hbb
          go_upto_region 12 with (fail)
          go_cut [50] from 32 to 68 (fun bx wx => bx = .bool bb ∧ Hid (wx = wo))
          case first =>
            cases pb with
            | true =>
              have e : bb = false := by rw [HBB.out]; simp
              go_wp2_with fail
              go_meet
              exact ⟨by rw [e], rfl⟩
            | false =>
              by_cases hgt : h < (fget RL i).f0
              · have e : bb = true := by rw [HBB.out]; simpa using hgt
                go_wp2_with fail
                go_meet
                exact ⟨by rw [e], rfl⟩
              · have e : bb = false := by rw [HBB.out]; simpa using hgt
                go_wp2_with fail
                go_meet
                exact ⟨by rw [e], rfl⟩
          case rest =>
            obtain ⟨rfl, HE⟩ := hcut
            obtain rfl := HE.out
            clear HE
            obtain ⟨wo, rfl⟩ : ∃ wo : World, wo = wc := ⟨_, rfl⟩
            go_upto_if 50 with (fail)
            go_cut [11] from 32 to 68 (fun px wx => ∃ (pb' : Bool) (out' : List Fl) (A' : Option Addr) (c' : Nat), px = .bool pb' ∧ Hid (LS wb w6 q10 q12 low (some ad) c5 RL wx (.slice A' out'.length c') out' ∧ out' ++ fget RL i :: tlS ⟨h, n⟩ pb' (RL.drop (i + 1)) = putL L h n))
            case first =>
              cases hb2 : bb with
              | false =>
                have hno : pb = true ∨ ¬ h < (fget RL i).f0 := by
                  have := HBB.out
                  rw [hb2] at this
                  have := of_decide_eq_false this.symm
                  cases pb
                  · exact .inr fun e => this ⟨rfl, e⟩
                  · exact .inl rfl
                have HN := Lib.hid (show out ++ fget RL i :: tlS ⟨h, n⟩ pb (RL.drop (i + 1)) = putL L h n by rw [← HTL.out, HDR.out, tlS_no _ _ _ _ hno])
                clear hb2 hno
                go_wp2_with fail
                go_meet
                exact ⟨pb, out, _, _, rfl, HLW.out, HN.out⟩
              | true =>
                obtain ⟨rfl, hgt⟩ : pb = false ∧ h < (fget RL i).f0 := by
                  have := HBB.out
                  rw [hb2] at this
                  exact of_decide_eq_true this.symm
                have HN := Lib.hid (show (out ++ [(⟨h, n⟩ : Fl)]) ++ fget RL i :: tlS ⟨h, n⟩ true (RL.drop (i + 1)) = putL L h n by rw [← HTL.out, HDR.out, tlS_hit _ _ _ hgt]; simp)
                have HLN := Lib.hid (show (out ++ [(⟨h, n⟩ : Fl)]).length = out.length + 1 by simp)
                clear hb2 hgt
                go_wp2_with (at_builtin; refine Kd.R_append kF (w0 := wo) (W := wo) w6.heap.size rfl (.tmp 52) (.tmp 56) 22 43 (.agg #[.int .u64 0, .int .i64 0]) 16 rfl Tryd.underlying22 info_fl rfl (by decide) (by omega) (.slice A10 out.length c10) out (⟨h, n⟩ : Fl) (encF (⟨h, n⟩ : Fl)) (fun _ => True) (fun _ => False) rfl rfl (kF_mk _ _ _ _) (fun _ hk => hk.elim) (fun _ _ => trivial) HLW.out.r10 (Below.refl _ _) HLW.out.siz (by omega) ?_; intro v1 w1 ho hb hg hat; obtain ⟨A1, c1, hv1⟩ := Kd.R_slice ho; rw [List.length_append, List.length_singleton] at hv1; subst hv1; have hp := HLW.out.push (y := (⟨h, n⟩ : Fl)) HQA.out.1 HQA.out.2.1 HQA.out.2.2.1 HQA.out.2.2.2.1 HQA.out.2.2.2.2 ho hg; have h1 := HLW.out.at1 hg HQA.out.1; have HP := Lib.hid hp; have k0 : w1.cell? ⟨q10, 0, none⟩ = some (.int .i64 low) := cell_of_row w1 _ 0 _ _ (0, 0) h1; have k1 : w1.cell? ⟨q10, 1, none⟩ = some (.slice A10 out.length c10) := cell_of_row w1 _ 1 _ _ (0, 0) h1; have kf : w1.frozen? ⟨q10, 1, none⟩ = false := (by simp [World.frozen?, h1]); clear ho hb hg hat hp h1)
                all_goals
                  go_wp2_with fail
                  go_meet
                  exact ⟨true, out ++ [(⟨h, n⟩ : Fl)], A1, c1, rfl, by rw [HLN.out]; exact HP.out, HN.out⟩
            case rest =>
              clear HLW HTL hol s0 s1 o0 o1 f1 HD
              obtain ⟨pb, out, A10, c10, rfl, HD⟩ := hcut
              have HLW := Lib.hid HD.out.1
              have HTL := Lib.hid HD.out.2
              have hol : out.length ≤ L.length + 1 := by
                have h1 := congrArg List.length HTL.out
                have h2 := put_len L h n
                rw [List.length_append] at h1
                omega
              obtain ⟨wo, rfl⟩ : ∃ wo : World, wo = wc := ⟨_, rfl⟩
              have s0 : wo.cell? ⟨q12, 0, none⟩ = some (.int .i64 low) := cell_of_row wo _ 0 _ _ (0, 0) HLW.out.b12
              have s1 : wo.cell? ⟨q12, 1, none⟩ = some (.slice (some ad) RL.length c5) := cell_of_row wo _ 1 _ _ (0, 0) HLW.out.b12
              have o0 : wo.cell? ⟨q10, 0, none⟩ = some (.int .i64 low) := cell_of_row wo _ 0 _ _ (0, 0) HLW.out.b10
              have o1 : wo.cell? ⟨q10, 1, none⟩ = some (.slice A10 out.length c10) := cell_of_row wo _ 1 _ _ (0, 0) HLW.out.b10
              have f1 : wo.frozen? ⟨q10, 1, none⟩ = false := by simp [World.frozen?, HLW.out.b10]
              obtain ⟨_, _, hC5⟩ := Kd.R_reads' HLW.out.r12
              have hat5 := at_fl hC5 hlt
              obtain ⟨ad', hA, d0, d1⟩ := hat5
              injection hA with hA
              subst hA
              have oA : (wo.alloc (.cells #[.int .u64 (fget RL i).f0, .int .i64 (fget RL i).f1] 43)).cell? ⟨q10, 1, none⟩ = some (.slice A10 out.length c10) := ((bel_alloc wo _).cell (p := ⟨q10, 1, none⟩) (World.block_lt_of_cell? wo _ o1)).trans o1
              have HLd := Lib.hid (HLW.out.later (Drawn0.below ⟨1, rfl⟩ : Below wo.heap.size wo wo.drew))
              have HN := Lib.hid (show (out ++ [fget RL i]) ++ tlS ⟨h, n⟩ pb (RL.drop (i + 1)) = putL L h n by rw [← HTL.out]; simp)
              have HLN := Lib.hid (show (out ++ [fget RL i]).length = out.length + 1 by simp)
              clear hC5
              go_wp2_with fail
              go_region_law (refine Kd.R_append_step kF (w0 := wo.drew) (W := wo.drew) w6.heap.size (by simp [Region.wanted]) (.tmp 60) (.tmp 66) 22 43 (.agg #[.int .u64 0, .int .i64 0]) 16 rfl Tryd.underlying22 info_fl rfl (by decide) (by omega) (.slice A10 out.length c10) out (⟨(fget RL i).f0, (fget RL i).f1⟩ : Fl) (encF (⟨(fget RL i).f0, (fget RL i).f1⟩ : Fl)) (fun _ => True) (fun _ => False) (by simp [Act.eval, Act.put]) (by simp [Act.eval, Act.put]) (kF_mk _ _ _ _) (fun _ hk => hk.elim) (fun _ _ => trivial) HLd.out.r10 (Below.refl _ _) HLd.out.siz (by omega) ?_; intro v1 w1 ho hb hg hat; obtain ⟨A1, c1, hv1⟩ := Kd.R_slice ho; rw [List.length_append, List.length_singleton] at hv1; subst hv1; have hp := HLd.out.push (y := (⟨(fget RL i).f0, (fget RL i).f1⟩ : Fl)) HQA.out.1 HQA.out.2.1 HQA.out.2.2.1 HQA.out.2.2.2.1 HQA.out.2.2.2.2 ho hg; have h1 := HLd.out.at1 hg HQA.out.1; have HP := Lib.hid hp; have k0 : w1.cell? ⟨q10, 0, none⟩ = some (.int .i64 low) := cell_of_row w1 _ 0 _ _ (0, 0) h1; have k1 : w1.cell? ⟨q10, 1, none⟩ = some (.slice A10 out.length c10) := cell_of_row w1 _ 1 _ _ (0, 0) h1; have kf : w1.frozen? ⟨q10, 1, none⟩ = false := (by simp [World.frozen?, h1]); clear ho hb hg hat hp h1)
              all_goals
                go_wp2_with fail
                go_roundg (RL.length - (i + 1))
                case measure => omega
                case rel => exact ⟨i + 1, pb, out ++ [fget RL i], A1, c1, by omega, by go_num, rfl, by rw [HLN.out]; exact HP.out, HN.out⟩
        · have hiL : i = RL.length := by omega
          have HTE := Lib.hid (show out ++ (if pb = true then [] else [(⟨h, n⟩ : Fl)]) = putL L h n by rw [← HTL.out, hiL, List.drop_length, tlS_nil])
          clear hiL HTL HD HLS HIP
          go_upto_if 70 with (fail)
          go_cut [] (fun wx => Hid (RSt wb q10 wx low (putL L h n)))
          case first =>
            cases pb with
            | true =>
              have HP2 := Lib.hid (show putL L h n = out by rw [← HTE.out]; simp)
              go_wp2_with fail
              go_meet
              rw [HP2.out]
              exact RSt.mk HLW.out.b10 (Kd.R_lower HLW.out.r10 HQA.out.2.2.2.2) HLW.out.bel
            | false =>
              have HP2 := Lib.hid (show putL L h n = out ++ [(⟨h, n⟩ : Fl)] by rw [← HTE.out]; simp)
              go_wp2_with (at_builtin; refine Kd.R_append kF (w0 := wo) (W := wo) w6.heap.size rfl (.tmp 72) (.tmp 76) 22 43 (.agg #[.int .u64 0, .int .i64 0]) 16 rfl Tryd.underlying22 info_fl rfl (by decide) (by omega) (.slice A10 out.length c10) out (⟨h, n⟩ : Fl) (encF (⟨h, n⟩ : Fl)) (fun _ => True) (fun _ => False) rfl rfl (kF_mk _ _ _ _) (fun _ hk => hk.elim) (fun _ _ => trivial) HLW.out.r10 (Below.refl _ _) HLW.out.siz (by omega) ?_; intro v1 w1 ho hb hg hat; obtain ⟨A1, c1, hv1⟩ := Kd.R_slice ho; rw [List.length_append, List.length_singleton] at hv1; subst hv1; have hp := HLW.out.push (y := (⟨h, n⟩ : Fl)) HQA.out.1 HQA.out.2.1 HQA.out.2.2.1 HQA.out.2.2.2.1 HQA.out.2.2.2.2 ho hg; have h1 := HLW.out.at1 hg HQA.out.1; have HP := Lib.hid hp; have k0 : w1.cell? ⟨q10, 0, none⟩ = some (.int .i64 low) := cell_of_row w1 _ 0 _ _ (0, 0) h1; have k1 : w1.cell? ⟨q10, 1, none⟩ = some (.slice A10 out.length c10) := cell_of_row w1 _ 1 _ _ (0, 0) h1; have kf : w1.frozen? ⟨q10, 1, none⟩ = false := (by simp [World.frozen?, h1]); clear ho hb hg hat hp h1)
              all_goals
                go_wp2_with fail
                go_meet
                rw [HP2.out]
                exact RSt.mk HP.out.b10 (Kd.R_lower HP.out.r10 HQA.out.2.2.2.2) HP.out.bel
          case rest =>
            have HRS := Lib.hid hcut.out
            clear hcut
            have HPL := Lib.hid (put_len L h n)
            have HBP := Lib.hid (BL_put HB.out hlt9 hn9 : BL low (putL L h n))
            generalize putL L h n = PL at *
            obtain ⟨wd, rfl⟩ : ∃ wd : World, wd = wc := ⟨_, rfl⟩
            obtain ⟨k, hk⟩ : ∃ k, k = kOf limit := ⟨_, rfl⟩
            have HK := Lib.hid (show ∀ m : Nat, k < m ↔ 0 < m ∧ min limit 12 < (m : Int) from fun m => by rw [hk]; unfold kOf; omega)
            rw [← hk] at HX
            have HML := Lib.hid (show (12 < limit → min limit 12 = 12) ∧ (¬ 12 < limit → min limit 12 = limit) from ⟨fun _ => by omega, fun _ => by omega⟩)
            generalize min limit 12 = lm at *
            clear hk HLW HTE hol s0 s1 o0 o1 f1
            go_upto_if 81 with (fail)
            go_cut [14] (fun x wx => x = .int .i64 lm ∧ Hid (wx = wd))
            case first =>
              by_cases hm : 12 < limit
              · have e := HML.out.1 hm
                go_wp2_with fail
                go_meet
                exact ⟨by rw [e], rfl⟩
              · have e := HML.out.2 hm
                go_wp2_with fail
                go_meet
                exact ⟨by rw [e], rfl⟩
            case rest =>
              obtain ⟨rfl, HE⟩ := hcut
              obtain rfl := HE.out
              clear HE HML
              obtain ⟨we, rfl⟩ : ∃ we : World, we = wc := ⟨_, rfl⟩
              go_wp2_with fail
              go_loopg [15, 16] (L.length + 1) (fun r lv iv wr => ∃ low' L', L'.length ≤ r ∧ L'.length ≤ L.length + 1 ∧ Hid (BL low' L' ∧ trimF r k low' L' = rp ∧ RSt wb q10 wr low' L'))
              case atStart => exact ⟨low, PL, HPL.out, HPL.out, HBP.out, HX.out.symm, HRS.out⟩
              case round =>
                obtain ⟨lw, M, hMr, hML, HD⟩ := hrel
                obtain ⟨hBM, hTM, A1, c1, hO, hc1, hC1, hR1, hB1⟩ := HD.out
                have HBM := Lib.hid hBM
                have HTM := Lib.hid hTM
                have O1 := Lib.hid hO
                have C1 := Lib.hid hC1
                have R1 := Lib.hid hR1
                have B1 := Lib.hid hB1
                obtain ⟨wo, rfl⟩ : ∃ wo : World, wo = wr := ⟨_, rfl⟩
                have o0 : wo.cell? ⟨q10, 0, none⟩ = some (.int .i64 lw) := cell_of_row wo _ 0 _ _ (0, 0) hO
                have o1 : wo.cell? ⟨q10, 1, none⟩ = some (.slice A1 M.length c1) := cell_of_row wo _ 1 _ _ (0, 0) hO
                clear hBM hTM hO hC1 hR1 hB1 HD
                by_cases hgo : 0 < M.length ∧ lm < (M.length : Int)
                · have hkM := (HK.out M.length).2 hgo
                  obtain ⟨h0M, hlM⟩ := hgo
                  obtain ⟨r', rfl⟩ : ∃ r', gk = r' + 1 := ⟨gk - 1, by omega⟩
                  have hT2 : trimF r' k (upP lw (minL M)) (liftL (upP lw (minL M)) M) = rp := by
                    have := HTM.out
                    rw [trimF, if_pos hkM] at this
                    exact this
                  have HT2 := Lib.hid hT2
                  have HBL := Lib.hid (BL_lift HBM.out (minL M))
                  have hlt := lift_lt HBM.out h0M
                  have HLF := Lib.hid (refLift_any lw A1 c1 M wo C1.out hc1 (by omega) (minL M) HBM.out.2.1)
                  have HMS := Lib.hid (minA_self h0M)
                  have hat0 := at_fl C1.out h0M
                  obtain ⟨ad, hA, d0, d1⟩ := hat0
                  subst hA
                  have had : ad.add (0 * 2) = ad := by unfold Addr.add; simp
                  rw [had] at d0 d1
                  have hm0 : (0 : Int) < (M.length : Int) := by omega
                  clear hT2 had hkM
                  go_wp2_with fail
                  go_loopw [15, 16] (fun x j wr => ∃ i : Nat, i ≤ M.length ∧ j = .int .i64 i ∧ x = .int .i64 (minA (fget M 0).f1 (M.take i)) ∧ Hid (wr = wo)) (fun _ j _ => M.length - (intOf j).toNat)
                  case atStart => exact ⟨0, Nat.zero_le _, rfl, rfl, rfl⟩
                  case round =>
                    obtain ⟨i, hi, rfl, rfl, HE⟩ := hrel
                    obtain rfl := HE.out
                    clear HE d0 d1
                    by_cases hlt2 : i < M.length
                    · have hat0 := at_fl C1.out hlt2
                      obtain ⟨ad', hA, d0, d1⟩ := hat0
                      injection hA with hA
                      subst hA
                      have HSN := Lib.hid (show minA (fget M 0).f1 (M.take (i + 1)) = if (fget M i).f1 < minA (fget M 0).f1 (M.take i) then (fget M i).f1 else minA (fget M 0).f1 (M.take i) by rw [List.take_succ_eq_append_getElem hlt2, minA_snoc, fget_eq hlt2])
                      generalize minA (fget M 0).f1 (M.take i) = m0 at *
                      generalize (fget M i).f1 = fi at *
                      have i1 : (0 : Int) ≤ (i : Int) := by omega
                      have i2 : (i : Int) < (M.length : Int) := by omega
                      by_cases hm : fi < m0
                      · have e := HSN.out
                        rw [if_pos hm] at e
                        have E := Lib.hid e
                        clear e HSN
                        go_wp2_with fail
                        go_roundw
                        case rel => exact ⟨i + 1, by omega, by go_num, by rw [E.out], trivial⟩
                        case measure => simp [intOf]; omega
                      · have e := HSN.out
                        rw [if_neg hm] at e
                        have E := Lib.hid e
                        clear e HSN
                        go_wp2_with fail
                        go_roundw
                        case rel => exact ⟨i + 1, by omega, by go_num, by rw [E.out], trivial⟩
                        case measure => simp [intOf]; omega
                    · have hiM : i = M.length := by omega
                      have hmm : minA (fget M 0).f1 (M.take i) = minL M := by rw [hiM, List.take_length, HMS.out]
                      rw [hmm]
                      generalize minL M = mm at *
                      clear hmm HMS
                      go_wp2_with fail
                      refine HLF.out.mono ?_
                      rintro e w9 ⟨v9, rfl, hR9, hb9⟩
                      obtain ⟨A9, c9, rfl, hc9, hC9⟩ := Kd.R_reads hR9
                      have B9 := Lib.hid (B1.out.trans (hb9.mono B1.out.size))
                      have O9 := Lib.hid ((hb9.block q10 (World.block_lt_of_cell? wr _ o0)).trans O1.out)
                      have R9 := Lib.hid (Kd.R_lower hR9 B1.out.size)
                      clear hR9 hb9 hC9 o0 o1
                      have o0 : w9.cell? ⟨q10, 0, none⟩ = some (.int .i64 lw) := cell_of_row w9 _ 0 _ _ (0, 0) O9.out
                      have o1 : w9.cell? ⟨q10, 1, none⟩ = some (.slice (some ad) M.length c1) := cell_of_row w9 _ 1 _ _ (0, 0) O9.out
                      have f0 : w9.frozen? ⟨q10, 0, none⟩ = false := by simp [World.frozen?, O9.out]
                      have f1 : w9.frozen? ⟨q10, 1, none⟩ = false := by simp [World.frozen?, O9.out]
                      go_wp2_with fail
                      go_roundg r'
                      case measure => omega
                      case rel =>
                        refine ⟨upP lw mm, liftL (upP lw mm) M, by omega, by omega, HBL.out, HT2.out, ?_⟩
                        exact RSt.mk (set2 O9.out _ _).1 (R_put2 R9.out O9.out _ _) ((B9.out.setCell (p := ⟨q10, 0, none⟩) HQA.out.2.1 _).setCell (p := ⟨q10, 1, none⟩) HQA.out.2.1 _)
                · have HE := Lib.hid (show rp = (lw, M) by
                    have h1 := HTM.out
                    cases gk with
                    | zero => exact h1.symm
                    | succ r' =>
                      rw [trimF, if_neg (fun e => hgo ((HK.out _).1 e))] at h1
                      exact h1.symm)
                  have Z9 := Lib.hid ((B1.out.block (w.heap.size + 1) (by have := HSZ.out; omega)).trans HZER.out)
                  have z0 : wo.cell? ⟨w.heap.size + 1, 0, none⟩ = some (.int .i64 0) := cell_of_row wo _ 0 _ _ (0, 0) Z9.out
                  have z1 : wo.cell? ⟨w.heap.size + 1, 1, none⟩ = some (.slice none 0 0) := cell_of_row wo _ 1 _ _ (0, 0) Z9.out
                  have f0 : wo.frozen? ⟨w.heap.size + 1, 0, none⟩ = false := by simp [World.frozen?, Z9.out]
                  have f1 : wo.frozen? ⟨w.heap.size + 1, 1, none⟩ = false := by simp [World.frozen?, Z9.out]
                  have hend : ∀ (W : World), W = (wo.setCell ⟨w.heap.size + 1, 0, none⟩ (.int .i64 lw)).setCell ⟨w.heap.size + 1, 1, none⟩ (.slice A1 M.length c1) → W.heap[w.heap.size + 1]? = some (.cells #[.int .i64 lw, .slice A1 M.length c1] 24 (0, 0)) ∧ FlRd w rp.1 rp.2 (.returned (.agg #[.int .i64 lw, .slice A1 M.length c1])) W := by
                    rintro W rfl
                    refine ⟨(set2 Z9.out _ _).1, ?_⟩
                    rw [HE.out]
                    have hr := Kd.R_reads' (R_put2 R1.out Z9.out (.int .i64 lw) (.slice A1 M.length c1))
                    exact ⟨A1, c1, rfl, hc1, hr.2.2, HBEL.out.trans (((B1.out.mono (show w.heap.size + 1 ≤ wb.heap.size by have := HSZ.out; omega)).setCell (p := ⟨w.heap.size + 1, 0, none⟩) (Nat.le_refl _) _).setCell (p := ⟨w.heap.size + 1, 1, none⟩) (Nat.le_refl _) _ |>.mono (by omega))⟩
                  have HEND := Lib.hid (hend _ rfl)
                  clear hend
                  by_cases h0M : 0 < M.length
                  · have hlM : ¬ lm < (M.length : Int) := fun e => hgo ⟨h0M, e⟩
                    have hm0 : (0 : Int) < (M.length : Int) := by omega
                    clear hgo
                    go_wp2_with fail
                    exact bodyPost_ret (results_c rfl _ _ (w.heap.size + 1) 24 #[.int .i64 lw, .slice A1 M.length c1] (0, 0) _ rfl HEND.out.1 Tryd.underlying24 rfl (by kernel_rfl)) rfl HEND.out.2
                  · have hm0 : ¬ (0 : Int) < (M.length : Int) := by omega
                    clear hgo
                    go_wp2_with fail
                    exact bodyPost_ret (results_c rfl _ _ (w.heap.size + 1) 24 #[.int .i64 lw, .slice A1 M.length c1] (0, 0) _ rfl HEND.out.1 Tryd.underlying24 rfl (by kernel_rfl)) rfl HEND.out.2
end Go.Proofs.YtmoiochblmdgfaaDoor
