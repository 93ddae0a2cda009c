/- The document's sketch in memory: a row of rows. A sketch and the document's one together: what a law keeps. The contracts of the document's at and Of. The contracts of the document's Of and copied. The contract of the document's copied. The contract of the document's Age. -/
import Derived.Test.YtpjdaglblckgfaaDoorSk4
import Derived.Test.YtpjdaglblckgfaaDoorG3
import Derived.Test.YtpjdaglblckgfaaDoorBase
import Derived.Test.YtpjdaglblckgfaaDoorRef07
import Derived.Deep.RegionHeld3
import Derived.Deep.DrawnRows
import Derived.Deep.DeepCutAuto
import Derived.StillTailTactics
import Derived.IntWalk
namespace Go.Proofs.YtpjdaglblckgfaaDoor
set_option linter.unusedVariables false
open Go.RowKit Go.Proofs.YtpjdaglblckgfaaDoorW.PrintWords

theorem own_row {w : World} {base : Nat} {e : TypeId} {v : Value} {n : Nat} {xs : List Value} (h : w.ownsRow base e 1 v n xs) (hn : 0 < n) :
    ∃ g cap f, v = .slice (some ⟨g, 0, none⟩) n cap ∧ base ≤ g ∧ n ≤ cap ∧ w.rowIs g e cap f ∧ ∀ i, i < n → xs[i]? = some (f i) := by
  obtain ⟨hl, ⟨_, h0⟩ | ⟨g, cap, cur, hv, hb, hh, hnc, hcm, hsz, htk⟩⟩ := h
  · omega
  · refine ⟨g, cap, fun i => (cur[i]?).getD undef, hv, hb, hnc, ⟨cur, hh, by omega, fun i hi => ?_⟩, fun i hi => ?_⟩
    · have hi' : i < cur.size := by omega
      simp [hi']
    · have hi' : i < cur.size := by omega
      rw [← htk, List.getElem?_take, if_pos (by omega), Array.getElem?_toList]
      simp [hi']
theorem bel_alloc (w : World) (o : Obj) : Below w.heap.size w (w.alloc o) := (Below.refl _ _).alloc (Nat.le_refl _) _
abbrev Hd : Type := Option Addr × Nat × Nat
def kHd : Kd Hd := Kd.scalar (fun x => .slice x.1 x.2.1 x.2.2) (fun _ => rfl)

/-- The rows of a sketch: headers in block LA, row r in block R r. -/
structure IsRf (w : World) (LA nL : Nat) (R cp : Nat → Nat) (S : Sk) : Prop where
  w1 : 1 ≤ S.width
  w2 : S.width ≤ 4096
  head : ∃ f, w.rowIs LA 48 nL f ∧ ∀ r, r < 4 → f r = .slice (some ⟨R r, 0, none⟩) S.width (cp r)
  row : ∀ r, r < 4 → ∃ f, w.rowIs (R r) 3 (cp r) f ∧ ∀ k, k < S.width → f k = .int .i64 (S.row r k)
  n4 : 4 ≤ nL
  cw : ∀ r, r < 4 → S.width ≤ cp r
  inj : ∀ r s, r < 4 → s < 4 → r ≠ s → R r ≠ R s
  bd : ∀ r k, r < 4 → k < S.width → 0 ≤ S.row r k ∧ S.row r k ≤ 255
/-- .. and all of it the call's own. -/
def RfOwn (base LA : Nat) (R : Nat → Nat) : Prop := base ≤ LA ∧ ∀ r, r < 4 → base ≤ R r
namespace IsRf
variable {w w' : World} {LA nL : Nat} {R cp : Nat → Nat} {S S' : Sk}
theorem later (h : IsRf w LA nL R cp S) (hb : Below w.heap.size w w') : IsRf w' LA nL R cp S := by
  obtain ⟨f, h1, h2⟩ := h.head
  refine ⟨h.w1, h.w2, ⟨f, h1.of_block (hb.block _ h1.lt), h2⟩, fun r hr => ?_, h.n4, h.cw, h.inj, h.bd⟩
  obtain ⟨g, h3, h4⟩ := h.row r hr
  exact ⟨g, h3.of_block (hb.block _ h3.lt), h4⟩
theorem drewN (h : IsRf w LA nL R cp S) (n : Nat) : IsRf (w.drewN n) LA nL R cp S := h.later (Drawn0.below ⟨n, rfl⟩)
theorem cellh (h : IsRf w LA nL R cp S) {r : Nat} (hr : r < 4) : w.cell? ⟨LA, r, none⟩ = some (.slice (some ⟨R r, 0, none⟩) S.width (cp r)) := by
  obtain ⟨f, h1, h2⟩ := h.head
  rw [h1.cell (by have := h.n4; omega), h2 r hr]
theorem cellr (h : IsRf w LA nL R cp S) {r k : Nat} (hr : r < 4) (hk : k < S.width) : w.cell? ⟨R r, k, none⟩ = some (.int .i64 (S.row r k)) := by
  obtain ⟨f, h1, h2⟩ := h.row r hr
  rw [h1.cell (by have := h.cw r hr; omega), h2 k hk]
theorem fror (h : IsRf w LA nL R cp S) {r : Nat} (hr : r < 4) (k : Nat) : w.frozen? ⟨R r, k, none⟩ = false := by
  obtain ⟨f, h1, _⟩ := h.row r hr
  exact h1.frozen k
theorem congr (h : IsRf w LA nL R cp S) (h0 : S'.width = S.width) (hr : ∀ r k, r < 4 → k < S.width → S'.row r k = S.row r k) : IsRf w LA nL R cp S' := by
  refine ⟨by rw [h0]; exact h.w1, by rw [h0]; exact h.w2, by rw [h0]; exact h.head, fun r hr' => ?_, h.n4, fun r hr' => by rw [h0]; exact h.cw r hr', h.inj, fun r k h1 h2 => by rw [h0] at h2; rw [hr r k h1 h2]; exact h.bd r k h1 h2⟩
  obtain ⟨f, h1, h2⟩ := h.row r hr'
  exact ⟨f, h1, fun k hk => by rw [h0] at hk; rw [hr r k hr' hk]; exact h2 k hk⟩
theorem ne_head (h : IsRf w LA nL R cp S) {r : Nat} (hr : r < 4) : LA ≠ R r := by
  obtain ⟨f, ⟨c, h1, _⟩, _⟩ := h.head
  obtain ⟨g, ⟨c2, h2, _⟩, _⟩ := h.row r hr
  intro e
  rw [e, h2] at h1
  simp at h1
theorem setRow (h : IsRf w LA nL R cp S) {r k : Nat} (hr : r < 4) {v : Int} (hv : 0 ≤ v ∧ v ≤ 255) :
    IsRf (w.setCell ⟨R r, k, none⟩ (.int .i64 v)) LA nL R cp { S with row := fun r' k' => if r' = r ∧ k' = k then v else S.row r' k' } := by
  obtain ⟨f, h1, h2⟩ := h.head
  refine ⟨h.w1, h.w2, ⟨f, h1.setOther (h.ne_head hr) _, h2⟩, fun r' hr' => ?_, h.n4, h.cw, h.inj, fun r' k' h1 h2 => ?_⟩
  · obtain ⟨g, h3, h4⟩ := h.row r' hr'
    by_cases e : r' = r
    · subst e
      exact ⟨_, h3.set k _, fun k' hk' => by by_cases e2 : k' = k <;> simp [e2, h4 k' hk']⟩
    · exact ⟨_, h3.setOther (h.inj _ _ hr' hr e) _, fun k' hk' => by simp [e, h4 k' hk']⟩
  · dsimp only
    split
    · exact hv
    · exact h.bd r' k' h1 h2
end IsRf
/-- A value of the document's sketch. -/
def rfCells (LA nL : Nat) (S : Sk) : Array Value := #[.int .i64 S.width, .slice (some ⟨LA, 0, none⟩) 4 nL, .int .i64 S.total, .int .i64 S.limit, .int .i64 S.aged]
end Go.Proofs.YtpjdaglblckgfaaDoor
namespace Go.Proofs.YtpjdaglblckgfaaDoor
set_option linter.unusedVariables false
open Go.RowKit Go.Proofs.YtpjdaglblckgfaaDoorW.PrintWords

theorem Add_stL {w0 w : World} {base p : Nat} {B : Nat → Nat} {S : Sk} (h : St w0 w base p B S) (s : ByteArray) (hs : s.size ≤ maxLen) (ht : S.total < 1000000000) (ha : S.aged < 1000000000) :
    Calls Tryd.prog 12 #[.pointer (some ⟨p, 0, none⟩), .string s] w fun e w' => e = .returned (.tuple #[]) ∧ St w0 w' base p B (S.add s) ∧ Chg (skM p B) w w' := by
  have h1 := h.t0
  have h2 := h.a0
  have h3 := h.a1
  refine (Add_any p B S s w h.sk hs (by omega) (by omega) (by omega) (by omega)).mono fun e w' ⟨he, h4, h5⟩ => ⟨he, h.chg h5 h4 ?_ ?_ ?_ ?_, h5⟩ <;> unfold Sk.add <;> split
  · show 0 ≤ (S.total + 1) / 2; omega
  · show 0 ≤ S.total + 1; omega
  · show (S.total + 1) / 2 ≤ 1000000000; omega
  · show S.total + 1 ≤ 1000000000; omega
  · show 0 ≤ S.aged + 1; omega
  · exact h.a0
  · show S.aged + 1 ≤ 1000000000; omega
  · exact h.a1
theorem add_bd (S : Sk) (s : ByteArray) (h0 : 0 ≤ S.total) : (S.add s).total ≤ S.total + 1 ∧ (S.add s).aged ≤ S.aged + 1 ∧ (S.add s).width = S.width ∧ (S.add s).limit = S.limit := by
  unfold Sk.add
  split
  · exact ⟨by show (S.total + 1) / 2 ≤ _; omega, by show S.aged + 1 ≤ _; omega, rfl, rfl⟩
  · exact ⟨by show S.total + 1 ≤ _; omega, by show S.aged ≤ _; omega, rfl, rfl⟩
/-- A block of another type than a sketch's is none of a sketch's. -/
theorem not_skM {w : World} {p : Nat} {B : Nat → Nat} {S : Sk} (h : IsSk w p B S) {b : Nat} {c : Array Value} {t : TypeId} (hb : w.heap[b]? = some (.cells c t (0, 0))) (h1 : t ≠ 62) (h2 : t ≠ 5) : ¬ skM p B b := by
  rintro (rfl | ⟨r, hr, rfl⟩)
  · obtain ⟨c2, h3, _⟩ := h.head
    rw [hb] at h3
    simp at h3
    exact h1 h3.2
  · obtain ⟨c2, h3, _⟩ := h.row r hr
    rw [hb] at h3
    simp at h3
    exact h2 h3.2
theorem IsRf.chg {w w' : World} {LA nL p : Nat} {R cp B : Nat → Nat} {S T : Sk} (h : IsRf w LA nL R cp T) (hs : IsSk w p B S) (hc : Chg (skM p B) w w') : IsRf w' LA nL R cp T := by
  obtain ⟨f, h1, h2⟩ := h.head
  have hb : ∀ {b : Nat} {t : TypeId} {n : Nat} {g : Nat → Value}, w.rowIs b t n g → t ≠ 62 → t ≠ 5 → w'.heap[b]? = w.heap[b]? := fun {b t n g} hr e1 e2 => by
    obtain ⟨c, h3, _⟩ := hr
    exact hc.block b (Array.getElem?_eq_some_iff.1 h3).1 (not_skM hs h3 e1 e2)
  refine ⟨h.w1, h.w2, ⟨f, h1.of_block (hb h1 (by decide) (by decide)), h2⟩, fun r hr => ?_, h.n4, h.cw, h.inj, h.bd⟩
  obtain ⟨g, h3, h4⟩ := h.row r hr
  exact ⟨g, h3.of_block (hb h3 (by decide) (by decide)), h4⟩
/-- What a law keeps: the sketch, and the document's one in a box. -/
structure SkBoth (w0 w : World) (base p : Nat) (B : Nat → Nat) (S : Sk) (q LA nL : Nat) (R cp : Nat → Nat) : Prop where
  st : St w0 w base p B S
  rf : IsRf w LA nL R cp S
  box : w.heap[q]? = some (.cells (rfCells LA nL S) 38 (0, 0))
  hq : base ≤ q
namespace SkBoth
variable {w0 w w' : World} {base p q LA nL LA' nL' : Nat} {B R cp R' cp' : Nat → Nat} {S S' : Sk}
theorem later (h : SkBoth w0 w base p B S q LA nL R cp) (hb : Below w.heap.size w w') : SkBoth w0 w' base p B S q LA nL R cp :=
  ⟨h.st.later hb, h.rf.later hb, (hb.block q (Array.getElem?_eq_some_iff.1 h.box).1).trans h.box, h.hq⟩
theorem cell (h : SkBoth w0 w base p B S q LA nL R cp) (j : Nat) : w.cell? ⟨q, j, none⟩ = (rfCells LA nL S)[j]? := cell_of_row w q j _ _ (0, 0) h.box
theorem fro (h : SkBoth w0 w base p B S q LA nL R cp) (j : Nat) : w.frozen? ⟨q, j, none⟩ = false := by simp [World.frozen?, h.box]
end SkBoth
end Go.Proofs.YtpjdaglblckgfaaDoor
namespace Go.Proofs.YtpjdaglblckgfaaDoor
set_option linter.unusedVariables false
open Go.RowKit Go.Proofs.YtpjdaglblckgfaaDoorW.PrintWords
attribute [local go_sem ↓] Go.wp_at_zero Go.wp_at_succ

theorem refhash_q (s : ByteArray) (hs : s.size ≤ maxLen) (w : World) :
    Calls Tryd.prog 51 #[.string s] w fun e w' => e = .returned (.int .u64 (hashI s)) ∧ ∃ n, w' = w.drewN n := by
  unfold maxLen at hs
  exact (PR.butteryref07_Hash.calls (s.size + 1) s _ w (refhash_f s (by omega) _ (Nat.lt_succ_self _))).mono fun e w' ⟨he, hdr⟩ => ⟨he, hdr.out⟩
theorem refmix_q (h : Int) (h0 : 0 ≤ h) (h1 : h < 18446744073709551616) (w : World) :
    Calls Tryd.prog 50 #[.int .u64 h] w fun e w' => e = .returned (.int .u64 (mixI h)) ∧ ∃ n, w' = w.drewN n :=
  (PR.butteryref07_Mix.calls h _ w (refmix_f h h0 h1)).mono fun e w' ⟨he, hdr⟩ => ⟨he, hdr.out⟩
theorem refslot_q (h n : Int) (h0 : 0 ≤ h) (h1 : h < 18446744073709551616) (n1 : 1 ≤ n) (n2 : n ≤ 4096) (w : World) :
    Calls Tryd.prog 49 #[.int .u64 h, .int .i64 n] w fun e w' => e = .returned (.int .i64 (h % n)) ∧ ∃ n, w' = w.drewN n := by
  refine (PR.butteryref07_Slot.calls h n (h % n) w ?_).mono fun e w' ⟨he, hdr⟩ => ⟨he, hdr.out⟩
  unfold PR.butteryref07_Slot.f
  have hm : 0 ≤ h % n := Int.emod_nonneg _ (by omega)
  have hm2 : h % n < n := Int.emod_lt_of_pos _ (by omega)
  rw [wrap_in n (by omega) (by omega), if_neg (by omega), if_neg (by omega), Int.tmod_eq_emod_of_nonneg h0]
  congr 1
  unfold wrap64
  omega

set_option maxHeartbeats 1000000 in
theorem refAt_any (LA nL : Nat) (S : Sk) (r : Int) (key : ByteArray) (hk : key.size ≤ maxLen) (w1 : 1 ≤ S.width) (w2 : S.width ≤ 4096) (w : World) :
    Calls Tryd.prog 38 #[.agg (rfCells LA nL S), .int .i64 r, .string key] w fun e w' => e = .returned (.int .i64 (atI r (hashI key) S.width)) ∧ Below w.heap.size w w' := by
  have hb := hashI_bd key
  obtain ⟨b0, b1⟩ := mixI_bd (IntKind.u64.wrap (hashI key + IntKind.u64.wrap (IntKind.u64.wrap r * 11400714819323198485)))
  obtain ⟨c0, c1⟩ := wrapu_bd (hashI key + IntKind.u64.wrap (IntKind.u64.wrap r * 11400714819323198485))
  have HH := Lib.hid (refhash_q key hk)
  unfold atI
  have HM := Lib.hid (refmix_q _ c0 c1)
  have HS := Lib.hid (refslot_q _ (S.width : Int) b0 b1 (by omega) (by omega))
  clear hb b0 b1 c0 c1
  unfold rfCells
  go_enter Tryd.func38, Tryd.ntmps38
  go_wp2
  go_quiet (first | (go_at_call 51; exact Calls.quiet_of (HH.out _)) | (go_at_call 50; exact Calls.quiet_of (HM.out _)) | (go_at_call 49; exact Calls.quiet_of (HS.out _)))
  go_wp2
  go_ret
  exact ⟨rfl, ((bel_alloc _ _).trans ((Drawn0.below ⟨_, rfl⟩).mono (bel_alloc _ _).size))⟩
end Go.Proofs.YtpjdaglblckgfaaDoor
namespace Go.Proofs.YtpjdaglblckgfaaDoor
set_option linter.unusedVariables false
open Go.RowKit Go.Proofs.YtpjdaglblckgfaaDoorW.PrintWords
attribute [local go_sem ↓] Go.wp_at_zero Go.wp_at_succ

theorem least_bd {w : World} {LA nL : Nat} {R cp : Nat → Nat} {S : Sk} (h : IsRf w LA nL R cp S) (hash : Int) : ∀ k, k ≤ 4 → 0 ≤ leastI S hash k ∧ leastI S hash k ≤ 255
  | 0, _ => by simp [leastI]
  | k + 1, hk => by
    have ih := least_bd h hash k (by omega)
    have hw := h.w1
    have b := atI_bd k hash S.width (by omega)
    have := h.bd k (atI k hash S.width).toNat (by omega) (by omega)
    rw [leastI]
    split <;> omega

set_option maxHeartbeats 2000000 in
theorem refOf_any (LA nL : Nat) (R cp : Nat → Nat) (S : Sk) (key : ByteArray) (hk : key.size ≤ maxLen) (w : World) (hS : IsRf w LA nL R cp S) :
    Calls Tryd.prog 23 #[.agg (rfCells LA nL S), .string key] w fun e w' => e = .returned (.int .i64 (ofI S key)) ∧ Below w.heap.size w w' := by
  have w1 := hS.w1
  have w2 := hS.w2
  have n4 := hS.n4
  have HS := Lib.hid hS
  have HLB := Lib.hid (least_bd hS (hashI key))
  have hat : ∀ (k : Nat) W, _ := fun k W => refAt_any LA nL S k key hk w1 w2 W
  have HAT := Lib.hid hat
  clear hS hat
  have hofi : ofI S key = leastI S (hashI key) 4 := rfl
  rw [hofi]
  clear hofi
  unfold rfCells at HAT ⊢
  go_enter Tryd.func23, Tryd.ntmps23
  go_wp2_with fail
  have hbox := heap_alloc_new w (.cells #[.int .i64 S.width, .slice (some ⟨LA, 0, none⟩) 4 nL, .int .i64 S.total, .int .i64 S.limit, .int .i64 S.aged] 38)
  have B0 := Lib.hid (bel_alloc w (.cells #[.int .i64 S.width, .slice (some ⟨LA, 0, none⟩) 4 nL, .int .i64 S.total, .int .i64 S.limit, .int .i64 S.aged] 38))
  have HBOX := Lib.hid hbox
  clear hbox
  generalize w.alloc (.cells #[.int .i64 S.width, .slice (some ⟨LA, 0, none⟩) 4 nL, .int .i64 S.total, .int .i64 S.limit, .int .i64 S.aged] 38) = wb at *
  go_loopw [5, 6] (fun n i wr => ∃ k : Nat, k ≤ 4 ∧ i = .int .i64 k ∧ n = .int .i64 (leastI S (hashI key) k) ∧ Hid (Below wb.heap.size wb wr)) (fun _ i _ => 4 - (intOf i).toNat)
  case atStart => exact ⟨0, Nat.zero_le _, rfl, rfl, Below.refl _ _⟩
  case round =>
    obtain ⟨k, hk4, rfl, rfl, HE⟩ := hrel
    obtain ⟨lb0, lb1⟩ := HLB.out k hk4
    by_cases hlt : k < 4
    · have hbr := Lib.hid (show ∀ W, Below wr.heap.size wr W → Below w.heap.size w W from fun W hW => B0.out.trans ((HE.out.trans (hW.mono HE.out.size)).mono B0.out.size))
      obtain ⟨a0, a1⟩ := atI_bd k (hashI key) S.width (by omega)
      have hX : ∀ W, Below wr.heap.size wr W → W.cell? ⟨w.heap.size, 0, none⟩ = some (.int .i64 S.width) ∧ W.cell? ⟨w.heap.size, 1, none⟩ = some (.slice (some ⟨LA, 0, none⟩) 4 nL) ∧ W.cell? ⟨w.heap.size, 2, none⟩ = some (.int .i64 S.total) ∧ W.cell? ⟨w.heap.size, 3, none⟩ = some (.int .i64 S.limit) ∧ W.cell? ⟨w.heap.size, 4, none⟩ = some (.int .i64 S.aged) ∧ W.cell? ⟨LA, k, none⟩ = some (.slice (some ⟨R k, 0, none⟩) S.width (cp k)) ∧ W.cell? ⟨R k, (atI k (hashI key) S.width).toNat, none⟩ = some (.int .i64 (S.row k (atI k (hashI key) S.width).toNat)) := fun W hW => by
        have h1 := HE.out.trans (hW.mono HE.out.size)
        have h2 := (h1.block w.heap.size (Array.getElem?_eq_some_iff.1 HBOX.out).1).trans HBOX.out
        have h3 := HS.out.later (hbr.out W hW)
        exact ⟨cell_of_row W _ 0 _ _ (0, 0) h2, cell_of_row W _ 1 _ _ (0, 0) h2, cell_of_row W _ 2 _ _ (0, 0) h2, cell_of_row W _ 3 _ _ (0, 0) h2, cell_of_row W _ 4 _ _ (0, 0) h2, h3.cellh hlt, h3.cellr hlt (by omega)⟩
      have hls : leastI S (hashI key) (k + 1) = if S.row k (atI k (hashI key) S.width).toNat < leastI S (hashI key) k then S.row k (atI k (hashI key) S.width).toNat else leastI S (hashI key) k := rfl
      have hbd := HS.out.bd k (atI k (hashI key) S.width).toNat hlt (by omega)
      have HATk := Lib.hid (HAT.out k)
      have hcw := HS.out.cw k hlt
      generalize hat : atI k (hashI key) S.width = at_ at *
      have HAE := Lib.hid hat
      generalize hrv : S.row k at_.toNat = rv at *
      have HRV := Lib.hid hrv
      have HLS := Lib.hid hls
      obtain ⟨s0, s1, s2, s3, s4, s5, s6⟩ := hX wr (Below.refl _ _)
      have HX := Lib.hid hX
      have b0 : Hid (Below wr.heap.size wr wr.drew) := Drawn0.below ⟨1, rfl⟩
      clear hat hrv hls hX
      go_wp2_with fail
      obtain ⟨bb, hbb⟩ : ∃ bb, bb = decide (rv < leastI S (hashI key) k) := ⟨_, rfl⟩
      have HBB := Lib.hid hbb
      clear hbb
      go_cut [23] (fun x wx => x = .bool bb ∧ Hid (Below wr.heap.size wr wx))
      case first =>
        go_region_held3 (fun w' => w'.cell? ⟨w.heap.size, 0, none⟩ = some (.int .i64 S.width) ∧ w'.cell? ⟨w.heap.size, 1, none⟩ = some (.slice (some ⟨LA, 0, none⟩) 4 nL) ∧ w'.cell? ⟨w.heap.size, 2, none⟩ = some (.int .i64 S.total) ∧ w'.cell? ⟨w.heap.size, 3, none⟩ = some (.int .i64 S.limit) ∧ w'.cell? ⟨w.heap.size, 4, none⟩ = some (.int .i64 S.aged) ∧ w'.cell? ⟨LA, k, none⟩ = some (.slice (some ⟨R k, 0, none⟩) S.width (cp k)) ∧ w'.cell? ⟨R k, at_.toNat, none⟩ = some (.int .i64 rv)) (first | exact ⟨s0, s1, s2, s3, s4, s5, s6⟩ | exact HX.out _ b0.out | exact HX.out _ b1.out)
          ((go_at_call 38; ((with_reducible refine (HATk.out _).mono ?_)); rintro e y1 ⟨rfl, hb⟩; have b1 := Lib.hid (b0.out.trans (hb.mono b0.out.size)); clear hb))
        all_goals
          go_wp2_with fail
          go_meet
          exact ⟨by rw [HBB.out], b1⟩
      case rest =>
        obtain ⟨rfl, BX⟩ := hcut
        have BY := Lib.hid (HE.out.trans (BX.out.mono HE.out.size))
        have hcase : (rv < leastI S (hashI key) k ∧ bb = true) ∨ (¬ rv < leastI S (hashI key) k ∧ bb = false) := by
          rw [HBB.out]
          by_cases h : rv < leastI S (hashI key) k
          · exact .inl ⟨h, decide_eq_true h⟩
          · exact .inr ⟨h, decide_eq_false h⟩
        clear s0 s1 s2 s3 s4 s5 s6 b0
        rcases hcase with ⟨hlt2, rfl⟩ | ⟨hlt2, rfl⟩
        · have HL2 := Lib.hid hlt2
          clear hlt2
          obtain ⟨z0, z1, z2, z3, z4, z5, z6⟩ := HX.out _ BX.out
          have b0' : Hid (Below wr.heap.size wr wc.drew) := Lib.hid (BX.out.trans ((Drawn0.below ⟨1, rfl⟩).mono BX.out.size))
          go_wp2_with fail
          go_region_held3 (fun w' => w'.cell? ⟨w.heap.size, 0, none⟩ = some (.int .i64 S.width) ∧ w'.cell? ⟨w.heap.size, 1, none⟩ = some (.slice (some ⟨LA, 0, none⟩) 4 nL) ∧ w'.cell? ⟨w.heap.size, 2, none⟩ = some (.int .i64 S.total) ∧ w'.cell? ⟨w.heap.size, 3, none⟩ = some (.int .i64 S.limit) ∧ w'.cell? ⟨w.heap.size, 4, none⟩ = some (.int .i64 S.aged) ∧ w'.cell? ⟨LA, k, none⟩ = some (.slice (some ⟨R k, 0, none⟩) S.width (cp k)) ∧ w'.cell? ⟨R k, at_.toNat, none⟩ = some (.int .i64 rv)) (first | exact ⟨z0, z1, z2, z3, z4, z5, z6⟩ | exact HX.out _ b0'.out | exact HX.out _ b2.out)
            ((go_at_call 38; ((with_reducible refine (HATk.out _).mono ?_)); rintro e y2 ⟨rfl, hb⟩; have b2 := Lib.hid (b0'.out.trans (hb.mono b0'.out.size)); clear hb))
          all_goals
            have BZ := Lib.hid (HE.out.trans (b2.out.mono HE.out.size))
            go_wp2_with fail
            go_roundw
            case rel => exact ⟨k + 1, by omega, by go_num, by rw [HLS.out, if_pos HL2.out], BZ.out⟩
            case measure => simp [intOf]; omega
        · have HL2 := Lib.hid hlt2
          clear hlt2
          go_wp2_with fail
          go_roundw
          case rel => exact ⟨k + 1, by omega, by go_num, by rw [HLS.out, if_neg HL2.out], BY.out⟩
          case measure => simp [intOf]; omega
    · obtain rfl : k = 4 := by omega
      go_wp2_with fail
      go_ret
      exact ⟨rfl, B0.out.trans (HE.out.mono B0.out.size)⟩
end Go.Proofs.YtpjdaglblckgfaaDoor
namespace Go.Proofs.YtpjdaglblckgfaaDoor
set_option linter.unusedVariables false
open Go.RowKit Go.Proofs.YtpjdaglblckgfaaDoorW.PrintWords
attribute [local go_sem ↓] Go.wp_at_zero Go.wp_at_succ

theorem results_c {P : Program} {fn : Func} {p : Tmp} {ty : TypeId} (h : fn.results = #[.cell p ty]) (tmps : Array Value) (w : World) (g : Nat) (t : TypeId) (cs : Array Value) (fr : Nat × Nat) (d : TypeDesc)
    (hp : tmps.getD p undef = .pointer (some ⟨g, 0, none⟩)) (hg : w.heap[g]? = some (.cells cs t fr))
    (hu : P.underlying ty = some d) (hd : (match d with | .struct _ | .array _ _ => true | _ => false) = true) (hi : (P.info? ty).map (·.size) = some cs.size) :
    (results fn tmps).run P w = .ok (.agg cs) w := by
  have hp' : tmps[p]?.getD undef = .pointer (some ⟨g, 0, none⟩) := by simpa using hp
  simp [results, h, hp', asAddr, run_loadVar_row w g t ty cs fr d hg hu hd hi]
theorem C_of_cells {w : World} {A : Addr} {n : Nat} {xs : List Int} (hl : xs.length = n) (hn : n ≤ 9223372036854775807) (h : ∀ k, k < n → w.cell? (A.add k) = some (.int .i64 (iget xs k))) : (Kd.int .i64).C w (some A) n xs := by
  refine ⟨hl, hn, fun _ => ⟨A, rfl, fun j p hj => ⟨[.int .i64 p], rfl, rfl, fun i u hu => ?_⟩⟩⟩
  rcases i with _ | i
  · have : Value.int .i64 p = u := by simpa using hu
    subst this
    obtain ⟨hj1, rfl⟩ := List.getElem?_eq_some_iff.1 hj
    have := h j (by omega)
    rw [iget_eq hj1] at this
    simpa [Kd.int, Kd.scalar] using this
  · simp at hu
theorem info_hd : (Tryd.prog.info? 48).map (fun i => (i.zero, i.size, i.bytes)) = some (some (.slice none 0 0), 1, 24) := by kernel_rfl
def hdL (wd : Nat) (R cp : Nat → Nat) (i : Nat) : List Hd := (List.range i).map fun r => (some ⟨R r, 0, none⟩, wd, cp r)
theorem hdL_len (wd : Nat) (R cp : Nat → Nat) (i : Nat) : (hdL wd R cp i).length = i := by simp [hdL]
theorem hdL_succ (wd : Nat) (R cp : Nat → Nat) (i : Nat) : hdL wd R cp (i + 1) = hdL wd R cp i ++ [(some ⟨R i, 0, none⟩, wd, cp i)] := by simp [hdL, List.range_succ]
theorem hdL_congr (wd : Nat) {R cp R' cp' : Nat → Nat} (i : Nat) (h : ∀ r, r < i → R' r = R r ∧ cp' r = cp r) : hdL wd R' cp' i = hdL wd R cp i := by
  unfold hdL
  refine List.map_congr_left fun r hr => ?_
  have := h r (List.mem_range.1 hr)
  rw [this.1, this.2]
/-- The first rows, copied. -/
structure CopyRel (w wr : World) (LA nL : Nat) (S : Sk) (i : Nat) (R cp : Nat → Nat) (lv : Value) : Prop where
  b0 : wr.heap[w.heap.size]? = some (.cells (rfCells LA nL S) 38 (0, 0))
  b1 : wr.heap[w.heap.size + 1]? = some (.cells #[.int .i64 0, .slice none 0 0, .int .i64 0, .int .i64 0, .int .i64 0] 38 (0, 0))
  b2 : wr.heap[w.heap.size + 2]? = some (.cells #[.int .i64 S.width, lv, .int .i64 S.total, .int .i64 S.limit, .int .i64 S.aged] 38 (0, 0))
  row : kHd.R 48 wr (w.heap.size + 3) (fun _ => True) lv (hdL S.width R cp i)
  rows : ∀ r, r < i → w.heap.size + 3 ≤ R r ∧ S.width ≤ cp r ∧ ∃ f, wr.rowIs (R r) 3 (cp r) f ∧ ∀ k, k < S.width → f k = .int .i64 (S.row r k)
  inj : ∀ r s, r < i → s < i → r ≠ s → R r ≠ R s
  bel : Below w.heap.size w wr
  hs : w.heap.size + 3 ≤ wr.heap.size
theorem CopyRel.later {w wr w1 : World} {LA nL i : Nat} {S : Sk} {R cp : Nat → Nat} {lv : Value} (h : CopyRel w wr LA nL S i R cp lv) (hb : Below wr.heap.size wr w1) : CopyRel w w1 LA nL S i R cp lv := by
  have blk : ∀ {k : Nat} {o : Obj}, wr.heap[k]? = some o → w1.heap[k]? = some o := fun {k o} hk => (hb.block k (Array.getElem?_eq_some_iff.1 hk).1).trans hk
  refine ⟨blk h.b0, blk h.b1, blk h.b2, Kd.R_below h.row hb, fun r hr => ?_, h.inj, h.bel.trans (hb.mono h.bel.size), Nat.le_trans h.hs hb.size⟩
  obtain ⟨h1, h2, f, h3, h4⟩ := h.rows r hr
  exact ⟨h1, h2, f, h3.of_block (hb.block _ h3.lt), h4⟩
/-- A row more. -/
theorem CopyRel.push {w wr w1 : World} {LA nL i g c : Nat} {S : Sk} {R cp : Nat → Nat} {lv v1 : Value} {f : Nat → Value} (h : CopyRel w wr LA nL S i R cp lv) (hg : w.heap.size + 3 ≤ g) (hc : S.width ≤ c) (hf : wr.rowIs g 3 c f) (hfv : ∀ k, k < S.width → f k = .int .i64 (S.row i k)) (hne : ∀ r, r < i → R r ≠ g)
    (hr : kHd.R 48 w1 (w.heap.size + 3) (fun _ => True) v1 (hdL S.width R cp i ++ [(some ⟨g, 0, none⟩, S.width, c)])) (hb : Below (w.heap.size + 3) wr w1) (hgr : wr.grownBy w1 lv.ownBlock) :
    CopyRel w (w1.setCell ⟨w.heap.size + 2, 1, none⟩ v1) LA nL S (i + 1) (fun r => if r = i then g else R r) (fun r => if r = i then c else cp r) v1 := by
  obtain ⟨inner, ho⟩ := Kd.R_own h.row
  have keep : ∀ {k : Nat} {cs : Array Value} {t : TypeId}, wr.heap[k]? = some (.cells cs t (0, 0)) → t ≠ 48 → w1.heap[k]? = some (.cells cs t (0, 0)) := fun {k cs t} hk ht => by
    refine (hgr.block k (Array.getElem?_eq_some_iff.1 hk).1 fun e => ?_).trans hk
    obtain ⟨cells, hcl⟩ := own_typed ho k e.symm
    rw [hk] at hcl
    simp at hcl
    exact ht hcl.2
  have keepr : ∀ {k n : Nat} {q : Nat → Value}, wr.rowIs k 3 n q → k ≠ w.heap.size + 2 → (w1.setCell ⟨w.heap.size + 2, 1, none⟩ v1).rowIs k 3 n q := fun {k n q} hk hne2 => by
    obtain ⟨cs, h1, h2⟩ := hk
    refine World.rowIs.of_block (w := wr) ⟨cs, h1, h2⟩ ?_
    rw [Below.heap_setCell _ _ _ _ hne2, keep h1 (by decide), h1]
  have b2 := keep h.b2 (by decide)
  have off : ∀ k, k ≠ w.heap.size + 2 → (w1.setCell ⟨w.heap.size + 2, 1, none⟩ v1).heap[k]? = w1.heap[k]? := fun k hk => Below.heap_setCell _ _ _ _ hk
  refine ⟨(off _ (by omega)).trans (keep h.b0 (by decide)), (off _ (by omega)).trans (keep h.b1 (by decide)), ?_, ?_, fun r hr' => ?_, fun r s hr' hs' hrs => ?_, ?_, ?_⟩
  · have := blk_set b2 1 v1
    simpa using this
  · rw [hdL_succ, hdL_congr S.width i (R := R) (cp := cp) (fun r hr => by rw [if_neg (by omega), if_neg (by omega)]; exact ⟨rfl, rfl⟩), if_pos rfl, if_pos rfl]
    exact Kd.R_set hr b2 (fun q hq => by
      have : q = 48 := by simpa [kHd, Kd.scalar] using hq
      rw [this]; decide) 1 _
  · by_cases e : r = i
    · subst e
      rw [if_pos rfl, if_pos rfl]
      exact ⟨hg, hc, f, keepr hf (by omega), hfv⟩
    · rw [if_neg e, if_neg e]
      obtain ⟨h1, h2, f', h3, h4⟩ := h.rows r (by omega)
      exact ⟨h1, h2, f', keepr h3 (by omega), h4⟩
  · by_cases e : r = i
    · subst e
      rw [if_pos rfl, if_neg (fun e => hrs e.symm)]
      exact fun e2 => hne s (by omega) e2.symm
    · rw [if_neg e]
      by_cases e2 : s = i
      · rw [if_pos e2]; exact hne r (by omega)
      · rw [if_neg e2]; exact h.inj r s (by omega) (by omega) hrs
  · exact (h.bel.trans (hb.mono (by omega))).setCell (by show w.heap.size ≤ w.heap.size + 2; omega) _
  · have := hgr.size
    have := h.hs
    simp [World.setCell]
    omega

theorem row_C {w : World} {LA nL : Nat} {R cp : Nat → Nat} {S : Sk} (h : IsRf w LA nL R cp S) {r : Nat} (hr : r < 4) : (Kd.int .i64).C w (some ⟨R r, 0, none⟩) S.width (S.rowL r) := by
  refine C_of_cells (S.rowL_len r) (by have := h.w2; omega) fun k hk => ?_
  rw [Go.Proofs.YtpjdaglblckgfaaDoorW.PrintWords.add_plain, h.cellr hr hk, S.rowL_get r k hk]

theorem CopyRel.slot {w wr w1 : World} {LA nL i : Nat} {S : Sk} {R cp : Nat → Nat} {lv : Value} (h : CopyRel w wr LA nL S i R cp lv) (hgr : wr.grownBy w1 lv.ownBlock) : w1.cell? ⟨w.heap.size + 1 + 1, 1, none⟩ = some lv ∧ w1.frozen? ⟨w.heap.size + 1 + 1, 1, none⟩ = false := by
  obtain ⟨inner, ho⟩ := Kd.R_own h.row
  have b2 : w1.heap[w.heap.size + 1 + 1]? = some (.cells #[.int .i64 S.width, lv, .int .i64 S.total, .int .i64 S.limit, .int .i64 S.aged] 38 (0, 0)) := by
    refine (hgr.block _ (Array.getElem?_eq_some_iff.1 h.b2).1 fun e => ?_).trans h.b2
    obtain ⟨cells, hcl⟩ := own_typed ho _ e.symm
    rw [h.b2] at hcl
    simp at hcl
  exact ⟨cell_of_row w1 _ 1 _ _ (0, 0) b2, by simp [World.frozen?, b2]⟩
theorem set5 {w : World} {b : Nat} {t : TypeId} {y0 y1 y2 y3 y4 : Value} (h : w.heap[b]? = some (.cells #[y0, y1, y2, y3, y4] t (0, 0))) (x0 x1 x2 x3 x4 : Value) :
    (((((w.setCell ⟨b, 0, none⟩ x0).setCell ⟨b, 1, none⟩ x1).setCell ⟨b, 2, none⟩ x2).setCell ⟨b, 3, none⟩ x3).setCell ⟨b, 4, none⟩ x4).heap[b]? = some (.cells #[x0, x1, x2, x3, x4] t (0, 0)) ∧
    ∀ k, k ≠ b → (((((w.setCell ⟨b, 0, none⟩ x0).setCell ⟨b, 1, none⟩ x1).setCell ⟨b, 2, none⟩ x2).setCell ⟨b, 3, none⟩ x3).setCell ⟨b, 4, none⟩ x4).heap[k]? = w.heap[k]? := by
  have h0 := blk_set h 0 x0
  have h1 := blk_set h0 1 x1
  have h2 := blk_set h1 2 x2
  have h3 := blk_set h2 3 x3
  have h4 := blk_set h3 4 x4
  refine ⟨by simpa using h4, fun k hk => ?_⟩
  rw [Below.heap_setCell _ _ _ _ hk, Below.heap_setCell _ _ _ _ hk, Below.heap_setCell _ _ _ _ hk, Below.heap_setCell _ _ _ _ hk, Below.heap_setCell _ _ _ _ hk]
theorem IsRf.off {w w' : World} {LA nL b : Nat} {R cp : Nat → Nat} {S : Sk} (h : IsRf w LA nL R cp S) (hb : ∀ k, k ≠ b → w'.heap[k]? = w.heap[k]?) (h1 : LA ≠ b) (h2 : ∀ r, r < 4 → R r ≠ b) : IsRf w' LA nL R cp S := by
  obtain ⟨f, h3, h4⟩ := h.head
  refine ⟨h.w1, h.w2, ⟨f, h3.of_block (hb _ h1), h4⟩, fun r hr => ?_, h.n4, h.cw, h.inj, h.bd⟩
  obtain ⟨g, h5, h6⟩ := h.row r hr
  exact ⟨g, h5.of_block (hb _ (h2 r hr)), h6⟩
theorem CopyRel.fin {w wr : World} {LA nL : Nat} {S : Sk} {R cp R0 cp0 : Nat → Nat} {lv : Value} (h : CopyRel w wr LA nL S 4 R cp lv) (hS : IsRf wr LA nL R0 cp0 S) :
    ∃ LA' nL', lv = .slice (some ⟨LA', 0, none⟩) 4 nL' ∧ IsRf wr LA' nL' R cp S ∧ w.heap.size + 3 ≤ LA' := by
  have ho := Kd.own_of_R h.row
  rw [hdL_len] at ho
  obtain ⟨g, cap, f, hv, hb, hc, hf, hx⟩ := own_row ho (by omega)
  refine ⟨g, cap, hv, ⟨hS.w1, hS.w2, ⟨f, hf, fun r hr => ?_⟩, fun r hr => (h.rows r hr).2.2, hc, fun r hr => (h.rows r hr).2.1, fun r s hr hs => h.inj r s hr hs, hS.bd⟩, hb⟩
  have := hx r hr
  simp [encs, hdL, hr] at this
  exact this.symm

/-- A sketch of the document's, made by the call. -/
def RfPost (w : World) (S : Sk) (e : Ending) (w' : World) : Prop := ∃ LA nL R cp, e = .returned (.agg (rfCells LA nL S)) ∧ IsRf w' LA nL R cp S ∧ RfOwn w.heap.size LA R ∧ Below w.heap.size w w'
set_option maxHeartbeats 2000000 in
theorem copied_any (LA nL : Nat) (R cp : Nat → Nat) (S : Sk) (w : World) (hS : IsRf w LA nL R cp S) :
    Calls Tryd.prog 37 #[.agg (rfCells LA nL S)] w (RfPost w S) := by
  have w1 := hS.w1
  have w2 := hS.w2
  have n4 := hS.n4
  have HS := Lib.hid hS
  clear hS
  have hrf : rfCells LA nL S = #[.int .i64 S.width, .slice (some ⟨LA, 0, none⟩) 4 nL, .int .i64 S.total, .int .i64 S.limit, .int .i64 S.aged] := rfl
  rw [hrf]
  clear hrf
  go_enter Tryd.func37, Tryd.ntmps37
  go_wp2_with fail
  have H0 : Hid (CopyRel w (((w.alloc (.cells #[.int .i64 S.width, .slice (some ⟨LA, 0, none⟩) 4 nL, .int .i64 S.total, .int .i64 S.limit, .int .i64 S.aged] 38)).alloc (.cells #[.int .i64 0, .slice none 0 0, .int .i64 0, .int .i64 0, .int .i64 0] 38)).alloc (.cells #[.int .i64 S.width, .slice none 0 0, .int .i64 S.total, .int .i64 S.limit, .int .i64 S.aged] 38)) LA nL S 0 (fun _ => 0) (fun _ => 0) (.slice none 0 0)) := by
    refine ⟨?_, ?_, ?_, Kd.R_nil _ _ _ _ _, fun r hr => absurd hr (Nat.not_lt_zero _), fun r s hr => absurd hr (Nat.not_lt_zero _), ?_, by simp⟩
    · exact (Below.heap_alloc _ _ _ (by simp; omega)).trans ((Below.heap_alloc _ _ _ (by simp)).trans (heap_alloc_new _ _))
    · refine (Below.heap_alloc _ _ _ (by simp)).trans ?_
      have := heap_alloc_new (w.alloc (.cells #[.int .i64 S.width, .slice (some ⟨LA, 0, none⟩) 4 nL, .int .i64 S.total, .int .i64 S.limit, .int .i64 S.aged] 38)) (.cells #[.int .i64 0, .slice none 0 0, .int .i64 0, .int .i64 0, .int .i64 0] 38)
      simpa using this
    · have := heap_alloc_new ((w.alloc (.cells #[.int .i64 S.width, .slice (some ⟨LA, 0, none⟩) 4 nL, .int .i64 S.total, .int .i64 S.limit, .int .i64 S.aged] 38)).alloc (.cells #[.int .i64 0, .slice none 0 0, .int .i64 0, .int .i64 0, .int .i64 0] 38)) (.cells #[.int .i64 S.width, .slice none 0 0, .int .i64 S.total, .int .i64 S.limit, .int .i64 S.aged] 38)
      simpa using this
    · exact (((Below.refl _ _).alloc (Nat.le_refl _) _).alloc (by simp) _).alloc (by simp; omega) _
  generalize ((w.alloc (.cells #[.int .i64 S.width, .slice (some ⟨LA, 0, none⟩) 4 nL, .int .i64 S.total, .int .i64 S.limit, .int .i64 S.aged] 38)).alloc (.cells #[.int .i64 0, .slice none 0 0, .int .i64 0, .int .i64 0, .int .i64 0] 38)).alloc (.cells #[.int .i64 S.width, .slice none 0 0, .int .i64 S.total, .int .i64 S.limit, .int .i64 S.aged] 38) = wb at *
  go_loopw [4] (fun i wr => ∃ k : Nat, k ≤ 4 ∧ i = .int .i64 k ∧ Hid (∃ R' cp' lv, CopyRel w wr LA nL S k R' cp' lv)) (fun i _ => 4 - (intOf i).toNat)
  case atStart => exact ⟨0, Nat.zero_le _, rfl, _, _, _, H0.out⟩
  case round =>
    obtain ⟨k, hk4, rfl, HD⟩ := hrel
    obtain ⟨R', cp', lv, HD⟩ : ∃ R' cp' lv, Hid (CopyRel w wr LA nL S k R' cp' lv) := by
      obtain ⟨a, b, c, h⟩ := HD.out
      exact ⟨a, b, c, h⟩
    have IS := Lib.hid (HS.out.later HD.out.bel)
    obtain ⟨lA, lc, hlv⟩ := Kd.R_slice HD.out.row
    rw [hdL_len] at hlv
    subst hlv
    have x1 : wr.cell? ⟨w.heap.size, 1, none⟩ = some (.slice (some ⟨LA, 0, none⟩) 4 nL) := cell_of_row wr _ 1 _ _ (0, 0) HD.out.b0
    by_cases hlt : k < 4
    · have x2 : wr.cell? ⟨LA, k, none⟩ = some (.slice (some ⟨R k, 0, none⟩) S.width (cp k)) := IS.out.cellh hlt
      have hcw := IS.out.cw k hlt
      have hrl := S.rowL_len k
      have HRL := Lib.hid hrl
      clear hrl
      go_wp2_with (first
        | (at_builtin; refine Kd.R_append_row (Value.int .i64) (0 : Int) (w0 := wr) wr.heap.size rfl (.tmp 15) (.tmp 20) 48 3 (.int .i64 0) 8 rfl Tryd.underlying48 info_int rfl (by omega) _ [] (S.rowL k) (some ⟨R k, 0, none⟩) S.width (cp k) (fun _ => True) rfl rfl (fun _ _ => trivial) (Kd.R_nil _ _ _ _ _) (row_C IS.out hlt) (Below.refl _ _) (Nat.le_refl _) (by simp; omega) ?_; intro v5 w5 ho5 hb5 hg5 hat5; rw [List.nil_append] at ho5; have ho5b := Kd.own_of_R ho5; rw [HRL.out] at ho5b; obtain ⟨g5, c5, f5, hv5, hgb5, hc5, hf5, hx5⟩ := own_row ho5b (by omega); subst hv5; have D5 := Lib.hid (HD.out.later hb5); have G5 := Lib.hid (And.intro hgb5 (And.intro hc5 (And.intro hf5 hx5))); have y1 : w5.cell? ⟨w.heap.size + 1 + 1, 1, none⟩ = some (.slice lA k lc) := cell_of_row w5 _ 1 _ _ (0, 0) D5.out.b2; clear ho5 hb5 hg5 hat5 ho5b hgb5 hc5 hf5 hx5)
        | (at_builtin; refine Kd.R_append kHd (w0 := w5) (w.heap.size + 3) rfl (.tmp 23) (.tmp 25) 36 48 (.slice none 0 0) 24 rfl Tryd.underlying36 info_hd rfl (by decide) (by omega) (.slice lA k lc) (hdL S.width R' cp' k) (some ⟨g5, 0, none⟩, S.width, c5) [.slice (some ⟨g5, 0, none⟩) S.width c5] (fun _ => True) (fun _ => False) rfl rfl rfl (fun _ hk => hk.elim) (fun _ _ => trivial) D5.out.row (Below.refl _ _) D5.out.hs (by rw [hdL_len]; omega) ?_; intro v6 w6 ho6 hb6 hg6 hat6; obtain ⟨A6, c6, hv6⟩ := Kd.R_slice ho6; rw [List.length_append, hdL_len, List.length_singleton] at hv6; subst hv6; obtain ⟨z1, z2⟩ := D5.out.slot hg6; have D6 := Lib.hid (D5.out.push (Nat.le_trans HD.out.hs G5.out.1) G5.out.2.1 G5.out.2.2.1 (fun j hj => by have h1 := G5.out.2.2.2 j hj; have h2 := S.rowL_get k j hj; rw [iget_eq (by rw [HRL.out]; exact hj)] at h2; rw [← h2]; simpa [encs, HRL.out, hj] using h1.symm) (fun r hr e => by obtain ⟨_, _, f, h1, _⟩ := HD.out.rows r hr; have := h1.lt; have := G5.out.1; omega) ho6 hb6 hg6); clear ho6 hb6 hg6 hat6))
      go_roundw
      case rel => exact ⟨k + 1, by omega, by go_num, _, _, _, D6.out⟩
      case measure => simp [intOf]; omega
    · obtain rfl : k = 4 := by omega
      obtain ⟨LA2, nL2, hlv, F, hbase⟩ := HD.out.fin IS.out
      injection hlv with e1 e2 e3
      subst e1 e3
      have FF := Lib.hid F
      have hp1 : wr.cell? ⟨w.heap.size + 1 + 1, 0, none⟩ = some (.int .i64 S.width) := cell_of_row wr _ 0 _ _ (0, 0) HD.out.b2
      have hp2 : wr.cell? ⟨w.heap.size + 1 + 1, 1, none⟩ = some (.slice (some ⟨LA2, 0, none⟩) 4 lc) := cell_of_row wr _ 1 _ _ (0, 0) HD.out.b2
      have hp3 : wr.cell? ⟨w.heap.size + 1 + 1, 2, none⟩ = some (.int .i64 S.total) := cell_of_row wr _ 2 _ _ (0, 0) HD.out.b2
      have hp4 : wr.cell? ⟨w.heap.size + 1 + 1, 3, none⟩ = some (.int .i64 S.limit) := cell_of_row wr _ 3 _ _ (0, 0) HD.out.b2
      have hp5 : wr.cell? ⟨w.heap.size + 1 + 1, 4, none⟩ = some (.int .i64 S.aged) := cell_of_row wr _ 4 _ _ (0, 0) HD.out.b2
      have hq1 : wr.cell? ⟨w.heap.size + 1, 0, none⟩ = some (.int .i64 0) := cell_of_row wr _ 0 _ _ (0, 0) HD.out.b1
      have hq2 : wr.cell? ⟨w.heap.size + 1, 1, none⟩ = some (.slice none 0 0) := cell_of_row wr _ 1 _ _ (0, 0) HD.out.b1
      have hq3 : wr.cell? ⟨w.heap.size + 1, 2, none⟩ = some (.int .i64 0) := cell_of_row wr _ 2 _ _ (0, 0) HD.out.b1
      have hq4 : wr.cell? ⟨w.heap.size + 1, 3, none⟩ = some (.int .i64 0) := cell_of_row wr _ 3 _ _ (0, 0) HD.out.b1
      have hq5 : wr.cell? ⟨w.heap.size + 1, 4, none⟩ = some (.int .i64 0) := cell_of_row wr _ 4 _ _ (0, 0) HD.out.b1
      have hf0 : ∀ j, wr.frozen? ⟨w.heap.size + 1, j, none⟩ = false := fun j => by simp [World.frozen?, HD.out.b1]
      obtain ⟨f0, f1, f2, f3, f4⟩ : wr.frozen? ⟨w.heap.size + 1, 0, none⟩ = false ∧ wr.frozen? ⟨w.heap.size + 1, 1, none⟩ = false ∧ wr.frozen? ⟨w.heap.size + 1, 2, none⟩ = false ∧ wr.frozen? ⟨w.heap.size + 1, 3, none⟩ = false ∧ wr.frozen? ⟨w.heap.size + 1, 4, none⟩ = false := ⟨hf0 0, hf0 1, hf0 2, hf0 3, hf0 4⟩
      clear F hf0
      go_wp2_with fail
      obtain ⟨q1, q2⟩ := set5 HD.out.b1 (.int .i64 S.width) (.slice (some ⟨LA2, 0, none⟩) 4 lc) (.int .i64 S.total) (.int .i64 S.limit) (.int .i64 S.aged)
      refine bodyPost_ret (results_c rfl _ _ (w.heap.size + 1) 38 (rfCells LA2 lc S) (0, 0) _ rfl q1 Tryd.underlying38 rfl (by kernel_rfl)) rfl ?_
      refine ⟨LA2, lc, R', cp', rfl, FF.out.off q2 (by omega) (fun r hr => by have := (HD.out.rows r hr).1; omega), ⟨by omega, fun r hr => by have := (HD.out.rows r hr).1; omega⟩, ?_⟩
      exact ((((HD.out.bel.setCell (by show w.heap.size ≤ w.heap.size + 1; omega) _).setCell (by show w.heap.size ≤ w.heap.size + 1; omega) _).setCell (by show w.heap.size ≤ w.heap.size + 1; omega) _).setCell (by show w.heap.size ≤ w.heap.size + 1; omega) _).setCell (by show w.heap.size ≤ w.heap.size + 1; omega) _
end Go.Proofs.YtpjdaglblckgfaaDoor
namespace Go.Proofs.YtpjdaglblckgfaaDoor
set_option linter.unusedVariables false
open Go.RowKit Go.Proofs.YtpjdaglblckgfaaDoorW.PrintWords

/-- What lies while the document's Age or Add goes on: the argument's box, the result's, and the new sketch's. -/
structure WorkRel (w wr : World) (a : Array Value) (q LA nL : Nat) (R cp : Nat → Nat) (T : Sk) : Prop where
  b0 : wr.heap[w.heap.size]? = some (.cells a 38 (0, 0))
  b1 : wr.heap[w.heap.size + 1]? = some (.cells #[.int .i64 0, .slice none 0 0, .int .i64 0, .int .i64 0, .int .i64 0] 38 (0, 0))
  b2 : wr.heap[q]? = some (.cells (rfCells LA nL T) 38 (0, 0))
  rf : IsRf wr LA nL R cp T
  own : RfOwn (w.heap.size + 2) LA R
  hq : w.heap.size + 2 ≤ q
  bel : Below w.heap.size w wr
namespace WorkRel
variable {w wr w1 : World} {a : Array Value} {q LA nL : Nat} {R cp : Nat → Nat} {T T' : Sk}
theorem later (h : WorkRel w wr a q LA nL R cp T) (hb : Below wr.heap.size wr w1) : WorkRel w w1 a q LA nL R cp T := by
  have blk : ∀ {k : Nat} {o : Obj}, wr.heap[k]? = some o → w1.heap[k]? = some o := fun {k o} hk => (hb.block k (Array.getElem?_eq_some_iff.1 hk).1).trans hk
  exact ⟨blk h.b0, blk h.b1, blk h.b2, h.rf.later hb, h.own, h.hq, h.bel.trans (hb.mono h.bel.size)⟩
theorem congr (h : WorkRel w wr a q LA nL R cp T) (h0 : T'.width = T.width) (h1 : T'.total = T.total) (h2 : T'.limit = T.limit) (h3 : T'.aged = T.aged) (hr : ∀ r k, r < 4 → k < T.width → T'.row r k = T.row r k) : WorkRel w wr a q LA nL R cp T' :=
  ⟨h.b0, h.b1, by have := h.b2; unfold rfCells at this ⊢; rw [h0, h1, h2, h3]; exact this, h.rf.congr h0 hr, h.own, h.hq, h.bel⟩
theorem ne_row (h : WorkRel w wr a q LA nL R cp T) {b : Nat} {cs : Array Value} (hb : wr.heap[b]? = some (.cells cs 38 (0, 0))) {r : Nat} (hr : r < 4) : b ≠ R r ∧ b ≠ LA := by
  obtain ⟨f, ⟨c, h1, _⟩, _⟩ := h.rf.row r hr
  obtain ⟨f2, ⟨c2, h2, _⟩, _⟩ := h.rf.head
  constructor
  · intro e; rw [e, h1] at hb; simp at hb
  · intro e; rw [e, h2] at hb; simp at hb
theorem setRow (h : WorkRel w wr a q LA nL R cp T) {r k : Nat} (hr : r < 4) {v : Int} (hv : 0 ≤ v ∧ v ≤ 255) :
    WorkRel w (wr.setCell ⟨R r, k, none⟩ (.int .i64 v)) a q LA nL R cp { T with row := fun r' k' => if r' = r ∧ k' = k then v else T.row r' k' } := by
  have off : ∀ b, b ≠ R r → (wr.setCell ⟨R r, k, none⟩ (.int .i64 v)).heap[b]? = wr.heap[b]? := fun b hb => Below.heap_setCell _ _ _ _ hb
  exact ⟨(off _ (h.ne_row h.b0 hr).1).trans h.b0, (off _ (h.ne_row h.b1 hr).1).trans h.b1, (off _ (h.ne_row h.b2 hr).1).trans h.b2, h.rf.setRow hr hv, h.own, h.hq, h.bel.setCell (by show w.heap.size ≤ R r; have := h.own.2 r hr; omega) _⟩
theorem setTot (h : WorkRel w wr a q LA nL R cp T) (n : Int) : WorkRel w (wr.setCell ⟨q, 2, none⟩ (.int .i64 n)) a q LA nL R cp { T with total := n } := by
  have off : ∀ b, b ≠ q → (wr.setCell ⟨q, 2, none⟩ (.int .i64 n)).heap[b]? = wr.heap[b]? := fun b hb => Below.heap_setCell _ _ _ _ hb
  have hq := h.hq
  exact ⟨(off _ (by omega)).trans h.b0, (off _ (by omega)).trans h.b1, by simpa [rfCells] using blk_set h.b2 2 (.int .i64 n), (h.rf.off off (h.ne_row h.b2 (r := 0) (by omega)).2.symm (fun r hr => (h.ne_row h.b2 hr).1.symm)).congr rfl (fun _ _ _ _ => rfl), h.own, h.hq, h.bel.setCell (by show w.heap.size ≤ q; omega) _⟩
theorem setAge (h : WorkRel w wr a q LA nL R cp T) (n : Int) : WorkRel w (wr.setCell ⟨q, 4, none⟩ (.int .i64 n)) a q LA nL R cp { T with aged := n } := by
  have off : ∀ b, b ≠ q → (wr.setCell ⟨q, 4, none⟩ (.int .i64 n)).heap[b]? = wr.heap[b]? := fun b hb => Below.heap_setCell _ _ _ _ hb
  have hq := h.hq
  exact ⟨(off _ (by omega)).trans h.b0, (off _ (by omega)).trans h.b1, by simpa [rfCells] using blk_set h.b2 4 (.int .i64 n), (h.rf.off off (h.ne_row h.b2 (r := 0) (by omega)).2.symm (fun r hr => (h.ne_row h.b2 hr).1.symm)).congr rfl (fun _ _ _ _ => rfl), h.own, h.hq, h.bel.setCell (by show w.heap.size ≤ q; omega) _⟩
theorem cell (h : WorkRel w wr a q LA nL R cp T) (j : Nat) : wr.cell? ⟨q, j, none⟩ = (rfCells LA nL T)[j]? := cell_of_row wr q j _ _ (0, 0) h.b2
theorem fro (h : WorkRel w wr a q LA nL R cp T) (j : Nat) : wr.frozen? ⟨q, j, none⟩ = false := by simp [World.frozen?, h.b2]
theorem fin (h : WorkRel w wr a q LA nL R cp T) :
    IsRf (((((wr.setCell ⟨w.heap.size + 1, 0, none⟩ (.int .i64 T.width)).setCell ⟨w.heap.size + 1, 1, none⟩ (.slice (some ⟨LA, 0, none⟩) 4 nL)).setCell ⟨w.heap.size + 1, 2, none⟩ (.int .i64 T.total)).setCell ⟨w.heap.size + 1, 3, none⟩ (.int .i64 T.limit)).setCell ⟨w.heap.size + 1, 4, none⟩ (.int .i64 T.aged)) LA nL R cp T ∧
    Below w.heap.size w (((((wr.setCell ⟨w.heap.size + 1, 0, none⟩ (.int .i64 T.width)).setCell ⟨w.heap.size + 1, 1, none⟩ (.slice (some ⟨LA, 0, none⟩) 4 nL)).setCell ⟨w.heap.size + 1, 2, none⟩ (.int .i64 T.total)).setCell ⟨w.heap.size + 1, 3, none⟩ (.int .i64 T.limit)).setCell ⟨w.heap.size + 1, 4, none⟩ (.int .i64 T.aged)) := by
  obtain ⟨q1, q2⟩ := set5 h.b1 (.int .i64 T.width) (.slice (some ⟨LA, 0, none⟩) 4 nL) (.int .i64 T.total) (.int .i64 T.limit) (.int .i64 T.aged)
  have h1 := h.own
  refine ⟨h.rf.off q2 (by have := h1.1; omega) (fun r hr => by have := h1.2 r hr; omega), ?_⟩
  exact ((((h.bel.setCell (by show w.heap.size ≤ w.heap.size + 1; omega) _).setCell (by show w.heap.size ≤ w.heap.size + 1; omega) _).setCell (by show w.heap.size ≤ w.heap.size + 1; omega) _).setCell (by show w.heap.size ≤ w.heap.size + 1; omega) _).setCell (by show w.heap.size ≤ w.heap.size + 1; omega) _
end WorkRel

set_option maxHeartbeats 2000000 in
set_option maxRecDepth 100000 in
theorem refAge_any (LA nL : Nat) (R cp : Nat → Nat) (S : Sk) (w : World) (hS : IsRf w LA nL R cp S) (ht0 : 0 ≤ S.total) (ht1 : S.total ≤ 4611686018427387904) (ha0 : 0 ≤ S.aged) (ha1 : S.aged ≤ 4611686018427387904) :
    Calls Tryd.prog 20 #[.agg (rfCells LA nL S)] w (RfPost w S.age) := by
  have hw1 := hS.w1
  have hw2 := hS.w2
  have n4 := hS.n4
  have HS := Lib.hid hS
  clear hS
  have hcop : ∀ W, Below w.heap.size w W → _ := fun W hW => copied_any LA nL R cp S W (HS.out.later hW)
  have HCOP := Lib.hid hcop
  clear hcop
  have hrf : rfCells LA nL S = #[.int .i64 S.width, .slice (some ⟨LA, 0, none⟩) 4 nL, .int .i64 S.total, .int .i64 S.limit, .int .i64 S.aged] := rfl
  rw [hrf] at HCOP ⊢
  clear hrf
  go_enter Tryd.func20, Tryd.ntmps20
  go_wp2_with fail
  refine (HCOP.out _ (((Below.refl _ _).alloc (Nat.le_refl _) _).alloc (by simp) _)).mono ?_
  rintro e w3 ⟨LA', nL', R', cp', rfl, hrf', hown', hb'⟩
  have hrf2 : rfCells LA' nL' S = #[.int .i64 S.width, .slice (some ⟨LA', 0, none⟩) 4 nL', .int .i64 S.total, .int .i64 S.limit, .int .i64 S.aged] := rfl
  rw [hrf2]
  clear hrf2
  have H0 : Hid (WorkRel w (w3.alloc (.cells #[.int .i64 S.width, .slice (some ⟨LA', 0, none⟩) 4 nL', .int .i64 S.total, .int .i64 S.limit, .int .i64 S.aged] 38)) #[.int .i64 S.width, .slice (some ⟨LA, 0, none⟩) 4 nL, .int .i64 S.total, .int .i64 S.limit, .int .i64 S.aged] w3.heap.size LA' nL' R' cp' S) := by
    have hs := hb'.size
    simp at hs
    refine ⟨?_, ?_, heap_alloc_new _ _, hrf'.later (bel_alloc _ _), ⟨by simpa using hown'.1, fun r hr => by simpa using hown'.2 r hr⟩, by omega, ?_⟩
    · exact (Below.heap_alloc _ _ _ (by omega)).trans ((hb'.block _ (by simp; omega)).trans ((Below.heap_alloc _ _ _ (by simp)).trans (heap_alloc_new _ _)))
    · refine (Below.heap_alloc _ _ _ (by omega)).trans ((hb'.block _ (by simp)).trans ?_)
      have := heap_alloc_new (w.alloc (.cells #[.int .i64 S.width, .slice (some ⟨LA, 0, none⟩) 4 nL, .int .i64 S.total, .int .i64 S.limit, .int .i64 S.aged] 38)) (.cells #[.int .i64 0, .slice none 0 0, .int .i64 0, .int .i64 0, .int .i64 0] 38)
      simpa using this
    · have h2 : Below w.heap.size w ((w.alloc (.cells #[.int .i64 S.width, .slice (some ⟨LA, 0, none⟩) 4 nL, .int .i64 S.total, .int .i64 S.limit, .int .i64 S.aged] 38)).alloc (.cells #[.int .i64 0, .slice none 0 0, .int .i64 0, .int .i64 0, .int .i64 0] 38)) := ((Below.refl _ _).alloc (Nat.le_refl _) _).alloc (by simp) _
      have h3 := h2.trans (hb'.mono h2.size)
      exact h3.trans ((bel_alloc w3 _).mono h3.size)
  clear hrf' hown' hb' HCOP
  generalize hW4 : w3.alloc (.cells #[.int .i64 S.width, .slice (some ⟨LA', 0, none⟩) 4 nL', .int .i64 S.total, .int .i64 S.limit, .int .i64 S.aged] 38) = w4 at *
  go_wp2_with fail
  clear hW4
  generalize w3.heap.size = q at *
  go_loopw [4] (fun i wr => ∃ r : Nat, r ≤ 4 ∧ i = .int .i64 r ∧ Hid (WorkRel w wr #[.int .i64 S.width, .slice (some ⟨LA, 0, none⟩) 4 nL, .int .i64 S.total, .int .i64 S.limit, .int .i64 S.aged] q LA' nL' R' cp' (S.ageTo r 0))) (fun i _ => 4 - (intOf i).toNat)
  case atStart => exact ⟨0, Nat.zero_le _, rfl, H0.out.congr rfl rfl rfl rfl (by simp [Sk.ageTo])⟩
  case round =>
    obtain ⟨r, hr, rfl, HD⟩ := hrel
    obtain ⟨wo, rfl⟩ : ∃ wo : World, wo = wr := ⟨_, rfl⟩
    have n4' := HD.out.rf.n4
    have y1 : wo.cell? ⟨q, 1, none⟩ = some (.slice (some ⟨LA', 0, none⟩) 4 nL') := HD.out.cell 1
    by_cases hlt : r < 4
    · have i3 : (0 : Int) ≤ (r : Int) := by omega
      have i4 : (r : Int) < 4 := by omega
      have i5 : (4 : Int) ≤ (nL' : Int) := by omega
      go_wp2_with fail
      go_loopw [5] (fun i wr => ∃ k : Nat, k ≤ S.width ∧ i = .int .i64 k ∧ Hid (WorkRel w wr #[.int .i64 S.width, .slice (some ⟨LA, 0, none⟩) 4 nL, .int .i64 S.total, .int .i64 S.limit, .int .i64 S.aged] q LA' nL' R' cp' (S.ageTo r k))) (fun i _ => S.width - (intOf i).toNat)
      case atStart => exact ⟨0, Nat.zero_le _, rfl, HD.out⟩
      case round =>
        obtain ⟨k, hk, rfl, HE⟩ := hrel
        have y1 : wr.cell? ⟨q, 1, none⟩ = some (.slice (some ⟨LA', 0, none⟩) 4 nL') := HE.out.cell 1
        have y2 : wr.cell? ⟨LA', r, none⟩ = some (.slice (some ⟨R' r, 0, none⟩) S.width (cp' r)) := HE.out.rf.cellh hlt
        have hcw : S.width ≤ cp' r := HE.out.rf.cw r hlt
        by_cases hkl : k < S.width
        · have c3 : wr.cell? ⟨R' r, k, none⟩ = some (.int .i64 (S.row r k)) := by
            rw [HE.out.rf.cellr hlt hkl]; simp [Sk.ageTo]
          have f3 : wr.frozen? ⟨R' r, k, none⟩ = false := HE.out.rf.fror hlt k
          obtain ⟨b0, b1⟩ : 0 ≤ S.row r k ∧ S.row r k ≤ 255 := HS.out.bd r k hlt hkl
          go_wp2_with fail
          have i0 : (0 : Int) ≤ (k : Int) := by omega
          have i1 : (k : Int) < (S.width : Int) := by omega
          have i2 : (S.width : Int) ≤ (cp' r : Int) := by omega
          have hwr : IntKind.i64.wrap ((S.row r k).tdiv 2) = S.row r k / 2 := by rw [Int.tdiv_eq_ediv_of_nonneg b0]; exact IntWalk.i64_in _ (by omega)
          go_still_tail 16, (by kernel_rfl)
          go_wp2_with fail
          go_roundw
          case rel =>
            refine ⟨k + 1, by omega, by go_num, ?_⟩
            have hst : ∀ W, Below wr.heap.size wr W → WorkRel w (W.setCell ⟨R' r, k, none⟩ (.int .i64 (S.row r k / 2))) #[.int .i64 S.width, .slice (some ⟨LA, 0, none⟩) 4 nL, .int .i64 S.total, .int .i64 S.limit, .int .i64 S.aged] q LA' nL' R' cp' (S.ageTo r (k + 1)) := fun W hW => by
              refine ((HE.out.later hW).setRow (r := r) (k := k) hlt (v := S.row r k / 2) (by omega)).congr rfl rfl rfl rfl fun r' k' h1 h2 => ?_
              simp only [Sk.ageTo]
              by_cases e : r' = r ∧ k' = k
              · obtain ⟨rfl, rfl⟩ := e
                simp
              · rw [if_neg e]
                by_cases e2 : r' < r ∨ r' = r ∧ k' < k
                · rw [if_pos e2, if_pos (by omega)]
                · rw [if_neg e2, if_neg (by omega)]
            first | exact hst _ (Below.refl _ _) | exact hst _ (Drawn0.below ⟨_, rfl⟩) | exact hst _ (Drawn0.below ⟨1, rfl⟩)
          case measure => simp [intOf]; omega
        · obtain rfl : k = S.width := by omega
          go_wp2_with fail
          go_roundw
          case rel =>
            refine ⟨r + 1, by omega, by go_num, ?_⟩
            refine HE.out.congr rfl rfl rfl rfl fun r' k' h1 h2 => ?_
            simp only [Sk.ageTo]
            have h2' : k' < S.width := h2
            by_cases e2 : r' < r ∨ r' = r ∧ k' < S.width
            · rw [if_pos e2, if_pos (by omega)]
            · rw [if_neg e2, if_neg (by omega)]
          case measure => simp [intOf]; omega
    · obtain rfl : r = 4 := by omega
      have hq2 := HD.out.hq
      have hne1 : q ≠ w.heap.size := by omega
      have hne2 : q ≠ w.heap.size + 1 := by omega
      have hne3 : w.heap.size ≠ q := by omega
      have hne4 : w.heap.size + 1 ≠ q := by omega
      have p2 : wo.cell? ⟨w.heap.size, 2, none⟩ = some (.int .i64 S.total) := cell_of_row wo _ 2 _ _ (0, 0) HD.out.b0
      have p4 : wo.cell? ⟨w.heap.size, 4, none⟩ = some (.int .i64 S.aged) := cell_of_row wo _ 4 _ _ (0, 0) HD.out.b0
      have x0 : wo.cell? ⟨q, 0, none⟩ = some (.int .i64 S.width) := HD.out.cell 0
      have x2 : wo.cell? ⟨q, 2, none⟩ = some (.int .i64 S.total) := HD.out.cell 2
      have x3 : wo.cell? ⟨q, 3, none⟩ = some (.int .i64 S.limit) := HD.out.cell 3
      have x4 : wo.cell? ⟨q, 4, none⟩ = some (.int .i64 S.aged) := HD.out.cell 4
      have g2 := HD.out.fro 2
      have g4 := HD.out.fro 4
      have hz1 : wo.cell? ⟨w.heap.size + 1, 0, none⟩ = some (.int .i64 0) := cell_of_row wo _ 0 _ _ (0, 0) HD.out.b1
      have hz2 : wo.cell? ⟨w.heap.size + 1, 1, none⟩ = some (.slice none 0 0) := cell_of_row wo _ 1 _ _ (0, 0) HD.out.b1
      have hz3 : wo.cell? ⟨w.heap.size + 1, 2, none⟩ = some (.int .i64 0) := cell_of_row wo _ 2 _ _ (0, 0) HD.out.b1
      have hz4 : wo.cell? ⟨w.heap.size + 1, 3, none⟩ = some (.int .i64 0) := cell_of_row wo _ 3 _ _ (0, 0) HD.out.b1
      have hz5 : wo.cell? ⟨w.heap.size + 1, 4, none⟩ = some (.int .i64 0) := cell_of_row wo _ 4 _ _ (0, 0) HD.out.b1
      have hf0 : ∀ j, wo.frozen? ⟨w.heap.size + 1, j, none⟩ = false := fun j => by simp [World.frozen?, HD.out.b1]
      obtain ⟨f0, f1, f2, f3, f4⟩ : wo.frozen? ⟨w.heap.size + 1, 0, none⟩ = false ∧ wo.frozen? ⟨w.heap.size + 1, 1, none⟩ = false ∧ wo.frozen? ⟨w.heap.size + 1, 2, none⟩ = false ∧ wo.frozen? ⟨w.heap.size + 1, 3, none⟩ = false ∧ wo.frozen? ⟨w.heap.size + 1, 4, none⟩ = false := ⟨hf0 0, hf0 1, hf0 2, hf0 3, hf0 4⟩
      clear hf0 hq2
      go_wp2_with fail
      have h2 : WorkRel w ((wo.setCell ⟨q, 2, none⟩ (.int .i64 (S.total / 2))).setCell ⟨q, 4, none⟩ (.int .i64 (S.aged + 1))) #[.int .i64 S.width, .slice (some ⟨LA, 0, none⟩) 4 nL, .int .i64 S.total, .int .i64 S.limit, .int .i64 S.aged] q LA' nL' R' cp' S.age := ((HD.out.setTot (S.total / 2)).setAge (S.aged + 1)).congr rfl rfl rfl rfl (fun r' k' h1 h2 => by simp [Sk.age, Sk.ageTo, h1])
      obtain ⟨h3, h4⟩ := h2.fin
      refine bodyPost_ret (results_c rfl _ _ (w.heap.size + 1) 38 (rfCells LA' nL' S.age) (0, 0) _ rfl (set5 h2.b1 _ _ _ _ _).1 Tryd.underlying38 rfl (by kernel_rfl)) rfl ?_
      exact ⟨LA', nL', R', cp', rfl, h3, ⟨by have := h2.own.1; omega, fun r hr => by have := h2.own.2 r hr; omega⟩, h4⟩
end Go.Proofs.YtpjdaglblckgfaaDoor
