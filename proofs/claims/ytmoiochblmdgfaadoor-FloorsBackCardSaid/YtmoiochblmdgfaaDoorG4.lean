/- Reading numbers: what the printed Number comes to. The reader: Read, Word; contracts of the printed methods. The reader: Word. Reading floors: the plain function. floors.From: the walk. Floors: the example with which each statement ends: it works. Floors as an argument; what it means that floors may be. -/
import Derived.Test.YtmoiochblmdgfaaDoorG1
import Derived.Test.YtmoiochblmdgfaaDoorG3
import Derived.Deep.RegionHeld3
import Derived.Deep.DrawnRows
import Derived.Test.YtmoiochblmdgfaaDoorOpen
namespace Go.Proofs.YtmoiochblmdgfaaDoor
set_option linter.unusedVariables false
set_option linter.unusedSimpArgs false
open Go.RowKit Go.Proofs.YtmoiochblmdgfaaDoorW.PrintWords

theorem wraps_u64 (n : Int) (h₀ : 0 ≤ n) (h₁ : n < 2 ^ 64) : IntKind.u64.wrap n = n := by
  simp [IntKind.wrap, IntKind.bits, IntKind.signed]
  omega
theorem wraps_i64 (n : Int) (h₀ : 0 ≤ n) (h₁ : n < 2 ^ 63) : IntKind.i64.wrap n = n := by rw [IntKind.wrap_i64]; omega
theorem u8_and127 {x : Int} (h₀ : 0 ≤ x) (h₁ : x < 256) : Go.bits .and .u8 x 127 = x % 128 := bits_mask .u8 8 (by decide) wraps_u8 7 (by decide) x h₀ h₁
theorem i64_or7 {x y : Int} (hx₀ : 0 ≤ x) (hx₁ : x < 72057594037927936) (h₀ : 0 ≤ y) (h₁ : y < 128) : Go.bits .or .i64 (x * 128) y = x * 128 + y :=
  bits_join .i64 63 (by decide) wraps_i64 7 (x * 128) y (by omega) (by omega) (by omega) h₀ (by omega) (by omega)
theorem u64_or8 {x y : Int} (hx₀ : 0 ≤ x) (hx₁ : x < 72057594037927936) (h₀ : 0 ≤ y) (h₁ : y < 256) : Go.bits .or .u64 (x * 256) y = x * 256 + y :=
  bits_join .u64 64 (by decide) wraps_u64 8 (x * 256) y (by omega) (by omega) (by omega) h₀ (by omega) (by omega)

theorem wrap64_id {n : Int} (h : -9223372036854775808 ≤ n) (h2 : n < 9223372036854775808) : wrap64 n = n := by unfold wrap64; omega
/-- Bytes. -/
def Oct (bs : List Int) : Prop := ∀ c ∈ bs, 0 ≤ c ∧ c < 256
/-- A number out of bytes: its value, where the reader stands behind it, and what is wrong. -/
def numG (most at0 : Int) : List Int → Int → Int → Int × Int × Int
  | [], _, _ => (0, at0, 6)
  | c :: r, at_, n =>
    if c = 128 ∧ n = 0 ∧ at_ = at0 then (0, at0, 5) else if most / 128 < n then (0, at0, 2)
    else if 128 ≤ c then numG most at0 r (at_ + 1) (n * 128 + (c - 128)) else if most < n * 128 + c then (0, at0, 2) else (n * 128 + c, at_ + 1, 0)
def numR (most : Int) (bs : List Int) (at_ code : Int) : Int × Int × Int := if code = 0 then numG most at_ (bs.drop at_.toNat) at_ 0 else (0, at_, code)
theorem num_fail (k : Nat) (x1 x5 x6 : Int) (bs : List Int) (at0 c : Int) (hc : c ≠ 0) : PR.octets_Reader_Number.l0 (k + 1) x1 x5 x6 bs at0 c = some (0, at0, c) := by
  rw [PR.octets_Reader_Number.l0, if_neg hc]
theorem num_l (most at0 : Int) (bs : List Int) (hb : Oct bs) (hl : bs.length < 1000000) (hm0 : 0 ≤ most) (hm1 : most ≤ 1099511627776) (ha0 : 0 ≤ at0) : ∀ (m k : Nat) (i : Nat) (n : Int), i + m = bs.length → 2 * m + 2 < k → at0 ≤ i → 0 ≤ n → n ≤ 281474976710656 →
    PR.octets_Reader_Number.l0 k most n i bs at0 0 = some (numG most at0 (bs.drop i) i n)
  | 0, k + 1, i, n, h1, h2, h3, h4, h5 => by
    rw [PR.octets_Reader_Number.l0, if_pos rfl, if_pos (by omega), List.drop_of_length_le (by omega)]
    rfl
  | m + 1, k + 2, i, n, h1, h2, h3, h4, h5 => by
    have hi : i < bs.length := by omega
    have hr : rd bs (i : Int) = bs[i] := by simp [rd, hi]
    obtain ⟨hc0, hc1⟩ := hb _ (List.getElem_mem hi)
    have hw : wrap64 ((i : Int) + 1) = ((i + 1 : Nat) : Int) := wrap64_id (by omega) (by omega)
    have hw0 : wrap64 (at0 + 1) = at0 + 1 := wrap64_id (by omega) (by omega)
    rw [PR.octets_Reader_Number.l0, if_pos rfl, if_neg (by omega), if_pos (by omega), if_pos (by omega), hr, hw, hw0, List.drop_eq_getElem_cons hi, numG]
    have hj : ∀ b : Bool, (b = true ↔ bs[i] = 128 ∧ n = 0 ∧ (i : Int) = at0) → PR.octets_Reader_Number.j1 (k + 1) most n ((i + 1 : Nat) : Int) bs[i] b bs at0 0 = some (if bs[i] = 128 ∧ n = 0 ∧ (i : Int) = at0 then (0, at0, 5) else if most / 128 < n then (0, at0, 2)
        else if 128 ≤ bs[i] then numG most at0 (bs.drop (i + 1)) (i + 1) (n * 128 + (bs[i] - 128)) else if most < n * 128 + bs[i] then (0, at0, 2) else (n * 128 + bs[i], i + 1, 0)) := fun b hbb => by
      rw [PR.octets_Reader_Number.j1]
      obtain ⟨k', rfl⟩ : ∃ k', k = k' + 1 := ⟨k - 1, by omega⟩
      by_cases h6 : b = true
      · rw [if_pos h6, if_pos (hbb.1 h6)]
        exact num_fail k' most n ((i + 1 : Nat) : Int) bs at0 5 (by decide)
      · rw [if_neg h6, if_neg (fun e => h6 (hbb.2 e))]
        by_cases h7 : most / 128 < n
        · rw [if_pos h7, if_pos h7]
          exact num_fail k' most n ((i + 1 : Nat) : Int) bs at0 2 (by decide)
        · have hand : Go.bits .and .u8 bs[i] 127 = bs[i] % 128 := u8_and127 hc0 hc1
          rw [if_neg (show ¬ n > most / 128 from h7), if_neg h7, hand, wrap64_id (n := bs[i] % 128) (by omega) (by omega), wrap64_id (n := bs[i]) (by omega) (by omega), wrap64_id (n := n * 128) (by omega) (by omega)]
          by_cases h8 : 128 ≤ bs[i]
          · rw [if_pos (show bs[i] ≥ 128 from h8), if_pos h8, i64_or7 h4 (by omega) (by omega) (by omega), show bs[i] % 128 = bs[i] - 128 by omega, num_l most at0 bs hb hl hm0 hm1 ha0 m (k' + 1) (i + 1) (n * 128 + (bs[i] - 128)) (by omega) (by omega) (by omega) (by omega) (by omega)]
            rfl
          · rw [if_neg (show ¬ bs[i] ≥ 128 from h8), if_neg h8, i64_or7 h4 (by omega) hc0 (by omega)]
            by_cases h9 : most < n * 128 + bs[i]
            · rw [if_pos (show n * 128 + bs[i] > most from h9), if_pos h9]
              exact num_fail k' most (n * 128 + bs[i]) ((i + 1 : Nat) : Int) bs at0 2 (by decide)
            · rw [if_neg (show ¬ n * 128 + bs[i] > most from h9), if_neg h9]
              rfl
    by_cases h6 : bs[i] = 128
    · rw [if_pos h6]
      by_cases h7 : n = 0
      · rw [if_pos h7]
        refine hj _ ?_
        simp only [beq_iff_eq]
        omega
      · rw [if_neg h7]
        exact hj false (Iff.intro (fun e => by cases e) (fun e => absurd e.2.1 h7))
    · rw [if_neg h6]
      exact hj false (Iff.intro (fun e => by cases e) (fun e => absurd e.1 h6))
theorem num_f (most at_ code : Int) (bs : List Int) (hb : Oct bs) (hl : bs.length < 1000000) (hm0 : 0 ≤ most) (hm1 : most ≤ 1099511627776) (ha0 : 0 ≤ at_) (ha1 : at_ ≤ bs.length) :
    PR.octets_Reader_Number.f (2 * bs.length + 4) bs at_ code most = some (numR most bs at_ code) := by
  unfold PR.octets_Reader_Number.f numR
  by_cases h : code = 0
  · subst h
    obtain ⟨i, rfl⟩ := Int.eq_ofNat_of_zero_le ha0
    rw [if_pos rfl]
    exact num_l most i bs hb hl hm0 hm1 ha0 (bs.length - i) _ i 0 (by omega) (by omega) (Int.le_refl _) (Int.le_refl _) (by omega)
  · rw [if_neg h]
    exact num_fail _ _ _ _ _ _ _ h
end Go.Proofs.YtmoiochblmdgfaaDoor
namespace Go.Proofs.YtmoiochblmdgfaaDoor
set_option linter.unusedVariables false
set_option linter.unusedSimpArgs false
open Go.RowKit Go.Proofs.YtmoiochblmdgfaaDoorW.PrintWords
attribute [local go_sem ↓] Go.wp_at_zero Go.wp_at_succ

abbrev kO : Kd Int := Kd.int .u8
theorem at_oct {w : World} {A : Option Addr} {n : Nat} {l : List Int} (h : kO.C w A n l) {k : Nat} (hk : k < n) : ∃ ad, A = some ad ∧ w.cell? (ad.add k) = some (.int .u8 (rd l k)) := by
  obtain ⟨ad, c, hA, hc, hK, hcell⟩ := Kd.C_get h 0 (k : Int) (by omega) (by omega)
  obtain rfl := hK
  have := hcell 0 _ rfl
  exact ⟨ad, hA, by simpa [rd, Kd.int, Kd.scalar] using this⟩
/-- A reader: of bytes, where, with what wrong. -/
def RdSt (W : World) (g : Nat) (A : Option Addr) (c : Nat) (bs : List Int) (at_ code : Int) : Prop := W.heap[g]? = some (.cells #[.slice A bs.length c, .int .i64 at_, .int .i64 code] 75 (0, 0))
def RdPost (w : World) (g : Nat) (A : Option Addr) (c : Nat) (bs : List Int) (v : Value) (at_ code : Int) (e : Ending) (w' : World) : Prop := e = .returned v ∧ RdSt w' g A c bs at_ code ∧ w.grownBy w' (some g)
theorem RdSt.cells {W : World} {g : Nat} {A : Option Addr} {c : Nat} {bs : List Int} {at_ code : Int} (h : RdSt W g A c bs at_ code) : W.cell? ⟨g, 0, none⟩ = some (.slice A bs.length c) ∧ W.cell? ⟨g, 1, none⟩ = some (.int .i64 at_) ∧ W.cell? ⟨g, 2, none⟩ = some (.int .i64 code) ∧ W.frozen? ⟨g, 1, none⟩ = false ∧ W.frozen? ⟨g, 2, none⟩ = false :=
  ⟨cell_of_row W _ 0 _ _ (0, 0) h, cell_of_row W _ 1 _ _ (0, 0) h, cell_of_row W _ 2 _ _ (0, 0) h, by unfold RdSt at h; simp [World.frozen?, h], by unfold RdSt at h; simp [World.frozen?, h]⟩
theorem RdSt.setAt {W : World} {g : Nat} {A : Option Addr} {c : Nat} {bs : List Int} {at_ code : Int} (h : RdSt W g A c bs at_ code) (x : Int) : RdSt (W.setCell ⟨g, 1, none⟩ (.int .i64 x)) g A c bs x code := by
  have := blk_set h 1 (.int .i64 x)
  simpa [RdSt] using this
theorem RdSt.setCode {W : World} {g : Nat} {A : Option Addr} {c : Nat} {bs : List Int} {at_ code : Int} (h : RdSt W g A c bs at_ code) (x : Int) : RdSt (W.setCell ⟨g, 2, none⟩ (.int .i64 x)) g A c bs at_ x := by
  have := blk_set h 2 (.int .i64 x)
  simpa [RdSt] using this
theorem RdSt.drewN {W : World} {g : Nat} {A : Option Addr} {c : Nat} {bs : List Int} {at_ code : Int} (h : RdSt W g A c bs at_ code) (n : Nat) : RdSt (W.drewN n) g A c bs at_ code := h
theorem gr_refl (w : World) (r : Option Nat) : w.grownBy w r := grown_below (Below.refl _ _)
theorem gr_trans {a b c : World} {r : Option Nat} (h : a.grownBy b r) (k : b.grownBy c r) : a.grownBy c r :=
  ⟨k.os.trans h.os, k.tape.trans h.tape, k.output.trans h.output, Nat.le_trans h.size k.size, fun i hi hn => (k.block i (Nat.lt_of_lt_of_le hi h.size) hn).trans (h.block i hi hn)⟩
theorem gr_set {a b : World} {g : Nat} (h : a.grownBy b (some g)) (j : Nat) (v : Value) : a.grownBy (b.setCell ⟨g, j, none⟩ v) (some g) :=
  ⟨h.os, h.tape, h.output, Nat.le_trans h.size (by simp [World.setCell]), fun k hk hn => (Below.heap_setCell b ⟨g, j, none⟩ v k (fun e => hn (by rw [e]))).trans (h.block k hk hn)⟩
theorem gr_drewN {a b : World} {r : Option Nat} (h : a.grownBy b r) (n : Nat) : a.grownBy (b.drewN n) r := ⟨h.os, h.tape, h.output, h.size, h.block⟩
section
variable (g : Nat) (A : Option Addr) (c : Nat) (bs : List Int) (at_ code : Int) (w : World) (hI : RdSt w g A c bs at_ code)
include hI
theorem rdFail_any (x : Int) : Calls Tryd.prog 44 #[.pointer (some ⟨g, 0, none⟩), .int .i64 x] w (RdPost w g A c bs (.tuple #[]) at_ (if code = 0 then x else code)) := by
  obtain ⟨r0, r1, r2, f1, f2⟩ := hI.cells
  have HI := Lib.hid hI
  clear hI
  go_enter Tryd.func44, Tryd.ntmps44
  by_cases h : code = 0
  · subst h
    go_wp2_with fail
    go_end0
    exact ⟨rfl, HI.out.setCode x, gr_set (gr_refl _ _) _ _⟩
  · go_wp2_with fail
    go_end0
    exact ⟨rfl, HI.out, gr_refl _ _⟩
theorem rdCode_any : Calls Tryd.prog 26 #[.pointer (some ⟨g, 0, none⟩)] w (RdPost w g A c bs (.int .i64 code) at_ code) := by
  obtain ⟨r0, r1, r2, f1, f2⟩ := hI.cells
  have HI := Lib.hid hI
  clear hI
  go_enter Tryd.func26, Tryd.ntmps26
  go_wp2_with fail
  go_ret
  exact ⟨rfl, HI.out, gr_refl _ _⟩
theorem rdAt_any : Calls Tryd.prog 27 #[.pointer (some ⟨g, 0, none⟩)] w (RdPost w g A c bs (.int .i64 at_) at_ code) := by
  obtain ⟨r0, r1, r2, f1, f2⟩ := hI.cells
  have HI := Lib.hid hI
  clear hI
  go_enter Tryd.func27, Tryd.ntmps27
  go_wp2_with fail
  go_ret
  exact ⟨rfl, HI.out, gr_refl _ _⟩
theorem rdLeft_any (hl : bs.length < 1000000) (ha0 : 0 ≤ at_) (ha1 : at_ ≤ bs.length) : Calls Tryd.prog 31 #[.pointer (some ⟨g, 0, none⟩)] w (RdPost w g A c bs (.int .i64 ((bs.length : Int) - at_)) at_ code) := by
  obtain ⟨r0, r1, r2, f1, f2⟩ := hI.cells
  have HI := Lib.hid hI
  have hw : IntKind.i64.wrap ((bs.length : Int) - at_) = (bs.length : Int) - at_ := by rw [IntKind.wrap_i64]; omega
  clear hI
  go_enter Tryd.func31, Tryd.ntmps31
  go_wp2_with fail
  go_quiet (fail)
  go_wp2_with fail
  go_ret
  exact ⟨rfl, HI.out.drewN _, gr_drewN (gr_refl _ _) _⟩
end
/-- Eight bytes as one number. -/
def wordV (n : Int) (l : List Int) : Int := l.foldl (fun n c => n * 256 + c) n
theorem wordV_snoc (n : Int) (l : List Int) (c : Int) : wordV n (l ++ [c]) = wordV n l * 256 + c := by simp [wordV]
theorem wordV_bd : ∀ (l : List Int), Oct l → 0 ≤ wordV 0 l ∧ wordV 0 l < 256 ^ l.length := by
  intro l
  refine list_snoc (P := fun l => Oct l → 0 ≤ wordV 0 l ∧ wordV 0 l < 256 ^ l.length) ?_ ?_ l
  · intro _
    simp [wordV]
  · intro l a ih h
    obtain ⟨h1, h2⟩ := ih (fun c hc => h c (by simp [hc]))
    obtain ⟨h3, h4⟩ := h a (by simp)
    rw [wordV_snoc, List.length_append, List.length_singleton, Int.pow_succ]
    omega
def wordR (bs : List Int) (at_ code : Int) : Int × Int × Int :=
  if code = 0 then (if (bs.length : Int) - at_ < 8 then (0, at_, 6) else (wordV 0 ((bs.drop at_.toNat).take 8), at_ + 8, 0)) else (0, at_, code)

theorem info_u8 : (Tryd.prog.info? 5).map (fun i => (i.zero, i.size, i.bytes)) = some (some (.int .u8 0), 1, 1) := by kernel_rfl
theorem R_emptyO (W : World) (base : Nat) (hb : base ≤ W.heap.size) : kO.R 5 (W.alloc (.cells #[] 5)) base (fun _ => True) (.slice (some ⟨W.heap.size, 0, none⟩) 0 0) [] :=
  ⟨fun _ _ => trivial, [], ⟨rfl, .inr ⟨W.heap.size, 0, #[], rfl, hb, heap_alloc_new _ _, Nat.le_refl _, Nat.zero_le _, rfl, rfl⟩⟩, Reps.none _ _⟩
theorem Read_any (A : Option Addr) (c : Nat) (bs : List Int) (w : World) (hC : kO.C w A bs.length bs) (hl : bs.length < 1000000) :
    Calls Tryd.prog 23 #[.slice A bs.length c] w fun e w' => ∃ w0 g A' c', e = .returned (.pointer (some ⟨g, 0, none⟩)) ∧ RdSt w' g A' c' bs 0 0 ∧ bs.length ≤ c' ∧ kO.C w0 A' bs.length bs ∧ w0.heap.size ≤ g ∧ Below w0.heap.size w0 w' ∧ Below w.heap.size w w0 := by
  have HC := Lib.hid hC
  clear hC
  go_enter Tryd.func23, Tryd.ntmps23
  go_wp2_with (at_builtin; refine Kd.R_append_rows kO (w0 := w) w.heap.size rfl (.tmp 3) (.tmp 4) 45 5 (.int .u8 0) 1 rfl Tryd.underlying45 info_u8 rfl (by decide) (by decide) _ [] bs A bs.length c (fun _ => True) (fun _ => False) rfl rfl (R_emptyO w _ (Nat.le_refl _)) (Kd.C_below HC.out (bel_alloc _ _)) (fun _ _ h => h) (fun _ hk => hk.elim) (fun _ _ => trivial) (bel_alloc _ _) (by simp) (by simp; omega) ?_; intro v5 w5 ho5 hb5 hg5 hat5; rw [List.nil_append] at ho5; obtain ⟨A5, c5, hv5, hc5, hC5⟩ := Kd.R_reads ho5; subst hv5; have C5 := Lib.hid hC5; have HB5 := Lib.hid hb5; clear ho5 hb5 hg5 hat5 hC5)
  go_ret
  exact ⟨w5, w5.heap.size, A5, c5, rfl, heap_alloc_new _ _, hc5, C5.out, Nat.le_refl _, bel_alloc _ _, HB5.out⟩

set_option maxHeartbeats 4000000 in
set_option maxRecDepth 100000 in
theorem rdNum_any (g : Nat) (A : Option Addr) (c : Nat) (bs : List Int) (at0 code most : Int) (w0 w : World) (hI : RdSt w g A c bs at0 code) (hB : Below w0.heap.size w0 w) (hge : w0.heap.size ≤ g) (hC : kO.C w0 A bs.length bs) (hb : Oct bs) (hl : bs.length < 1000000) (ha0 : 0 ≤ at0) (ha1 : at0 ≤ bs.length) (hm0 : 0 ≤ most) (hm1 : most ≤ 1099511627776) :
    Calls Tryd.prog 42 #[.pointer (some ⟨g, 0, none⟩), .int .i64 most] w (RdPost w g A c bs (.int .i64 (numR most bs at0 code).1) (numR most bs at0 code).2.1 (numR most bs at0 code).2.2) := by
  obtain ⟨r0, r1, r2, f1, f2⟩ := hI.cells
  have HI := Lib.hid hI
  have HB := Lib.hid hB
  have HC := Lib.hid hC
  have HOC := Lib.hid hb
  obtain ⟨rs, hrs⟩ : ∃ rs, rs = numR most bs at0 code := ⟨_, rfl⟩
  have HRS := Lib.hid (show rs = if code = 0 then numG most at0 (bs.drop at0.toNat) at0 0 else (0, at0, code) from hrs)
  rw [← hrs]
  clear hI hB hC hb hrs
  obtain ⟨i0, rfl⟩ := Int.eq_ofNat_of_zero_le ha0
  go_enter Tryd.func42, Tryd.ntmps42
  go_wp2_with fail
  go_quiet (fail)
  go_wp2_with fail
  have HI1 := Lib.hid (HI.out.drewN nq)
  have HG1 := Lib.hid (gr_drewN (gr_refl w (some g)) nq)
  generalize w.drewN nq = w1 at *
  clear r0 r1 r2 f1 f2
  go_loopg [5, 6] (bs.length - i0 + 1) (fun r nv iv wr => ∃ (n : Int) (i : Nat) (cd : Int), nv = .int .i64 n ∧ iv = .int .i64 i ∧ i0 ≤ i ∧ i ≤ bs.length ∧ 0 ≤ n ∧ n ≤ 281474976710656 ∧ (cd = 0 → bs.length - i + 1 ≤ r) ∧ Hid (RdSt wr g A c bs i0 cd ∧ w.grownBy wr (some g) ∧ rs = if cd = 0 then numG most i0 (bs.drop i) i n else (0, i0, cd)))
  case atStart =>
    refine ⟨0, i0, code, rfl, rfl, Nat.le_refl _, by omega, by omega, by omega, fun _ => Nat.le_refl _, HI1.out, HG1.out, ?_⟩
    rw [HRS.out]
    rfl
  case round =>
    obtain ⟨n, i, cd, rfl, rfl, h1, h2, h3, h4, h5, HD⟩ := hrel
    obtain ⟨wo, rfl⟩ : ∃ wo : World, wo = wr := ⟨_, rfl⟩
    obtain ⟨r0, r1, r2, f1, f2⟩ := HD.out.1.cells
    have HIo := Lib.hid HD.out.1
    have HGo := Lib.hid HD.out.2.1
    have HRo := Lib.hid HD.out.2.2
    clear HD
    by_cases hcd : cd = 0
    · subst hcd
      have hr := HRo.out
      rw [if_pos rfl] at hr
      have HR := Lib.hid hr
      have hgk := h5 rfl
      have HFL := Lib.hid (fun W hW x => rdFail_any g A c bs i0 0 W hW x)
      clear hr HRo h5
      by_cases hlt : i < bs.length
      · have hr0 : rd bs (i : Int) = bs[i] := by simp [rd, hlt]
        have hdr : bs.drop i = bs[i] :: bs.drop (i + 1) := List.drop_eq_getElem_cons hlt
        have hr2 := HR.out
        rw [hdr, numG] at hr2
        have hat := at_oct HC.out hlt
        obtain ⟨ad, hA, d0⟩ := hat
        subst hA
        rw [hr0] at d0
        have hadl := World.block_lt_of_cell? w0 _ d0
        have d1 : wo.cell? (ad.add i) = some (.int .u8 bs[i]) := by
          have e1 := HB.out.cell (p := ad.add i) hadl
          have e2 := HGo.out.cell_far (ad.add i) (Nat.lt_of_lt_of_le hadl HB.out.size) (fun e => by injection e with e; omega)
          rw [e2, e1, d0]
        obtain ⟨hc0, hc1⟩ := HOC.out _ (List.getElem_mem hlt)
        have HR2 := Lib.hid hr2
        clear hr2 HR hdr hr0 d0
        generalize bs[i] = ch at *
        have i1 : (0 : Int) ≤ (i : Int) := by omega
        have i2 : (i : Int) < (bs.length : Int) := by omega
        have i3 : ¬ (bs.length : Int) ≤ (i : Int) := by omega
        have w1e : IntKind.i64.wrap ((i : Int) + 1) = (i : Int) + 1 := by rw [IntKind.wrap_i64]; omega
        have w2e : IntKind.i64.wrap ((i0 : Int) + 1) = (i0 : Int) + 1 := by rw [IntKind.wrap_i64]; omega
        obtain ⟨bb, hbb⟩ : ∃ bb : Bool, bb = decide (ch = 128 ∧ n = 0 ∧ (i : Int) = i0) := ⟨_, rfl⟩
        have HBB := Lib.hid hbb
        clear hbb
        go_upto_region 12 with (fail)
        go_cut [50] from 12 to 83 (fun bx wx => bx = .bool bb ∧ Hid (wx = wo))
        case first =>
          by_cases hA : ch = 128
          · have hAb : (ch == 128) = true := by simpa using hA
            have HA := Lib.hid hA
            clear hA
            by_cases hn : n = 0
            · have hnb : (n == 0) = true := by simpa using hn
              have HN := Lib.hid hn
              clear hn
              by_cases hi : (i : Int) + 1 = (i0 : Int) + 1
              · have hib : ((i : Int) + 1 == (i0 : Int) + 1) = true := by simpa using hi
                have e : Hid (bb = true) := by show bb = true; rw [HBB.out]; exact decide_eq_true ⟨HA.out, HN.out, by omega⟩
                clear hi
                go_wp2_with fail
                go_meet
                exact ⟨by rw [e.out], rfl⟩
              · have hib : ((i : Int) + 1 == (i0 : Int) + 1) = false := by simpa using hi
                have e : Hid (bb = false) := by show bb = false; rw [HBB.out]; exact decide_eq_false (fun e => hi (by omega))
                clear hi
                go_wp2_with fail
                go_meet
                exact ⟨by rw [e.out], rfl⟩
            · have hnb : (n == 0) = false := by simpa using hn
              have e : Hid (bb = false) := by show bb = false; rw [HBB.out]; exact decide_eq_false (fun e => hn e.2.1)
              clear hn
              go_wp2_with fail
              go_meet
              exact ⟨by rw [e.out], rfl⟩
          · have hAb : (ch == 128) = false := by simpa using hA
            have e : Hid (bb = false) := by show bb = false; rw [HBB.out]; exact decide_eq_false (fun e => hA e.1)
            clear hA
            go_wp2_with fail
            go_meet
            exact ⟨by rw [e.out], rfl⟩
        case rest =>
          obtain ⟨rfl, HE⟩ := hcut
          obtain rfl := HE.out
          clear HE
          obtain ⟨wd, rfl⟩ : ∃ wd : World, wd = wc := ⟨_, rfl⟩
          cases hb2 : bb with
          | true =>
            have hX := HR2.out
            rw [if_pos (of_decide_eq_true ((HBB.out).symm.trans hb2))] at hX
            have HX := Lib.hid hX
            clear hX hb2
            go_wp2_with fail
            refine (HFL.out wd HIo.out 5).mono ?_
            rintro e w2 ⟨rfl, hI2, hG2⟩
            rw [if_pos trivial] at hI2
            have HI2 := Lib.hid hI2
            have HG2 := Lib.hid (gr_trans HGo.out hG2)
            clear hI2 hG2
            go_wp2_with fail
            go_roundg 0
            case measure => omega
            case rel => exact ⟨n, i + 1, 5, rfl, by go_num, by omega, by omega, h3, h4, fun e => absurd e (by decide), HI2.out, HG2.out, HX.out⟩
          | false =>
            have hX := HR2.out
            rw [if_neg (of_decide_eq_false ((HBB.out).symm.trans hb2))] at hX
            by_cases hrg : most / 128 < n
            · rw [if_pos hrg] at hX
              have HX := Lib.hid hX
              clear hX hb2
              go_wp2_with fail
              refine (HFL.out wd HIo.out 2).mono ?_
              rintro e w2 ⟨rfl, hI2, hG2⟩
              rw [if_pos trivial] at hI2
              have HI2 := Lib.hid hI2
              have HG2 := Lib.hid (gr_trans HGo.out hG2)
              clear hI2 hG2
              go_wp2_with fail
              go_roundg 0
              case measure => omega
              case rel => exact ⟨n, i + 1, 2, rfl, by go_num, by omega, by omega, h3, h4, fun e => absurd e (by decide), HI2.out, HG2.out, HX.out⟩
            · rw [if_neg hrg] at hX
              by_cases hge8 : 128 ≤ ch
              · rw [if_pos hge8] at hX
                have HX := Lib.hid hX
                clear hX hb2
                go_wp2_with fail
                have hor : Go.bits .or .i64 (n * 128) (wrap64 (Go.bits .and .u8 ch 127)) = n * 128 + (ch - 128) := by
                  rw [u8_and127 hc0 hc1, wrap64_id (by omega) (by omega), i64_or7 h3 (by omega) (by omega) (by omega)]
                  omega
                go_roundg (bs.length - i)
                case measure => omega
                case rel => exact ⟨n * 128 + (ch - 128), i + 1, 0, by rw [hor], by go_num, by omega, by omega, by omega, by omega, fun _ => by omega, HIo.out, HGo.out, HX.out⟩
              · rw [if_neg hge8] at hX
                have hor : Go.bits .or .i64 (n * 128) ch = n * 128 + ch := i64_or7 h3 (by omega) hc0 (by omega)
                by_cases hm : most < n * 128 + ch
                · rw [if_pos hm] at hX
                  have HX := Lib.hid hX
                  clear hX hb2
                  go_wp2_with fail
                  refine (HFL.out wd HIo.out 2).mono ?_
                  rintro e w2 ⟨rfl, hI2, hG2⟩
                  rw [if_pos trivial] at hI2
                  have HI2 := Lib.hid hI2
                  have HG2 := Lib.hid (gr_trans HGo.out hG2)
                  clear hI2 hG2
                  go_wp2_with fail
                  go_roundg 0
                  case measure => omega
                  case rel => exact ⟨n * 128 + ch, i + 1, 2, rfl, by go_num, by omega, by omega, by omega, by omega, fun e => absurd e (by decide), HI2.out, HG2.out, HX.out⟩
                · rw [if_neg hm] at hX
                  have HX := Lib.hid hX
                  clear hX hb2
                  go_wp2_with fail
                  go_ret
                  rw [HX.out]
                  exact ⟨rfl, HIo.out.setAt _, gr_set HGo.out _ _⟩
      · have hiL : i = bs.length := by omega
        have HE := Lib.hid (show rs = (0, (i0 : Int), 6) by rw [HR.out, hiL, List.drop_length]; rfl)
        have i3 : (bs.length : Int) ≤ (i : Int) := by omega
        go_wp2_with fail
        refine (HFL.out wo HIo.out 6).mono ?_
        rintro e w2 ⟨rfl, hI2, hG2⟩
        go_wp2_with fail
        go_ret
        rw [HE.out]
        exact ⟨rfl, hI2, gr_trans HGo.out hG2⟩
    · have hr := HRo.out
      rw [if_neg hcd] at hr
      have HR := Lib.hid hr
      clear hr HRo h5
      go_wp2_with fail
      go_ret
      rw [HR.out]
      exact ⟨rfl, HIo.out, HGo.out⟩
end Go.Proofs.YtmoiochblmdgfaaDoor
namespace Go.Proofs.YtmoiochblmdgfaaDoor
set_option linter.unusedVariables false
set_option linter.unusedSimpArgs false
open Go.RowKit Go.Proofs.YtmoiochblmdgfaaDoorW.PrintWords
attribute [local go_sem ↓] Go.wp_at_zero Go.wp_at_succ

theorem addr_add2 (ad : Addr) (i k : Nat) : (ad.add i).add k = ad.add (i + k) := by
  unfold Addr.add
  by_cases h1 : i = 0 <;> by_cases h2 : k = 0 <;> simp [h1, h2, Nat.add_assoc]
theorem pw7 (q : Nat) (h : q ≤ 7) : (256 : Int) ^ q ≤ 72057594037927936 := by
  have : q = 0 ∨ q = 1 ∨ q = 2 ∨ q = 3 ∨ q = 4 ∨ q = 5 ∨ q = 6 ∨ q = 7 := by omega
  rcases this with rfl | rfl | rfl | rfl | rfl | rfl | rfl | rfl <;> decide
set_option maxHeartbeats 4000000 in
set_option maxRecDepth 100000 in
theorem rdWord_any (g : Nat) (A : Option Addr) (c : Nat) (bs : List Int) (at0 code : Int) (w0 w : World) (hI : RdSt w g A c bs at0 code) (hB : Below w0.heap.size w0 w) (hge : w0.heap.size ≤ g) (hC : kO.C w0 A bs.length bs) (hc : bs.length ≤ c) (hb : Oct bs) (hl : bs.length < 1000000) (ha0 : 0 ≤ at0) (ha1 : at0 ≤ bs.length) :
    Calls Tryd.prog 43 #[.pointer (some ⟨g, 0, none⟩)] w (RdPost w g A c bs (.int .u64 (wordR bs at0 code).1) (wordR bs at0 code).2.1 (wordR bs at0 code).2.2) := by
  obtain ⟨r0, r1, r2, f1, f2⟩ := hI.cells
  have HI := Lib.hid hI
  have HB := Lib.hid hB
  have HC := Lib.hid hC
  have HOC := Lib.hid hb
  obtain ⟨rs, hrs⟩ : ∃ rs, rs = wordR bs at0 code := ⟨_, rfl⟩
  have HW := Lib.hid (show rs = if code = 0 then (if (bs.length : Int) - at0 < 8 then (0, at0, 6) else (wordV 0 ((bs.drop at0.toNat).take 8), at0 + 8, 0)) else (0, at0, code) from hrs)
  rw [← hrs]
  have HLF := Lib.hid (rdLeft_any g A c bs at0 code w hI hl ha0 ha1)
  clear hI hB hC hb hrs
  obtain ⟨i, rfl⟩ := Int.eq_ofNat_of_zero_le ha0
  go_enter Tryd.func43, Tryd.ntmps43
  by_cases hc0 : code = 0
  · subst hc0
    go_wp2_with fail
    refine HLF.out.mono ?_
    rintro e w1 ⟨rfl, hI1, hG1⟩
    have HI1 := Lib.hid hI1
    have HG1 := Lib.hid hG1
    clear r0 r1 r2 f1 f2 hG1 HLF
    obtain ⟨r0, r1, r2, f1, f2⟩ := hI1.cells
    clear hI1
    by_cases h8 : (bs.length : Int) - (i : Int) < 8
    · have HX := Lib.hid (show rs = (0, (i : Int), 6) by rw [HW.out, if_pos trivial, if_pos h8])
      go_wp2_with fail
      refine (rdFail_any g A c bs i 0 w1 HI1.out 6).mono ?_
      rintro e w2 ⟨rfl, hI2, hG2⟩
      rw [if_pos rfl] at hI2
      have HI2 := Lib.hid hI2
      have HG2 := Lib.hid (gr_trans HG1.out hG2)
      clear r0 r1 r2 f1 f2 hG2
      obtain ⟨r0, r1, r2, f1, f2⟩ := hI2.cells
      clear hI2
      go_wp2_with fail
      go_ret
      rw [HX.out]
      exact ⟨rfl, HI2.out, HG2.out⟩
    · have HX := Lib.hid (show rs = (wordV 0 ((bs.drop i).take 8), (i : Int) + 8, 0) by rw [HW.out, if_pos trivial, if_neg h8]; rfl)
      have hi8 : i + 8 ≤ bs.length := by omega
      have b1 : (0 : Int) ≤ (i : Int) + 8 := by omega
      have b2 : (i : Int) + 8 ≤ (bs.length : Int) := by omega
      have b3 : ((i : Int) + 8).toNat = i + 8 := by omega
      have b4 : (i : Int) ≤ (i : Int) + 8 := by omega
      have b5 : IntKind.i64.wrap ((i : Int) + 8) = (i : Int) + 8 := by rw [IntKind.wrap_i64]; omega
      have b6 : ¬ (c = i) := by omega
      have b7 : (i : Int) + 8 ≤ (c : Int) := by omega
      have b8 : i + 8 ≤ c := by omega
      have hat := at_oct HC.out (show i < bs.length by omega)
      obtain ⟨ad, hA, _⟩ := hat
      subst hA
      go_wp2_with fail
      go_quiet (fail)
      go_wp2_with fail
      have HI2 := Lib.hid (HI1.out.drewN nq)
      have HG2 := Lib.hid (gr_drewN HG1.out nq)
      generalize w1.drewN nq = w2 at *
      have hcell : ∀ k, k < 8 → w2.cell? ((ad.add i).add k) = some (.int .u8 (rd bs ((i + k : Nat) : Int))) := fun k hk => by
        obtain ⟨ad', hA, d0⟩ := at_oct HC.out (show i + k < bs.length by omega)
        injection hA with hA
        subst hA
        have hadl := World.block_lt_of_cell? w0 _ d0
        have e1 := HB.out.cell (p := ad.add (i + k)) hadl
        have e2 := HG2.out.cell_far (ad.add (i + k)) (Nat.lt_of_lt_of_le hadl HB.out.size) (fun e => by injection e with e; omega)
        rw [addr_add2, e2, e1, d0]
      have HCELL := Lib.hid hcell
      generalize ad.add i = a8 at *
      clear hcell r0 r1 r2 f1 f2
      have hdl : (bs.drop i).length = bs.length - i := List.length_drop
      have hod : Oct (bs.drop i) := fun c hc => HOC.out c (List.mem_of_mem_drop hc)
      have HOD := Lib.hid hod
      have HRDI := Lib.hid (show ∀ k, k < 8 → (bs.drop i).take (k + 1) = (bs.drop i).take k ++ [rd bs ((i + k : Nat) : Int)] ∧ 0 ≤ rd bs ((i + k : Nat) : Int) ∧ rd bs ((i + k : Nat) : Int) < 256 from fun k hk => by
        have h1 : k < (bs.drop i).length := by omega
        have h2 : (bs.drop i)[k] = rd bs ((i + k : Nat) : Int) := by
          rw [List.getElem_drop]
          show _ = bs.getD ((i + k : Nat) : Int).toNat 0
          rw [Int.toNat_natCast, List.getD_eq_getElem?_getD, List.getElem?_eq_getElem (show i + k < bs.length by omega)]
          rfl
        refine ⟨by rw [List.take_succ_eq_append_getElem h1, h2], ?_⟩
        rw [← h2]
        exact hod _ (List.getElem_mem h1))
      clear hod
      generalize hds : bs.drop i = ds at *
      go_loopw [3, 38] (fun n k wr => ∃ j : Nat, j ≤ 8 ∧ n = .int .u64 (wordV 0 (ds.take j)) ∧ k = .int .i64 j ∧ Hid (wr = w2)) (fun _ k _ => 8 - (intOf k).toNat)
      case atStart => exact ⟨0, by omega, rfl, rfl, rfl⟩
      case round =>
        obtain ⟨j, hj, rfl, rfl, HE⟩ := hrel
        obtain rfl := HE.out
        clear HE
        by_cases hlt : j < 8
        · have d0 := HCELL.out j hlt
          obtain ⟨e1, e2, e3⟩ := HRDI.out j hlt
          have hbd := wordV_bd (ds.take j) (fun c hc => HOD.out c (List.mem_of_mem_take hc))
          have hlen : (ds.take j).length ≤ 7 := by rw [List.length_take]; omega
          have hpw : (256 : Int) ^ (ds.take j).length ≤ 72057594037927936 := pw7 _ hlen
          have hE1 := Lib.hid e1
          generalize rd bs ((i + j : Nat) : Int) = ch at *
          generalize ds.take j = dj at *
          have hv0 := hbd.1
          have hv1 : wordV 0 dj < 72057594037927936 := by have := hbd.2; omega
          have HWS := Lib.hid (wordV_snoc 0 dj ch)
          have hor : Go.bits .or .u64 (wordV 0 dj * 256) ch = wordV 0 dj * 256 + ch := u64_or8 hv0 hv1 e2 e3
          have hwu : IntKind.u64.wrap (wordV 0 dj * 256) = wordV 0 dj * 256 := wraps_u64 _ (by omega) (by omega)
          have hwc : IntKind.u64.wrap ch = ch := wraps_u64 _ e2 (by omega)
          have i1 : (0 : Int) ≤ (j : Int) := by omega
          have i2 : (j : Int) < 8 := by omega
          clear hbd hpw e1
          generalize wordV 0 dj = v at *
          go_wp2_with fail
          go_roundw
          case rel => exact ⟨j + 1, by omega, by rw [hE1.out, HWS.out], by go_num, trivial⟩
          case measure => simp [intOf]; omega
        · obtain rfl : j = 8 := by omega
          obtain ⟨r0, r1, r2, f1, f2⟩ := HI2.out.cells
          go_wp2_with fail
          go_ret
          rw [HX.out]
          exact ⟨rfl, HI2.out.setAt _, gr_set HG2.out _ _⟩
  · have HX := Lib.hid (show rs = (0, (i : Int), code) by rw [HW.out, if_neg hc0])
    go_wp2_with fail
    go_ret
    rw [HX.out]
    exact ⟨rfl, HI.out, gr_refl _ _⟩
end Go.Proofs.YtmoiochblmdgfaaDoor
namespace Go.Proofs.YtmoiochblmdgfaaDoor
set_option linter.unusedVariables false
set_option linter.unusedSimpArgs false
open Go.RowKit Go.Proofs.YtmoiochblmdgfaaDoorW.PrintWords

theorem numG_bd (most at0 : Int) : ∀ (l : List Int) (at_ n : Int), Oct l → 0 ≤ most → 0 ≤ n → at0 ≤ at_ →
    0 ≤ (numG most at0 l at_ n).1 ∧ (numG most at0 l at_ n).1 ≤ most ∧ at0 ≤ (numG most at0 l at_ n).2.1 ∧ (numG most at0 l at_ n).2.1 ≤ at_ + l.length
  | [], at_, n, _, h1, h2, h3 => ⟨Int.le_refl _, h1, Int.le_refl _, by simp [numG]; exact h3⟩
  | c :: r, at_, n, ho, h1, h2, h3 => by
    obtain ⟨h4, h5⟩ := ho c List.mem_cons_self
    rw [numG, List.length_cons]
    split
    · exact ⟨Int.le_refl _, h1, Int.le_refl _, by dsimp only; omega⟩
    · split
      · exact ⟨Int.le_refl _, h1, Int.le_refl _, by dsimp only; omega⟩
      · split
        · have := numG_bd most at0 r (at_ + 1) (n * 128 + (c - 128)) (fun x hx => ho x (List.mem_cons_of_mem _ hx)) h1 (by omega) (by omega)
          omega
        · split
          · exact ⟨Int.le_refl _, h1, Int.le_refl _, by dsimp only; omega⟩
          · exact ⟨by dsimp only; omega, by dsimp only; omega, by dsimp only; omega, by dsimp only; omega⟩
theorem numR_bd {most : Int} {bs : List Int} {at_ : Int} (code : Int) (hb : Oct bs) (hm : 0 ≤ most) (h0 : 0 ≤ at_) (h1 : at_ ≤ bs.length) :
    0 ≤ (numR most bs at_ code).1 ∧ (numR most bs at_ code).1 ≤ most ∧ 0 ≤ (numR most bs at_ code).2.1 ∧ (numR most bs at_ code).2.1 ≤ bs.length := by
  unfold numR
  split
  · have h2 := numG_bd most at_ (bs.drop at_.toNat) at_ 0 (fun x hx => hb x (List.mem_of_mem_drop hx)) hm (Int.le_refl _) (Int.le_refl _)
    rw [List.length_drop] at h2
    omega
  · exact ⟨Int.le_refl _, hm, h0, h1⟩
theorem wordR_bd {bs : List Int} {at_ : Int} (code : Int) (hb : Oct bs) (h0 : 0 ≤ at_) (h1 : at_ ≤ bs.length) :
    0 ≤ (wordR bs at_ code).2.1 ∧ (wordR bs at_ code).2.1 ≤ bs.length := by
  unfold wordR
  split
  · split
    · exact ⟨h0, h1⟩
    · exact ⟨by dsimp only; omega, by dsimp only; omega⟩
  · exact ⟨h0, h1⟩
/-- One floor after the other. -/
def fromL (bs : List Int) : Nat → Int → Int → List Fl → List Fl × Int × Int
  | 0, at_, code, acc => (acc, at_, code)
  | n + 1, at_, code, acc =>
    fromL bs n (numR 1099511627776 bs (wordR bs at_ code).2.1 (wordR bs at_ code).2.2).2.1 (numR 1099511627776 bs (wordR bs at_ code).2.1 (wordR bs at_ code).2.2).2.2
      (acc ++ [⟨(wordR bs at_ code).1, (numR 1099511627776 bs (wordR bs at_ code).2.1 (wordR bs at_ code).2.2).1⟩])
/-- Floors out of bytes, ahead of the check: the lowest, the others, where, and what is wrong. -/
def fromA (bs : List Int) (at_ code : Int) : Int × List Fl × Int × Int :=
  let a := numR 1099511627776 bs at_ code
  let b := numR 12 bs a.2.1 a.2.2
  let l := fromL bs b.1.toNat b.2.1 b.2.2 []
  (a.1, l.1, l.2.1, l.2.2)
def fromC (bs : List Int) (at_ code : Int) : Int := if (fromA bs at_ code).2.2.2 = 0 then chk (fromA bs at_ code).1 (fromA bs at_ code).2.1 else (fromA bs at_ code).2.2.2
/-- What is read: the floors, where, what is wrong. -/
def fromF (bs : List Int) (at_ code : Int) : Int × List Fl := if fromC bs at_ code = 0 then ((fromA bs at_ code).1, (fromA bs at_ code).2.1) else (0, [])
theorem fromL_len (bs : List Int) : ∀ (n : Nat) (at_ code : Int) (acc : List Fl), (fromL bs n at_ code acc).1.length = acc.length + n
  | 0, _, _, _ => rfl
  | n + 1, _, _, acc => by
    rw [fromL, fromL_len bs n]
    simp
    omega
end Go.Proofs.YtmoiochblmdgfaaDoor
namespace Go.Proofs.YtmoiochblmdgfaaDoor
set_option linter.unusedVariables false
set_option linter.unusedSimpArgs false
open Go.RowKit Go.Proofs.YtmoiochblmdgfaaDoorW.PrintWords
attribute [local go_sem ↓] Go.wp_at_zero Go.wp_at_succ

def FromPost (w : World) (g : Nat) (A : Option Addr) (c : Nat) (bs : List Int) (low : Int) (L : List Fl) (at_ code : Int) (e : Ending) (w' : World) : Prop :=
  ∃ A' c', e = .returned (.agg #[.int .i64 low, .slice A' L.length c']) ∧ L.length ≤ c' ∧ kF.C w' A' L.length L ∧ RdSt w' g A c bs at_ code ∧ w.grownBy w' (some g)
theorem gr_alloc {a b : World} {r : Option Nat} (h : a.grownBy b r) (o : Obj) : a.grownBy (b.alloc o) r :=
  ⟨h.os, h.tape, h.output, Nat.le_trans h.size (by simp), fun k hk hn => (Below.heap_alloc b o k (Nat.lt_of_lt_of_le hk h.size)).trans (h.block k hk hn)⟩
theorem gr_setNew {a b : World} {r : Option Nat} (h : a.grownBy b r) {p : Addr} (hp : a.heap.size ≤ p.block) (v : Value) : a.grownBy (b.setCell p v) r :=
  ⟨h.os, h.tape, h.output, Nat.le_trans h.size (by simp [World.setCell]), fun k hk hn => (Below.heap_setCell b p v k (fun e => by omega)).trans (h.block k hk hn)⟩
theorem gr_below {n : Nat} {w0 w W : World} {g : Nat} (h : Below n w0 w) (hn : n ≤ w.heap.size) (hg : w.grownBy W (some g)) (hng : n ≤ g) : Below n w0 W := bel_grown h hn hg hng
theorem RdSt.alloc {W : World} {g : Nat} {A : Option Addr} {c : Nat} {bs : List Int} {at_ code : Int} (h : RdSt W g A c bs at_ code) (o : Obj) : RdSt (W.alloc o) g A c bs at_ code :=
  (Below.heap_alloc W o g (Array.getElem?_eq_some_iff.1 h).1).trans h

/-- What From has in its cells while it reads. -/
structure FS (w : World) (g q : Nat) (A : Option Addr) (c : Nat) (bs : List Int) (low : Int) (W : World) (at_ code : Int) (v : Value) (acc : List Fl) : Prop where
  rd : RdSt W g A c bs at_ code
  gr : w.grownBy W (some g)
  z : W.heap[w.heap.size]? = some (.cells #[.int .i64 0, .slice none 0 0] 24 (0, 0))
  b : W.heap[q]? = some (.cells #[.int .i64 low, v] 24 (0, 0))
  r : kF.R 43 W w.heap.size (fun k => k ≠ g) v acc
theorem FS.read {w : World} {g q : Nat} {A : Option Addr} {c : Nat} {bs : List Int} {low : Int} {W W' : World} {at_ code at' code' : Int} {v : Value} {acc : List Fl} (h : FS w g q A c bs low W at_ code v acc) (hg : g < w.heap.size) (hq : w.heap.size < q) (hr : RdSt W' g A c bs at' code') (hG : W.grownBy W' (some g)) : FS w g q A c bs low W' at' code' v acc :=
  ⟨hr, gr_trans h.gr hG, (hG.block _ (Array.getElem?_eq_some_iff.1 h.z).1 (fun e => by injection e with e; omega)).trans h.z, (hG.block _ (Array.getElem?_eq_some_iff.1 h.b).1 (fun e => by injection e with e; omega)).trans h.b, Kd.R_grown h.r hG (fun k hk e => hk (by injection e))⟩
theorem FS.drew {w : World} {g q : Nat} {A : Option Addr} {c : Nat} {bs : List Int} {low : Int} {W : World} {at_ code : Int} {v : Value} {acc : List Fl} (h : FS w g q A c bs low W at_ code v acc) : FS w g q A c bs low W.drew at_ code v acc :=
  ⟨h.rd, gr_drewN h.gr 1, h.z, h.b, Kd.R_below h.r (Drawn0.below ⟨1, rfl⟩)⟩
theorem FS.push {w : World} {g q : Nat} {A : Option Addr} {c : Nat} {bs : List Int} {low : Int} {W w1 : World} {at_ code : Int} {v v1 : Value} {acc : List Fl} {y : Fl} (h : FS w g q A c bs low W at_ code v acc) (hg : g < w.heap.size) (hq : w.heap.size < q)
    (h1 : kF.R 43 w1 w.heap.size (fun k => k ≠ g) v1 (acc ++ [y])) (hG : W.grownBy w1 v.ownBlock) :
    w1.heap[q]? = some (.cells #[.int .i64 low, v] 24 (0, 0)) ∧ FS w g q A c bs low (w1.setCell ⟨q, 1, none⟩ v1) at_ code v1 (acc ++ [y]) := by
  have hbase := R_base h.r
  have hne : ∀ k (t : TypeId) (cs : Array Value), W.heap[k]? = some (.cells cs t (0, 0)) → t ≠ 43 → some k ≠ v.ownBlock := fun k t cs hk ht e => by
    obtain ⟨inner, ho⟩ := Kd.R_own h.r
    obtain ⟨cells, hc⟩ := own_typed ho k e.symm
    rw [hc] at hk
    injection hk with hk
    injection hk with _ hk
    exact ht hk.symm
  have hbq := (hG.block q (Array.getElem?_eq_some_iff.1 h.b).1 (hne q _ _ h.b (by decide))).trans h.b
  have hbz := (hG.block _ (Array.getElem?_eq_some_iff.1 h.z).1 (hne _ _ _ h.z (by decide))).trans h.z
  have hbg := (hG.block g (Array.getElem?_eq_some_iff.1 h.rd).1 (hne g _ _ h.rd (by decide))).trans h.rd
  have hgr : w.grownBy w1 (some g) := ⟨hG.os.trans h.gr.os, hG.tape.trans h.gr.tape, hG.output.trans h.gr.output, Nat.le_trans h.gr.size hG.size, fun k hk hn => (hG.block k (Nat.lt_of_lt_of_le hk h.gr.size) (fun e => by have := hbase k e.symm; omega)).trans (h.gr.block k hk hn)⟩
  refine ⟨hbq, ?_, gr_setNew hgr (by show w.heap.size ≤ q; omega) _, ?_, set_b hbq v1, Kd.R_set h1 hbq (by decide) 1 _⟩
  · exact (Below.heap_setCell w1 ⟨q, 1, none⟩ v1 g (by show g ≠ q; omega)).trans hbg
  · exact (Below.heap_setCell w1 ⟨q, 1, none⟩ v1 w.heap.size (by show w.heap.size ≠ q; omega)).trans hbz

theorem FS.later {w : World} {g q : Nat} {A : Option Addr} {c : Nat} {bs : List Int} {low : Int} {W W' : World} {at_ code : Int} {v : Value} {acc : List Fl} (h : FS w g q A c bs low W at_ code v acc) (hb : Below W.heap.size W W') : FS w g q A c bs low W' at_ code v acc :=
  ⟨(hb.block g (Array.getElem?_eq_some_iff.1 h.rd).1).trans h.rd, gr_trans h.gr (grown_below hb), (hb.block _ (Array.getElem?_eq_some_iff.1 h.z).1).trans h.z, (hb.block _ (Array.getElem?_eq_some_iff.1 h.b).1).trans h.b, Kd.R_below h.r hb⟩
theorem kF_nilC (w : World) : kF.C w none 0 [] := (Kd.R_reads' (Kd.R_nil kF 43 w w.heap.size (fun _ => True))).2.2
theorem hg_pos {w : World} (h : HG w) : 0 < w.heap.size := World.block_lt_of_cell? w _ h
theorem FS.facts {w : World} {g q : Nat} {A : Option Addr} {c : Nat} {bs : List Int} {low : Int} {W : World} {at_ code : Int} {v : Value} {acc : List Fl} (h : FS w g q A c bs low W at_ code v acc) :
    W.cell? ⟨q, 0, none⟩ = some (.int .i64 low) ∧ W.cell? ⟨q, 1, none⟩ = some v ∧ W.cell? ⟨w.heap.size, 0, none⟩ = some (.int .i64 0) ∧ W.cell? ⟨w.heap.size, 1, none⟩ = some (.slice none 0 0) ∧ W.frozen? ⟨w.heap.size, 0, none⟩ = false ∧ W.frozen? ⟨w.heap.size, 1, none⟩ = false :=
  ⟨cell_of_row W _ 0 _ _ (0, 0) h.b, cell_of_row W _ 1 _ _ (0, 0) h.b, cell_of_row W _ 0 _ _ (0, 0) h.z, cell_of_row W _ 1 _ _ (0, 0) h.z, by simp [World.frozen?, h.z], by simp [World.frozen?, h.z]⟩
theorem FS.fin {w : World} {g q : Nat} {A : Option Addr} {c : Nat} {bs : List Int} {low : Int} {W : World} {at_ code : Int} {v : Value} {acc : List Fl} (h : FS w g q A c bs low W at_ code v acc) (hg : g < w.heap.size) (x0 x1 : Value) :
    ((W.setCell ⟨w.heap.size, 0, none⟩ x0).setCell ⟨w.heap.size, 1, none⟩ x1).heap[w.heap.size]? = some (.cells #[x0, x1] 24 (0, 0)) ∧ RdSt ((W.setCell ⟨w.heap.size, 0, none⟩ x0).setCell ⟨w.heap.size, 1, none⟩ x1) g A c bs at_ code ∧
      w.grownBy ((W.setCell ⟨w.heap.size, 0, none⟩ x0).setCell ⟨w.heap.size, 1, none⟩ x1) (some g) := by
  obtain ⟨h1, h2⟩ := set2 h.z x0 x1
  exact ⟨h1, (h2 g (by omega)).trans h.rd, gr_setNew (gr_setNew h.gr (Nat.le_refl _) _) (Nat.le_refl _) _⟩
theorem FS.finC {w : World} {g q : Nat} {A : Option Addr} {c : Nat} {bs : List Int} {low : Int} {W : World} {at_ code : Int} {vA : Option Addr} {n vc : Nat} {acc : List Fl} (h : FS w g q A c bs low W at_ code (.slice vA n vc) acc) (x0 x1 : Value) :
    n = acc.length ∧ n ≤ vc ∧ kF.C ((W.setCell ⟨w.heap.size, 0, none⟩ x0).setCell ⟨w.heap.size, 1, none⟩ x1) vA n acc := by
  obtain ⟨h1, h2⟩ := set2 h.z x0 x1
  have h3 := Kd.R_reads' (Kd.R_set (Kd.R_set h.r h.z (by decide) 0 x0) (by simpa using blk_set h.z 0 x0) (by decide) 1 x1)
  exact ⟨h3.1, h3.2.1, by rw [h3.1]; exact h3.2.2⟩

theorem hg_gr {w W : World} {g : Nat} (h : HG w) (hg : w.grownBy W (some g)) (hg0 : 0 < g) : HG W := by
  have h0 := hg_pos h
  unfold HG
  rw [hg.cell_far ⟨0, 0, none⟩ h0 (fun e => by injection e with e; exact absurd (show 0 = g from e) (by omega))]
  exact h

set_option maxHeartbeats 8000000 in
set_option maxRecDepth 100000 in
theorem From_any (g : Nat) (A : Option Addr) (c : Nat) (bs : List Int) (at0 code : Int) (w0 w : World) (hI : RdSt w g A c bs at0 code) (hB : Below w0.heap.size w0 w) (hge : w0.heap.size ≤ g) (hC : kO.C w0 A bs.length bs) (hc : bs.length ≤ c) (hb : Oct bs) (hl : bs.length < 1000000) (ha0 : 0 ≤ at0) (ha1 : at0 ≤ bs.length) (hHG : HG w) (hg0 : 0 < g) :
    Calls Tryd.prog 24 #[.pointer (some ⟨g, 0, none⟩)] w (FromPost w g A c bs (fromF bs at0 code).1 (fromF bs at0 code).2 (fromA bs at0 code).2.2.1 (fromC bs at0 code)) := by
  have HI := Lib.hid hI
  have HB := Lib.hid hB
  have HNUM := Lib.hid (fun W (hW : w.grownBy W (some g)) at_ cd (hR : RdSt W g A c bs at_ cd) (h0 : 0 ≤ at_) (h1 : at_ ≤ bs.length) most (hm0 : 0 ≤ most) (hm1 : most ≤ 1099511627776) => rdNum_any g A c bs at_ cd most w0 W hR (gr_below hB hB.size hW hge) hge hC hb hl h0 h1 hm0 hm1)
  have HWRD := Lib.hid (fun W (hW : w.grownBy W (some g)) at_ cd (hR : RdSt W g A c bs at_ cd) (h0 : 0 ≤ at_) (h1 : at_ ≤ bs.length) => rdWord_any g A c bs at_ cd w0 W hR (gr_below hB hB.size hW hge) hge hC hc hb hl h0 h1)
  have HFA := Lib.hid (show fromA bs at0 code = ((numR 1099511627776 bs at0 code).1, (fromL bs (numR 12 bs (numR 1099511627776 bs at0 code).2.1 (numR 1099511627776 bs at0 code).2.2).1.toNat (numR 12 bs (numR 1099511627776 bs at0 code).2.1 (numR 1099511627776 bs at0 code).2.2).2.1 (numR 12 bs (numR 1099511627776 bs at0 code).2.1 (numR 1099511627776 bs at0 code).2.2).2.2 [])) from rfl)
  have HFC := Lib.hid (show fromC bs at0 code = if (fromA bs at0 code).2.2.2 = 0 then chk (fromA bs at0 code).1 (fromA bs at0 code).2.1 else (fromA bs at0 code).2.2.2 from rfl)
  have HFF := Lib.hid (show fromF bs at0 code = if fromC bs at0 code = 0 then ((fromA bs at0 code).1, (fromA bs at0 code).2.1) else (0, []) from rfl)
  have hgw : g < w.heap.size := (Array.getElem?_eq_some_iff.1 hI).1
  have HOC := Lib.hid hb
  have hbd1 := numR_bd code hb (show (0 : Int) ≤ 1099511627776 by decide) ha0 ha1
  have hbd2 := numR_bd (numR 1099511627776 bs at0 code).2.2 hb (show (0 : Int) ≤ 12 by decide) hbd1.2.2.1 hbd1.2.2.2
  generalize fromF bs at0 code = FF at *
  generalize fromC bs at0 code = FC at *
  generalize fromA bs at0 code = FA at *
  clear hI hB hC hb
  have HN1 := Lib.hid (HNUM.out _ (gr_alloc (gr_refl w (some g)) (.cells #[.int .i64 0, .slice none 0 0] 24)) at0 code (HI.out.alloc _) ha0 ha1 1099511627776 (by decide) (by decide))
  generalize numR 1099511627776 bs at0 code = n1 at *
  generalize hn2 : numR 12 bs n1.2.1 n1.2.2 = n2 at *
  have HN2 := Lib.hid hn2
  clear hn2
  have hz := heap_alloc_new w (.cells #[.int .i64 0, .slice none 0 0] 24)
  have HZ := Lib.hid hz
  have HG0 := Lib.hid (gr_alloc (gr_refl w (some g)) (.cells #[.int .i64 0, .slice none 0 0] 24))
  have HL0 := Lib.hid (show w.heap.size < (w.alloc (.cells #[.int .i64 0, .slice none 0 0] 24)).heap.size by simp)
  clear hz
  go_enter Tryd.func24, Tryd.ntmps24
  go_wp2_with fail
  generalize w.alloc (.cells #[.int .i64 0, .slice none 0 0] 24) = w1 at *
  refine HN1.out.mono ?_
  rintro e w2 ⟨rfl, hR2, hG2⟩
  have R2 := Lib.hid hR2
  have Z2 := Lib.hid ((hG2.block w.heap.size HL0.out (fun e => by injection e with e; omega)).trans HZ.out)
  have G2 := Lib.hid (gr_trans HG0.out hG2)
  have L2 := Lib.hid (Nat.lt_of_lt_of_le HL0.out hG2.size)
  clear hR2 hG2 HN1 HL0 HZ HG0
  go_wp2_with fail
  have L3 := Lib.hid (show w2.heap.size < (w2.alloc (.cells #[.int .i64 n1.1, .slice none 0 0] 24)).heap.size by simp)
  have F3 := Lib.hid (show FS w g w2.heap.size A c bs n1.1 (w2.alloc (.cells #[.int .i64 n1.1, .slice none 0 0] 24)) n1.2.1 n1.2.2 (.slice none 0 0) [] from
    ⟨R2.out.alloc _, gr_alloc G2.out _, (Below.heap_alloc w2 _ _ L2.out).trans Z2.out, heap_alloc_new _ _, Kd.R_nil _ _ _ _ _⟩)
  generalize w2.alloc (.cells #[.int .i64 n1.1, .slice none 0 0] 24) = w3 at *
  have hq : w.heap.size < w2.heap.size := L2.out
  generalize w2.heap.size = q at *
  clear R2 G2 L2 Z2 L3
  have hcall := HNUM.out w3 F3.out.gr n1.2.1 n1.2.2 F3.out.rd hbd1.2.2.1 hbd1.2.2.2 12 (by decide) (by decide)
  rw [HN2.out] at hcall
  have HCALL := Lib.hid hcall
  clear hcall
  obtain ⟨N, hN⟩ := Int.eq_ofNat_of_zero_le hbd2.1
  have hN12 : N ≤ 12 := by have := hbd2.2.1; omega
  have HNN := Lib.hid hN
  refine HCALL.out.mono ?_
  rintro e w4 ⟨rfl, hR4, hG4⟩
  have F4 := Lib.hid (F3.out.read hgw hq hR4 hG4)
  rw [hN]
  clear hR4 hG4 HCALL F3 hN
  go_wp2_with fail
  have HFL := Lib.hid (show fromL bs N n2.2.1 n2.2.2 [] = (FA.2.1, FA.2.2.1, FA.2.2.2) by
    have h1 := HFA.out
    rw [HNN.out] at h1
    rw [h1]
    rfl)
  go_loopw [5, 12] (fun hv iv wr => ∃ (i : Nat) (at_ cd : Int) (v : Value) (acc : List Fl), i ≤ N ∧ iv = .int .i64 i ∧ 0 ≤ at_ ∧ at_ ≤ bs.length ∧ acc.length = i ∧ Hid (FS w g q A c bs n1.1 wr at_ cd v acc ∧ fromL bs (N - i) at_ cd acc = (FA.2.1, FA.2.2.1, FA.2.2.2))) (fun _ iv _ => N - (intOf iv).toNat)
  case atStart => exact ⟨0, n2.2.1, n2.2.2, _, [], Nat.zero_le _, rfl, hbd2.2.2.1, hbd2.2.2.2, rfl, F4.out, HFL.out⟩
  case round =>
    obtain ⟨i, at_, cd, v, acc, hi, rfl, ha0', ha1', hal, HD⟩ := hrel
    obtain ⟨wo, rfl⟩ : ∃ wo : World, wo = wr := ⟨_, rfl⟩
    have FO := Lib.hid HD.out.1
    have HL := Lib.hid HD.out.2
    clear HD F4
    obtain ⟨vA, vc, hvs⟩ := Kd.R_slice FO.out.r
    rw [hal] at hvs
    subst hvs
    by_cases hlt : i < N
    · obtain ⟨m, hm⟩ : ∃ m, N - i = m + 1 := ⟨N - i - 1, by omega⟩
      have hL2 := HL.out
      rw [hm, fromL] at hL2
      have hwb := wordR_bd cd HOC.out ha0' ha1'
      have hnb := numR_bd (wordR bs at_ cd).2.2 HOC.out (show (0 : Int) ≤ 1099511627776 by decide) hwb.1 hwb.2
      have HWC := Lib.hid (HWRD.out wo FO.out.gr at_ cd FO.out.rd ha0' ha1')
      generalize wordR bs at_ cd = wv at *
      have HNC := Lib.hid (fun W (hW : w.grownBy W (some g)) (hR : RdSt W g A c bs wv.2.1 wv.2.2) => HNUM.out W hW wv.2.1 wv.2.2 hR hwb.1 hwb.2 1099511627776 (by decide) (by decide))
      generalize numR 1099511627776 bs wv.2.1 wv.2.2 = nv at *
      have HL2 := Lib.hid hL2
      have hiN : (i : Int) < (N : Int) := by omega
      clear hL2 HL
      go_wp2_with fail
      refine HWC.out.mono ?_
      rintro e w5 ⟨rfl, hR5, hG5⟩
      have F5 := Lib.hid (FO.out.read hgw hq hR5 hG5)
      have F5d := Lib.hid F5.out.drew
      clear hR5 hG5 HWC
      go_wp2_with fail
      have hqc : ∀ W, FS w g q A c bs n1.1 W wv.2.1 wv.2.2 (.slice vA i vc) acc ∨ FS w g q A c bs n1.1 W nv.2.1 nv.2.2 (.slice vA i vc) acc → W.cell? ⟨q, 1, none⟩ = some (.slice vA i vc) := fun W hW => hW.elim (fun h => cell_of_row W _ 1 _ _ (0, 0) h.b) (fun h => cell_of_row W _ 1 _ _ (0, 0) h.b)
      have HQC := Lib.hid hqc
      have HQA := Lib.hid (show ∀ (W : World) (o : Obj), FS w g q A c bs n1.1 W nv.2.1 nv.2.2 (.slice vA i vc) acc → (W.alloc o).cell? ⟨q, 1, none⟩ = some (.slice vA i vc) from fun W o h => ((bel_alloc W o).cell (p := ⟨q, 1, none⟩) (World.block_lt_of_cell? W _ (hqc W (.inr h)))).trans (hqc W (.inr h)))
      clear hqc
      have q5 : w5.cell? ⟨q, 1, none⟩ = some (.slice vA i vc) := HQC.out _ (.inl F5.out)
      go_region_law
        (first
          | (go_simp; go_at_call 42; ((with_reducible refine (HNC.out _ F5d.out.gr F5d.out.rd).mono ?_)); rintro e w6 ⟨rfl, hR6, hG6⟩; have F6 := Lib.hid (F5d.out.read hgw hq hR6 hG6); have q6 : w6.cell? ⟨q, 1, none⟩ = some (.slice vA i vc) := HQC.out _ (.inr F6.out); have q6a : (w6.alloc (.cells #[.int .u64 wv.1, .int .i64 nv.1] 43)).cell? ⟨q, 1, none⟩ = some (.slice vA i vc) := HQA.out _ _ F6.out; clear hR6 hG6; dsimp only)
          | (refine Kd.R_append_step kF (w0 := w6) (W := w6) w.heap.size (by simp [Region.wanted]) (.tmp 17) (.tmp 22) 22 43 (.agg #[.int .u64 0, .int .i64 0]) 16 rfl Tryd.underlying22 info_fl rfl (by decide) (by omega) (.slice vA i vc) acc (⟨wv.1, nv.1⟩ : Fl) (encF (⟨wv.1, nv.1⟩ : Fl)) (fun k => k ≠ g) (fun _ => False) (by simp [Act.eval, Act.put]) (by simp [Act.eval, Act.put]) (kF_mk _ _ _ _) (fun _ hk => hk.elim) (fun k hk e => by have := F6.out.gr.size; omega) F6.out.r (Below.refl _ _) F6.out.gr.size (by omega) ?_; intro v1 w7 ho hb hg hat; obtain ⟨A7, c7, hv1⟩ := Kd.R_slice ho; rw [List.length_append, List.length_singleton, hal] at hv1; subst hv1; obtain ⟨hq7, h7⟩ := F6.out.push hgw hq ho hg; have F7 := Lib.hid h7; have k1 : w7.cell? ⟨q, 1, none⟩ = some (.slice vA i vc) := cell_of_row w7 _ 1 _ _ (0, 0) hq7; have kf : w7.frozen? ⟨q, 1, none⟩ = false := (by simp [World.frozen?, hq7]); clear ho hb hg hat hq7 h7))
      all_goals
        go_wp2_with fail
        go_roundw
        case rel => exact ⟨i + 1, nv.2.1, nv.2.2, .slice A7 (i + 1) c7, acc ++ [(⟨wv.1, nv.1⟩ : Fl)], by omega, by go_num, hnb.2.2.1, hnb.2.2.2, by simp [hal], F7.out, by rw [show N - (i + 1) = m by omega]; exact HL2.out⟩
        case measure => simp [intOf]; omega
    · obtain rfl : N = i := by omega
      have hL0 := HL.out
      rw [Nat.sub_self, fromL] at hL0
      injection hL0 with hA1 hA2
      injection hA2 with hA2 hA3
      have HA1 := Lib.hid hA1
      have HA2 := Lib.hid hA2
      have HA3 := Lib.hid hA3
      have HFA1 := Lib.hid (show FA.1 = n1.1 by rw [HFA.out])
      have hi3 : ¬ (N : Int) < (N : Int) := by omega
      have HCD := Lib.hid (rdCode_any g A c bs at_ cd wo FO.out.rd)
      have HAL := Lib.hid hal
      clear hA1 hA2 hA3 HL hal
      go_wp2_with fail
      refine HCD.out.mono ?_
      rintro e w5 ⟨rfl, hR5, hG5⟩
      have F5 := Lib.hid (FO.out.read hgw hq hR5 hG5)
      clear hR5 hG5 HCD FO
      have hrd := Kd.R_reads' F5.out.r
      rw [HAL.out] at hrd
      obtain ⟨hn5, hv5, hC5⟩ := hrd
      have HC5 := Lib.hid hC5
      have HFCX := Lib.hid (show FC = if cd = 0 then chk n1.1 acc else cd by rw [HFC.out, ← HA3.out, ← HA1.out, HFA1.out])
      have HEQ := Lib.hid (show FA.2.1.length = N by rw [← HA1.out]; exact HAL.out)
      have hat1 := Lib.hid HA2.out
      obtain ⟨o0, o1, z0, z1, f0, f1⟩ := F5.out.facts
      clear hC5
      by_cases hcd : cd = 0
      · have hcb : (cd == 0) = true := by simpa using hcd
        have HX := Lib.hid (show FC = chk n1.1 acc by rw [HFCX.out, if_pos hcd])
        have hck := Check_any n1.1 vA vc acc w5 (by rw [HAL.out]; exact HC5.out) (by rw [HAL.out]; exact hv5) (by rw [HAL.out]; omega)
        rw [HAL.out, ← HX.out] at hck
        have HCK := Lib.hid hck
        have hfail := fun W (hR : RdSt W g A c bs at_ cd) => rdFail_any g A c bs at_ cd W hR FC
        rw [if_pos hcd] at hfail
        have HFAIL := Lib.hid hfail
        have HCDF := Lib.hid (fun W (hR : RdSt W g A c bs at_ FC) => rdCode_any g A c bs at_ FC W hR)
        clear hcd hck hfail
        by_cases hfc : FC = 0
        · have hfb : (FC != 0) = false := by simpa using hfc
          have HFF0 := Lib.hid (show FF = (n1.1, acc) by rw [HFF.out, if_pos hfc, ← HA1.out, HFA1.out])
          clear hfc
          go_wp2_with fail
          refine HCK.out.mono ?_
          rintro e w6 ⟨ev, l, rfl, hE, hcl, hb6⟩
          have F6 := Lib.hid (F5.out.later hb6)
          have hof := of_code ev l w6 hE ((hg_gr hHG F5.out.gr hg0).below hb6)
          rw [hcl] at hof
          have HOF := Lib.hid hof
          clear hE hcl hb6 hof HCK F5 o0 o1 z0 z1 f0 f1
          go_wp2_with fail
          refine HOF.out.mono ?_
          rintro e w7 ⟨rfl, hb7⟩
          have F7 := Lib.hid (F6.out.later hb7)
          clear hb7 HOF F6
          go_wp2_with fail
          refine (HFAIL.out w7 F7.out.rd).mono ?_
          rintro e w8 ⟨rfl, hR8, hG8⟩
          have F8 := Lib.hid (F7.out.read hgw hq hR8 hG8)
          clear hR8 hG8 F7
          go_wp2_with fail
          refine (HCDF.out w8 F8.out.rd).mono ?_
          rintro e w9 ⟨rfl, hR9, hG9⟩
          have F9 := Lib.hid (F8.out.read hgw hq hR9 hG9)
          clear hR9 hG9 F8
          obtain ⟨o0, o1, z0, z1, f0, f1⟩ := F9.out.facts
          go_wp2_with fail
          obtain ⟨e1, e2, e3⟩ := F9.out.fin hgw (.int .i64 n1.1) (.slice vA N vc)
          obtain ⟨e4, e5, e6⟩ := F9.out.finC (.int .i64 n1.1) (.slice vA N vc)
          refine bodyPost_ret (results_c rfl _ _ w.heap.size 24 _ (0, 0) _ rfl e1 Tryd.underlying24 rfl (by kernel_rfl)) rfl ?_
          rw [HFF0.out]
          subst e4
          rw [← hat1.out]
          exact ⟨vA, vc, rfl, e5, e6, e2, e3⟩
        · have hfb : (FC != 0) = true := by simpa using hfc
          have HFF0 := Lib.hid (show FF = (0, []) by rw [HFF.out, if_neg hfc])
          clear hfc
          go_wp2_with fail
          refine HCK.out.mono ?_
          rintro e w6 ⟨ev, l, rfl, hE, hcl, hb6⟩
          have F6 := Lib.hid (F5.out.later hb6)
          have hof := of_code ev l w6 hE ((hg_gr hHG F5.out.gr hg0).below hb6)
          rw [hcl] at hof
          have HOF := Lib.hid hof
          clear hE hcl hb6 hof HCK F5 o0 o1 z0 z1 f0 f1
          go_wp2_with fail
          refine HOF.out.mono ?_
          rintro e w7 ⟨rfl, hb7⟩
          have F7 := Lib.hid (F6.out.later hb7)
          clear hb7 HOF F6
          go_wp2_with fail
          refine (HFAIL.out w7 F7.out.rd).mono ?_
          rintro e w8 ⟨rfl, hR8, hG8⟩
          have F8 := Lib.hid (F7.out.read hgw hq hR8 hG8)
          clear hR8 hG8 F7
          go_wp2_with fail
          refine (HCDF.out w8 F8.out.rd).mono ?_
          rintro e w9 ⟨rfl, hR9, hG9⟩
          have F9 := Lib.hid (F8.out.read hgw hq hR9 hG9)
          clear hR9 hG9 F8
          obtain ⟨o0, o1, z0, z1, f0, f1⟩ := F9.out.facts
          go_wp2_with fail
          obtain ⟨e1, e2, e3⟩ := F9.out.fin hgw (.int .i64 0) (.slice none 0 0)
          refine bodyPost_ret (results_c rfl _ _ w.heap.size 24 _ (0, 0) _ rfl e1 Tryd.underlying24 rfl (by kernel_rfl)) rfl ?_
          rw [HFF0.out, ← hat1.out]
          exact ⟨none, 0, rfl, Nat.le_refl _, kF_nilC _, e2, e3⟩
      · have hcb : (cd == 0) = false := by simpa using hcd
        have HX := Lib.hid (show FC = cd by rw [HFCX.out, if_neg hcd])
        have hcb2 : (cd != 0) = true := by simpa using hcd
        have HFF0 := Lib.hid (show FF = (0, []) by rw [HFF.out, HX.out, if_neg hcd])
        have HCD2 := Lib.hid (rdCode_any g A c bs at_ cd w5 F5.out.rd)
        clear hcd
        go_wp2_with fail
        refine HCD2.out.mono ?_
        rintro e w6 ⟨rfl, hR6, hG6⟩
        have F6 := Lib.hid (F5.out.read hgw hq hR6 hG6)
        clear hR6 hG6 HCD2 F5 o0 o1 z0 z1 f0 f1
        obtain ⟨o0, o1, z0, z1, f0, f1⟩ := F6.out.facts
        go_wp2_with fail
        obtain ⟨e1, e2, e3⟩ := F6.out.fin hgw (.int .i64 0) (.slice none 0 0)
        refine bodyPost_ret (results_c rfl _ _ w.heap.size 24 _ (0, 0) _ rfl e1 Tryd.underlying24 rfl (by kernel_rfl)) rfl ?_
        rw [HFF0.out, HX.out, ← hat1.out]
        exact ⟨none, 0, rfl, Nat.le_refl _, kF_nilC _, e2, e3⟩
end Go.Proofs.YtmoiochblmdgfaaDoor
namespace Go.Proofs.YtmoiochblmdgfaaDoor
set_option linter.unusedVariables false
set_option linter.unusedSimpArgs false
open Go.RowKit Go.Proofs.YtmoiochblmdgfaaDoorW.PrintWords
attribute [local go_sem ↓] Go.wp_at_zero Go.wp_at_succ

def fA : List Fl := [⟨3, 9⟩, ⟨7, 5⟩]
def fB : List Fl := [⟨3, 9⟩, ⟨8, 6⟩]
def fBy : List Int := [5, 2, 0, 0, 0, 0, 0, 0, 0, 3, 9, 0, 0, 0, 0, 0, 0, 0, 8, 6]
theorem fw_1 : raiseP 0 [] 7 5 2 = (0, [⟨7, 5⟩]) := by decide +kernel
theorem fw_2 : raiseP 0 [⟨7, 5⟩] 3 9 2 = (0, fA) := by decide +kernel
theorem fw_3 : raiseP 0 fA 8 6 2 = (5, fB) := by decide +kernel
theorem fw_4 : PR.floors_Put.f 40 [] 5 fB = some fBy := by decide +kernel
theorem fw_5 : fromF fBy 0 0 = (5, fB) ∧ fromC fBy 0 0 = 0 := by decide +kernel
theorem fw_6 : fOf 0 fA 7 = 5 ∧ fOf 5 fB 7 = 5 ∧ fOf 5 fB 1 = 5 ∧ fOf 5 fB 8 = 6 := by decide +kernel
theorem fw_7 : (delL fB 8).length = 1 ∧ upP 5 7 = 7 ∧ chk (-1) [] = 2 := by decide +kernel
theorem ris_A : Ris fA := by unfold Ris; decide
theorem ris_B : Ris fB := by unfold Ris; decide
theorem ris_1 : Ris [(⟨7, 5⟩ : Fl)] := by unfold Ris; decide
theorem bl_A : BL 0 fA := by unfold BL; decide
theorem bl_B : BL 5 fB := by unfold BL; decide
theorem bl_1 : BL 0 [(⟨7, 5⟩ : Fl)] := by unfold BL; decide
theorem bl_0 : BL 0 [] := by unfold BL; decide
theorem oct_B : Oct fBy := by unfold Oct; decide
theorem len_A : fA.length = 2 := rfl
theorem len_B : fB.length = 2 := rfl
theorem len_By : fBy.length = 20 := rfl

theorem C_nil8 (w : World) : kO.C w none 0 [] := (Kd.R_reads' (Kd.R_nil kO 5 w w.heap.size (fun _ => True))).2.2

set_option maxHeartbeats 8000000 in
set_option maxRecDepth 100000 in
theorem works_any (w : World) (hg : HG w) :
    Calls Tryd.prog 7 #[] w fun e w' => e = .returned (.bool true) ∧ Below w.heap.size w w' := by
  have HH := Lib.hid hg
  have h0 := Lib.hid (hg_pos hg)
  have R1 := Lib.hid (Raise_any 0 none 0 [] 7 5 2 w (kF_nilC w) (Nat.le_refl _) (by decide) .nil bl_0)
  rw [fw_1] at R1
  clear hg
  go_enter Tryd.func7, Tryd.ntmps7
  go_wp2_with fail
  refine R1.out.mono ?_
  rintro e w1 h1
  obtain ⟨A1, c1, rfl, hc1, hC1, _, b1⟩ := h1.reads
  have R2 := Lib.hid (Raise_any 0 A1 c1 [⟨7, 5⟩] 3 9 2 w1 hC1 hc1 (by decide) ris_1 bl_1)
  have B1 := Lib.hid b1
  rw [fw_2] at R2
  clear h1 hC1 b1 R1
  go_wp2_with fail
  refine R2.out.mono ?_
  rintro e w2 h2
  obtain ⟨A2, c2, rfl, hc2, hC2, _, b2⟩ := h2.reads
  have B2 := Lib.hid (B1.out.trans (b2.mono B1.out.size))
  clear h2 b2 R2 B1
  rw [len_A] at hc2 hC2 ⊢
  go_wp2_with fail
  have hk2 := heap_alloc_new w2 (.cells #[.int .i64 0, .slice A2 2 c2] 24)
  have K2 := Lib.hid hk2
  have L2 := Lib.hid (show w2.heap.size < (w2.alloc (.cells #[.int .i64 0, .slice A2 2 c2] 24)).heap.size by simp)
  have C2 := Lib.hid (Kd.C_below hC2 (bel_alloc w2 (.cells #[.int .i64 0, .slice A2 2 c2] 24)))
  have B3 := Lib.hid (B2.out.trans ((bel_alloc w2 (.cells #[.int .i64 0, .slice A2 2 c2] 24)).mono B2.out.size))
  generalize w2.alloc (.cells #[.int .i64 0, .slice A2 2 c2] 24) = w3 at *
  generalize w2.heap.size = p at *
  clear hC2 hk2 B2
  have R3 := Lib.hid (Raise_any 0 A2 c2 fA 8 6 2 w3 C2.out hc2 (by decide) ris_A bl_A)
  rw [fw_3, len_A] at R3
  refine R3.out.mono ?_
  rintro e w4 h4
  obtain ⟨A3, c3, rfl, hc3, hC3, _, b4⟩ := h4.reads
  have B4 := Lib.hid (B3.out.trans (b4.mono B3.out.size))
  have K4 := Lib.hid ((b4.block p L2.out).trans K2.out)
  have L4 := Lib.hid (Nat.lt_of_lt_of_le L2.out b4.size)
  have C4 := Lib.hid (Kd.C_below C2.out b4)
  clear h4 b4 R3 B3 K2 L2 C2
  rw [len_B] at hc3 hC3 ⊢
  have hk4 := heap_alloc_new w4 (.cells #[.int .i64 5, .slice A3 2 c3] 24)
  have J5 := Lib.hid hk4
  have bz := bel_alloc w4 (.cells #[.int .i64 5, .slice A3 2 c3] 24)
  have B5 := Lib.hid (B4.out.trans (bz.mono B4.out.size))
  have K5 := Lib.hid ((bz.block p L4.out).trans K4.out)
  have C5 := Lib.hid (Kd.C_below C4.out bz)
  have D5 := Lib.hid (Kd.C_below hC3 bz)
  have LP := Lib.hid (show p < (w4.alloc (.cells #[.int .i64 5, .slice A3 2 c3] 24)).heap.size from Nat.lt_of_lt_of_le L4.out bz.size)
  have LQ := Lib.hid (show w4.heap.size < (w4.alloc (.cells #[.int .i64 5, .slice A3 2 c3] 24)).heap.size by simp)
  clear hC3 hk4 bz B4 K4 L4 C4
  go_wp2_with fail
  generalize w4.alloc (.cells #[.int .i64 5, .slice A3 2 c3] 24) = w5 at *
  generalize w4.heap.size = q at *
  have q0 : w5.cell? ⟨q, 0, none⟩ = some (.int .i64 5) := cell_of_row w5 _ 0 _ _ (0, 0) J5.out
  have q1 : w5.cell? ⟨q, 1, none⟩ = some (.slice A3 2 c3) := cell_of_row w5 _ 1 _ _ (0, 0) J5.out
  have PUT := Lib.hid (PR.floors_Put.calls 40 none 0 [] 5 A3 c3 fB fBy w5 (C_nil8 w5) (Nat.le_refl _) D5.out (by rw [len_B]; exact hc3) fw_4)
  rw [len_B] at PUT
  refine PUT.out.mono ?_
  rintro e w6 ⟨u6, rfl, hr6, b6⟩
  obtain ⟨A6, c6, rfl, hc6, hC6⟩ := Kd.R_reads hr6
  have B6 := Lib.hid b6
  have RD := Lib.hid (Read_any A6 c6 fBy w6 hC6 (by decide))
  rw [len_By] at RD ⊢
  clear hr6 hC6 b6 hc6 PUT
  go_wp2_with fail
  refine RD.out.mono ?_
  rintro e w7 ⟨w0, g, A7, c7, rfl, hI7, hc7, hC7, hge, hb7, hb0⟩
  have I7 := Lib.hid hI7
  have CC7 := Lib.hid hC7
  have BR := Lib.hid hb7
  have B7 := Lib.hid (B6.out.trans ((hb0.trans (hb7.mono hb0.size)).mono B6.out.size))
  have G7 := Lib.hid (show w5.heap.size ≤ g from Nat.le_trans (Nat.le_trans B6.out.size hb0.size) hge)
  have HS := Lib.hid (show w5.heap.size ≤ w.heap.size + w5.heap.size from by omega)
  clear hI7 hC7 hb7 hb0 B6 RD
  have hn7 : (g : Nat) < w7.heap.size := (Array.getElem?_eq_some_iff.1 I7.out).1
  have q1' := (B7.out.cell (p := ⟨q, 1, none⟩) LQ.out).trans q1
  have p1' : w7.cell? ⟨p, 1, none⟩ = some (.slice A2 2 c2) := (B7.out.cell (p := ⟨p, 1, none⟩) LP.out).trans (cell_of_row w5 _ 1 _ _ (0, 0) K5.out)
  go_wp2_with fail
  have hof : ∀ (low : Int) (L : List Fl) (A : Option Addr) (c : Nat) (h r : Int) W, kF.C W A L.length L → L.length ≤ c → Ris L → BL low L → L.length < 900 → fOf low L h = r → Below w7.heap.size w7 W →
      Calls Tryd.prog 14 #[.agg #[.int .i64 low, .slice A L.length c], .int .u64 h] W fun e w' => e = .returned (.int .i64 r) ∧ Below w7.heap.size w7 w' := fun low L A c h r W hC hc hR hB hl hr hW => by
    rw [← hr]
    exact (Of_any low A c L h W hC hc (by omega) hR (fun x hx => (hB.2.2 x hx).1)).mono fun e w' ⟨he, hb⟩ => ⟨he, hW.trans (hb.mono hW.size)⟩
  have hcA : ∀ W, Below w7.heap.size w7 W → kF.C W A2 2 fA := fun W hW => Kd.C_below C5.out (B7.out.trans (hW.mono B7.out.size))
  have hcB : ∀ W, Below w5.heap.size w5 W → kF.C W A3 2 fB := fun W hW => Kd.C_below D5.out hW
  have hcB7 : ∀ W, Below w7.heap.size w7 W → kF.C W A3 2 fB := fun W hW => hcB W (B7.out.trans (hW.mono B7.out.size))
  have HO1 := Lib.hid (fun W hW => hof 0 fA A2 c2 7 5 W (hcA W hW) hc2 ris_A bl_A (by decide) fw_6.1 hW)
  have HO2 := Lib.hid (fun W hW => hof 5 fB A3 c3 7 5 W (hcB7 W hW) hc3 ris_B bl_B (by decide) fw_6.2.1 hW)
  have HO3 := Lib.hid (fun W hW => hof 5 fB A3 c3 1 5 W (hcB7 W hW) hc3 ris_B bl_B (by decide) fw_6.2.2.1 hW)
  have HDE := Lib.hid (show ∀ W, Below w7.heap.size w7 W → Calls Tryd.prog 16 #[.agg #[.int .i64 5, .slice A3 fB.length c3], .int .u64 8, .int .i64 5] W fun e w' => e = .returned (.bool true) ∧ Below w7.heap.size w7 w' from fun W hW =>
    (Dead_any 5 A3 c3 fB 8 5 W (hcB7 W hW) hc3 (by decide) ris_B (fun x hx => (bl_B.2.2 x hx).1)).mono fun e w' ⟨he, hb⟩ => ⟨he.trans (by rw [fw_6.2.2.2]; rfl), hW.trans (hb.mono hW.size)⟩)
  have HFR := Lib.hid (show ∀ W, Below w7.heap.size w7 W → Calls Tryd.prog 24 #[.pointer (some ⟨g, 0, none⟩)] W fun e w' => ∃ A' c', e = .returned (.agg #[.int .i64 5, .slice A' 2 c']) ∧ 2 ≤ c' ∧ kF.C w' A' 2 fB ∧ Below w5.heap.size w5 w' from fun W hW => by
    have hI : RdSt W g A7 c7 fBy 0 0 := (hW.block g hn7).trans I7.out
    have hg5 : 0 < w5.heap.size := Nat.lt_of_lt_of_le h0.out B5.out.size
    have hg7 : 0 < g := Nat.lt_of_lt_of_le hg5 G7.out
    have hHG : HG W := HG.below' (HG.below' (HG.below' HH.out B5.out h0.out) B7.out hg5) hW (Nat.lt_of_lt_of_le hg5 B7.out.size)
    refine (From_any g A7 c7 fBy 0 0 w0 W hI (BR.out.trans (hW.mono BR.out.size)) hge CC7.out hc7 oct_B (by decide) (by decide) (by decide) hHG hg7).mono ?_
    rintro e w' ⟨A', c', he, h1, h2, h3, h4⟩
    rw [fw_5.1] at he h1 h2
    exact ⟨A', c', he, h1, h2, gr_below (B7.out.trans (hW.mono B7.out.size)) (Nat.le_trans B7.out.size hW.size) h4 G7.out⟩)
  have hHGZ : ∀ W, Below w5.heap.size w5 W → HG W := fun W hW => HG.below' (HG.below' HH.out B5.out h0.out) hW (Nat.lt_of_lt_of_le h0.out B5.out.size)
  have HSA := Lib.hid (show ∀ W A' c', Below w5.heap.size w5 W → 2 ≤ c' → kF.C W A' 2 fB → Calls Tryd.prog 11 #[.agg #[.int .i64 5, .slice A' 2 c'], .agg #[.int .i64 5, .slice A3 2 c3]] W fun e w' => e = .returned (.bool true) ∧ Below w5.heap.size w5 w' from fun W A' c' hW h1 h2 =>
    (same_any 5 A' c' fB W h2 h1 (by decide) 5 A3 c3 fB (hcB W hW) hc3).mono fun e w' ⟨he, hb⟩ => ⟨he.trans (by rw [decide_eq_true (show (5 : Int) = 5 ∧ fB = fB from ⟨rfl, rfl⟩)]), hW.trans (hb.mono hW.size)⟩)
  have HCK := Lib.hid (show ∀ W, Below w5.heap.size w5 W → Calls Tryd.prog 10 #[.agg #[.int .i64 (-1), .slice none 0 0]] W fun e w' => ∃ ev l, e = .returned ev ∧ Hid (ErrIs w' ev l ∧ codeOf l = 2 ∧ HG w') ∧ Below w5.heap.size w5 w' from fun W hW => by
    refine (Check_any (-1) none 0 [] W (kF_nilC W) (Nat.le_refl _) (by decide)).mono ?_
    rintro e w' ⟨ev, l, he, h1, h2, h3⟩
    rw [fw_7.2.2] at h2
    exact ⟨ev, l, he, ⟨h1, h2, hHGZ _ (hW.trans (h3.mono hW.size))⟩, hW.trans (h3.mono hW.size)⟩)
  have HTO := Lib.hid (show ∀ W ev l, Below w5.heap.size w5 W → Hid (ErrIs W ev l ∧ codeOf l = 2 ∧ HG W) → Calls Tryd.prog 9 #[ev] W fun e w' => e = .returned (.int .i64 2) ∧ Below w5.heap.size w5 w' from fun W ev l hW h => by
    have h1 := of_code ev l W h.out.1 h.out.2.2
    rw [h.out.2.1] at h1
    exact h1.mono fun e w' ⟨he, hb⟩ => ⟨he, hW.trans (hb.mono hW.size)⟩)
  have HRE := Lib.hid (show ∀ W, Below w5.heap.size w5 W → Calls Tryd.prog 19 #[.agg #[.int .i64 5, .slice A3 2 c3], .int .u64 8] W fun e w' => ∃ A' c', e = .returned (.agg #[.int .i64 5, .slice A' 1 c']) ∧ Below w5.heap.size w5 w' from fun W hW => by
    refine (Rel_any 5 A3 c3 fB 8 W (hcB W hW) (by decide) ris_B).mono ?_
    intro e w' h
    obtain ⟨A', c', he, h1, h2, h3, h4⟩ := h.reads
    rw [fw_7.1] at he
    exact ⟨A', c', he, hW.trans (h4.mono hW.size)⟩)
  have HLI := Lib.hid (show ∀ W, Below w5.heap.size w5 W → Calls Tryd.prog 18 #[.agg #[.int .i64 5, .slice A3 2 c3], .int .i64 7] W fun e w' => ∃ A' n' c', e = .returned (.agg #[.int .i64 7, .slice A' n' c']) ∧ Below w5.heap.size w5 w' from fun W hW => by
    refine (lift_any 5 A3 c3 fB W (hcB W hW) hc3 (by decide) 7).mono ?_
    rintro e w' ⟨v, he, hr, hb⟩
    rw [fw_7.2.1] at he hr
    obtain ⟨A', c', rfl⟩ := Kd.R_slice hr
    exact ⟨A', _, c', he, hW.trans (hb.mono hW.size)⟩)
  have HCO := Lib.hid (show ∀ W, Below w5.heap.size w5 W → Calls Tryd.prog 13 #[.agg #[.int .i64 5, .slice A3 2 c3]] W fun e w' => ∃ A' c', e = .returned (.agg #[.int .i64 5, .slice A' 2 c']) ∧ 2 ≤ c' ∧ kF.C w' A' 2 fB ∧ Below w5.heap.size w5 w' from fun W hW => by
    refine (Copy_any 5 A3 c3 fB W (hcB W hW) (by decide)).mono ?_
    intro e w' h
    obtain ⟨A', c', he, h1, h2, h3, h4⟩ := h.reads
    exact ⟨A', c', he, h1, h2, hW.trans (h4.mono hW.size)⟩)
  have hX : ∀ W, Below w5.heap.size w5 W → W.cell? ⟨p, 0, none⟩ = some (.int .i64 0) ∧ W.cell? ⟨p, 1, none⟩ = some (.slice A2 2 c2) ∧ W.cell? ⟨q, 0, none⟩ = some (.int .i64 5) ∧ W.cell? ⟨q, 1, none⟩ = some (.slice A3 2 c3) := fun W hW =>
    ⟨(hW.cell (p := ⟨p, 0, none⟩) LP.out).trans (cell_of_row w5 _ 0 _ _ (0, 0) K5.out), (hW.cell (p := ⟨p, 1, none⟩) LP.out).trans (cell_of_row w5 _ 1 _ _ (0, 0) K5.out), (hW.cell (p := ⟨q, 0, none⟩) LQ.out).trans q0, (hW.cell (p := ⟨q, 1, none⟩) LQ.out).trans q1⟩
  obtain ⟨ad, hA2, hx4, _⟩ := at_fl C5.out (show 0 < 2 by decide)
  subst hA2
  have hx4' : w5.cell? ad = some (.int .u64 3) := hx4
  have hxl := World.block_lt_of_cell? w5 _ hx4'
  have hX4 : ∀ W, Below w5.heap.size w5 W → W.cell? ad = some (.int .u64 3) := fun W hW => (hW.cell (p := ad) hxl).trans hx4'
  have hXX := fun W hW => And.intro (hX W hW) (hX4 W hW)
  obtain ⟨⟨s0, s1, s2, s3⟩, s4⟩ := hXX _ B7.out
  have HX := Lib.hid (fun W hW => show W.cell? ⟨p, 0, none⟩ = some (.int .i64 0) ∧ W.cell? ⟨p, 1, none⟩ = some (.slice (some ad) 2 c2) ∧ W.cell? ⟨q, 0, none⟩ = some (.int .i64 5) ∧ W.cell? ⟨q, 1, none⟩ = some (.slice A3 2 c3) ∧ W.cell? ad = some (.int .u64 3) from ⟨(hXX W hW).1.1, (hXX W hW).1.2.1, (hXX W hW).1.2.2.1, (hXX W hW).1.2.2.2, (hXX W hW).2⟩)
  have z0 : Hid (Below w5.heap.size w5 w7.drew) := B7.out.trans ((Drawn0.below ⟨1, rfl⟩).mono B7.out.size)
  have x0 : Hid (Below w7.heap.size w7 w7.drew) := Drawn0.below ⟨1, rfl⟩
  have HZ := Lib.hid (fun W (hW : Below w7.heap.size w7 W) => B7.out.trans (hW.mono B7.out.size))
  clear hof hcA hcB hcB7 hHGZ hX hX4 hXX hx4 hx4' hxl q0 q1 q1' p1' hn7 hge hc7 HS hc1 hc2 hc3
  have hfd1 : ∀ (W : World) (A : Option Addr) (n c : Nat), (Instr.field 24 (.agg #[.int .i64 5, .slice A n c]) 1).run Tryd.prog W = .ok (.slice A n c) W := fun W A n c => by kernel_rfl
  have hfd0 : ∀ (W : World) (A : Option Addr) (n c : Nat), (Instr.field 24 (.agg #[.int .i64 7, .slice A n c]) 0).run Tryd.prog W = .ok (.int .i64 7) W := fun W A n c => by kernel_rfl
  rw [len_A] at HO1
  rw [len_B] at HO2 HO3 HDE
  go_region_held3 (fun w' => w'.cell? ⟨p, 0, none⟩ = some (.int .i64 0) ∧ w'.cell? ⟨p, 1, none⟩ = some (.slice (some ad) 2 c2) ∧ w'.cell? ⟨q, 0, none⟩ = some (.int .i64 5) ∧ w'.cell? ⟨q, 1, none⟩ = some (.slice A3 2 c3) ∧ w'.cell? ad = some (.int .u64 3))
    (first | exact ⟨s0, s1, s2, s3, s4⟩ | exact HX.out _ z0.out | exact HX.out _ z1.out | exact HX.out _ z2.out | exact HX.out _ z3.out | exact HX.out _ z4.out | exact HX.out _ z5.out | exact HX.out _ z6.out | exact HX.out _ z7.out | exact HX.out _ z8.out | exact HX.out _ z9.out | exact HX.out _ z10.out | exact HX.out _ z11.out | exact HX.out _ z12.out)
    (first
    | (go_at_call 14; first
      | (((with_reducible refine (HO1.out _ x0.out).mono ?_)); rintro e y1 ⟨rfl, hb⟩; have x1 := Lib.hid hb; have z1 := Lib.hid (HZ.out _ hb); clear hb)
      | (((with_reducible refine (HO2.out _ x1.out).mono ?_)); rintro e y2 ⟨rfl, hb⟩; have x2 := Lib.hid hb; have z2 := Lib.hid (HZ.out _ hb); clear hb)
      | (((with_reducible refine (HO3.out _ x2.out).mono ?_)); rintro e y3 ⟨rfl, hb⟩; have x3 := Lib.hid hb; have z3 := Lib.hid (HZ.out _ hb); clear hb))
    | (go_at_call 16; ((with_reducible refine (HDE.out _ x3.out).mono ?_)); rintro e y4 ⟨rfl, hb⟩; have x4 := Lib.hid hb; have z4 := Lib.hid (HZ.out _ hb); clear hb)
    | (go_at_call 24; ((with_reducible refine (HFR.out _ x4.out).mono ?_)); rintro e y5 ⟨A8, c8, rfl, hc8, hC8, hb⟩; have z5 := Lib.hid hb; have C8 := Lib.hid hC8; clear hb hC8)
    | (go_at_call 11; first
      | (((with_reducible refine (HSA.out _ A8 c8 z5.out hc8 C8.out).mono ?_)); rintro e y6 ⟨rfl, hb⟩; have z6 := Lib.hid hb; clear hb)
      | (((with_reducible refine (HSA.out _ A9 c9 z11.out hc9 C9.out).mono ?_)); rintro e y12 ⟨rfl, hb⟩; have z12 := Lib.hid hb; clear hb))
    | (go_at_call 10; ((with_reducible refine (HCK.out _ z6.out).mono ?_)); rintro e y7 ⟨ev, el, rfl, hE, hb⟩; have z7 := Lib.hid hb; clear hb)
    | (go_at_call 9; ((with_reducible refine (HTO.out _ _ el z7.out hE).mono ?_)); rintro e y8 ⟨rfl, hb⟩; have z8 := Lib.hid hb; clear hb)
    | (go_at_call 19; ((with_reducible refine (HRE.out _ z8.out).mono ?_)); rintro e y9 ⟨A10, c10, rfl, hb⟩; have z9 := Lib.hid hb; clear hb)
    | (go_at_call 18; ((with_reducible refine (HLI.out _ z9.out).mono ?_)); rintro e y10 ⟨A11, n11, c11, rfl, hb⟩; have z10 := Lib.hid hb; clear hb)
    | (go_at_call 13; ((with_reducible refine (HCO.out _ z10.out).mono ?_)); rintro e y11 ⟨A9, c9, rfl, hc9, hC9, hb⟩; have z11 := Lib.hid hb; have C9 := Lib.hid hC9; clear hb hC9))
  all_goals
    go_wp2_with fail
    go_ret
    exact ⟨rfl, B5.out.trans (z12.out.mono B5.out.size)⟩
end Go.Proofs.YtmoiochblmdgfaaDoor
namespace Go.Proofs.YtmoiochblmdgfaaDoor
set_option linter.unusedVariables false
open Go.RowKit Go.Proofs.YtmoiochblmdgfaaDoorW.PrintWords Go.ChangeShapes Go.WideShapes

/-- A struct argument, whole. -/
theorem Opens.whole {P : Program} {t : TypeId} {fs : Array Field} {α : Type} {d : Kd α} {ok : α → Prop} (hs : Opens P t d ok) (hu : P.underlying t = some (.struct fs)) {r : Reach} {b0 : Nat} {H : Type} {enc : TypeId × Value → H} {w : World} {base : Nat} {spare : Nat → Bool} {held : Bool} {v : Value} {x : DataW H} {ps : List MemPlace}
    (hv : Value.okWide P w r b0 t v) (h : DataW.Trod enc P w base spare held t v x ps) : ∃ cs a, v = .agg cs ∧ d.K w a cs.toList ∧ ok a := by
  obtain ⟨cs, rfl, hsz⟩ := okWide_struct hu hv
  obtain ⟨fuel, hf⟩ := h
  obtain ⟨a, h1, h2⟩ := hs.open_ hf
  exact ⟨cs, a, rfl, by simpa [Value.cells] using h1, h2⟩
def okF (x : Fl) : Prop := (Lit.int .u64 x.f0).wf = true ∧ (Lit.int .i64 x.f1).wf = true
theorem opensFl : Opens Tryd.prog 43 kF okF :=
  Opens.iso (fun x : Fl => (x.f0, x.f1)) (fun a => ⟨a.1, a.2⟩) (fun _ => rfl) (Opens.pair (P := Tryd.prog) (t := 43) Tryd.underlying43 rfl rfl (by kernel_rfl) (Opens.int Tryd.underlying25 (by kernel_rfl)) (Opens.int Tryd.underlying3 (by kernel_rfl)))
theorem opensFls : Opens Tryd.prog 22 (Kd.slice 43 kF) (fun xs => (∀ x ∈ xs, okF x) ∧ xs.length ≤ maxLen) :=
  Opens.slice Tryd.underlying22 (by kernel_rfl) opensFl
theorem opensF : Opens Tryd.prog 24 (Kd.pair (Kd.int .i64) (Kd.slice 43 kF)) (fun x => (Lit.int .i64 x.1).wf = true ∧ (∀ y ∈ x.2, okF y) ∧ x.2.length ≤ maxLen) :=
  Opens.pair (P := Tryd.prog) (t := 24) Tryd.underlying24 rfl rfl (by kernel_rfl) (Opens.int Tryd.underlying3 (by kernel_rfl)) opensFls
set_option maxRecDepth 100000 in
theorem open_floors {r : Reach} {b0 : Nat} {H : Type} {enc : TypeId × Value → H} {w : World} {base : Nat} {spare : Nat → Bool} {held : Bool} {v : Value} {x : DataW H} {ps : List MemPlace}
    (hv : Value.okWide Tryd.prog w r b0 24 v) (h : DataW.Trod enc Tryd.prog w base spare held 24 v x ps) :
    ∃ (low : Int) (A : Option Addr) (c : Nat) (L : List Fl), v = .agg #[.int .i64 low, .slice A L.length c] ∧ L.length ≤ c ∧ kF.C w A L.length L ∧ ((Lit.int .i64 low).wf = true ∧ ∀ y ∈ L, okF y) := by
  obtain ⟨cs, ⟨low, L⟩, rfl, h1, h2⟩ := Opens.whole opensF (hu := Tryd.underlying24) hv h
  obtain ⟨c1, c2, e, h3, A, c, h4, h5, h6⟩ := h1
  obtain rfl : c1 = [.int .i64 low] := h3
  obtain rfl : c2 = [.slice A L.length c] := h4
  refine ⟨low, A, c, L, ?_, h5, h6, h2.1, h2.2.1⟩
  cases cs
  dsimp only at e
  rw [e]
  rfl

theorem chkG_ok (low : Int) : ∀ (L : List Fl) (pv : Option Int), chkG low pv L = 0 → (∀ x ∈ L, low < x.f1 ∧ x.f1 ≤ 1099511627776) ∧ Ris L ∧ (∀ p, pv = some p → ∀ x ∈ L, p < x.f0)
  | [], _, _ => ⟨by simp, .nil, by simp⟩
  | x :: r, pv, h => by
    rw [chkG] at h
    by_cases h1 : prevBad pv x = true
    · rw [if_pos h1] at h
      exact absurd h (by decide)
    · rw [if_neg h1] at h
      by_cases h2 : x.f1 ≤ low ∨ 1099511627776 < x.f1
      · rw [if_pos h2] at h
        exact absurd h (by decide)
      · rw [if_neg h2] at h
        obtain ⟨i1, i2, i3⟩ := chkG_ok low r (some x.f0) h
        have i4 := i3 x.f0 rfl
        refine ⟨fun y hy => ?_, List.Pairwise.cons i4 i2, fun p hp y hy => ?_⟩
        · rcases List.mem_cons.1 hy with rfl | hy
          · omega
          · exact i1 y hy
        · subst hp
          have h5 : ¬ x.f0 ≤ p := fun e => h1 (decide_eq_true e)
          rcases List.mem_cons.1 hy with rfl | hy
          · omega
          · have := i4 y hy
            omega
theorem chk_ok {low : Int} {L : List Fl} (h : chk low L = 0) : BL low L ∧ Ris L ∧ L.length ≤ 12 := by
  unfold chk at h
  by_cases h1 : low < 0 ∨ 1099511627776 < low
  · rw [if_pos h1] at h
    exact absurd h (by decide)
  · rw [if_neg h1] at h
    by_cases h2 : 12 < L.length
    · rw [if_pos h2] at h
      exact absurd h (by decide)
    · rw [if_neg h2] at h
      obtain ⟨i1, i2, _⟩ := chkG_ok low L none h
      exact ⟨⟨by omega, by omega, i1⟩, i2, by omega⟩
theorem chkG_mk (low : Int) : ∀ (L : List Fl) (pv : Option Int), (∀ x ∈ L, low < x.f1 ∧ x.f1 ≤ 1099511627776) → Ris L → (∀ p, pv = some p → ∀ x ∈ L, p < x.f0) → chkG low pv L = 0
  | [], _, _, _, _ => rfl
  | x :: r, pv, h1, h2, h3 => by
    obtain ⟨h4, h5⟩ := List.pairwise_cons.1 h2
    have h6 := h1 x List.mem_cons_self
    have h7 : ¬ prevBad pv x = true := by
      cases pv with
      | none => exact Bool.false_ne_true
      | some p =>
        have := h3 p rfl x List.mem_cons_self
        show ¬ decide (x.f0 ≤ p) = true
        rw [decide_eq_true_iff]
        omega
    rw [chkG, if_neg h7, if_neg (by omega)]
    exact chkG_mk low r (some x.f0) (fun y hy => h1 y (List.mem_cons_of_mem _ hy)) h5 (fun p hp y hy => by injection hp with hp; subst hp; exact h4 y hy)
theorem chk_mk {low : Int} {L : List Fl} (h1 : BL low L) (h2 : Ris L) (h3 : L.length ≤ 12) : chk low L = 0 := by
  unfold chk
  rw [if_neg (by have := h1.1; have := h1.2.1; omega), if_neg (by omega)]
  exact chkG_mk low L none h1.2.2 h2 (by simp)
end Go.Proofs.YtmoiochblmdgfaaDoor
