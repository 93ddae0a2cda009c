/- The contracts of a sketch's writers: Age, Add. -/
import Derived.Test.YtpjdaglblckgfaaDoorSk1
import Derived.Test.YtpjdaglblckgfaaDoorChg
namespace Go.Proofs.YtpjdaglblckgfaaDoor
set_option linter.unusedVariables false
open Go.RowKit

def skM (p : Nat) (B : Nat → Nat) (b : Nat) : Prop := b = p ∨ ∃ r, r < 4 ∧ b = B r

theorem IsSk.congr {w : World} {p : Nat} {B : Nat → Nat} {S S' : Sk} (h : IsSk w p B S) (h0 : S'.width = S.width) (h1 : S'.total = S.total) (h2 : S'.limit = S.limit) (h3 : S'.aged = S.aged)
    (hr : ∀ r k, r < 4 → k < S.width → S'.row r k = S.row r k) : IsSk w p B S' := by
  obtain ⟨wd, row, t, l, a⟩ := S
  obtain ⟨wd', row', t', l', a'⟩ := S'
  dsimp only at *
  subst h0 h1 h2 h3
  exact ⟨h.w1, h.w2, h.head, fun r hr' => (h.row r hr').congr fun i hi => by dsimp only; rw [hr r i hr' hi], h.apart, h.inj, fun r k h1 h2 => by dsimp only; rw [hr r k h1 h2]; exact h.bd r k h1 h2⟩
theorem IsSk.setRow {w : World} {p : Nat} {B : Nat → Nat} {S : Sk} (h : IsSk w p B S) {r k : Nat} (hr : r < 4) {v : Int} (hv : 0 ≤ v ∧ v ≤ 255) :
    IsSk (w.setCell ⟨B r, k, none⟩ (.int .u8 v)) p B { S with row := fun r' k' => if r' = r ∧ k' = k then v else S.row r' k' } := by
  refine ⟨h.w1, h.w2, h.head.setOther (fun e => h.apart r hr e.symm) _, fun r' hr' => ?_, h.apart, h.inj, fun r' k' h1 h2 => ?_⟩
  · by_cases e : r' = r
    · subst e
      exact ((h.row r' hr').set k _).congr fun i hi => by by_cases e2 : i = k <;> simp [e2]
    · refine ((h.row r' hr').setOther (h.inj _ _ hr' hr e) _).congr fun i hi => by simp [e]
  · dsimp only
    split
    · exact hv
    · exact h.bd r' k' h1 h2
theorem IsSk.setHead {w : World} {p : Nat} {B : Nat → Nat} {S : Sk} (h : IsSk w p B S) (S' : Sk) (i : Nat) (h0 : S'.width = S.width) (hr : S'.row = S.row)
    (hc : ∀ j, j < 8 → S'.cells B j = if j = i then S'.cells B i else S.cells B j) :
    IsSk (w.setCell ⟨p, i, none⟩ (S'.cells B i)) p B S' := by
  refine ⟨by rw [h0]; exact h.w1, by rw [h0]; exact h.w2, (h.head.set i _).congr fun j hj => (hc j hj).symm, fun r hr' => ?_, h.apart, h.inj, by rw [hr, h0]; exact h.bd⟩
  rw [hr, h0]
  exact (h.row r hr').setOther (h.apart r hr') _

theorem IsSk.setTotal {w : World} {p : Nat} {B : Nat → Nat} {S : Sk} (h : IsSk w p B S) (n : Int) : IsSk (w.setCell ⟨p, 5, none⟩ (.int .i64 n)) p B { S with total := n } :=
  h.setHead { S with total := n } 5 rfl rfl (fun j hj => by rcases j with _ | _ | _ | _ | _ | _ | _ | _ | j <;> first | rfl | omega)
theorem IsSk.setAged {w : World} {p : Nat} {B : Nat → Nat} {S : Sk} (h : IsSk w p B S) (n : Int) : IsSk (w.setCell ⟨p, 7, none⟩ (.int .i64 n)) p B { S with aged := n } :=
  h.setHead { S with aged := n } 7 rfl rfl (fun j hj => by rcases j with _ | _ | _ | _ | _ | _ | _ | _ | j <;> first | rfl | omega)

/-- All counts half of what they are, in the rows ahead of r, and in row r ahead of k. -/
def Sk.ageTo (S : Sk) (r k : Nat) : Sk := { S with row := fun r' k' => if r' < r ∨ r' = r ∧ k' < k then S.row r' k' / 2 else S.row r' k' }
def Sk.age (S : Sk) : Sk := { S with row := fun r k => S.row r k / 2, total := S.total / 2, aged := S.aged + 1 }

set_option maxHeartbeats 1000000 in
theorem Age_any (p : Nat) (B : Nat → Nat) (S : Sk) (w : World) (hS : IsSk w p B S) (ht0 : 0 ≤ S.total) (ht1 : S.total ≤ 4611686018427387904) (ha0 : 0 ≤ S.aged) (ha1 : S.aged ≤ 4611686018427387904) :
    Calls Tryd.prog 16 #[.pointer (some ⟨p, 0, none⟩)] w fun e w' => e = .returned (.tuple #[]) ∧ IsSk w' p B S.age ∧ Chg (skM p B) w w' := by
  have hw1 := hS.w1
  have hw2 := hS.w2
  have HS : Hid (IsSk w p B S) := hS
  clear hS
  go_enter Tryd.func16, Tryd.ntmps16
  go_wp2
  go_loopw [4] (fun i wr => ∃ r : Nat, r ≤ 4 ∧ i = .int .i64 r ∧ Hid (IsSk wr p B (S.ageTo r 0) ∧ Chg (skM p B) w wr)) (fun i _ => 4 - (intOf i).toNat)
  case atStart => exact ⟨0, Nat.zero_le _, rfl, HS.out.congr rfl rfl rfl rfl (by simp [Sk.ageTo]), Chg.refl _ _⟩
  case round =>
    obtain ⟨r, hr, rfl, HD⟩ := hrel
    obtain ⟨wo, rfl⟩ : ∃ wo : World, wo = wr := ⟨_, rfl⟩
    by_cases hlt : r < 4
    · have c1 : wo.cell? ⟨p, 1 + r, none⟩ = some (.slice (some ⟨B r, 0, none⟩) S.width S.width) := HD.out.1.cell1 hlt
      go_wp2
      go_loopw [14] (fun i wr => ∃ k : Nat, k ≤ S.width ∧ i = .int .i64 k ∧ Hid (IsSk wr p B (S.ageTo r k) ∧ Chg (skM p B) w wr)) (fun i _ => S.width - (intOf i).toNat)
      case atStart => exact ⟨0, Nat.zero_le _, rfl, HD.out⟩
      case round =>
        obtain ⟨k, hk, rfl, HE⟩ := hrel
        by_cases hkl : k < S.width
        · have c2 : wr.cell? ⟨p, 1 + r, none⟩ = some (.slice (some ⟨B r, 0, none⟩) S.width S.width) := HE.out.1.cell1 hlt
          have c3 : wr.cell? ⟨B r, k, none⟩ = some (.int .u8 (S.row r k)) := by
            rw [(HE.out.1.row r hlt).cell hkl]; simp [Sk.ageTo]
          have f3 : wr.frozen? ⟨B r, k, none⟩ = false := (HE.out.1.row r hlt).frozen k
          obtain ⟨b0, b1⟩ : 0 ≤ S.row r k ∧ S.row r k ≤ 255 := HS.out.bd r k hlt hkl
          go_wp2
          go_roundw
          case rel =>
            refine ⟨k + 1, by omega, by go_num, ?_, ?_⟩
            · refine (HE.out.1.setRow (r := r) (k := k) hlt (v := S.row r k / 2) (by omega)).congr rfl rfl rfl rfl fun r' k' h1 h2 => ?_
              simp only [Sk.ageTo]
              by_cases e : r' = r ∧ k' = k
              · obtain ⟨rfl, rfl⟩ := e
                simp
              · rw [if_neg e]
                by_cases e2 : r' < r ∨ r' = r ∧ k' < k
                · rw [if_pos e2, if_pos (by omega)]
                · rw [if_neg e2, if_neg (by omega)]
            · exact HE.out.2.setCell (.inr ⟨r, hlt, rfl⟩) _
          case measure => simp [intOf]; omega
        · obtain rfl : k = S.width := by omega
          go_wp2
          go_roundw
          case rel =>
            refine ⟨r + 1, by omega, by go_num, ?_, HE.out.2⟩
            refine HE.out.1.congr rfl rfl rfl rfl fun r' k' h1 h2 => ?_
            simp only [Sk.ageTo]
            have h2' : k' < S.width := h2
            by_cases e2 : r' < r ∨ r' = r ∧ k' < S.width
            · rw [if_pos e2, if_pos (by omega)]
            · rw [if_neg e2, if_neg (by omega)]
          case measure => simp [intOf]; omega
    · obtain rfl : r = 4 := by omega
      have c5 : wo.cell? ⟨p, 5, none⟩ = some (.int .i64 S.total) := HD.out.1.cell5
      have f5 : wo.frozen? ⟨p, 5, none⟩ = false := HD.out.1.head.frozen 5
      have f7 : wo.frozen? ⟨p, 7, none⟩ = false := HD.out.1.head.frozen 7
      have c7 : wo.cell? ⟨p, 7, none⟩ = some (.int .i64 S.aged) := HD.out.1.cell7
      go_wp2
      go_end0
      refine ⟨rfl, ?_, (HD.out.2.setCell (.inl rfl) _).setCell (.inl rfl) _⟩
      have h2 := (HD.out.1.setTotal (S.total / 2)).setAged (S.aged + 1)
      refine h2.congr rfl rfl rfl rfl fun r' k' h1 h2 => ?_
      simp [Sk.age, Sk.ageTo, h1]

/-- The counts of a hash one more where they are the least and not the greatest, in the rows ahead of r. -/
def Sk.bumpTo (S : Sk) (hash least : Int) (r : Nat) : Sk :=
  { S with row := fun r' k' => if r' < r ∧ k' = (atI r' hash S.width).toNat ∧ S.row r' k' = least ∧ S.row r' k' < 255 then S.row r' k' + 1 else S.row r' k' }
/-- .. in all rows, one more counted in all. -/
def Sk.bump (S : Sk) (hash : Int) : Sk := { S.bumpTo hash (leastI S hash 4) 4 with total := S.total + 1 }
def Sk.add (S : Sk) (s : ByteArray) : Sk := if 0 < S.limit ∧ S.limit ≤ S.total + 1 then (S.bump (hashI s)).age else S.bump (hashI s)

theorem bumpTo_yes {w : World} {p : Nat} {B : Nat → Nat} {S : Sk} {hash least : Int} {r : Nat} (h : IsSk w p B (S.bumpTo hash least r)) (hr : r < 4) (h1 : S.row r (atI r hash S.width).toNat = least) (h2 : S.row r (atI r hash S.width).toNat < 255)
    (h0 : 0 ≤ S.row r (atI r hash S.width).toNat) : IsSk (w.setCell ⟨B r, (atI r hash S.width).toNat, none⟩ (.int .u8 (S.row r (atI r hash S.width).toNat + 1))) p B (S.bumpTo hash least (r + 1)) := by
  refine (h.setRow (r := r) (k := (atI r hash S.width).toNat) hr (v := S.row r (atI r hash S.width).toNat + 1) (by omega)).congr rfl rfl rfl rfl fun r' k' h3 h4 => ?_
  simp only [Sk.bumpTo]
  by_cases e : r' = r ∧ k' = (atI r hash S.width).toNat
  · obtain ⟨rfl, rfl⟩ := e
    simp [h1]
    omega
  · rw [if_neg e]
    by_cases e2 : r' < r ∧ k' = (atI r' hash S.width).toNat ∧ S.row r' k' = least ∧ S.row r' k' < 255
    · rw [if_pos e2, if_pos ⟨by omega, e2.2⟩]
    · rw [if_neg e2, if_neg]
      rintro ⟨h5, h6⟩
      by_cases h7 : r' = r
      · subst h7
        exact e ⟨rfl, h6.1⟩
      · exact e2 ⟨by omega, h6⟩
theorem bumpTo_no {w : World} {p : Nat} {B : Nat → Nat} {S : Sk} {hash least : Int} {r : Nat} (h : IsSk w p B (S.bumpTo hash least r)) (hr : r < 4) (h1 : ¬ (S.row r (atI r hash S.width).toNat = least ∧ S.row r (atI r hash S.width).toNat < 255)) :
    IsSk w p B (S.bumpTo hash least (r + 1)) := by
  refine h.congr rfl rfl rfl rfl fun r' k' h3 h4 => ?_
  simp only [Sk.bumpTo]
  by_cases e2 : r' < r ∧ k' = (atI r' hash S.width).toNat ∧ S.row r' k' = least ∧ S.row r' k' < 255
  · rw [if_pos e2, if_pos ⟨by omega, e2.2⟩]
  · rw [if_neg e2, if_neg]
    rintro ⟨h5, h6, h7⟩
    by_cases h8 : r' = r
    · subst h8
      subst h6
      exact h1 h7
    · exact e2 ⟨by omega, h6, h7⟩

set_option maxHeartbeats 2000000 in
theorem Add_any (p : Nat) (B : Nat → Nat) (S : Sk) (s : ByteArray) (w : World) (hS : IsSk w p B S) (hs : s.size ≤ maxLen) (ht0 : 0 ≤ S.total) (ht1 : S.total < 4611686018427387904) (ha0 : 0 ≤ S.aged) (ha1 : S.aged ≤ 4611686018427387904) :
    Calls Tryd.prog 12 #[.pointer (some ⟨p, 0, none⟩), .string s] w fun e w' => e = .returned (.tuple #[]) ∧ IsSk w' p B (S.add s) ∧ Chg (skM p B) w w' := by
  have hw1 := hS.w1
  have hw2 := hS.w2
  have HS : Hid (IsSk w p B S) := hS
  clear hS
  go_enter Tryd.func12, Tryd.ntmps12
  go_wp2_with (first | (go_at_call 33; refine (hash_any s _ hs).mono ?_; rintro e w' ⟨rfl, rfl⟩) | (go_at_call 34; refine (of_any p B S _ _ HS.out).mono ?_; rintro e w' ⟨rfl, n, rfl⟩))
  obtain ⟨hh0, hh1⟩ := hashI_bd s
  obtain ⟨hash, hhash⟩ : ∃ x, x = hashI s := ⟨_, rfl⟩
  rw [← hhash] at hh0 hh1 ⊢
  have HH := Lib.hid hhash
  clear hhash
  go_loopw [13] (fun i wr => ∃ r : Nat, r ≤ 4 ∧ i = .int .i64 r ∧ Hid (IsSk wr p B (S.bumpTo hash (leastI S hash 4) r) ∧ Chg (skM p B) w wr)) (fun i _ => 4 - (intOf i).toNat)
  case atStart => exact ⟨0, Nat.zero_le _, rfl, (HS.out.drewN _).congr rfl rfl rfl rfl (by simp [Sk.bumpTo]), (Chg.refl _ _).drewN _⟩
  case round =>
    obtain ⟨r, hr, rfl, HD⟩ := hrel
    by_cases hlt : r < 4
    · obtain ⟨a0, a1⟩ := atI_bd r hash S.width (by omega)
      have c1 : wr.cell? ⟨p, 1 + r, none⟩ = some (.slice (some ⟨B r, 0, none⟩) S.width S.width) := HD.out.1.cell1 hlt
      have c0 : wr.cell? ⟨p, 0, none⟩ = some (.int .i64 S.width) := HD.out.1.cell0
      have c3 : wr.cell? ⟨B r, (atI r hash S.width).toNat, none⟩ = some (.int .u8 (S.row r (atI r hash S.width).toNat)) := by
        rw [(HD.out.1.row r hlt).cell (by show _ < S.width; omega)]; simp [Sk.bumpTo]
      have f3 : wr.frozen? ⟨B r, (atI r hash S.width).toNat, none⟩ = false := (HD.out.1.row r hlt).frozen _
      obtain ⟨b0, b1⟩ : 0 ≤ S.row r (atI r hash S.width).toNat ∧ S.row r (atI r hash S.width).toNat ≤ 255 := HS.out.bd r (atI r hash S.width).toNat hlt (by omega)
      go_wp2
      go_quiet (first | (go_at_call 35; exact Calls.quiet_of (at_any p r S.width hash _ (by omega) (by omega) c0)))
      by_cases e1 : S.row r (atI r hash S.width).toNat = leastI S hash 4
      · have d1 : (S.row r (atI r hash S.width).toNat == leastI S hash 4) = true := by simpa using e1
        have E1 := Lib.hid e1
        clear e1
        by_cases e2 : S.row r (atI r hash S.width).toNat < 255
        · go_wp2
          go_roundw
          case rel => exact ⟨r + 1, by omega, by go_num, bumpTo_yes (HD.out.1.drewN _) hlt E1.out e2 b0, (HD.out.2.drewN _).setCell (.inr ⟨r, hlt, rfl⟩) _⟩
          case measure => simp [intOf]; omega
        · go_wp2
          go_roundw
          case rel => exact ⟨r + 1, by omega, by go_num, bumpTo_no (HD.out.1.drewN _) hlt (fun h => e2 h.2), HD.out.2.drewN _⟩
          case measure => simp [intOf]; omega
      · have d1 : (S.row r (atI r hash S.width).toNat == leastI S hash 4) = false := by simpa using e1
        have E1 := Lib.hid e1
        clear e1
        go_wp2
        go_roundw
        case rel => exact ⟨r + 1, by omega, by go_num, bumpTo_no (HD.out.1.drewN _) hlt (fun h => E1.out h.1), HD.out.2.drewN _⟩
        case measure => simp [intOf]; omega
    · obtain rfl : r = 4 := by omega
      have c5 : wr.cell? ⟨p, 5, none⟩ = some (.int .i64 S.total) := HD.out.1.cell5
      have f5 : wr.frozen? ⟨p, 5, none⟩ = false := HD.out.1.head.frozen 5
      have c6 : wr.cell? ⟨p, 6, none⟩ = some (.int .i64 S.limit) := HD.out.1.cell6
      have HI : Hid (IsSk (wr.setCell ⟨p, 5, none⟩ (.int .i64 (S.total + 1))) p B (S.bump hash)) := HD.out.1.setTotal (S.total + 1)
      have HC : Hid (Chg (skM p B) w (wr.setCell ⟨p, 5, none⟩ (.int .i64 (S.total + 1)))) := HD.out.2.setCell (.inl rfl) _
      by_cases e1 : 0 < S.limit
      · by_cases e2 : S.limit ≤ S.total + 1
        · go_wp2
          go_quiet (fail)
          go_wp2_with (go_at_call 16; refine (Age_any p B (S.bump hash) _ (HI.out.drewN _) (by show 0 ≤ S.total + 1; omega) (by show S.total + 1 ≤ _; omega) ha0 ha1).mono ?_; rintro e w2 ⟨rfl, h1, h2⟩; have H1 := Lib.hid h1; have H2 := Lib.hid h2; clear h1 h2)
          go_end0
          refine ⟨rfl, ?_, (HC.out.drewN _).trans H2.out⟩
          rw [Sk.add, if_pos ⟨e1, e2⟩, ← HH.out]
          exact H1.out
        · go_wp2
          go_quiet (fail)
          go_wp2
          go_end0
          refine ⟨rfl, ?_, HC.out.drewN _⟩
          rw [Sk.add, if_neg (by omega), ← HH.out]
          exact HI.out.drewN _
      · have d1 : decide (0 < S.limit) = false := by simpa using e1
        go_wp2
        go_quiet (fail)
        go_wp2
        go_end0
        refine ⟨rfl, ?_, HC.out.drewN _⟩
        rw [Sk.add, if_neg (by omega), ← HH.out]
        exact HI.out.drewN _
end Go.Proofs.YtpjdaglblckgfaaDoor
