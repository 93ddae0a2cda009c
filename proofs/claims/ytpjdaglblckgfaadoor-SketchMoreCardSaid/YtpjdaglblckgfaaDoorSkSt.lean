/- A sketch that a law made, and what a law does with it. -/
import Derived.Test.YtpjdaglblckgfaaDoorSk4
import Derived.Test.YtpjdaglblckgfaaDoorSkLaw
namespace Go.Proofs.YtpjdaglblckgfaaDoor
set_option linter.unusedVariables false
open Go.RowKit Go.Proofs.YtpjdaglblckgfaaDoorW.PrintWords

/-- The sketch at p is the call's own (all blocks below the base are as they were). -/
structure St (w0 w : World) (base p : Nat) (B : Nat → Nat) (S : Sk) : Prop where
  sk : IsSk w p B S
  bel : Below base w0 w
  hb : base ≤ w.heap.size
  hp : base ≤ p
  hB : ∀ r, r < 4 → base ≤ B r
  t0 : 0 ≤ S.total
  t1 : S.total ≤ 1000000000
  a0 : 0 ≤ S.aged
  a1 : S.aged ≤ 1000000000
theorem St.later {w0 w w' : World} {base p : Nat} {B : Nat → Nat} {S : Sk} (h : St w0 w base p B S) (hb : Below w.heap.size w w') : St w0 w' base p B S :=
  ⟨h.sk.later hb, h.bel.trans (hb.mono h.hb), Nat.le_trans h.hb hb.size, h.hp, h.hB, h.t0, h.t1, h.a0, h.a1⟩
theorem St.drewN {w0 w : World} {base p : Nat} {B : Nat → Nat} {S : Sk} (h : St w0 w base p B S) (n : Nat) : St w0 (w.drewN n) base p B S := h.later ⟨rfl, rfl, rfl, Nat.le_refl _, fun _ _ => rfl⟩
theorem St.chg {w0 w w' : World} {base p : Nat} {B : Nat → Nat} {S S' : Sk} (h : St w0 w base p B S) (hc : Chg (skM p B) w w') (hs : IsSk w' p B S') (t0 : 0 ≤ S'.total) (t1 : S'.total ≤ 1000000000) (a0 : 0 ≤ S'.aged) (a1 : S'.aged ≤ 1000000000) : St w0 w' base p B S' :=
  ⟨hs, h.bel.chg h.hb hc (fun k hk => by
    rintro (rfl | ⟨r, hr, rfl⟩)
    · have := h.hp; omega
    · have := h.hB r hr; omega), Nat.le_trans h.hb hc.size, h.hp, h.hB, t0, t1, a0, a1⟩
/-- What is untouched by the sketch's own blocks. -/
theorem St.new {w0 w w' : World} {base n : Nat} {limit : Int} (hb : Below base w0 w) (hs : base ≤ w.heap.size) (h1 : IsSk w' w.heap.size (fun r => w.heap.size + (1 + r)) (Sk.new n limit)) (h2 : Below w.heap.size w w') : St w0 w' base w.heap.size (fun r => w.heap.size + (1 + r)) (Sk.new n limit) :=
  ⟨h1, hb.trans (h2.mono hs), Nat.le_trans hs h2.size, hs, fun r _ => by omega, by simp [Sk.new], by simp [Sk.new], by simp [Sk.new], by simp [Sk.new]⟩

theorem Add_st {w0 w : World} {base p : Nat} {B : Nat → Nat} {S : Sk} (h : St w0 w base p B S) (s : ByteArray) (hs : s.size ≤ maxLen) (hl : S.limit = 0) (ht : S.total < 1000000000) :
    Calls Tryd.prog 12 #[.pointer (some ⟨p, 0, none⟩), .string s] w fun e w' => e = .returned (.tuple #[]) ∧ St w0 w' base p B (S.add s) ∧ Chg (skM p B) w w' := by
  have := h.t0
  have := h.a0
  have := h.a1
  refine (Add_any p B S s w h.sk hs (by omega) (by omega) (by omega) (by omega)).mono fun e w' ⟨he, h1, h2⟩ => ⟨he, h.chg h2 h1 ?_ ?_ ?_ ?_, h2⟩ <;> rw [add_plain _ _ hl]
  · show 0 ≤ S.total + 1; omega
  · show S.total + 1 ≤ 1000000000; omega
  · exact h.a0
  · exact h.a1
theorem Age_st {w0 w : World} {base p : Nat} {B : Nat → Nat} {S : Sk} (h : St w0 w base p B S) (ha : S.aged < 1000000000) :
    Calls Tryd.prog 16 #[.pointer (some ⟨p, 0, none⟩)] w fun e w' => e = .returned (.tuple #[]) ∧ St w0 w' base p B S.age ∧ Chg (skM p B) w w' := by
  have := h.t0
  have := h.t1
  have := h.a0
  refine (Age_any p B S w h.sk (by omega) (by omega) (by omega) (by omega)).mono fun e w' ⟨he, h1, h2⟩ => ⟨he, h.chg h2 h1 ?_ ?_ ?_ ?_, h2⟩
  · show 0 ≤ S.total / 2; omega
  · show S.total / 2 ≤ 1000000000; omega
  · show 0 ≤ S.aged + 1; omega
  · show S.aged + 1 ≤ 1000000000; omega
theorem Of_st {w0 w : World} {base p : Nat} {B : Nat → Nat} {S : Sk} (h : St w0 w base p B S) (s : ByteArray) (hs : s.size ≤ maxLen) :
    Calls Tryd.prog 13 #[.pointer (some ⟨p, 0, none⟩), .string s] w fun e w' => e = .returned (.int .i64 (ofI S s)) ∧ St w0 w' base p B S ∧ ∃ n, w' = w.drewN n :=
  (Of_any p B S s w h.sk hs).mono fun e w' ⟨he, n, hn⟩ => ⟨he, by subst hn; exact h.drewN n, n, hn⟩
theorem More_st {w0 w : World} {base p : Nat} {B : Nat → Nat} {S : Sk} (h : St w0 w base p B S) (s t : ByteArray) (hs : s.size ≤ maxLen) (ht : t.size ≤ maxLen) :
    Calls Tryd.prog 24 #[.pointer (some ⟨p, 0, none⟩), .string s, .string t] w fun e w' => e = .returned (.bool (decide (ofI S t < ofI S s))) ∧ St w0 w' base p B S ∧ ∃ n, w' = w.drewN n :=
  (More_any p B S s t w h.sk hs ht).mono fun e w' ⟨he, n, hn⟩ => ⟨he, by subst hn; exact h.drewN n, n, hn⟩
theorem Total_st {w0 w : World} {base p : Nat} {B : Nat → Nat} {S : Sk} (h : St w0 w base p B S) :
    Calls Tryd.prog 14 #[.pointer (some ⟨p, 0, none⟩)] w fun e w' => e = .returned (.int .i64 S.total) ∧ w = w' := Total_any p B S w h.sk
theorem Aged_st {w0 w : World} {base p : Nat} {B : Nat → Nat} {S : Sk} (h : St w0 w base p B S) :
    Calls Tryd.prog 15 #[.pointer (some ⟨p, 0, none⟩)] w fun e w' => e = .returned (.int .i64 S.aged) ∧ w = w' := Aged_any p B S w h.sk
theorem Row_st {w0 w : World} {base p : Nat} {B : Nat → Nat} {S : Sk} (h : St w0 w base p B S) (r : Nat) (hr : r < 4) :
    Calls Tryd.prog 26 #[.pointer (some ⟨p, 0, none⟩), .int .i64 r] w fun e w' => ∃ A c, e = .returned (.slice A S.width c) ∧ (Kd.int .i64).C w' A S.width (S.rowL r) ∧ S.width ≤ c ∧ St w0 w' base p B S ∧ Below w.heap.size w w' := by
  refine (Row_any p B S r hr w h.sk).mono fun e w' ⟨v, he, h1, h2⟩ => ?_
  obtain ⟨A, c, hv, hc, hC⟩ := Kd.R_reads h1
  rw [Sk.rowL_len] at hv hC hc
  exact ⟨A, c, by rw [he, hv], hC, hc, h.later h2, h2⟩
/-- A new error stays, whatever is done with the sketch. -/
theorem err_chg {w w' : World} {p : Nat} {B : Nat → Nat} {b : Nat} {o : Obj} (h : w.heap[b]? = some o) (hb : ¬ skM p B b) (hc : Chg (skM p B) w w') : w'.heap[b]? = some o :=
  (hc.block b (lt_of_block h) hb).trans h
theorem sk_ne {w : World} {p : Nat} {B : Nat → Nat} {S : Sk} (h : IsSk w p B S) {b : Nat} (hb : w.heap.size ≤ b) : ¬ skM p B b := by
  rintro (rfl | ⟨r, hr, rfl⟩)
  · have := h.head.lt; omega
  · have := (h.row r hr).lt; omega
theorem hg_chg {w0 w : World} {base p : Nat} {B : Nat → Nat} {S : Sk} (h : St w0 w base p B S) (hg : HG w0) (h0 : 0 < base) : HG w := hg.below' h.bel h0
end Go.Proofs.YtpjdaglblckgfaaDoor
