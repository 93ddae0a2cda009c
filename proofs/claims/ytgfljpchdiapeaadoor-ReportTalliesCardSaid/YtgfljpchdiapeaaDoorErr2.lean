/- The contract of trouble.Of: the first code of a chain. -/
import Derived.Test.YtgfljpchdiapeaaDoorErr
import Derived.Deep.LoopGhost
import Derived.Lib.Hide
namespace Go.Proofs.YtgfljpchdiapeaaDoor
set_option linter.unusedVariables false
open Go.RowKit

theorem as_any (e t : Addr) (old : Value) (w : World) (hg : HG w) (ht0 : w.cell? t = some old) (hf0 : w.frozen? t = false) :
    Calls Tryd.prog 45 #[.iface 84 (.pointer (some e)), .iface 86 (.pointer (some t))] w fun ev w' => ev = .returned (.bool true) ∧ ∃ w1, Below w.heap.size w w1 ∧ w' = w1.setCell t (.pointer (some e)) := by
  refine (as_hit e t old w hg ht0 hf0).mono fun ev w' ⟨h1, h2⟩ => ⟨h1, _, ?_, h2⟩
  exact ((((Below.refl _ _).alloc (Nat.le_refl _) _).alloc (by simp) _).alloc (by simp; omega) _).alloc (by simp; omega) _

/-- .. into a variable that has just been made. -/
theorem as_new (b : Nat) (w : World) (hg : HG w) (t : Addr) (ht : t = ⟨w.heap.size, 0, none⟩) :
    Calls Tryd.prog 45 #[faultV b, .iface 86 (.pointer (some t))] (w.alloc (.cells #[.pointer none] 84)) fun ev w' => ev = .returned (.bool true) ∧ Below w.heap.size w w' ∧ w'.cell? t = some (.pointer (some ⟨b, 0, none⟩)) ∧ w.heap.size < w'.heap.size := by
  subst ht
  have hb : Below w.heap.size w (w.alloc (.cells #[.pointer none] 84)) := (Below.refl _ _).alloc (Nat.le_refl _) _
  refine (as_any ⟨b, 0, none⟩ ⟨w.heap.size, 0, none⟩ (.pointer none) _ (hg.below hb) (by simp) (by simp)).mono fun ev w' ⟨h1, w1, h2, h3⟩ => ⟨h1, ?_, ?_, ?_⟩
  · subst h3
    exact (hb.trans (h2.mono (by simp))).setCell (Nat.le_refl _) _
  · subst h3
    have hc : w1.cell? ⟨w.heap.size, 0, none⟩ = some (.pointer none) := (h2.cell (p := ⟨w.heap.size, 0, none⟩) (by simp)).trans (by simp)
    exact World.cell?_setCell_same _ _ _ hc
  · subst h3
    have := h2.size
    simp at this
    simp [World.setCell]
    omega

theorem hg_later {w w' : World} (h : HG w) (hb : Below w.heap.size w w') : HG w' := h.below hb
set_option maxHeartbeats 1000000 in
theorem of_code (v : Value) (l : List (ByteArray × Int × Int)) (w : World) (hE : ErrIs w v l) (hg : HG w) :
    Calls Tryd.prog 19 #[v] w fun e w' => e = .returned (.int .i64 (codeOf l)) ∧ Below w.heap.size w w' := by
  have HE : Hid (ErrIs w v l) := hE
  have HH : Hid (HG w) := hg
  clear hE hg
  go_enter Tryd.func19, Tryd.ntmps19
  go_wp2
  go_loopg [0] l.length (fun k u wr => ∃ l', Hid (ErrIs wr u l' ∧ l'.length = k ∧ codeOf l' = codeOf l ∧ Below w.heap.size w wr))
  case atStart => exact ⟨l, HE, rfl, rfl, Below.refl _ _⟩
  case round =>
    obtain ⟨l', HL⟩ := hrel
    obtain ⟨he, hk, hc, hb⟩ := HL.out
    cases he with
    | nil =>
      have HC : Hid (codeOf [] = codeOf l) := hc
      have HB : Hid (Below w.heap.size w wr) := hb
      clear hk hc hb HL
      go_wp2
      go_ret
      exact ⟨by rw [← HC.out]; rfl, HB.out⟩
    | @new b op at_ c hbl hc0 =>
      have HC : Hid (codeOf [(op, at_, c)] = codeOf l) := hc
      have HB : Hid (Below w.heap.size w wr) := hb
      have HBL : Hid (wr.heap[b]? = some (faultO op at_ c .nilIface)) := hbl
      have HGr : Hid (HG wr) := hg_later HH.out hb
      have hc1 : (c == 0) = false := by simpa using hc0
      have hc2 : (c != 0) = true := by simpa using hc0
      have HC0 := Lib.hid hc0
      clear hk hc hb HL hbl hc0
      have HT : ∀ w1 : World, Below wr.heap.size wr w1 → w1.cell? ⟨b, 2, none⟩ = some (.int .i64 c) := fun w1 h => by
        rw [h.cell (p := ⟨b, 2, none⟩) (lt_of_block HBL.out)]
        simp [World.cell?, HBL.out, faultO]
      have HT' := Lib.hid HT
      clear HT
      go_wp2_with (go_at_call 45; refine (as_new b wr HGr.out _ rfl).mono ?_; rintro e w1 ⟨rfl, hb1, ht1, hs1⟩; have HB1 := Lib.hid hb1; clear hb1; have hc3 := HT'.out w1 HB1.out)
      go_ret
      exact ⟨by rw [← HC.out]; simp [codeOf, HC0.out], HB.out.trans (HB1.out.mono HB.out.size)⟩
    | @wrap b op at_ u' l2 hbl hu hl =>
      have HC : Hid (codeOf ((op, at_, 0) :: l2) = codeOf l) := hc
      have HB : Hid (Below w.heap.size w wr) := hb
      have HBL : Hid (wr.heap[b]? = some (faultO op at_ 0 u')) := hbl
      have HGr : Hid (HG wr) := hg_later HH.out hb
      have HU := Lib.hid hu
      have HK := Lib.hid hk
      have HT : ∀ w1 : World, Below wr.heap.size wr w1 → w1.cell? ⟨b, 2, none⟩ = some (.int .i64 0) ∧ w1.cell? ⟨b, 3, none⟩ = some u' := fun w1 h => by
        rw [h.cell (p := ⟨b, 2, none⟩) (lt_of_block HBL.out), h.cell (p := ⟨b, 3, none⟩) (lt_of_block HBL.out)]
        simp [World.cell?, HBL.out, faultO]
      have HT' := Lib.hid HT
      clear HT hk hc hb HL hbl hl hu
      go_wp2_with (go_at_call 45; refine (as_new b wr HGr.out _ rfl).mono ?_; rintro e w1 ⟨rfl, hb1, ht1, hs1⟩; have HB1 := Lib.hid hb1; clear hb1; obtain ⟨hc3, hc4⟩ := HT'.out w1 HB1.out)
      go_roundg l2.length
      case measure => have := HK.out; simp at this; omega
      case rel => exact ⟨l2, HU.out.later HB1.out, rfl, by rw [← HC.out]; simp [codeOf], HB.out.trans (HB1.out.mono HB.out.size)⟩
end Go.Proofs.YtgfljpchdiapeaaDoor
