/- The contracts of Remove and Add. -/
import Derived.Test.YtdaliiaagkhhhaaDoorRg5
namespace Go.Proofs.YtdaliiaagkhhhaaDoor
set_option linter.unusedVariables false
open Go.RowKit Go.Proofs.YtdaliiaagkhhhaaDoorW.PrintWords

theorem Delete_any (base B : Nat) (nd : Int) (v : Value) (pts : List Pt) (w : World) (hO : OwnP w base v pts) (hc : w.cell? ⟨B, 0, none⟩ = some (.int .i64 nd)) (hBg : v.ownBlock ≠ some B) (hh : hasN pts nd = true) (hl : pts.length ≤ 1000000) :
    Calls Tryd.prog 30 #[v, .func (.func 31) #[] #[.pointer (some ⟨B, 0, none⟩)]] w fun e w' => ∃ v', e = .returned v' ∧ OwnP w' base v' (dropN pts nd) ∧ w.grownBy w' v.ownBlock := by
  have hi : 0 ≤ idxN pts nd := by
    have := idxN_has pts nd
    rw [hh] at this
    simpa using this
  have hf : ∃ i0 : Nat, idxN pts nd = i0 ∧ i0 < pts.length ∧ ((pget pts i0).node == nd) = true ∧ ∀ j, j < i0 → ((pget pts j).node == nd) = false := by
    unfold idxN at hi ⊢
    cases h : pts.findIdx? (fun x => x.node == nd) with
    | none => rw [h] at hi; simp at hi
    | some i =>
      obtain ⟨h1, h2, h3⟩ := List.findIdx?_eq_some_iff_getElem.1 h
      exact ⟨i, rfl, h1, by rw [pget_eq h1]; exact h2, fun j hj => by rw [pget_eq (by omega)]; simpa using h3 j hj⟩
  obtain ⟨i0, h1, h2, h3, h4⟩ := hf
  rcases hO.2 with ⟨_, h0⟩ | ⟨g, cap, cur, rfl, _⟩
  · rw [h0] at h2; omega
  · refine (Delete_hit g cap base B nd pts w hO hc (fun e => hBg (by rw [e]; rfl)) i0 h2 h1 h3 ?_ hl).mono fun e w' ⟨n', he, ho, hg⟩ => ⟨_, he, ho, hg⟩
    rw [List.filter_eq_self]
    intro y hy
    obtain ⟨j, hj, rfl⟩ := List.getElem_of_mem hy
    have hj2 : j < i0 := by simp at hj; omega
    have := h4 j hj2
    rw [pget_eq (by omega)] at this
    simp [this]

set_option maxHeartbeats 2000000 in
theorem Remove_any (p : Nat) (each : Int) (v : Value) (pts : List Pt) (nd : Int) (w : World) (hS : IsRg w p each v pts) (hl : pts.length ≤ 1000000) :
    Calls Tryd.prog 14 #[.pointer (some ⟨p, 0, none⟩), .int .i64 nd] w fun e w' => ∃ ev v', e = .returned ev ∧ IsRg w' p each v' (dropN pts nd) ∧ Chg (rgM p v) w w' ∧ ((hasN pts nd = true ∧ ev = .nilIface) ∨ (hasN pts nd = false ∧ ∃ op at_, ErrIs w' ev [(op, at_, 9)])) := by
  have hp := hS.lt
  have hpn : p ≠ w.heap.size := by omega
  have c1 := hS.cell1
  have fp := hS.fro 1
  have hb0 : Below w.heap.size w (w.alloc (.cells #[.int .i64 nd] 3)) := bel_alloc _ _
  have hS0 := hS.later hb0
  have hcall := has_any p each v pts nd _ hS0
  have HS := Lib.hid hS
  have HS0 := Lib.hid hS0
  have HB0 := Lib.hid hb0
  clear hS hS0 hb0
  cases hq : hasN pts nd with
  | false =>
    rw [hq] at hcall
    have HQ := Lib.hid hq
    clear hq
    go_enter Tryd.func14, Tryd.ntmps14
    go_wp2_with (first
      | (go_at_call 27; refine hcall.mono ?_; rintro e w1 ⟨rfl, hb⟩; have HB := Lib.hid hb; have hc : w1.cell? ⟨w.heap.size, 0, none⟩ = some (.int .i64 nd) := (hb.cell (p := ⟨w.heap.size, 0, none⟩) (by simp)).trans (by simp); clear hb)
      | (go_at_call 25; refine (new_any _ _ 9 rfl _).mono ?_; rintro e w' ⟨rfl, rfl⟩))
    go_ret
    refine ⟨_, v, rfl, ?_, ?_, .inr ⟨trivial, _, _, .new (heap_alloc_new _ _) (by decide)⟩⟩
    · rw [dropN_none HQ.out]
      exact (HS0.out.later HB.out).later (bel_alloc _ _)
    · exact (Chg.of_below (HB0.out.trans (HB.out.mono (by simp)))).then_below (bel_alloc _ _)
  | true =>
    rw [hq] at hcall
    have HQ := Lib.hid hq
    have hdel := fun w1 => Delete_any (p + 1) w.heap.size nd v pts w1
    have HDEL := Lib.hid hdel
    clear hq hdel
    go_enter Tryd.func14, Tryd.ntmps14
    go_wp2_with (go_at_call 27; refine hcall.mono ?_; rintro e w1 ⟨rfl, hb⟩; have HB := Lib.hid hb; have hc : w1.cell? ⟨w.heap.size, 0, none⟩ = some (.int .i64 nd) := (hb.cell (p := ⟨w.heap.size, 0, none⟩) (by simp)).trans (by simp); have c2 : w1.cell? ⟨p, 1, none⟩ = some v := (HS0.out.later hb).cell1; have HC := Lib.hid hc; clear hb)
    have hpv : some p ≠ v.ownBlock := fun e => by have := own_gt HS.out e.symm; omega
    refine (HDEL.out w1 (OwnP.of_R (HS0.out.later HB.out).row) HC.out (fun e => by have := own_gt HS.out e; omega) HQ.out hl).mono ?_
    rintro e w2 ⟨v', rfl, ho, hg⟩
    have HO := Lib.hid ho
    have HG := Lib.hid hg
    have c3 : w2.cell? ⟨p, 1, none⟩ = some v := hg.cell c2 hpv
    have f3 : w2.frozen? ⟨p, 1, none⟩ = false := by
      have h := (hg.block p (HS0.out.later HB.out).lt hpv).trans (HS0.out.later HB.out).head
      simp [World.frozen?, h]
    obtain ⟨A', c', rfl⟩ := Kd.R_slice ho.to_R
    clear ho hg hpv
    dsimp only
    go_wp2
    go_ret
    obtain ⟨h1, h2⟩ := (HS0.out.later HB.out).put HO.out.to_R HG.out
    refine ⟨_, _, rfl, h1, ?_, .inl ⟨trivial, rfl⟩⟩
    exact (Chg.of_below (HB0.out.trans (HB.out.mono (by simp)))).trans h2
end Go.Proofs.YtdaliiaagkhhhaaDoor
