/- A ring that a law made, and what a law does with it; lists of numbers compared; the example. -/
import Derived.Test.YtdaliiaagkhhhaaDoorRg7
import Derived.Test.YtdaliiaagkhhhaaDoorPRx3
namespace Go.Proofs.YtdaliiaagkhhhaaDoor
set_option linter.unusedVariables false
open Go.RowKit Go.Proofs.YtdaliiaagkhhhaaDoorW.PrintWords

theorem ErrIs.keep {w w' : World} {v : Value} {l : List (ByteArray × Int × Int)} (h : ErrIs w v l) (hm : ∀ (b : Nat) (op : ByteArray) (at_ c : Int) (u : Value), w.heap[b]? = some (faultO op at_ c u) → w'.heap[b]? = some (faultO op at_ c u)) : ErrIs w' v l := by
  induction h with
  | nil => exact .nil
  | new hb hc => exact .new (hm _ _ _ _ _ hb) hc
  | wrap hb _ hl ih => exact .wrap (hm _ _ _ _ _ hb) ih hl
theorem ErrIs.ring {w w' : World} {p : Nat} {each : Int} {v ev : Value} {pts : List Pt} {l : List (ByteArray × Int × Int)} (h : ErrIs w ev l) (hS : IsRg w p each v pts) (hc : Chg (rgM p v) w w') : ErrIs w' ev l := by
  refine h.keep fun b op at_ c u hb => (hc.block b (Array.getElem?_eq_some_iff.1 hb).1 ?_).trans hb
  rintro (rfl | hv)
  · have h1 := hS.head
    rw [hb] at h1
    simp [faultO] at h1
  · obtain ⟨inner, ho⟩ := Kd.R_own hS.row
    obtain ⟨cells, hcl⟩ := own_typed ho b hv
    rw [hb] at hcl
    simp [faultO] at hcl
/-- What Add comes to. -/
def addR (each : Nat) (pts : List Pt) (nd : Int) : List Pt := if 1 ≤ nd ∧ nd ≤ 16 ∧ hasN pts nd = false then addTo pts nd each else pts
def addC (pts : List Pt) (nd : Int) : Int := if nd < 1 ∨ 16 < nd then 2 else if hasN pts nd = true then 13 else 0
def remC (pts : List Pt) (nd : Int) : Int := if hasN pts nd = true then 0 else 9
theorem addR_rising {each : Nat} {pts : List Pt} (h : Rising pts) (nd : Int) : Rising (addR each pts nd) := by
  unfold addR
  split
  · exact addTo_rising h nd each
  · exact h
theorem addR_len (each : Nat) (pts : List Pt) (nd : Int) : (addR each pts nd).length ≤ pts.length + each := by
  unfold addR
  split
  · rw [addTo_len]; omega
  · omega
theorem dropN_len (pts : List Pt) (nd : Int) : (dropN pts nd).length ≤ pts.length := List.length_filter_le _ _

/-- The ring at p is the call's own (all blocks below the base are as they were). -/
structure RSt (w0 w : World) (base p : Nat) (each : Nat) (v : Value) (pts : List Pt) : Prop where
  rg : IsRg w p each v pts
  ris : Rising pts
  bel : Below base w0 w
  hb : base ≤ w.heap.size
  hp : base ≤ p
  he : each ≤ 64
namespace RSt
variable {w0 w w' : World} {base p each : Nat} {v v' : Value} {pts pts' : List Pt}
theorem later (h : RSt w0 w base p each v pts) (hb : Below w.heap.size w w') : RSt w0 w' base p each v pts :=
  ⟨h.rg.later hb, h.ris, h.bel.trans (hb.mono h.hb), Nat.le_trans h.hb hb.size, h.hp, h.he⟩
theorem drewN (h : RSt w0 w base p each v pts) (n : Nat) : RSt w0 (w.drewN n) base p each v pts := h.later (Drawn0.below ⟨n, rfl⟩)
theorem chg (h : RSt w0 w base p each v pts) (hc : Chg (rgM p v) w w') (hs : IsRg w' p each v' pts') (hr : Rising pts') : RSt w0 w' base p each v' pts' :=
  ⟨hs, hr, h.bel.chg h.hb hc (fun k hk => by
    rintro (rfl | hv)
    · have := h.hp; omega
    · have := (own_gt h.rg hv).1; have := h.hp; omega), Nat.le_trans h.hb hc.size, h.hp, h.he⟩
end RSt
theorem Add_st {w0 w : World} {base p each : Nat} {v : Value} {pts : List Pt} (h : RSt w0 w base p each v pts) (nd : Int) (hl : pts.length ≤ 100000) :
    Calls Tryd.prog 12 #[.pointer (some ⟨p, 0, none⟩), .int .i64 nd] w fun e w' => ∃ ev v' l, e = .returned ev ∧ RSt w0 w' base p each v' (addR each pts nd) ∧ Chg (rgM p v) w w' ∧ ErrIs w' ev l ∧ codeOf l = addC pts nd := by
  by_cases hb : (nd < 1 ∨ 16 < nd) ∨ hasN pts nd = true
  · refine (Add_bad p each v pts nd w h.rg hb).mono fun e w' ⟨ev, op, at_, he, hbl, herr⟩ => ⟨ev, v, _, he, ?_, Chg.of_below hbl, herr, ?_⟩
    · have : addR each pts nd = pts := by
        unfold addR
        rw [if_neg]
        rintro ⟨h1, h2, h3⟩
        rcases hb with hb | hb
        · omega
        · rw [hb] at h3; cases h3
      rw [this]
      exact h.later hbl
    · unfold addC
      by_cases h1 : nd < 1 ∨ 16 < nd
      · rw [if_pos h1, if_pos h1]; rfl
      · rw [if_neg h1, if_neg h1, if_pos (hb.resolve_left h1)]; rfl
  · have h1 : ¬ (nd < 1 ∨ 16 < nd) := fun e => hb (.inl e)
    have h2 : hasN pts nd = false := by
      cases hq : hasN pts nd with
      | false => rfl
      | true => exact absurd (.inr hq) hb
    refine (Add_ok p each v pts nd w h.rg h.ris (by omega) (by omega) h2 h.he hl).mono fun e w' ⟨v', he, hr, hc⟩ => ⟨.nilIface, v', [], he, ?_, hc, .nil, ?_⟩
    · have : addR each pts nd = addTo pts nd each := by
        unfold addR
        rw [if_pos ⟨by omega, by omega, h2⟩]
      rw [this]
      exact h.chg hc hr (addTo_rising h.ris nd each)
    · unfold addC
      rw [if_neg h1, if_neg (by rw [h2]; decide)]; rfl
theorem Rem_st {w0 w : World} {base p each : Nat} {v : Value} {pts : List Pt} (h : RSt w0 w base p each v pts) (nd : Int) (hl : pts.length ≤ 100000) :
    Calls Tryd.prog 14 #[.pointer (some ⟨p, 0, none⟩), .int .i64 nd] w fun e w' => ∃ ev v' l, e = .returned ev ∧ RSt w0 w' base p each v' (dropN pts nd) ∧ Chg (rgM p v) w w' ∧ ErrIs w' ev l ∧ codeOf l = remC pts nd := by
  refine (Remove_any p each v pts nd w h.rg (by omega)).mono fun e w' ⟨ev, v', he, hr, hc, ho⟩ => ?_
  rcases ho with ⟨h1, rfl⟩ | ⟨h1, op, at_, herr⟩
  · exact ⟨_, v', [], he, h.chg hc hr (dropN_rising h.ris nd), hc, .nil, by rw [remC, if_pos h1]; rfl⟩
  · exact ⟨_, v', _, he, h.chg hc hr (dropN_rising h.ris nd), hc, herr, by rw [remC, if_neg (by rw [h1]; decide)]; rfl⟩

/-! Ints, Has -/
theorem ints_f (l m : List Int) (hlm : l.length = m.length) (hl : l.length < 9223372036854775807) : ∀ (n k i : Nat), i + n = l.length → n < k → PR.butteryref02_Ints.l0 k l m i = some (decide (l.drop i = m.drop i))
  | 0, k + 1, i, h1, h2 => by
    rw [PR.butteryref02_Ints.l0, if_neg (by omega), List.drop_of_length_le (by omega), List.drop_of_length_le (by omega)]
    simp
  | n + 1, k + 1, i, h1, h2 => by
    have hi : i < l.length := by omega
    have hi2 : i < m.length := by omega
    have hr : rd l (i : Int) = l[i] := by simp [rd, hi]
    have hr2 : rd m (i : Int) = m[i] := by simp [rd, hi2]
    have hw : wrap64 ((i : Int) + 1) = ((i + 1 : Nat) : Int) := by unfold wrap64; omega
    rw [PR.butteryref02_Ints.l0, if_pos (by omega), if_pos (by omega), if_pos (by omega), hr, hr2, hw, List.drop_eq_getElem_cons hi, List.drop_eq_getElem_cons hi2]
    by_cases he : l[i] = m[i]
    · rw [if_pos he, ints_f l m hlm hl n k (i + 1) (by omega) (by omega)]
      exact congrArg some (decide_eq_decide.2 ⟨fun e => by rw [e, he], fun e => (List.cons.inj e).2⟩)
    · rw [if_neg he]
      exact congrArg some (decide_eq_false (fun e => he (List.cons.inj e).1)).symm
theorem ints_any (A B : Option Addr) (c d : Nat) (l m : List Int) (w : World) (hC : (Kd.int .i64).C w A l.length l) (hc : l.length ≤ c) (hD : (Kd.int .i64).C w B m.length m) (hd : m.length ≤ d) (hl : l.length < 1000000) :
    Calls Tryd.prog 15 #[.slice A l.length c, .slice B m.length d] w fun e w' => e = .returned (.bool (decide (l = m))) ∧ ∃ n, w' = w.drewN n := by
  refine (PR.butteryref02_Ints.calls (l.length + 2) A c l B d m (decide (l = m)) w hC hc hD hd ?_).mono fun e w' ⟨he, hdr⟩ => ⟨he, hdr.out⟩
  unfold PR.butteryref02_Ints.f
  by_cases hlm : l.length = m.length
  · rw [if_pos (by omega)]
    have := ints_f l m hlm (by omega) l.length (l.length + 2) 0 (by omega) (by omega)
    simpa using this
  · rw [if_neg (by omega)]
    have : ¬ l = m := fun e => hlm (by rw [e])
    simp [this]
theorem has_f (l : List Int) (a : Int) (hl : l.length < 9223372036854775807) : ∀ (n k i : Nat), i + n = l.length → n < k → PR.butteryref02_Has.l0 k l a i = some (decide (a ∈ l.drop i))
  | 0, k + 1, i, h1, h2 => by
    rw [PR.butteryref02_Has.l0, if_neg (by omega), List.drop_of_length_le (by omega)]
    simp
  | n + 1, k + 1, i, h1, h2 => by
    have hi : i < l.length := by omega
    have hr : rd l (i : Int) = l[i] := by simp [rd, hi]
    have hw : wrap64 ((i : Int) + 1) = ((i + 1 : Nat) : Int) := by unfold wrap64; omega
    rw [PR.butteryref02_Has.l0, if_pos (by omega), if_pos (by omega), hr, hw, List.drop_eq_getElem_cons hi]
    by_cases he : l[i] = a
    · rw [if_pos he]
      simp [he]
    · rw [if_neg he, has_f l a hl n k (i + 1) (by omega) (by omega)]
      have he2 : ¬ a = l[i] := fun e => he e.symm
      exact congrArg some (decide_eq_decide.2 ⟨List.mem_cons_of_mem _, fun e => (List.mem_cons.1 e).resolve_left he2⟩)
theorem refhas_f (l : List Int) (a : Int) (hl : l.length < 9223372036854775807) : PR.butteryref02_Has.f (l.length + 1) l a = some (decide (a ∈ l)) := by
  unfold PR.butteryref02_Has.f
  have := has_f l a hl l.length (l.length + 1) 0 (by omega) (by omega)
  simpa using this
theorem refhas_any (A : Option Addr) (c : Nat) (l : List Int) (a : Int) (w : World) (hC : (Kd.int .i64).C w A l.length l) (hc : l.length ≤ c) (hl : l.length < 1000000) :
    Calls Tryd.prog 22 #[.slice A l.length c, .int .i64 a] w fun e w' => e = .returned (.bool (decide (a ∈ l))) ∧ ∃ n, w' = w.drewN n :=
  (PR.butteryref02_Has.calls (l.length + 1) A c l a _ w hC hc (refhas_f l a (by omega))).mono fun e w' ⟨he, hdr⟩ => ⟨he, hdr.out⟩

/-! short -/
def shortB (ss : List ByteArray) : Bool := decide (ss.length ≤ 30 ∧ ∀ s ∈ ss, s.size ≤ 200)
theorem short_f (l : List ByteArray) (hl : l.length < 9223372036854775807) : ∀ (n k i : Nat), i + n = l.length → n < k → PR.butterylaw22_short.l0 k l i = some (decide (∀ s ∈ l.drop i, s.size ≤ 200))
  | 0, k + 1, i, h1, h2 => by
    rw [PR.butterylaw22_short.l0, if_neg (by omega), List.drop_of_length_le (by omega)]
    simp
  | n + 1, k + 1, i, h1, h2 => by
    have hi : i < l.length := by omega
    have hr : rdOf ByteArray.empty l (i : Int) = l[i] := by simp [rdOf, hi]
    have hw : wrap64 ((i : Int) + 1) = ((i + 1 : Nat) : Int) := by unfold wrap64; omega
    rw [PR.butterylaw22_short.l0, if_pos (by omega), if_pos (by omega), hr, hw, List.drop_eq_getElem_cons hi]
    by_cases he : (l[i].size : Int) > 200
    · rw [if_pos he]
      refine congrArg some (decide_eq_false ?_).symm
      intro h
      have := h l[i] List.mem_cons_self
      omega
    · rw [if_neg he, short_f l hl n k (i + 1) (by omega) (by omega)]
      refine congrArg some (decide_eq_decide.2 ⟨fun h s hs => ?_, fun h s hs => h s (List.mem_cons_of_mem _ hs)⟩)
      rcases List.mem_cons.1 hs with rfl | hs
      · omega
      · exact h s hs
theorem short_any (A : Option Addr) (c : Nat) (ss : List ByteArray) (w : World) (hC : Kd.string.C w A ss.length ss) (hc : ss.length ≤ c) :
    Calls Tryd.prog 6 #[.slice A ss.length c] w fun e w' => e = .returned (.bool (shortB ss)) ∧ ∃ n, w' = w.drewN n := by
  refine (PR.butterylaw22_short.calls (ss.length + 1) A c ss (shortB ss) w hC hc ?_).mono fun e w' ⟨he, hdr⟩ => ⟨he, hdr.out⟩
  unfold PR.butterylaw22_short.f shortB
  have h63 : ss.length ≤ 9223372036854775807 := hC.2.1
  by_cases hlm : (ss.length : Int) > 30
  · rw [if_pos hlm]
    exact congrArg some (decide_eq_false (fun h => by have := h.1; omega)).symm
  · rw [if_neg hlm]
    have := short_f ss (by omega) ss.length (ss.length + 1) 0 (by omega) (by omega)
    rw [show ((0 : Nat) : Int) = 0 from rfl, List.drop_zero] at this
    rw [this]
    exact congrArg some (decide_eq_decide.2 ⟨fun h => ⟨by omega, h⟩, fun h => h.2⟩)
/-- A list that is written out. -/
theorem C_lit {α : Type} {enc : α → Value} {h1 : ∀ x, (enc x).oneCell' = true} (w : World) (l : List α) (t : TypeId) (hl : l.length ≤ 9223372036854775807) : (Kd.scalar enc h1).C (w.alloc (.cells (l.map enc).toArray t)) (some ⟨w.heap.size, 0, none⟩) l.length l := by
  refine ⟨rfl, hl, fun _ => ⟨_, rfl, fun j p hj => ⟨[enc p], rfl, rfl, fun i u hu => ?_⟩⟩⟩
  rcases i with _ | i
  · have : enc p = u := by simpa using hu
    subst this
    rw [addr_add, cell_row (heap_alloc_new w _)]
    obtain ⟨hj1, rfl⟩ := List.getElem?_eq_some_iff.1 hj
    simp [Kd.scalar, hj1]
  · simp at hu

/-! the document's At; a few values -/
def refAtI (node i : Int) : Int := mixI (IntKind.u64.wrap (IntKind.u64.wrap (IntKind.u64.wrap node * 256) + IntKind.u64.wrap i))
theorem wrap_in (a : Int) (h0 : 0 ≤ a) (h1 : a < 18446744073709551616) : IntKind.u64.wrap a = a := by
  rw [IntKind.wrap_u64]
  omega
theorem fold_eq (a : Int) (h0 : 0 ≤ a) (h1 : a < 18446744073709551616) : PR.butteryref07_fold.f a = some (foldI a) := by
  unfold PR.butteryref07_fold.f foldI
  rw [Int.tdiv_eq_ediv_of_nonneg h0, wrap_in (a / 8589934592) (by omega) (by omega)]
theorem refmix_f (a : Int) (h0 : 0 ≤ a) (h1 : a < 18446744073709551616) : PR.butteryref07_Mix.f a = some (mixI a) := by
  unfold PR.butteryref07_Mix.f mixI
  have b1 := wrapu_bd (foldI a * 18397679294719823053)
  have b2 := wrapu_bd (foldI (IntKind.u64.wrap (foldI a * 18397679294719823053)) * 14181476777654086739)
  rw [fold_eq a h0 h1, Option.bind_some, fold_eq _ b1.1 b1.2, Option.bind_some, fold_eq _ b2.1 b2.2, Option.bind_some]
theorem refat_f (node i : Int) : PR.butteryref22_At.f node i = some (refAtI node i) := by
  unfold PR.butteryref22_At.f refAtI
  have b1 := wrapu_bd (IntKind.u64.wrap (IntKind.u64.wrap node * 256) + IntKind.u64.wrap i)
  rw [refmix_f _ b1.1 b1.2, Option.bind_some]
theorem refat_any (node i : Int) (w : World) :
    Calls Tryd.prog 24 #[.int .i64 node, .int .i64 i] w fun e w' => e = .returned (.int .u64 (refAtI node i)) ∧ ∃ n, w' = w.drewN n :=
  (PR.butteryref22_At.calls node i _ w (refat_f node i)).mono fun e w' ⟨he, hdr⟩ => ⟨he, hdr.out⟩

end Go.Proofs.YtdaliiaagkhhhaaDoor
