/- The contracts of the document's Owners, Owner, New, Add, Remove. The walks of the document's New, Add, Remove. The walk of the document's Remove. -/
import Derived.Test.YtdaliiaagkhhhaaDoorRgE
import Derived.Test.YtdaliiaagkhhhaaDoorRgW
import Derived.Deep.RegionWith
import Derived.Deep.RegionLaw
namespace Go.Proofs.YtdaliiaagkhhhaaDoor
set_option linter.unusedVariables false
open Go.RowKit Go.Proofs.YtdaliiaagkhhhaaDoorW.PrintWords

theorem hashF_bd (l : List UInt8) : 0 ≤ hashF l 14695981039346656037 ∧ hashF l 14695981039346656037 < 18446744073709551616 := by
  rcases List.eq_nil_or_concat l with rfl | ⟨r, c, rfl⟩
  · exact ⟨by decide, by decide⟩
  · rw [List.concat_eq_append, hashF_snoc]
    exact wrapu_bd _
theorem refhash_run (s : ByteArray) (hs : s.size ≤ 9223372036854775807) : ∀ m k i, i + m = s.size → m < k → PR.butteryref07_Hash.l0 k s (hashF (s.data.toList.take i) 14695981039346656037) i = some (hashI s)
  | 0, k + 1, i, h1, h2 => by
    have b := hashF_bd s.data.toList
    rw [PR.butteryref07_Hash.l0, if_neg (by omega), List.take_of_length_le (by simp; omega), refmix_f _ b.1 b.2, Option.bind_some]
    rfl
  | m + 1, k + 1, i, h1, h2 => by
    have hi : i < s.size := by omega
    have hw : wrap64 ((i : Int) + 1) = ((i + 1 : Nat) : Int) := by unfold wrap64; omega
    have ih := refhash_run s hs m k (i + 1) (by omega) (by omega)
    rw [take_snoc s i hi, hashF_snoc] at ih
    have hbt : IntKind.u64.wrap (bt s (i : Int)) = IntKind.u64.wrap (s[i].toNat : Int) := by simp [bt, hi]
    rw [PR.butteryref07_Hash.l0, if_pos (by omega), if_pos (by omega), hw, hbt]
    exact ih
theorem refhash_f (s : ByteArray) (hs : s.size ≤ 9223372036854775807) (k : Nat) (hk : s.size < k) : PR.butteryref07_Hash.f k s = some (hashI s) := by
  unfold PR.butteryref07_Hash.f
  have := refhash_run s hs s.size k 0 (by omega) hk
  exact this
theorem refowners_f (each : Nat) (he : each ≤ 64) (L : List Int) (hL : L.length ≤ 100) (s : ByteArray) (hs : s.size ≤ 9223372036854775807) (most : Int) : ∃ K, ∀ k, K ≤ k → PR.butteryref22_Owners.f k each L s most = some (refOwners each L (hashI s) most) := by
  obtain ⟨K, hK⟩ := sel_run most (hashI s) each he L hL (min most.toNat L.length) 0 (by omega)
  refine ⟨K + s.size + 1, fun k hk => ?_⟩
  unfold PR.butteryref22_Owners.f
  rw [refhash_f s hs k (by omega), Option.bind_some]
  exact hK k (by omega)
theorem refowners_any (each : Nat) (he : each ≤ 64) (A : Option Addr) (c : Nat) (L : List Int) (hL : L.length ≤ 100) (s : ByteArray) (hs : s.size ≤ maxLen) (most : Int) (w : World) (hC : (Kd.int .i64).C w A L.length L) (hc : L.length ≤ c) :
    Calls Tryd.prog 20 #[.agg #[.int .i64 each, .slice A L.length c], .string s, .int .i64 most] w fun e w' => ∃ v, e = .returned v ∧ (Kd.int .i64).R 3 w' w.heap.size (fun _ => True) v (refOwners each L (hashI s) most) ∧ Below w.heap.size w w' := by
  unfold maxLen at hs
  obtain ⟨K, hK⟩ := refowners_f each he L hL s (by omega) most
  exact PR.butteryref22_Owners.calls K each A c L s most _ w hC hc (hK K (Nat.le_refl _))
theorem refowner_any (each : Nat) (he : each ≤ 64) (A : Option Addr) (c : Nat) (L : List Int) (hL : L.length ≤ 100) (s : ByteArray) (hs : s.size ≤ maxLen) (w : World) (hC : (Kd.int .i64).C w A L.length L) (hc : L.length ≤ c) :
    Calls Tryd.prog 18 #[.agg #[.int .i64 each, .slice A L.length c], .string s] w fun e w' => e = .returned (.int .i64 ((refOwners each L (hashI s) 1).headD 0)) ∧ Below w.heap.size w w' := by
  unfold maxLen at hs
  obtain ⟨K, hK⟩ := refowners_f each he L hL s (by omega) 1
  refine PR.butteryref22_Owner.calls K each A c L s _ w hC hc ?_
  unfold PR.butteryref22_Owner.f
  rw [hK K (Nat.le_refl _), Option.bind_some]
  cases h : refOwners each L (hashI s) 1 with
  | nil => simp
  | cons x r =>
    rw [if_neg (by first | (simp; done) | (simp; omega)), if_pos (by first | (simp; done) | (simp; omega))]
    simp [rd]

/-- The document's nodes, another one among them. -/
def refAdd (L : List Int) (nd : Int) : Nat → List Int
  | 0 => []
  | i + 1 => if (i : Int) + 1 = nd ∨ (i : Int) + 1 ∈ L then refAdd L nd i ++ [(i : Int) + 1] else refAdd L nd i
theorem refAdd_len (L : List Int) (nd : Int) : ∀ i, (refAdd L nd i).length ≤ i
  | 0 => by simp [refAdd]
  | i + 1 => by
    have := refAdd_len L nd i
    rw [refAdd]
    split
    · simp; omega
    · omega
def addL (L : List Int) (nd : Int) : List Int := if nd < 1 ∨ 16 < nd then L else if nd ∈ L then L else refAdd L nd 16
def addLC (L : List Int) (nd : Int) : Int := if nd < 1 ∨ 16 < nd then 2 else if nd ∈ L then 13 else 0

/-- What lies while the document's Add goes on. -/
structure AddRel (w wr : World) (each : Int) (lv ov : Value) (out : List Int) : Prop where
  b2 : wr.heap[w.heap.size]? = some (.cells #[.int .i64 each, lv] 33 (0, 0))
  b4 : wr.heap[w.heap.size + 1]? = some (.cells #[.int .i64 0, .slice none 0 0] 33 (0, 0))
  b6 : wr.heap[w.heap.size + 2]? = some (.cells #[.int .i64 each, ov] 33 (0, 0))
  row : (Kd.int .i64).R 3 wr w.heap.size (fun _ => True) ov out
  bel : Below w.heap.size w wr
theorem AddRel.drewN {w wr : World} {each : Int} {lv ov : Value} {out : List Int} (h : AddRel w wr each lv ov out) (n : Nat) : AddRel w (wr.drewN n) each lv ov out :=
  ⟨h.b2, h.b4, h.b6, Kd.R_drewN h.row n, h.bel.trans ((Drawn0.below ⟨n, rfl⟩).mono h.bel.size)⟩
theorem AddRel.push {w wr w1 : World} {each : Int} {lv ov v1 : Value} {out out1 : List Int} (h : AddRel w wr each lv ov out) (hr : (Kd.int .i64).R 3 w1 w.heap.size (fun _ => True) v1 out1) (hb : Below w.heap.size w w1) (hg : wr.grownBy w1 ov.ownBlock) : AddRel w (w1.setCell ⟨w.heap.size + 2, 1, none⟩ v1) each lv v1 out1 := by
  obtain ⟨inner, ho⟩ := Kd.R_own h.row
  have hne : ∀ (k : Nat) (cs : Array Value), wr.heap[k]? = some (.cells cs 33 (0, 0)) → w1.heap[k]? = some (.cells cs 33 (0, 0)) := fun k cs hk => by
    refine (hg.block k (Array.getElem?_eq_some_iff.1 hk).1 fun e => ?_).trans hk
    obtain ⟨cells, hcl⟩ := own_typed ho k e.symm
    rw [hk] at hcl
    simp at hcl
  have e2 := hne _ _ h.b2
  have e4 := hne _ _ h.b4
  have e6 := hne _ _ h.b6
  obtain ⟨inner1, ho1⟩ := Kd.R_own hr
  refine ⟨?_, ?_, ?_, ?_, hb.setCell (by show w.heap.size ≤ w.heap.size + 2; omega) _⟩
  · rw [Below.heap_setCell _ _ _ _ (by show w.heap.size ≠ w.heap.size + 2; omega)]; exact e2
  · rw [Below.heap_setCell _ _ _ _ (by show w.heap.size + 1 ≠ w.heap.size + 2; omega)]; exact e4
  · rw [setCell_eq_setRow w1 _ 1 _ _ _ _ e6]
    exact setRow_heap w1 _ _ _ _ _ e6
  · exact Kd.R_set hr e6 (fun q hq => by
      have : q = 3 := by simpa [Kd.int, Kd.scalar] using hq
      rw [this]; decide) 1 v1
end Go.Proofs.YtdaliiaagkhhhaaDoor
namespace Go.Proofs.YtdaliiaagkhhhaaDoor
set_option linter.unusedVariables false
open Go.RowKit Go.Proofs.YtdaliiaagkhhhaaDoorW.PrintWords

theorem bel2 (w : World) (o1 o2 : Obj) : Below w.heap.size w ((w.alloc o1).alloc o2) := (bel_alloc w o1).trans ((bel_alloc _ o2).mono (by simp))
theorem refNew_any (n : Int) (w : World) :
    Calls Tryd.prog 9 #[.int .i64 n] w fun e w' => ∃ v, e = .returned (.tuple #[.agg #[.int .i64 (if n < 1 ∨ 64 < n then 0 else n), v], .int .i64 (if n < 1 ∨ 64 < n then 2 else 0)]) ∧ (Kd.int .i64).R 3 w' w.heap.size (fun _ => True) v [] ∧ Below w.heap.size w w' := by
  refine PR.butteryref22_New.calls n (if n < 1 ∨ 64 < n then 0 else n) [] (if n < 1 ∨ 64 < n then 2 else 0) w ?_
  unfold PR.butteryref22_New.f
  by_cases h1 : n < 1
  · rw [if_pos h1, if_pos (.inl h1), if_pos (.inl h1)]
  · rw [if_neg h1]
    by_cases h2 : n > 64
    · rw [if_pos h2, if_pos (.inr h2), if_pos (.inr h2)]
    · rw [if_neg h2, if_neg (by omega), if_neg (by omega)]
theorem block_set2 {w : World} {b : Nat} {x y : Value} {t : TypeId} {fr : Nat × Nat} (h : w.heap[b]? = some (.cells #[x, y] t fr)) (u v : Value) : ((w.setCell ⟨b, 0, none⟩ u).setCell ⟨b, 1, none⟩ v).heap[b]? = some (.cells #[u, v] t fr) := by
  rw [setCell_eq_setRow w b 0 _ _ _ _ h, setCell_eq_setRow _ b 1 _ _ _ _ (setRow_heap w b _ _ _ _ h)]
  exact setRow_heap _ b _ _ _ _ (setRow_heap w b _ _ _ _ h)
theorem ring_ne {q : Nat} (hq : q ∈ 3 :: (Kd.int .i64).E) : q ≠ 33 := by
  have : q = 3 := by simpa [Kd.int, Kd.scalar] using hq
  rw [this]; decide
theorem AddRel.fin {w wr : World} {each : Int} {lv ov : Value} {out : List Int} (h : AddRel w wr each lv ov out) :
    ((wr.setCell ⟨w.heap.size + 1, 0, none⟩ (.int .i64 each)).setCell ⟨w.heap.size + 1, 1, none⟩ ov).heap[w.heap.size + 1]? = some (.cells #[.int .i64 each, ov] 33 (0, 0)) ∧
    (Kd.int .i64).R 3 ((wr.setCell ⟨w.heap.size + 1, 0, none⟩ (.int .i64 each)).setCell ⟨w.heap.size + 1, 1, none⟩ ov) w.heap.size (fun _ => True) ov out ∧
    Below w.heap.size w ((wr.setCell ⟨w.heap.size + 1, 0, none⟩ (.int .i64 each)).setCell ⟨w.heap.size + 1, 1, none⟩ ov) := by
  refine ⟨block_set2 h.b4 _ _, ?_, (h.bel.setCell (by show w.heap.size ≤ w.heap.size + 1; omega) _).setCell (by show w.heap.size ≤ w.heap.size + 1; omega) _⟩
  have e : (wr.setCell ⟨w.heap.size + 1, 0, none⟩ (.int .i64 each)).heap[w.heap.size + 1]? = some (.cells #[.int .i64 each, .slice none 0 0] 33 (0, 0)) := by
    rw [setCell_eq_setRow wr _ 0 _ _ _ _ h.b4]
    exact setRow_heap wr _ _ _ _ _ h.b4
  exact Kd.R_set (Kd.R_set h.row h.b4 (fun q hq => ring_ne hq) 0 _) e (fun q hq => ring_ne hq) 1 _
theorem push_cell {wr w1 : World} {b base : Nat} {x ov : Value} {out : List Int} (h : wr.heap[b]? = some (.cells #[x, ov] 33 (0, 0))) (hr : (Kd.int .i64).R 3 wr base (fun _ => True) ov out) (hg : wr.grownBy w1 ov.ownBlock) : w1.cell? ⟨b, 1, none⟩ = some ov ∧ w1.frozen? ⟨b, 1, none⟩ = false := by
  obtain ⟨inner, ho⟩ := Kd.R_own hr
  have e := (hg.block b (Array.getElem?_eq_some_iff.1 h).1 fun e => by
    obtain ⟨cells, hcl⟩ := own_typed ho b e.symm
    rw [h] at hcl
    simp at hcl).trans h
  exact ⟨cell_row e 1, by simp [World.frozen?, e]⟩
theorem at2 (w : World) (o1 o2 : Obj) : ((w.alloc o1).alloc o2).heap[w.heap.size + 1]? = some o2 := by simpa using heap_alloc_new (w.alloc o1) o2

set_option maxHeartbeats 2000000 in
theorem refAdd_any (each : Int) (A : Option Addr) (c : Nat) (L : List Int) (nd : Int) (base : Nat) (w : World) (hR : (Kd.int .i64).R 3 w base (fun _ => True) (.slice A L.length c) L) (hb : base ≤ w.heap.size) (hl : L.length ≤ 100) :
    Calls Tryd.prog 11 #[.agg #[.int .i64 each, .slice A L.length c], .int .i64 nd] w fun e w' => ∃ A' n' c', e = .returned (.tuple #[.agg #[.int .i64 each, .slice A' n' c'], .int .i64 (addLC L nd)]) ∧ (Kd.int .i64).R 3 w' base (fun _ => True) (.slice A' n' c') (addL L nd) ∧ Below w.heap.size w w' := by
  obtain ⟨A1, c1, he, hlc, hC⟩ := Kd.R_reads hR
  injection he with e1 e2 e3
  subst e1
  subst e3
  have HR := Lib.hid hR
  have HC := Lib.hid hC
  clear hR hC e2
  have hc0 : nd < 1 ∨ 16 < nd ∨ (1 ≤ nd ∧ nd ≤ 16) := by omega
  rcases hc0 with h1 | h1 | ⟨h1, h2⟩
  · have ha : addL L nd = L := by unfold addL; rw [if_pos (.inl h1)]
    have hc2 : addLC L nd = 2 := by unfold addLC; rw [if_pos (.inl h1)]
    rw [ha, hc2]
    clear ha hc2
    go_enter Tryd.func11, Tryd.ntmps11
    go_wp2
    refine bodyPost_ret (results_ct rfl _ _ (w.heap.size + 1) 33 #[.int .i64 each, .slice A L.length c] (0, 0) _ rfl (at2 _ _ _) Tryd.underlying33 rfl (by kernel_rfl)) rfl ?_
    exact ⟨_, _, _, rfl, Kd.R_below HR.out (bel2 _ _ _), bel2 _ _ _⟩
  · have ha : addL L nd = L := by unfold addL; rw [if_pos (.inr h1)]
    have hc2 : addLC L nd = 2 := by unfold addLC; rw [if_pos (.inr h1)]
    rw [ha, hc2]
    clear ha hc2
    go_enter Tryd.func11, Tryd.ntmps11
    go_wp2
    refine bodyPost_ret (results_ct rfl _ _ (w.heap.size + 1) 33 #[.int .i64 each, .slice A L.length c] (0, 0) _ rfl (at2 _ _ _) Tryd.underlying33 rfl (by kernel_rfl)) rfl ?_
    exact ⟨_, _, _, rfl, Kd.R_below HR.out (bel2 _ _ _), bel2 _ _ _⟩
  · have hhas := fun w' (hb : Below w.heap.size w w') n => refhas_any A c L n w' (Kd.C_below HC.out hb) hlc (by omega)
    have HHAS := Lib.hid hhas
    clear hhas
    by_cases hin : nd ∈ L
    · have ha : addL L nd = L := by unfold addL; rw [if_neg (by omega), if_pos hin]
      have hc2 : addLC L nd = 13 := by unfold addLC; rw [if_neg (by omega), if_pos hin]
      have hd : decide (nd ∈ L) = true := decide_eq_true hin
      rw [ha, hc2]
      have HIN := Lib.hid hin
      clear ha hc2 hin
      go_enter Tryd.func11, Tryd.ntmps11
      go_wp2_with fail
      refine (HHAS.out _ (bel2 _ _ _) nd).mono ?_
      rintro e w1 ⟨rfl, n1, rfl⟩
      rw [hd]
      clear hd
      go_wp2_with fail
      have hbb := bel2 w (.cells #[.int .i64 each, .slice A L.length c] 33) (.cells #[.int .i64 0, .slice none 0 0] 33)
      have h4 : (((w.alloc (.cells #[.int .i64 each, .slice A L.length c] 33)).alloc (.cells #[.int .i64 0, .slice none 0 0] 33)).drewN n1).heap[w.heap.size + 1]? = some (.cells #[.int .i64 0, .slice none 0 0] 33 (0, 0)) := at2 _ _ _
      have hb2 := hbb.trans ((Drawn0.below ⟨n1, rfl⟩).mono hbb.size)
      have hr2 := Kd.R_drewN (Kd.R_below HR.out hbb) n1
      refine bodyPost_ret (results_ct rfl _ _ (w.heap.size + 1) 33 #[.int .i64 each, .slice A L.length c] (0, 0) _ rfl (block_set2 h4 _ _) Tryd.underlying33 rfl (by kernel_rfl)) rfl ?_
      have e : ((((w.alloc (.cells #[.int .i64 each, .slice A L.length c] 33)).alloc (.cells #[.int .i64 0, .slice none 0 0] 33)).drewN n1).setCell ⟨w.heap.size + 1, 0, none⟩ (.int .i64 each)).heap[w.heap.size + 1]? = some (.cells #[.int .i64 each, .slice none 0 0] 33 (0, 0)) := by
        rw [setCell_eq_setRow _ _ 0 _ _ _ _ h4]
        exact setRow_heap _ _ _ _ _ _ h4
      exact ⟨_, _, _, rfl, Kd.R_set (Kd.R_set hr2 h4 (fun q hq => ring_ne hq) 0 _) e (fun q hq => ring_ne hq) 1 _, (hb2.setCell (by show w.heap.size ≤ w.heap.size + 1; omega) _).setCell (by show w.heap.size ≤ w.heap.size + 1; omega) _⟩
    · have ha : addL L nd = refAdd L nd 16 := by unfold addL; rw [if_neg (by omega), if_neg hin]
      have hc2 : addLC L nd = 0 := by unfold addLC; rw [if_neg (by omega), if_neg hin]
      have hd : decide (nd ∈ L) = false := decide_eq_false hin
      rw [ha, hc2]
      have HIN := Lib.hid hin
      clear ha hc2 hin
      go_enter Tryd.func11, Tryd.ntmps11
      go_wp2_with fail
      refine (HHAS.out _ (bel2 _ _ _) nd).mono ?_
      rintro e w1 ⟨rfl, n1, rfl⟩
      rw [hd]
      clear hd
      go_wp2_with fail
      have H0 : Hid (AddRel w ((((w.alloc (.cells #[.int .i64 each, .slice A L.length c] 33)).alloc (.cells #[.int .i64 0, .slice none 0 0] 33)).drewN n1).alloc (.cells #[.int .i64 each, .slice none 0 0] 33)) each (.slice A L.length c) (.slice none 0 0) (refAdd L nd 0)) := by
        refine ⟨?_, ?_, ?_, Kd.R_nil _ _ _ _ _, ?_⟩
        · exact (Below.heap_alloc _ _ _ (by first | (simp [World.drewN]; done) | (simp [World.drewN]; omega))).trans ((Below.heap_alloc _ _ _ (by simp)).trans (heap_alloc_new _ _))
        · exact (Below.heap_alloc _ _ _ (by first | (simp [World.drewN]; done) | (simp [World.drewN]; omega))).trans (at2 _ _ _)
        · simpa [World.drewN] using heap_alloc_new (((w.alloc (.cells #[.int .i64 each, .slice A L.length c] 33)).alloc (.cells #[.int .i64 0, .slice none 0 0] 33)).drewN n1) (.cells #[.int .i64 each, .slice none 0 0] 33)
        · have hb1 := (bel2 w (.cells #[.int .i64 each, .slice A L.length c] 33) (.cells #[.int .i64 0, .slice none 0 0] 33)).trans ((Drawn0.below ⟨n1, rfl⟩).mono (bel2 w _ _).size)
          exact hb1.trans ((bel_alloc _ _).mono hb1.size)
      go_loopw [7] (fun i wr => ∃ k : Nat, k ≤ 16 ∧ i = .int .i64 ((k : Int) + 1) ∧ Hid (∃ ov, AddRel w wr each (.slice A L.length c) ov (refAdd L nd k))) (fun i _ => 17 - (intOf i).toNat)
      case atStart => exact ⟨0, Nat.zero_le _, rfl, _, H0.out⟩
      case round =>
        obtain ⟨k, hk, rfl, HD⟩ := hrel
        obtain ⟨ov, HD⟩ : ∃ ov, Hid (AddRel w wr each (.slice A L.length c) ov (refAdd L nd k)) := HD.out
        obtain ⟨A6, c6, hov⟩ := Kd.R_slice HD.out.row
        subst hov
        have hrl := refAdd_len L nd k
        by_cases hlt : k < 16
        · have c2 : wr.cell? ⟨w.heap.size, 1, none⟩ = some (.slice A L.length c) := cell_row HD.out.b2 1
          have c6' : wr.cell? ⟨w.heap.size + 2, 1, none⟩ = some (.slice A6 (refAdd L nd k).length c6) := cell_row HD.out.b6 1
          have f6 : wr.frozen? ⟨w.heap.size + 2, 1, none⟩ = false := by simp [World.frozen?, HD.out.b6]
          have hs : refAdd L nd (k + 1) = if (k : Int) + 1 = nd ∨ (k : Int) + 1 ∈ L then refAdd L nd k ++ [(k : Int) + 1] else refAdd L nd k := rfl
          have HS := Lib.hid hs
          clear hs
          by_cases h1 : (k : Int) + 1 = nd
          · have heq : (((k : Int) + 1) == nd) = true := by simpa using h1
            have H1 := Lib.hid h1
            clear h1
            go_wp2_with (at_builtin; refine Kd.R_append (Kd.int .i64) (w0 := w) w.heap.size rfl (.tmp 37) (.tmp 39) 31 3 (.int .i64 0) 8 rfl Tryd.underlying31 info_int rfl (by decide) (by omega) _ (refAdd L nd k) ((k : Int) + 1) [.int .i64 ((k : Int) + 1)] (fun _ => True) (fun _ => False) rfl rfl rfl (fun _ hk => hk.elim) (fun _ _ => trivial) HD.out.row HD.out.bel HD.out.bel.size (by omega) ?_; intro v1 w1 ho hb hg hat; have HO := Lib.hid ho; have HB := Lib.hid hb; have HG := Lib.hid hg; obtain ⟨A1, c1, hv1⟩ := Kd.R_slice ho; rw [List.length_append, List.length_singleton] at hv1; subst hv1; have hp := HD.out.push ho hb hg; have HP := Lib.hid hp; obtain ⟨hx1, hx2⟩ := push_cell HD.out.b6 HD.out.row hg; clear ho hb hg hat hp)
            go_roundw
            case rel => exact ⟨k + 1, by omega, by go_num, _, by rw [HS.out, if_pos (.inl H1.out)]; exact HP.out⟩
            case measure => simp [intOf]; omega
          · have hne : (((k : Int) + 1) == nd) = false := by simpa using h1
            have H1 := Lib.hid h1
            clear h1
            by_cases h2 : (k : Int) + 1 ∈ L
            · have hd : decide ((k : Int) + 1 ∈ L) = true := decide_eq_true h2
              have H2 := Lib.hid h2
              clear h2
              go_wp2_with fail
              refine (HHAS.out wr HD.out.bel _).mono ?_
              rintro e w3 ⟨rfl, n3, rfl⟩
              rw [hd]
              have HD3 := Lib.hid (HD.out.drewN n3)
              clear hd
              go_wp2_with (at_builtin; refine Kd.R_append (Kd.int .i64) (w0 := w) w.heap.size rfl (.tmp 37) (.tmp 39) 31 3 (.int .i64 0) 8 rfl Tryd.underlying31 info_int rfl (by decide) (by omega) _ (refAdd L nd k) ((k : Int) + 1) [.int .i64 ((k : Int) + 1)] (fun _ => True) (fun _ => False) rfl rfl rfl (fun _ hk => hk.elim) (fun _ _ => trivial) HD3.out.row HD3.out.bel HD3.out.bel.size (by omega) ?_; intro v1 w1 ho hb hg hat; have HO := Lib.hid ho; have HB := Lib.hid hb; have HG := Lib.hid hg; obtain ⟨A1, c1, hv1⟩ := Kd.R_slice ho; rw [List.length_append, List.length_singleton] at hv1; subst hv1; have hp := HD3.out.push ho hb hg; have HP := Lib.hid hp; obtain ⟨hx1, hx2⟩ := push_cell HD3.out.b6 HD3.out.row hg; clear ho hb hg hat hp)
              go_roundw
              case rel => exact ⟨k + 1, by omega, by go_num, _, by rw [HS.out, if_pos (.inr H2.out)]; exact HP.out⟩
              case measure => simp [intOf]; omega
            · have hd : decide ((k : Int) + 1 ∈ L) = false := decide_eq_false h2
              have H2 := Lib.hid h2
              clear h2
              go_wp2_with fail
              refine (HHAS.out wr HD.out.bel _).mono ?_
              rintro e w3 ⟨rfl, n3, rfl⟩
              rw [hd]
              clear hd
              go_wp2_with fail
              go_roundw
              case rel => exact ⟨k + 1, by omega, by go_num, _, by rw [HS.out, if_neg (fun e => e.elim H1.out H2.out)]; exact HD.out.drewN n3⟩
              case measure => simp [intOf]; omega
        · obtain rfl : k = 16 := by omega
          have d0 : wr.cell? ⟨w.heap.size + 2, 0, none⟩ = some (.int .i64 each) := cell_row HD.out.b6 0
          have d1 : wr.cell? ⟨w.heap.size + 2, 1, none⟩ = some (.slice A6 (refAdd L nd 16).length c6) := cell_row HD.out.b6 1
          have e0 : wr.cell? ⟨w.heap.size + 1, 0, none⟩ = some (.int .i64 0) := cell_row HD.out.b4 0
          have e1 : wr.cell? ⟨w.heap.size + 1, 1, none⟩ = some (.slice none 0 0) := cell_row HD.out.b4 1
          have f0 : wr.frozen? ⟨w.heap.size + 1, 0, none⟩ = false := by simp [World.frozen?, HD.out.b4]
          have f1 : wr.frozen? ⟨w.heap.size + 1, 1, none⟩ = false := by simp [World.frozen?, HD.out.b4]
          go_wp2_with fail
          refine bodyPost_ret (results_ct rfl _ _ (w.heap.size + 1) 33 #[.int .i64 each, .slice A6 (refAdd L nd 16).length c6] (0, 0) _ rfl HD.out.fin.1 Tryd.underlying33 rfl (by kernel_rfl)) rfl ?_
          exact ⟨_, _, _, rfl, Kd.R_lower HD.out.fin.2.1 hb, HD.out.fin.2.2⟩
end Go.Proofs.YtdaliiaagkhhhaaDoor
namespace Go.Proofs.YtdaliiaagkhhhaaDoor
set_option linter.unusedVariables false
open Go.RowKit Go.Proofs.YtdaliiaagkhhhaaDoorW.PrintWords

def remL (L : List Int) (nd : Int) : List Int := L.filter (fun n => !(n == nd))
def remLC (L : List Int) (nd : Int) : Int := if nd ∈ L then 0 else 9
theorem remL_none {L : List Int} {nd : Int} (h : nd ∉ L) : remL L nd = L := by
  unfold remL
  rw [List.filter_eq_self]
  intro x hx
  have : x ≠ nd := fun e => h (e ▸ hx)
  simp [this]
theorem remL_len (L : List Int) (nd : Int) : (remL L nd).length ≤ L.length := List.length_filter_le _ _
theorem remL_snoc (L : List Int) (nd x : Int) : remL (L ++ [x]) nd = if x = nd then remL L nd else remL L nd ++ [x] := by
  unfold remL
  rw [List.filter_append]
  by_cases h : x = nd <;> simp [h]

set_option maxHeartbeats 2000000 in
theorem refRem_any (each : Int) (A : Option Addr) (c : Nat) (L : List Int) (nd : Int) (base : Nat) (w : World) (hR : (Kd.int .i64).R 3 w base (fun _ => True) (.slice A L.length c) L) (hb : base ≤ w.heap.size) (hl : L.length ≤ 100) :
    Calls Tryd.prog 13 #[.agg #[.int .i64 each, .slice A L.length c], .int .i64 nd] w fun e w' => ∃ A' n' c', e = .returned (.tuple #[.agg #[.int .i64 each, .slice A' n' c'], .int .i64 (remLC L nd)]) ∧ (Kd.int .i64).R 3 w' base (fun _ => True) (.slice A' n' c') (remL L nd) ∧ Below w.heap.size w w' := by
  obtain ⟨A1, c1, he, hlc, hC⟩ := Kd.R_reads hR
  injection he with e1 e2 e3
  subst e1
  subst e3
  have HR := Lib.hid hR
  have HC := Lib.hid hC
  clear hR hC e2
  have hhas := fun w' (hb : Below w.heap.size w w') n => refhas_any A c L n w' (Kd.C_below HC.out hb) hlc (by omega)
  have HHAS := Lib.hid hhas
  clear hhas
  by_cases hin : nd ∈ L
  · have hc2 : remLC L nd = 0 := by unfold remLC; rw [if_pos hin]
    have hd : decide (nd ∈ L) = true := decide_eq_true hin
    rw [hc2]
    have HIN := Lib.hid hin
    clear hc2 hin
    go_enter Tryd.func13, Tryd.ntmps13
    go_wp2_with fail
    refine (HHAS.out _ (bel2 _ _ _) nd).mono ?_
    rintro e w1 ⟨rfl, n1, rfl⟩
    rw [hd]
    clear hd
    go_wp2_with fail
    have H0 : Hid (AddRel w ((((w.alloc (.cells #[.int .i64 each, .slice A L.length c] 33)).alloc (.cells #[.int .i64 0, .slice none 0 0] 33)).drewN n1).alloc (.cells #[.int .i64 each, .slice none 0 0] 33)) each (.slice A L.length c) (.slice none 0 0) (remL (L.take 0) nd)) := by
      refine ⟨?_, ?_, ?_, Kd.R_nil _ _ _ _ _, ?_⟩
      · exact (Below.heap_alloc _ _ _ (by first | (simp [World.drewN]; done) | (simp [World.drewN]; omega))).trans ((Below.heap_alloc _ _ _ (by simp)).trans (heap_alloc_new _ _))
      · exact (Below.heap_alloc _ _ _ (by first | (simp [World.drewN]; done) | (simp [World.drewN]; omega))).trans (at2 _ _ _)
      · simpa [World.drewN] using heap_alloc_new (((w.alloc (.cells #[.int .i64 each, .slice A L.length c] 33)).alloc (.cells #[.int .i64 0, .slice none 0 0] 33)).drewN n1) (.cells #[.int .i64 each, .slice none 0 0] 33)
      · have hb1 := (bel2 w (.cells #[.int .i64 each, .slice A L.length c] 33) (.cells #[.int .i64 0, .slice none 0 0] 33)).trans ((Drawn0.below ⟨n1, rfl⟩).mono (bel2 w _ _).size)
        exact hb1.trans ((bel_alloc _ _).mono hb1.size)
    go_loopw [7] (fun i wr => ∃ k : Nat, k ≤ L.length ∧ i = .int .i64 k ∧ Hid (∃ ov, AddRel w wr each (.slice A L.length c) ov (remL (L.take k) nd))) (fun i _ => L.length - (intOf i).toNat)
    case atStart => exact ⟨0, Nat.zero_le _, rfl, _, H0.out⟩
    case round =>
      obtain ⟨k, hk, rfl, HD⟩ := hrel
      obtain ⟨ov, HD⟩ : ∃ ov, Hid (AddRel w wr each (.slice A L.length c) ov (remL (L.take k) nd)) := HD.out
      obtain ⟨A6, c6, hov⟩ := Kd.R_slice HD.out.row
      subst hov
      have hrl := remL_len (L.take k) nd
      have htl : (L.take k).length ≤ k := List.length_take_le _ _
      have c2 : wr.cell? ⟨w.heap.size, 1, none⟩ = some (.slice A L.length c) := cell_row HD.out.b2 1
      by_cases hlt : k < L.length
      · obtain ⟨ad, hA, hc0⟩ := at_num HC.out hlt
        subst hA
        have hd0 : wr.cell? (ad.add k) = some (.int .i64 (iget L k)) := (HD.out.bel.cell (World.block_lt_of_cell? w _ hc0)).trans hc0
        have c6' : wr.cell? ⟨w.heap.size + 2, 1, none⟩ = some (.slice A6 (remL (L.take k) nd).length c6) := cell_row HD.out.b6 1
        have hne6 : w.heap.size + 2 ≠ wr.heap.size := by have := (Array.getElem?_eq_some_iff.1 HD.out.b6).1; omega
        have c6b : wr.cell? ⟨w.heap.size + 1 + 1, 1, none⟩ = some (.slice A6 (remL (L.take k) nd).length c6) := c6'
        have hcA : (wr.alloc (.cells #[.int .i64 (iget L k)] 3)).cell? ⟨w.heap.size + 1 + 1, 1, none⟩ = some (.slice A6 (remL (L.take k) nd).length c6) := Lib.cell?_alloc_some _ c6'
        have HS := Lib.hid (remL_snoc (L.take k) nd (iget L k))
        have HT := Lib.hid (take_i hlt)
        clear hc0
        by_cases h1 : iget L k = nd
        · have heq : (iget L k != nd) = false := by simp [h1]
          have H1 := Lib.hid h1
          clear h1
          go_wp2_with fail
          go_roundw
          case rel => exact ⟨k + 1, by omega, by go_num, _, by rw [HT.out, HS.out, if_pos H1.out]; exact HD.out⟩
          case measure => simp [intOf]; omega
        · have hne : (iget L k != nd) = true := by simpa using h1
          have H1 := Lib.hid h1
          clear h1
          have HDr : Hid (AddRel w wr.drew each (.slice (some ad) L.length c) (.slice A6 (remL (L.take k) nd).length c6) (remL (L.take k) nd)) := HD.out.drewN 1
          go_wp2_with fail
          go_region_law (refine Kd.R_append_step (Kd.int .i64) (w0 := w) (W := wr.drew) w.heap.size (by simp [Region.wanted]) (.tmp 32) (.tmp 38) 31 3 (.int .i64 0) 8 rfl Tryd.underlying31 info_int rfl (by decide) (by omega) (.slice A6 (remL (L.take k) nd).length c6) (remL (L.take k) nd) (iget L k) [.int .i64 (iget L k)] (fun _ => True) (fun _ => False) (by simp [Act.eval, Act.put]) (by simp [Act.eval, Act.put]) rfl (fun _ hk => hk.elim) (fun _ _ => trivial) HDr.out.row HDr.out.bel HDr.out.bel.size (by omega) ?_; intro v1 w1 ho hb hg hat; have HO := Lib.hid ho; obtain ⟨A1, c1, hv1⟩ := Kd.R_slice ho; rw [List.length_append, List.length_singleton] at hv1; subst hv1; have hp := HDr.out.push ho hb hg; have HP := Lib.hid hp; obtain ⟨hx1, hx2⟩ := push_cell HDr.out.b6 HDr.out.row hg; clear ho hb hg hat hp)
          all_goals
            go_wp2_with fail
            go_roundw
            case rel => exact ⟨k + 1, by omega, by go_num, _, by rw [HT.out, HS.out, if_neg H1.out]; exact HP.out⟩
            case measure => simp [intOf]; omega
      · obtain rfl : k = L.length := by omega
        rw [List.take_length] at HD hrl
        have d0 : wr.cell? ⟨w.heap.size + 2, 0, none⟩ = some (.int .i64 each) := cell_row HD.out.b6 0
        have d1 : wr.cell? ⟨w.heap.size + 2, 1, none⟩ = some (.slice A6 (remL L nd).length c6) := cell_row HD.out.b6 1
        have e0 : wr.cell? ⟨w.heap.size + 1, 0, none⟩ = some (.int .i64 0) := cell_row HD.out.b4 0
        have e1 : wr.cell? ⟨w.heap.size + 1, 1, none⟩ = some (.slice none 0 0) := cell_row HD.out.b4 1
        have f0 : wr.frozen? ⟨w.heap.size + 1, 0, none⟩ = false := by simp [World.frozen?, HD.out.b4]
        have f1 : wr.frozen? ⟨w.heap.size + 1, 1, none⟩ = false := by simp [World.frozen?, HD.out.b4]
        go_wp2_with fail
        refine bodyPost_ret (results_ct rfl _ _ (w.heap.size + 1) 33 #[.int .i64 each, .slice A6 (remL L nd).length c6] (0, 0) _ rfl HD.out.fin.1 Tryd.underlying33 rfl (by kernel_rfl)) rfl ?_
        exact ⟨_, _, _, rfl, Kd.R_lower HD.out.fin.2.1 hb, HD.out.fin.2.2⟩
  · have ha : remL L nd = L := remL_none hin
    have hc2 : remLC L nd = 9 := by unfold remLC; rw [if_neg hin]
    have hd : decide (nd ∈ L) = false := decide_eq_false hin
    rw [ha, hc2]
    have HIN := Lib.hid hin
    clear ha hc2 hin
    go_enter Tryd.func13, Tryd.ntmps13
    go_wp2_with fail
    refine (HHAS.out _ (bel2 _ _ _) nd).mono ?_
    rintro e w1 ⟨rfl, n1, rfl⟩
    rw [hd]
    clear hd
    go_wp2_with fail
    have hbb := bel2 w (.cells #[.int .i64 each, .slice A L.length c] 33) (.cells #[.int .i64 0, .slice none 0 0] 33)
    have h4 : (((w.alloc (.cells #[.int .i64 each, .slice A L.length c] 33)).alloc (.cells #[.int .i64 0, .slice none 0 0] 33)).drewN n1).heap[w.heap.size + 1]? = some (.cells #[.int .i64 0, .slice none 0 0] 33 (0, 0)) := at2 _ _ _
    have hb2 := hbb.trans ((Drawn0.below ⟨n1, rfl⟩).mono hbb.size)
    have hr2 := Kd.R_drewN (Kd.R_below HR.out hbb) n1
    refine bodyPost_ret (results_ct rfl _ _ (w.heap.size + 1) 33 #[.int .i64 each, .slice A L.length c] (0, 0) _ rfl (block_set2 h4 _ _) Tryd.underlying33 rfl (by kernel_rfl)) rfl ?_
    have e : ((((w.alloc (.cells #[.int .i64 each, .slice A L.length c] 33)).alloc (.cells #[.int .i64 0, .slice none 0 0] 33)).drewN n1).setCell ⟨w.heap.size + 1, 0, none⟩ (.int .i64 each)).heap[w.heap.size + 1]? = some (.cells #[.int .i64 each, .slice none 0 0] 33 (0, 0)) := by
      rw [setCell_eq_setRow _ _ 0 _ _ _ _ h4]
      exact setRow_heap _ _ _ _ _ _ h4
    exact ⟨_, _, _, rfl, Kd.R_set (Kd.R_set hr2 h4 (fun q hq => ring_ne hq) 0 _) e (fun q hq => ring_ne hq) 1 _, (hb2.setCell (by show w.heap.size ≤ w.heap.size + 1; omega) _).setCell (by show w.heap.size ≤ w.heap.size + 1; omega) _⟩
end Go.Proofs.YtdaliiaagkhhhaaDoor
