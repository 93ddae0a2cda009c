/- The document's Nodes, Times and Percent, plainly, over the printed loops. A row of the table, and the table. How often each node of any events had what it was asked for: the walk of report.Tallies. -/
import Derived.Test.YtgfljpchdiapeaaDoorJ2
import Derived.Test.YtgfljpchdiapeaaDoorPRx6
import Derived.Test.YtgfljpchdiapeaaDoorPRx7
import Derived.Test.YtgfljpchdiapeaaDoorPRx3
import Derived.Shelf.Strings.BuilderK
import Derived.Deep.RegionHeld3
namespace Go.Proofs.YtgfljpchdiapeaaDoor
set_option linter.unusedVariables false
set_option linter.unusedSimpArgs false
open Go.RowKit Go.Proofs.YtgfljpchdiapeaaDoorW.PrintWords
theorem rdE_at {L : List Ev} {i : Nat} (h : i < L.length) : PR.rd_T30 (L.map evOf) (i : Int) = evOf L[i] := by
  unfold PR.rd_T30
  rw [Int.toNat_natCast, List.getD_eq_getElem?_getD, List.getElem?_map, List.getElem?_eq_getElem h]
  rfl
theorem times_l (L : List Ev) (K n : Int) (hl : L.length ≤ 1000) : ∀ (d k i : Nat) (x : Nat), i + d = L.length → d < k → x ≤ i → PR.butteryref32_Times.l0 k (L.map evOf) K n (x : Int) (i : Int) = some ((x + tm K n (L.drop i) : Nat) : Int)
  | 0, k + 1, i, x, hi, _, _ => by
    have h : ¬ (i : Int) < ((L.map evOf).length : Int) := by rw [List.length_map]; omega
    rw [PR.butteryref32_Times.l0, if_neg h, List.drop_of_length_le (by omega)]
    rfl
  | d + 1, k + 1, i, x, hi, hk, hx => by
    have hlt : i < L.length := by omega
    have h : (i : Int) < ((L.map evOf).length : Int) := by rw [List.length_map]; omega
    have h0 : (0 : Int) ≤ (i : Int) := by omega
    have w1 : wrap64 ((i : Int) + 1) = ((i + 1 : Nat) : Int) := by unfold wrap64; omega
    have w2 : wrap64 ((x : Int) + 1) = ((x + 1 : Nat) : Int) := by unfold wrap64; omega
    have e0 : (evOf L[i]).f0 = L[i].kind := rfl
    have e1 : (evOf L[i]).f1 = L[i].node := rfl
    rw [PR.butteryref32_Times.l0, if_pos h, if_pos h0, rdE_at hlt, e0, e1, w1, w2, List.drop_eq_getElem_cons hlt, tm]
    have ih0 := times_l L K n hl d k (i + 1) x (by omega) (by omega) (by omega)
    have ih1 := times_l L K n hl d k (i + 1) (x + 1) (by omega) (by omega) (by omega)
    by_cases k1 : L[i].kind = K
    · by_cases k2 : L[i].node = n
      · rw [if_pos k1, if_pos k2, if_pos ⟨k1, k2⟩, ih1]
        congr 2
        omega
      · rw [if_pos k1, if_neg k2, if_neg fun y => k2 y.2, ih0]
        congr 2
        omega
    · rw [if_neg k1, if_neg fun y => k1 y.1, ih0]
      congr 2
      omega
theorem times_any (L : List Ev) (A : Option Addr) (c : Nat) (K n : Int) (w : World) (hC : kV.C w A L.length L) (hc : L.length ≤ c) (hl : L.length ≤ 1000) : Calls Tryd.prog 25 #[.slice A L.length c, .int .i64 K, .int .i64 n] w fun e w' => e = .returned (.int .i64 (tm K n L)) ∧ Drawn0 w w' := by
  have hm : (L.map evOf).length = L.length := List.length_map ..
  have h := times_l L K n hl L.length (L.length + 1) 0 0 (by omega) (by omega) (by omega)
  rw [List.drop_zero, Nat.zero_add] at h
  have := PR.butteryref32_Times.calls (L.length + 1) A c (L.map evOf) K n _ w (by rw [hm]; exact kV_C hC) (by rw [hm]; exact hc) h
  rw [hm] at this
  exact this
def Cand (no : Prop) (lo : Int) (K : List Ev) (c : Int) : Prop := ∃ e ∈ K, asked e ∧ e.node = c ∧ (no ∨ lo < c)
def Best (no : Prop) (lo : Int) (K : List Ev) (b : Int) (s : Bool) : Prop := (s = true → Cand no lo K b ∧ ∀ c, Cand no lo K c → b ≤ c) ∧ (s = false → ∀ c, ¬ Cand no lo K c)
theorem cand_snoc {no : Prop} {lo : Int} {K : List Ev} {e : Ev} {c : Int} : Cand no lo (K ++ [e]) c ↔ Cand no lo K c ∨ (asked e ∧ e.node = c ∧ (no ∨ lo < c)) := by
  constructor
  · rintro ⟨x, hx, h⟩
    rcases List.mem_append.1 hx with hx | hx
    · exact .inl ⟨x, hx, h⟩
    · rw [List.mem_singleton.1 hx] at h
      exact .inr h
  · rintro (⟨x, hx, h⟩ | h)
    · exact ⟨x, List.mem_append_left _ hx, h⟩
    · exact ⟨e, List.mem_append_right _ List.mem_cons_self, h⟩
theorem best_skip {no : Prop} {lo : Int} {K : List Ev} {e : Ev} {b : Int} {s : Bool} (h : Best no lo K b s) (hn : ¬ (asked e ∧ (no ∨ lo < e.node))) : Best no lo (K ++ [e]) b s := by
  have hc : ∀ c, Cand no lo (K ++ [e]) c ↔ Cand no lo K c := fun c => by
    rw [cand_snoc]
    constructor
    · rintro (h | ⟨h1, rfl, h2⟩)
      · exact h
      · exact absurd ⟨h1, h2⟩ hn
    · exact .inl
  exact ⟨fun hs => ⟨(hc b).2 (h.1 hs).1, fun c h2 => (h.1 hs).2 c ((hc c).1 h2)⟩, fun hs c h2 => h.2 hs c ((hc c).1 h2)⟩
theorem best_keep {no : Prop} {lo : Int} {K : List Ev} {e : Ev} {b : Int} (h : Best no lo K b true) (hn : ¬ e.node < b) : Best no lo (K ++ [e]) b true := by
  refine ⟨fun _ => ⟨cand_snoc.2 (.inl (h.1 rfl).1), fun c hc => ?_⟩, fun h => by cases h⟩
  rcases cand_snoc.1 hc with hc | ⟨_, rfl, _⟩
  · exact (h.1 rfl).2 c hc
  · omega
theorem best_take {no : Prop} {lo : Int} {K : List Ev} {e : Ev} {b : Int} {s : Bool} (h : Best no lo K b s) (ha : asked e) (hn : no ∨ lo < e.node) (hb : s = false ∨ e.node < b) : Best no lo (K ++ [e]) e.node true := by
  refine ⟨fun _ => ⟨cand_snoc.2 (.inr ⟨ha, rfl, hn⟩), fun c hc => ?_⟩, fun h => by cases h⟩
  rcases cand_snoc.1 hc with hc | ⟨_, rfl, _⟩
  · cases s with
    | false => exact absurd hc (h.2 rfl c)
    | true =>
      have := (h.1 rfl).2 c hc
      rcases hb with hb | hb
      · cases hb
      · omega
  · omega
set_option maxHeartbeats 4000000 in
theorem nodes_in (L : List Ev) (x3 : List Int) (hl : L.length ≤ 1000) (hx : x3.length ≤ 1000) : ∀ (d k i : Nat) (b : Int) (s : Bool), i + d = L.length → d < k → Best (x3 = []) (x3.getLastD 0) (L.take i) b s → ∃ b' s' k', Best (x3 = []) (x3.getLastD 0) L b' s' ∧ k' + d + 1 = k ∧ PR.butteryref32_Nodes.l1 k (L.map evOf) x3 b s (i : Int) = if s' = true then PR.butteryref32_Nodes.l0 k' (L.map evOf) (x3 ++ [b']) else some x3
  | 0, k + 1, i, b, s, hi, _, hB => by
    have h : ¬ (i : Int) < ((L.map evOf).length : Int) := by rw [List.length_map]; omega
    rw [List.take_of_length_le (by omega)] at hB
    refine ⟨b, s, k, hB, rfl, ?_⟩
    rw [PR.butteryref32_Nodes.l1, if_neg h, if_pos (show x3.length < 17592186044416 by omega)]
  | d + 1, k + 1, i, b, s, hi, hk, hB => by
    have hlt : i < L.length := by omega
    have h : (i : Int) < ((L.map evOf).length : Int) := by rw [List.length_map]; omega
    have h0 : (0 : Int) ≤ (i : Int) := by omega
    have w1 : wrap64 ((i : Int) + 1) = ((i + 1 : Nat) : Int) := by unfold wrap64; omega
    have e0 : (evOf L[i]).f0 = L[i].kind := rfl
    have e1 : (evOf L[i]).f1 = L[i].node := rfl
    have hi' : i + 1 + d = L.length := by omega
    have hk' : d < k := by omega
    have ih := fun b s hG => nodes_in L x3 hl hx d k (i + 1) b s hi' hk' hG
    have hT : L.take (i + 1) = L.take i ++ [L[i]] := List.take_succ_eq_append_getElem hlt
    rw [hT] at ih
    have hsk : ¬ (asked L[i] ∧ (x3 = [] ∨ x3.getLastD 0 < L[i].node)) → ∃ b' s' k', Best (x3 = []) (x3.getLastD 0) L b' s' ∧ k' + (d + 1) + 1 = k + 1 ∧ PR.butteryref32_Nodes.l1 k (L.map evOf) x3 b s ((i + 1 : Nat) : Int) = if s' = true then PR.butteryref32_Nodes.l0 k' (L.map evOf) (x3 ++ [b']) else some x3 := fun hn => by
      obtain ⟨b', s', k', h1, h2, h3⟩ := ih b s (best_skip hB hn)
      exact ⟨b', s', k', h1, by omega, h3⟩
    have htk : asked L[i] → (x3 = [] ∨ x3.getLastD 0 < L[i].node) → (s = false ∨ L[i].node < b) → ∃ b' s' k', Best (x3 = []) (x3.getLastD 0) L b' s' ∧ k' + (d + 1) + 1 = k + 1 ∧ PR.butteryref32_Nodes.l1 k (L.map evOf) x3 L[i].node true ((i + 1 : Nat) : Int) = if s' = true then PR.butteryref32_Nodes.l0 k' (L.map evOf) (x3 ++ [b']) else some x3 := fun ha hn hb => by
      obtain ⟨b', s', k', h1, h2, h3⟩ := ih _ true (best_take hB ha hn hb)
      exact ⟨b', s', k', h1, by omega, h3⟩
    have hkp : s = true → ¬ L[i].node < b → ∃ b' s' k', Best (x3 = []) (x3.getLastD 0) L b' s' ∧ k' + (d + 1) + 1 = k + 1 ∧ PR.butteryref32_Nodes.l1 k (L.map evOf) x3 b s ((i + 1 : Nat) : Int) = if s' = true then PR.butteryref32_Nodes.l0 k' (L.map evOf) (x3 ++ [b']) else some x3 := fun hs hn => by
      subst hs
      obtain ⟨b', s', k', h1, h2, h3⟩ := ih b true (best_keep hB hn)
      exact ⟨b', s', k', h1, by omega, h3⟩
    have key : ∀ T, asked L[i] → T = (if (x3.length : Int) = 0 then (if s = true then (if L[i].node < b then PR.butteryref32_Nodes.l1 k (L.map evOf) x3 L[i].node true ((i + 1 : Nat) : Int) else PR.butteryref32_Nodes.l1 k (L.map evOf) x3 b s ((i + 1 : Nat) : Int)) else PR.butteryref32_Nodes.l1 k (L.map evOf) x3 L[i].node true ((i + 1 : Nat) : Int)) else (if 0 ≤ (wrap64 ((x3.length : Int) - 1)) then (if (wrap64 ((x3.length : Int) - 1)) < (x3.length : Int) then (if L[i].node > rd x3 (wrap64 ((x3.length : Int) - 1)) then (if s = true then (if L[i].node < b then PR.butteryref32_Nodes.l1 k (L.map evOf) x3 L[i].node true ((i + 1 : Nat) : Int) else PR.butteryref32_Nodes.l1 k (L.map evOf) x3 b s ((i + 1 : Nat) : Int)) else PR.butteryref32_Nodes.l1 k (L.map evOf) x3 L[i].node true ((i + 1 : Nat) : Int)) else PR.butteryref32_Nodes.l1 k (L.map evOf) x3 b s ((i + 1 : Nat) : Int)) else none) else none)) → ∃ b' s' k', Best (x3 = []) (x3.getLastD 0) L b' s' ∧ k' + (d + 1) + 1 = k + 1 ∧ T = if s' = true then PR.butteryref32_Nodes.l0 k' (L.map evOf) (x3 ++ [b']) else some x3 := by
      intro T ha hT
      have tail : ∀ T2, (x3 = [] ∨ x3.getLastD 0 < L[i].node) → T2 = (if s = true then (if L[i].node < b then PR.butteryref32_Nodes.l1 k (L.map evOf) x3 L[i].node true ((i + 1 : Nat) : Int) else PR.butteryref32_Nodes.l1 k (L.map evOf) x3 b s ((i + 1 : Nat) : Int)) else PR.butteryref32_Nodes.l1 k (L.map evOf) x3 L[i].node true ((i + 1 : Nat) : Int)) → ∃ b' s' k', Best (x3 = []) (x3.getLastD 0) L b' s' ∧ k' + (d + 1) + 1 = k + 1 ∧ T2 = if s' = true then PR.butteryref32_Nodes.l0 k' (L.map evOf) (x3 ++ [b']) else some x3 := by
        intro T2 hn h2
        by_cases hs : s = true
        · by_cases hb : L[i].node < b
          · rw [h2, if_pos hs, if_pos hb]; exact htk ha hn (.inr hb)
          · rw [h2, if_pos hs, if_neg hb]; exact hkp hs hb
        · rw [h2, if_neg hs]; exact htk ha hn (.inl (by simpa using hs))
      by_cases hz : (x3.length : Int) = 0
      · rw [if_pos hz] at hT
        exact tail T (.inl (List.length_eq_zero_iff.1 (by omega))) hT
      · have hne : x3 ≠ [] := fun e => hz (by rw [e]; rfl)
        have w3 : wrap64 ((x3.length : Int) - 1) = ((x3.length - 1 : Nat) : Int) := by unfold wrap64; omega
        have hr : rd x3 ((x3.length - 1 : Nat) : Int) = x3.getLastD 0 := by
          unfold rd
          rw [Int.toNat_natCast, List.getD_eq_getElem?_getD, List.getLastD_eq_getLast?, List.getLast?_eq_getElem?]
        rw [if_neg hz, w3, hr, if_pos (by omega), if_pos (by omega)] at hT
        by_cases hg : L[i].node > x3.getLastD 0
        · rw [if_pos hg] at hT
          exact tail T (.inr hg) hT
        · rw [hT, if_neg hg]
          refine hsk fun h => ?_
          rcases h.2 with h2 | h2
          · exact hne h2
          · exact hg h2
    rw [PR.butteryref32_Nodes.l1, if_pos h, if_pos h0, rdE_at hlt, e0, e1, w1]
    by_cases k1 : L[i].kind = 1
    · rw [if_pos k1]
      exact key _ (.inl k1) rfl
    · rw [if_neg k1]
      by_cases k2 : L[i].kind = 2
      · rw [if_pos k2]
        exact key _ (.inr k2) rfl
      · rw [if_neg k2]
        exact hsk fun h => h.1.elim k1 k2
theorem last_take {N : List Int} {m : Nat} (h : m + 1 ≤ N.length) : (N.take (m + 1)).getLastD 0 = N[m] := by
  rw [List.getLastD_eq_getLast?, List.getLast?_take, if_neg (by omega)]
  simp [List.getElem?_eq_getElem (show m < N.length by omega)]
theorem cand_iff {N : List Int} {L : List Ev} (h : IsN N L) {m : Nat} (hm : m ≤ N.length) (c : Int) : Cand (N.take m = []) ((N.take m).getLastD 0) L c ↔ ∃ j, ∃ hj : j < N.length, m ≤ j ∧ N[j] = c := by
  have hlo : ∀ j (hj : j < N.length), (N.take m = [] ∨ (N.take m).getLastD 0 < N[j]) ↔ m ≤ j := by
    intro j hj
    cases m with
    | zero => simp
    | succ m =>
      rw [last_take hm]
      have hne : ¬ N.take (m + 1) = [] := fun e => by
        have h1 := congrArg List.length e
        rw [List.length_take, List.length_nil] at h1
        omega
      constructor
      · rintro (e | e)
        · exact absurd e hne
        · rcases Nat.lt_or_ge j (m + 1) with hj2 | hj2
          · rcases Nat.eq_or_lt_of_le (Nat.le_of_lt_succ hj2) with e2 | e2
            · subst e2; omega
            · have := rise_lt h.rise e2 (by omega)
              omega
          · exact hj2
      · intro hj2
        exact .inr (rise_lt h.rise (by omega) hj)
  constructor
  · rintro ⟨e, he, ha, rfl, hc⟩
    obtain ⟨j, hj, hjn⟩ := List.getElem_of_mem ((h.mem e.node).2 ⟨e, he, ha, rfl⟩)
    rw [← hjn] at hc
    exact ⟨j, hj, (hlo j hj).1 hc, hjn⟩
  · rintro ⟨j, hj, hmj, rfl⟩
    obtain ⟨e, he, ha, hn⟩ := (h.mem N[j]).1 (List.getElem_mem hj)
    exact ⟨e, he, ha, hn, (hlo j hj).2 hmj⟩
theorem nodes_out (L : List Ev) (N : List Int) (hN : IsN N L) (hl : L.length ≤ 1000) : ∀ (d m k : Nat), m + d = N.length → (d + 1) * (L.length + 2) ≤ k → PR.butteryref32_Nodes.l0 k (L.map evOf) (N.take m) = some N := by
  have hln := hN.len
  intro d
  induction d with
  | zero =>
    intro m k hm hk
    cases k with
    | zero => omega
    | succ k =>
      have ht : N.take m = N := List.take_of_length_le (by omega)
      obtain ⟨b', s', k', hB, _, hr⟩ := nodes_in L (N.take m) hl (by rw [List.length_take]; omega) L.length k 0 0 false (by omega) (by omega) ⟨fun h => (by cases h), fun _ c => by rintro ⟨e, he, _⟩; simp at he⟩
      have hs : s' = false := by
        cases s' with
        | false => rfl
        | true =>
          obtain ⟨j, hj, hmj, _⟩ := (cand_iff hN (by omega) b').1 (hB.1 rfl).1
          omega
      rw [hs, if_neg (by decide)] at hr
      rw [PR.butteryref32_Nodes.l0, if_pos (by rw [List.length_map, List.length_take]; omega)]
      rw [show ((0 : Nat) : Int) = 0 from rfl] at hr
      rw [hr, ht]
  | succ d ih =>
    intro m k hm hk
    cases k with
    | zero => rw [Nat.add_mul] at hk; omega
    | succ k =>
      have hk2 : (d + 1 + 1) * (L.length + 2) = (d + 1) * (L.length + 2) + (L.length + 2) := by rw [Nat.add_mul (d + 1), Nat.one_mul]
      obtain ⟨b', s', k', hB, hkk, hr⟩ := nodes_in L (N.take m) hl (by rw [List.length_take]; omega) L.length k 0 0 false (by omega) (by omega) ⟨fun h => (by cases h), fun _ c => by rintro ⟨e, he, _⟩; simp at he⟩
      have hmN : m < N.length := by omega
      have hcm := (cand_iff hN (m := m) (by omega) N[m]).2 ⟨m, hmN, Nat.le_refl _, rfl⟩
      have hs : s' = true := by
        cases s' with
        | true => rfl
        | false => exact absurd hcm (hB.2 rfl _)
      subst hs
      have hbm : b' = N[m] := by
        have h1 := (hB.1 rfl).2 _ hcm
        obtain ⟨j, hj, hmj, hjb⟩ := (cand_iff hN (by omega) b').1 (hB.1 rfl).1
        rcases Nat.eq_or_lt_of_le hmj with e | e
        · subst e; exact hjb.symm
        · have := rise_lt hN.rise e hj
          omega
      rw [if_pos rfl, hbm, ← List.take_succ_eq_append_getElem hmN, ih (m + 1) k' (by omega) (by omega)] at hr
      rw [PR.butteryref32_Nodes.l0, if_pos (by rw [List.length_map, List.length_take]; omega)]
      rw [show ((0 : Nat) : Int) = 0 from rfl] at hr
      exact hr
theorem nodes_any (L : List Ev) (N : List Int) (A : Option Addr) (c : Nat) (w : World) (hN : IsN N L) (hC : kV.C w A L.length L) (hc : L.length ≤ c) (hl : L.length ≤ 1000) : Calls Tryd.prog 24 #[.slice A L.length c] w fun e w' => ∃ B k, e = .returned (.slice B N.length k) ∧ N.length ≤ k ∧ (Kd.int .i64).C w' B N.length N ∧ Below w.heap.size w w' := by
  have hm : (L.map evOf).length = L.length := List.length_map ..
  have h : PR.butteryref32_Nodes.f ((N.length + 1) * (L.length + 2)) (L.map evOf) = some N := nodes_out L N hN hl N.length 0 _ (by omega) (Nat.le_refl _)
  have := PR.butteryref32_Nodes.calls _ A c (L.map evOf) N w (by rw [hm]; exact kV_C hC) (by rw [hm]; exact hc) h
  rw [hm] at this
  refine this.mono ?_
  rintro e w' ⟨v, rfl, hR, hb⟩
  obtain ⟨B, k, rfl⟩ := Kd.R_slice hR
  have hr := Kd.R_reads' hR
  exact ⟨B, k, rfl, hr.2.1, hr.2.2, hb⟩
def pcS (h m : Nat) : Int := if h + m = 0 then 0 else Int.tdiv (100 * (h : Int)) ((h : Int) + m)
theorem pc_f (h m : Nat) (hs : h ≤ 1000) (ms : m ≤ 1000) : PR.butteryref32_Percent.f (h : Int) (m : Int) = some (pcS h m) := by
  have w1 : wrap64 ((h : Int) + (m : Int)) = (h : Int) + m := by unfold wrap64; omega
  have w2 : wrap64 (100 * (h : Int)) = 100 * (h : Int) := by unfold wrap64; omega
  unfold PR.butteryref32_Percent.f pcS
  rw [w1, w2]
  by_cases hz : h + m = 0
  · rw [if_pos (by omega), if_pos hz]
  · rw [if_neg (by omega), if_neg hz]
    have hq : Int.tdiv (100 * (h : Int)) ((h : Int) + m) = ((100 * h / (h + m) : Nat) : Int) := by
      rw [Int.tdiv_eq_ediv_of_nonneg (by omega), show 100 * (h : Int) = ((100 * h : Nat) : Int) by omega, show (h : Int) + (m : Int) = ((h + m : Nat) : Int) by omega, ← Int.natCast_ediv]
    have hle : 100 * h / (h + m) ≤ 100 * h := Nat.div_le_self ..
    rw [hq]
    generalize 100 * h / (h + m) = q at hle
    congr 1
    unfold wrap64
    omega
theorem pc_rep (n : Int) (h m : Nat) (hs : h ≤ 1000) (ms : m ≤ 1000) : PR.report_Percent.f n (h : Int) (m : Int) = some (pcS h m) := by
  have w1 : wrap64 ((h : Int) + (m : Int)) = (h : Int) + m := by unfold wrap64; omega
  have hp := pc_f h m hs ms
  unfold PR.butteryref32_Percent.f at hp
  unfold PR.report_Percent.f
  rw [w1] at hp ⊢
  by_cases hz : h + m = 0
  · rw [if_neg (by omega)]
    rw [if_pos (by omega)] at hp
    exact hp
  · rw [if_pos (by omega), if_neg (by omega)]
    rw [if_neg (by omega)] at hp
    exact hp
theorem pc_i64 (h m : Nat) (hs : h ≤ 1000) (ms : m ≤ 1000) : 0 ≤ pcS h m ∧ pcS h m ≤ 100000 := by
  unfold pcS
  split
  · omega
  · have hq : Int.tdiv (100 * (h : Int)) ((h : Int) + m) = ((100 * h / (h + m) : Nat) : Int) := by
      rw [Int.tdiv_eq_ediv_of_nonneg (by omega), show 100 * (h : Int) = ((100 * h : Nat) : Int) by omega, show (h : Int) + (m : Int) = ((h + m : Nat) : Int) by omega, ← Int.natCast_ediv]
    have hle : 100 * h / (h + m) ≤ 100 * h := Nat.div_le_self ..
    rw [hq]
    generalize 100 * h / (h + m) = q at hle
    omega
theorem refPc_any (h m : Nat) (w : World) (hs : h ≤ 1000) (ms : m ≤ 1000) : Calls Tryd.prog 27 #[.int .i64 h, .int .i64 m] w fun e w' => e = .returned (.int .i64 (pcS h m)) ∧ Drawn0 w w' := PR.butteryref32_Percent.calls _ _ _ w (pc_f h m hs ms)
theorem pc_any (n : Int) (h m : Nat) (w : World) (hs : h ≤ 1000) (ms : m ≤ 1000) : Calls Tryd.prog 26 #[.agg #[.int .i64 n, .int .i64 h, .int .i64 m]] w fun e w' => e = .returned (.int .i64 (pcS h m)) ∧ Below w.heap.size w w' := PR.report_Percent.calls _ _ _ _ w (pc_rep n h m hs ms)
end Go.Proofs.YtgfljpchdiapeaaDoor
namespace Go.Proofs.YtgfljpchdiapeaaDoor
set_option linter.unusedVariables false
set_option linter.unusedSimpArgs false
open Go.RowKit Go.Proofs.YtgfljpchdiapeaaDoorW.PrintWords
attribute [local go_sem ↓] Go.wp_at_zero Go.wp_at_succ
attribute [local go_sem] bsV_get bsV_size bsV_toList
def rowT (n : Int) (h m : Nat) : Bs := ((((((([110, 111, 100, 101, 32] ++ decS n) ++ [58, 32]) ++ decS h) ++ [32, 111, 102, 32]) ++ decS ((h : Int) + m)) ++ [44, 32]) ++ decS (pcS h m)) ++ [32, 105, 110, 32, 97, 32, 104, 117, 110, 100, 114, 101, 100, 10]
theorem rowT_sums (n : Int) (h m : Nat) (hn : I64 n) (hs : h ≤ 1000) (ms : m ≤ 1000) : ∃ s1 s2 s3 s4 s5 s6 s7 s8 : Bs, rowT n h m = s8 ∧ s8.length ≤ 200 ∧
    (∀ W : World, (Op.stringOp .add ⟨#[110, 111, 100, 101, 32]⟩ (bsV (decS n))).run Tryd.prog W = .ok (.string (bsV s1)) W) ∧
    (∀ W : World, (Op.stringOp .add (bsV s1) ⟨#[58, 32]⟩).run Tryd.prog W = .ok (.string (bsV s2)) W) ∧
    (∀ W : World, (Op.stringOp .add (bsV s2) (bsV (decS h))).run Tryd.prog W = .ok (.string (bsV s3)) W) ∧
    (∀ W : World, (Op.stringOp .add (bsV s3) ⟨#[32, 111, 102, 32]⟩).run Tryd.prog W = .ok (.string (bsV s4)) W) ∧
    (∀ W : World, (Op.stringOp .add (bsV s4) (bsV (decS ((h : Int) + m)))).run Tryd.prog W = .ok (.string (bsV s5)) W) ∧
    (∀ W : World, (Op.stringOp .add (bsV s5) ⟨#[44, 32]⟩).run Tryd.prog W = .ok (.string (bsV s6)) W) ∧
    (∀ W : World, (Op.stringOp .add (bsV s6) (bsV (decS (pcS h m)))).run Tryd.prog W = .ok (.string (bsV s7)) W) ∧
    (∀ W : World, (Op.stringOp .add (bsV s7) ⟨#[32, 105, 110, 32, 97, 32, 104, 117, 110, 100, 114, 101, 100, 10]⟩).run Tryd.prog W = .ok (.string (bsV s8)) W) := by
  have l1 := decS_len (n := n) hn.1 hn.2
  have l2 := decS_len (n := (h : Int)) (by omega) (by omega)
  have l3 := decS_len (n := (h : Int) + m) (by omega) (by omega)
  have hp := pc_i64 h m hs ms
  have l4 := decS_len (n := pcS h m) (by omega) (by omega)
  obtain ⟨s1, e1, k1, a1⟩ := add_to [110, 111, 100, 101, 32] (decS n) (by simp only [List.length_cons, List.length_nil]; omega)
  obtain ⟨s2, e2, k2, a2⟩ := add_to s1 [58, 32] (by simp only [List.length_cons, List.length_nil] at *; omega)
  obtain ⟨s3, e3, k3, a3⟩ := add_to s2 (decS h) (by simp only [List.length_cons, List.length_nil] at *; omega)
  obtain ⟨s4, e4, k4, a4⟩ := add_to s3 [32, 111, 102, 32] (by simp only [List.length_cons, List.length_nil] at *; omega)
  obtain ⟨s5, e5, k5, a5⟩ := add_to s4 (decS ((h : Int) + m)) (by simp only [List.length_cons, List.length_nil] at *; omega)
  obtain ⟨s6, e6, k6, a6⟩ := add_to s5 [44, 32] (by simp only [List.length_cons, List.length_nil] at *; omega)
  obtain ⟨s7, e7, k7, a7⟩ := add_to s6 (decS (pcS h m)) (by simp only [List.length_cons, List.length_nil] at *; omega)
  obtain ⟨s8, e8, k8, a8⟩ := add_to s7 [32, 105, 110, 32, 97, 32, 104, 117, 110, 100, 114, 101, 100, 10] (by simp only [List.length_cons, List.length_nil] at *; omega)
  refine ⟨s1, s2, s3, s4, s5, s6, s7, s8, by rw [e8, e7, e6, e5, e4, e3, e2, e1, rowT], by simp only [List.length_cons, List.length_nil] at *; omega, a1, a2, a3, a4, a5, a6, a7, a8⟩
theorem rowT_len (n : Int) (h m : Nat) (hn : I64 n) (hs : h ≤ 1000) (ms : m ≤ 1000) : (rowT n h m).length ≤ 200 := by
  obtain ⟨_, _, _, _, _, _, _, s8, e, hl, _⟩ := rowT_sums n h m hn hs ms
  rw [e]; exact hl
set_option maxHeartbeats 4000000 in
theorem refRow_any (n : Int) (h m : Nat) (hn : Hid (I64 n)) (hs : h ≤ 1000) (ms : m ≤ 1000) (w : World) : Calls Tryd.prog 28 #[.int .i64 n, .int .i64 h, .int .i64 m] w (QS w (rowT n h m)) := by
  have HD1 := Lib.hid (fun W => refDec_any n hn W)
  have HD2 := Lib.hid (fun W => refDec_any (h : Int) (Lib.hid ⟨by omega, by omega⟩) W)
  have HD3 := Lib.hid (fun W => refDec_any ((h : Int) + m) (Lib.hid ⟨by omega, by omega⟩) W)
  have hp := pc_i64 h m hs ms
  have HD4 := Lib.hid (fun W => refDec_any (pcS h m) (Lib.hid ⟨by omega, by omega⟩) W)
  have HP := Lib.hid (fun W => refPc_any h m W hs ms)
  have hwr : IntKind.i64.wrap ((h : Int) + (m : Int)) = (h : Int) + m := by rw [IntKind.wrap_i64]; omega
  obtain ⟨s1, s2, s3, s4, s5, s6, s7, s8, he, hl, a1, a2, a3, a4, a5, a6, a7, a8⟩ := rowT_sums n h m hn.out hs ms
  have HE := Lib.hid he
  clear he hl hp
  generalize pcS h m = pc at *
  generalize decS n = d1 at *
  generalize decS (h : Int) = d2 at *
  generalize decS ((h : Int) + m) = d3 at *
  generalize decS pc = d4 at *
  go_enter Tryd.func28, Tryd.ntmps28
  go_wp2_with fail
  refine (HD1.out w).mono ?_
  rintro x w1 ⟨rfl, hb⟩
  have B1 := Lib.hid hb
  clear hb
  go_wp2_with fail
  refine (HD2.out w1).mono ?_
  rintro x w2 ⟨rfl, hb⟩
  have B2 := Lib.hid (B1.out.trans (hb.mono B1.out.size))
  clear hb
  go_wp2_with fail
  refine (HD3.out w2).mono ?_
  rintro x w3 ⟨rfl, hb⟩
  have B3 := Lib.hid (B2.out.trans (hb.mono B2.out.size))
  clear hb
  go_wp2_with fail
  refine (HP.out w3).mono ?_
  rintro x w4 ⟨rfl, hb⟩
  have B4 := Lib.hid (B3.out.trans (hb.below.mono B3.out.size))
  clear hb
  go_wp2_with fail
  refine (HD4.out w4).mono ?_
  rintro x w5 ⟨rfl, hb⟩
  have B5 := Lib.hid (B4.out.trans (hb.mono B4.out.size))
  clear hb
  go_wp2_with fail
  go_ret
  exact ⟨by rw [HE.out]; rfl, B5.out⟩
theorem owns_belowF {B : Nat} {e : TypeId} {v : Value} {n : Nat} {xs : List Value} {w w' : World} (h : w.ownsRowF B e 1 v n xs) (hb : Below w.heap.size w w') : w'.ownsRowF B e 1 v n xs :=
  h.kept (row := none) ⟨hb.os, hb.tape, hb.output, hb.size, fun k hk _ => hb.block k hk⟩ (by cases hv : v.ownBlock <;> simp)
theorem at_belowF {T e B b : Nat} {p : Value} {bs : List Value} {w w' : World} (h : Lib.BuilderAtF T e B b p bs w) (hb : Below w.heap.size w w') : Lib.BuilderAtF T e B b p bs w' := by
  obtain ⟨h1, v, h2, h3, h4⟩ := h
  exact ⟨h1, v, (hb.block b (Array.getElem?_eq_some_iff.1 h2).1).trans h2, owns_belowF h3 hb, h4⟩
theorem is_belowF {T e B b : Nat} {bs : List Value} {w w' : World} (h : Lib.IsBuilderF T e B b bs w) (hb : Below w.heap.size w w') : Lib.IsBuilderF T e B b bs w' := h.imp (at_belowF · hb) (at_belowF · hb)
def tabS (X : List Tl) : Bs := X.flatMap fun t => rowT t.node t.hits.toNat t.miss.toNat
theorem tabS_take {X : List Tl} {i : Nat} (h : i < X.length) : tabS (X.take (i + 1)) = tabS (X.take i) ++ rowT X[i].node X[i].hits.toNat X[i].miss.toNat := by
  rw [List.take_succ_eq_append_getElem h, tabS, List.flatMap_append]
  simp [tabS]
def okTl (t : Tl) : Prop := I64 t.node ∧ ∃ h m : Nat, t.hits = h ∧ t.miss = m ∧ h ≤ 1000 ∧ m ≤ 1000
theorem tabS_len : ∀ X : List Tl, (∀ t ∈ X, okTl t) → (tabS X).length ≤ 200 * X.length
  | [], _ => Nat.le_refl _
  | t :: X, h => by
    obtain ⟨h1, a, b, e1, e2, h2, h3⟩ := h t List.mem_cons_self
    have := tabS_len X fun x hx => h x (List.mem_cons_of_mem _ hx)
    have hr := rowT_len t.node a b h1 h2 h3
    unfold tabS at *
    rw [List.flatMap_cons, List.length_append, List.length_cons, e1, e2, Int.toNat_natCast, Int.toNat_natCast]
    omega
set_option maxHeartbeats 8000000 in
set_option maxRecDepth 100000 in
theorem table32_any (X : List Tl) (A : Option Addr) (c : Nat) (w : World) (hC : kT.C w A X.length X) (hc : X.length ≤ c) (hk : ∀ t ∈ X, okTl t) (hn : X.length ≤ 1000) : Calls Tryd.prog 29 #[.slice A X.length c] w (QS w (tabS X)) := by
  have HC := Lib.hid hC
  have HK := Lib.hid hk
  have HTL := Lib.hid (tabS_len X hk)
  clear hC hk
  go_enter Tryd.func29, Tryd.ntmps29
  go_wp2_with fail
  go_loopw [8] (fun iv wr => ∃ i : Nat, i ≤ X.length ∧ iv = .int .i64 i ∧ Hid (Lib.IsBuilderF 71 5 w.heap.size w.heap.size (Lib.byteCells (tabS (X.take i))) wr ∧ Below w.heap.size w wr)) (fun iv _ => X.length - (intOf iv).toNat)
  case atStart => exact ⟨0, Nat.zero_le _, rfl, Lib.IsBuilderF.of (Lib.fresh_isBuilder _ _ w), (Below.refl _ w).alloc (Nat.le_refl _) _⟩
  case round =>
    obtain ⟨i, hi, rfl, HI⟩ := hrel
    by_cases hlt : i < X.length
    · have i1 : (0 : Int) ≤ (i : Int) := by omega
      have i2 : (i : Int) < (X.length : Int) := by omega
      have hwi : IntKind.i64.wrap ((i : Int) + 1) = (i : Int) + 1 := by rw [IntKind.wrap_i64]; omega
      obtain ⟨ad, hA, hat⟩ := tl_at (Kd.C_below HC.out HI.out.2) hlt
      subst hA
      obtain ⟨k0, k1, k2⟩ := hat wr (Below.refl _ _)
      obtain ⟨hno, h, m, e1, e2, hs, ms⟩ := HK.out X[i] (List.getElem_mem hlt)
      have HTK := Lib.hid (show tabS (X.take (i + 1)) = tabS (X.take i) ++ rowT X[i].node h m by rw [tabS_take hlt, e1, e2, Int.toNat_natCast, Int.toNat_natCast])
      rw [e1] at k1
      rw [e2] at k2
      generalize X[i].node = n at *
      clear e1 e2 hat
      have HBI := Lib.hid HI.out.1
      have HBW := Lib.hid HI.out.2
      clear HI
      have HAL : (tabS (X.take i)).length ≤ 200000 := by
        have h1 := tabS_len (X.take i) fun t ht => HK.out t (List.mem_of_mem_take ht)
        rw [List.length_take] at h1
        omega
      have HBA := Lib.hid (bel_alloc wr (.cells #[.int .i64 n, .int .i64 h, .int .i64 m] 56))
      have HXA := Lib.hid (heap_alloc_new wr (.cells #[.int .i64 n, .int .i64 h, .int .i64 m] 56))
      go_upto_region 5 with (fail)
      generalize wr.alloc (.cells #[.int .i64 n, .int .i64 h, .int .i64 m] 56) = wx at *
      clear k0 k1 k2
      have HBX := Lib.hid (is_belowF HBI.out HBA.out)
      have HBY := Lib.hid (HBW.out.trans (HBA.out.mono HBW.out.size))
      have HTB := Lib.hid (show wr.heap.size ≠ w.heap.size from fun e => by
        have h1 : w.heap.size < wr.heap.size := by
          rcases HBI.out with hh | hh
          · exact hh.lt
          · exact hh.lt
        omega)
      clear HBI HBW HBA
      generalize wr.heap.size = tb at *
      have x0 : wx.cell? ⟨tb, 0, none⟩ = some (.int .i64 n) := cell_of_row wx _ 0 _ _ (0, 0) HXA.out
      have x1 : wx.cell? ⟨tb, 1, none⟩ = some (.int .i64 h) := cell_of_row wx _ 1 _ _ (0, 0) HXA.out
      have x2 : wx.cell? ⟨tb, 2, none⟩ = some (.int .i64 m) := cell_of_row wx _ 2 _ _ (0, 0) HXA.out
      have HCL := Lib.hid (show ∀ W : World, W.heap[tb]? = some (.cells #[.int .i64 n, .int .i64 h, .int .i64 m] 56 (0, 0)) → W.cell? ⟨tb, 0, none⟩ = some (.int .i64 n) ∧ W.cell? ⟨tb, 1, none⟩ = some (.int .i64 h) ∧ W.cell? ⟨tb, 2, none⟩ = some (.int .i64 m) from fun W hW => ⟨cell_of_row W _ 0 _ _ (0, 0) hW, cell_of_row W _ 1 _ _ (0, 0) hW, cell_of_row W _ 2 _ _ (0, 0) hW⟩)
      have HXX := Lib.hid (show ∀ W : World, Below wx.heap.size wx W → W.cell? ⟨tb, 0, none⟩ = some (.int .i64 n) ∧ W.cell? ⟨tb, 1, none⟩ = some (.int .i64 h) ∧ W.cell? ⟨tb, 2, none⟩ = some (.int .i64 m) from fun W hW => HCL.out W ((hW.block _ (Array.getElem?_eq_some_iff.1 HXA.out).1).trans HXA.out))
      have HDN := Lib.hid (show ∀ (x : Int) (_ : I64 x) (W : World), Below wx.heap.size wx W → Calls Tryd.prog 34 #[.int .i64 x] W fun e w' => e = .returned (.string (bsV (decS x))) ∧ Below wx.heap.size wx w' from fun x hx W hW => (dec_any x (Lib.hid hx) W).mono fun e w' ⟨he, hb⟩ => ⟨he, hb ▸ hW⟩)
      have HD1 := Lib.hid (HDN.out n hno)
      have HD2 := Lib.hid (HDN.out (h : Int) ⟨by omega, by omega⟩)
      have HD3 := Lib.hid (HDN.out ((h : Int) + m) ⟨by omega, by omega⟩)
      have hp := pc_i64 h m hs ms
      have HD4 := Lib.hid (HDN.out (pcS h m) ⟨by omega, by omega⟩)
      have HP := Lib.hid (show ∀ W : World, Below wx.heap.size wx W → Calls Tryd.prog 26 #[.agg #[.int .i64 n, .int .i64 h, .int .i64 m]] W fun e w' => e = .returned (.int .i64 (pcS h m)) ∧ Below wx.heap.size wx w' from fun W hW => (pc_any n h m W hs ms).mono fun e w' ⟨he, hb⟩ => ⟨he, hW.trans (hb.mono hW.size)⟩)
      obtain ⟨s1, s2, s3, s4, s5, s6, s7, s8, he, hl, a1, a2, a3, a4, a5, a6, a7, a8⟩ := rowT_sums n h m hno hs ms
      rw [he] at HTK
      have HWS := Lib.hid (show ∀ W : World, Below wx.heap.size wx W → Calls Tryd.prog 38 #[.pointer (some ⟨w.heap.size, 0, none⟩), .string (bsV s8)] W fun e w' => e = .returned (.tuple #[.int .i64 (bsV s8).size, .nilIface]) ∧ Lib.IsBuilderF 71 5 w.heap.size w.heap.size (Lib.byteCells (tabS (X.take (i + 1)))) w' ∧ Below w.heap.size w w' ∧ W.heap.size ≤ w'.heap.size ∧ w'.heap[tb]? = some (.cells #[.int .i64 n, .int .i64 h, .int .i64 m] 56 (0, 0)) from fun W hW => by
        refine (Any.Builder_WriteString_k ly166 lyX w.heap.size w.heap.size _ (bsV s8) W (is_belowF HBX.out hW) (by rw [bc_len, bsV_size]; omega) (Nat.le_trans HBY.out.size hW.size)).mono fun e w' ⟨h1, h2, h3, h4⟩ => ⟨h1, .inr ?_, (HBY.out.trans (hW.mono HBY.out.size)).trans h3, h3.size, ?_⟩
        · rw [HTK.out]
          have e1 : Lib.byteCells (tabS (X.take i)) ++ Lib.strCells (bsV s8) = Lib.byteCells (tabS (X.take i) ++ s8) := by rw [Lib.strCells_eq, bsV_list, ← Lib.byteCells_append]
          rw [e1] at h2
          exact h2
        · exact h4 tb _ ((hW.block _ (Array.getElem?_eq_some_iff.1 HXA.out).1).trans HXA.out) (fun e => HTB.out (by injection e)) (fun c fz e => by injection e with _ e2; exact absurd e2 (by decide)))
      have hwr : IntKind.i64.wrap ((h : Int) + (m : Int)) = (h : Int) + m := by rw [IntKind.wrap_i64]; omega
      have z0 : Hid (Below wx.heap.size wx wx.drew) := (Drawn0.below ⟨1, rfl⟩)
      have HH := Lib.hid (⟨hs, ms, hp⟩ : h ≤ 1000 ∧ m ≤ 1000 ∧ _)
      clear he hl hno hs ms hp HTK HDN HBX HBY HXA HAL
      generalize pcS h m = pc at *
      generalize decS n = d1 at *
      generalize decS (h : Int) = d2 at *
      generalize decS ((h : Int) + m) = d3 at *
      generalize decS pc = d4 at *
      go_region_held3 (fun w' => w'.cell? ⟨tb, 0, none⟩ = some (.int .i64 n) ∧ w'.cell? ⟨tb, 1, none⟩ = some (.int .i64 h) ∧ w'.cell? ⟨tb, 2, none⟩ = some (.int .i64 m))
        (first | exact ⟨x0, x1, x2⟩ | exact HXX.out _ z0.out | exact HXX.out _ z1.out | exact HXX.out _ z2.out | exact HXX.out _ z3.out | exact HXX.out _ z4.out | exact HXX.out _ z5.out | exact HCL.out _ z6.out.2.2.2)
        (first
        | (go_at_call 34; ((with_reducible refine (HD1.out _ ?_).mono ?_)); (case refine_1 => first | exact z0.out | exact Below.refl _ _); rintro e y1 ⟨rfl, hb⟩; have z1 := Lib.hid hb; clear hb HD1)
        | (go_at_call 34; ((with_reducible refine (HD2.out _ ?_).mono ?_)); (case refine_1 => exact z1.out); rintro e y2 ⟨rfl, hb⟩; have z2 := Lib.hid hb; clear hb HD2)
        | (go_at_call 34; ((with_reducible refine (HD3.out _ ?_).mono ?_)); (case refine_1 => exact z2.out); rintro e y3 ⟨rfl, hb⟩; have z3 := Lib.hid hb; clear hb HD3)
        | (go_at_call 26; ((with_reducible refine (HP.out _ ?_).mono ?_)); (case refine_1 => exact z3.out); rintro e y4 ⟨rfl, hb⟩; have z4 := Lib.hid hb; clear hb HP)
        | (go_at_call 34; ((with_reducible refine (HD4.out _ ?_).mono ?_)); (case refine_1 => exact z4.out); rintro e y5 ⟨rfl, hb⟩; have z5 := Lib.hid hb; clear hb HD4)
        | (go_at_call 38; ((with_reducible refine (HWS.out _ ?_).mono ?_)); (case refine_1 => exact z5.out); rintro e y6 ⟨rfl, hb⟩; have z6 := Lib.hid hb; clear hb HWS))
      all_goals
        go_wp2_with fail
        go_roundw
        case rel => exact ⟨i + 1, by omega, by go_num, z6.out.1, z6.out.2.1⟩
        case measure => simp [intOf]; omega
    · have hi3 : ¬ (i : Int) < (X.length : Int) := by omega
      have HT := Lib.hid (show tabS (X.take i) = tabS X by rw [List.take_of_length_le (by omega)])
      have HBS := Lib.hid (Any.Builder_String_any_k ly169 lyX _ _ _ _ HI.out.1 HI.out.2.size)
      go_wp2_with fail
      refine HBS.out.mono ?_
      rintro x w1 ⟨rfl, _, hb, _⟩
      have B1 := Lib.hid (HI.out.2.trans hb)
      clear hb
      go_wp2_with fail
      go_ret
      exact ⟨by rw [← HT.out]; rfl, B1.out⟩
end Go.Proofs.YtgfljpchdiapeaaDoor
namespace Go.Proofs.YtgfljpchdiapeaaDoor
set_option linter.unusedVariables false
set_option linter.unusedSimpArgs false
open Go.RowKit Go.Proofs.YtgfljpchdiapeaaDoorW.PrintWords
attribute [local go_sem ↓] Go.wp_at_zero Go.wp_at_succ
attribute [local go_sem] bsV_get bsV_size bsV_toList
structure TS (w : World) (K : List Ev) (N : List Int) (wr : World) (v : Value) : Prop where
  isn : IsN N K
  row : kT.R 56 wr w.heap.size (fun _ => True) v (N.map (tlOf K))
  bel : Below w.heap.size w wr
structure TP (w : World) (K : List Ev) (e : Ev) (N : List Int) (p eb : Nat) (O : Obj) (wr : World) (v : Value) : Prop where
  isn : IsN N (K ++ [e])
  row : kT.R 56 wr w.heap.size (fun _ => True) v (N.map (tlOf K))
  bel : Below w.heap.size w wr
  at_ : ∃ h : p < N.length, N[p] = e.node
  ev : wr.heap[eb]? = some O
theorem tl_bump1 {K : List Ev} {e : Ev} (hk : e.kind = 1) : tlOf (K ++ [e]) e.node = ⟨e.node, (tm 1 e.node K : Int) + 1, tm 2 e.node K⟩ := by
  unfold tlOf
  rw [tm_snoc, tm_snoc, if_pos ⟨hk, rfl⟩, if_neg fun x => by have := x.1; omega]
  simp
theorem tl_bump2 {K : List Ev} {e : Ev} (hk : e.kind = 2) : tlOf (K ++ [e]) e.node = ⟨e.node, tm 1 e.node K, (tm 2 e.node K : Int) + 1⟩ := by
  unfold tlOf
  rw [tm_snoc, tm_snoc, if_neg fun x => by have := x.1; omega, if_pos ⟨hk, rfl⟩]
  simp
set_option maxHeartbeats 8000000 in
set_option maxRecDepth 100000 in
theorem tallies_any (L : List Ev) (A : Option Addr) (c : Nat) (w : World) (hC : kV.C w A L.length L) (hc : L.length ≤ c) (hk : ∀ d ∈ L, okV d) (hn : L.length ≤ 1000) : Calls Tryd.prog 23 #[.slice A L.length c] w fun e w' =>
    ∃ N B k, e = .returned (.slice B N.length k) ∧ N.length ≤ k ∧ Hid (IsN N L ∧ kT.C w' B N.length (N.map (tlOf L)) ∧ Below w.heap.size w w') := by
  have HC := Lib.hid hC
  have HK := Lib.hid hk
  clear hC hk
  go_enter Tryd.func23, Tryd.ntmps23
  go_wp2_with fail
  go_loopw [3, 10] (fun ov iv wr => ∃ (i : Nat) (N : List Int) (B : Option Addr) (k : Nat), i ≤ L.length ∧ iv = .int .i64 i ∧ ov = .slice B N.length k ∧ Hid (TS w (L.take i) N wr (.slice B N.length k))) (fun _ iv _ => L.length - (intOf iv).toNat)
  case atStart => exact ⟨0, [], none, 0, Nat.zero_le _, rfl, rfl, IsN.nil, Kd.R_nil _ _ _ _ _, Below.refl _ _⟩
  case round =>
    obtain ⟨i, N, B, k, hi, rfl, rfl, HI⟩ := hrel
    by_cases hlt : i < L.length
    · have i1 : (0 : Int) ≤ (i : Int) := by omega
      have i2 : (i : Int) < (L.length : Int) := by omega
      have hwi : IntKind.i64.wrap ((i : Int) + 1) = (i : Int) + 1 := by rw [IntKind.wrap_i64]; omega
      obtain ⟨e, he⟩ : ∃ e, L[i] = e := ⟨_, rfl⟩
      obtain ⟨ad, A1, c1, rfl, hEM, k0, k1, k2, k3, k4, k5, k6, k7⟩ := event_at (Kd.C_below HC.out HI.out.bel) hlt he (HK.out e (by rw [← he]; exact List.getElem_mem hlt))
      have HTK := Lib.hid (show L.take (i + 1) = L.take i ++ [e] by rw [List.take_succ_eq_append_getElem hlt, he])
      have HKL := Lib.hid (show (L.take i).length ≤ 1000 by rw [List.length_take]; omega)
      have HBA := Lib.hid (bel_alloc wr (.cells #[.int .i64 e.kind, .int .i64 e.node, .string (bsV e.key), .int .i64 e.ver, .int .i64 e.asof, .int .i64 e.ends, .slice A1 e.value.length c1, .bool e.found] 30))
      have HXA := Lib.hid (heap_alloc_new wr (.cells #[.int .i64 e.kind, .int .i64 e.node, .string (bsV e.key), .int .i64 e.ver, .int .i64 e.asof, .int .i64 e.ends, .slice A1 e.value.length c1, .bool e.found] 30))
      clear hEM he
      go_upto_region 5 with (fail)
      generalize wr.alloc (.cells #[.int .i64 e.kind, .int .i64 e.node, .string (bsV e.key), .int .i64 e.ver, .int .i64 e.asof, .int .i64 e.ends, .slice A1 e.value.length c1, .bool e.found] 30) = wx at *
      clear k0 k1 k2 k3 k4 k5 k6 k7
      have HTX := Lib.hid (show TS w (L.take i) N wx (.slice B N.length k) from ⟨HI.out.isn, Kd.R_below HI.out.row HBA.out, HI.out.bel.trans (HBA.out.mono HI.out.bel.size)⟩)
      have HEB := Lib.hid (show wr.heap.size < wx.heap.size from (Array.getElem?_eq_some_iff.1 HXA.out).1)
      clear HI HBA
      generalize wr.heap.size = eb at *
      generalize L.take i = K at *
      have x0 : wx.cell? ⟨eb, 0, none⟩ = some (.int .i64 e.kind) := cell_of_row wx _ 0 _ _ (0, 0) HXA.out
      have x1 : wx.cell? ⟨eb, 1, none⟩ = some (.int .i64 e.node) := cell_of_row wx _ 1 _ _ (0, 0) HXA.out
      by_cases ha : asked e
      · have HA := Lib.hid ha
        have hkk : ((e.kind != 1) = false ∨ (e.kind != 1) = true ∧ (e.kind != 2) = false) := by rcases ha with h | h <;> rw [h] <;> simp
        clear ha
        have hm : (N.map (tlOf K)).length = N.length := List.length_map ..
        have HNL := Lib.hid (show N.length ≤ 1000 from Nat.le_trans HTX.out.isn.len HKL.out)
        have HBS := Lib.hid (show Calls Tryd.prog 49 #[.slice B N.length k, .int .i64 e.node, .func (.func 50) #[] #[]] wx fun e' w' => ∃ p q, Hid (Finds (N.map (tlOf K)) e.node p q) ∧ e' = .returned (.tuple #[.int .i64 p, .bool q]) ∧ Below wx.heap.size wx w' from by
          have h := bsf_any e.node (N.map (tlOf K)) B k wx (by have := (Kd.R_reads' HTX.out.row).2.2; rwa [hm] at this ⊢) (fun i j h hij => by rw [List.getElem_map, List.getElem_map]; exact rise_lt HTX.out.isn.rise hij (by simpa using h)) (by rw [hm]; exact HNL.out)
          rw [hm] at h
          exact h)
        clear hm
        rcases hkk with h1 | ⟨h1, h2⟩
        all_goals
          go_upto_region 6 with (fail)
          go_wp2_with fail
          refine HBS.out.mono ?_
          rintro x w1 ⟨p, q, HF, rfl, hb⟩
          have HX1 := Lib.hid ((hb.block eb HEB.out).trans HXA.out)
          have HT1 := Lib.hid (show TS w K N w1 (.slice B N.length k) from ⟨HTX.out.isn, Kd.R_below HTX.out.row hb, HTX.out.bel.trans (hb.mono HTX.out.bel.size)⟩)
          have HEB1 := Lib.hid (Nat.lt_of_lt_of_le HEB.out hb.size)
          clear hb x0 x1 HXA HTX HBS HEB
          have x0 : w1.cell? ⟨eb, 0, none⟩ = some (.int .i64 e.kind) := cell_of_row w1 _ 0 _ _ (0, 0) HX1.out
          have x1 : w1.cell? ⟨eb, 1, none⟩ = some (.int .i64 e.node) := cell_of_row w1 _ 1 _ _ (0, 0) HX1.out
          go_upto_if 30 with (fail)
          go_cut [3] (fun ov wx => ∃ (N' : List Int) (B' : Option Addr) (k' : Nat), ov = .slice B' N'.length k' ∧ Hid (TP w K e N' p eb (.cells #[.int .i64 e.kind, .int .i64 e.node, .string (bsV e.key), .int .i64 e.ver, .int .i64 e.asof, .int .i64 e.ends, .slice A1 e.value.length c1, .bool e.found] 30 (0, 0)) wx (.slice B' N'.length k')))
          case first =>
            cases q with
            | true =>
              obtain ⟨hp, hpe⟩ := HF.out.2.2.2.1 rfl
              have hp' : p < N.length := by simpa using hp
              have hn : N[p] = e.node := by rw [List.getElem_map] at hpe; exact hpe
              have HR := Lib.hid (show TP w K e N p eb (.cells #[.int .i64 e.kind, .int .i64 e.node, .string (bsV e.key), .int .i64 e.ver, .int .i64 e.asof, .int .i64 e.ends, .slice A1 e.value.length c1, .bool e.found] 30 (0, 0)) w1 (.slice B N.length k) from ⟨HT1.out.isn.found HA.out hp' hn, HT1.out.row, HT1.out.bel, ⟨hp', hn⟩, HX1.out⟩)
              clear hp hpe hp' hn
              go_wp2_with fail
              go_meet
              exact ⟨N, B, k, rfl, HR.out⟩
            | false =>
              have HIN := Lib.hid (InsT_any w.heap.size (.slice B N.length k) (N.map (tlOf K)) p ⟨e.node, 0, 0⟩ w1 HF.out.1 HT1.out.row HT1.out.bel.size (by rw [List.length_map]; have := HNL.out; omega))
              go_wp2_with fail
              refine HIN.out.mono ?_
              rintro x w2 ⟨v2, rfl, hR, hg, hv⟩
              have hpl : p ≤ N.length := by have := HF.out.1; rwa [List.length_map] at this
              have hlo : ∀ j (hj : j < N.length), j < p → N[j] < e.node := fun j hj hjp => by
                have := HF.out.2.1 j (by rw [List.length_map]; exact hj) hjp
                rwa [List.getElem_map] at this
              have hhi : ∀ j (hj : j < N.length), p ≤ j → e.node < N[j] := fun j hj hjp => by
                have h3 := HF.out.2.2.2.2 rfl (by rw [List.length_map]; omega)
                rw [List.getElem_map] at h3
                rcases Nat.eq_or_lt_of_le hjp with h4 | h4
                · subst h4; exact h3
                · exact Int.lt_trans h3 (rise_lt HT1.out.isn.rise h4 hj)
              have hni : e.node ∉ N := fun hm => by
                obtain ⟨j, hj, hjn⟩ := List.getElem_of_mem hm
                rcases Nat.lt_or_ge j p with h4 | h4
                · have := hlo j hj h4; omega
                · have := hhi j hj h4; omega
              have hIS := HT1.out.isn.put HA.out hpl hlo hhi
              have hX : ins (N.map (tlOf K)) p ⟨e.node, 0, 0⟩ = (ins N p e.node).map (tlOf K) := by rw [ins_map, tlOf_new HT1.out.isn hni]
              rw [hX] at hR
              obtain ⟨B', k', hv2⟩ := Kd.R_slice hR
              rw [List.length_map] at hv2
              subst hv2
              have hgt := ins_get N p e.node hpl
              have hli : p < (ins N p e.node).length := by rw [ins_len _ _ _ hpl]; omega
              have HR := Lib.hid (show TP w K e (ins N p e.node) p eb (.cells #[.int .i64 e.kind, .int .i64 e.node, .string (bsV e.key), .int .i64 e.ver, .int .i64 e.asof, .int .i64 e.ends, .slice A1 e.value.length c1, .bool e.found] 30 (0, 0)) w2 (.slice B' (ins N p e.node).length k') from
                ⟨hIS, hR, HT1.out.bel.grown hg HT1.out.bel.size (fun j hj => own_base (OwnTl.of_R HT1.out.row) j hj), ⟨hli, hgt hli⟩, (hg.block eb HEB1.out (fun he => by
                  obtain ⟨cs, hcs⟩ := own_typed (OwnTl.of_R HT1.out.row) eb he.symm
                  rw [HX1.out] at hcs
                  injection hcs with hcs
                  injection hcs with _ hcs
                  exact absurd hcs (by decide))).trans HX1.out⟩)
              clear hR hg hv hpl hlo hhi hni hIS hX hgt hli HIN
              generalize ins N p e.node = N2 at HR
              go_wp2_with fail
              go_meet
              exact ⟨N2, B', k', rfl, HR.out⟩
          case rest =>
            obtain ⟨N', B', k', rfl, HP⟩ := hcut
            obtain ⟨wb, rfl⟩ : ∃ wb : World, wb = wc := ⟨_, rfl⟩
            clear x0 x1 HX1 HT1 HEB1 HF
            have x0 : wb.cell? ⟨eb, 0, none⟩ = some (.int .i64 e.kind) := cell_of_row wb _ 0 _ _ (0, 0) HP.out.ev
            obtain ⟨hp, hn⟩ := HP.out.at_
            have ho := OwnTl.of_R HP.out.row
            rw [show Value.slice B' N'.length k' = .slice B' (N'.map (tlOf K)).length k' by rw [List.length_map]] at ho
            have hpm : p < (N'.map (tlOf K)).length := by rw [List.length_map]; exact hp
            have hgp : (N'.map (tlOf K))[p] = ⟨e.node, tm 1 e.node K, tm 2 e.node K⟩ := by rw [List.getElem_map, hn]; rfl
            obtain ⟨g, hgB⟩ : ∃ g, B' = some ⟨g, 0, none⟩ := by
              rcases ho.2 with ⟨_, h0⟩ | ⟨g, cap, cur, hv, _⟩
              · omega
              · injection hv with e1 _ _
                exact ⟨g, e1⟩
            subst hgB
            obtain ⟨d0, d1, d2, df⟩ := ho.cells hpm
            rw [hgp] at d0 d1 d2
            have df1 := df (p * 3 + 1)
            have df2 := df (p * 3 + 2)
            have HBG := Lib.hid (show w.heap.size ≤ g from own_base ho g rfl)
            have HO := Lib.hid ho
            have HGP := Lib.hid hgp
            have HPM := Lib.hid hpm
            have HPN := Lib.hid hp
            have HNN := Lib.hid hn
            have i3 : (0 : Int) ≤ (p : Int) := by omega
            have i4 : (p : Int) < (N'.length : Int) := by omega
            have ht1 : tm 1 e.node K ≤ 1000 := Nat.le_trans (tm_le _ _ _) HKL.out
            have ht2 : tm 2 e.node K ≤ 1000 := Nat.le_trans (tm_le _ _ _) HKL.out
            have hw1 : IntKind.i64.wrap ((tm 1 e.node K : Int) + 1) = (tm 1 e.node K : Int) + 1 := by rw [IntKind.wrap_i64]; omega
            have hw2 : IntKind.i64.wrap ((tm 2 e.node K : Int) + 1) = (tm 2 e.node K : Int) + 1 := by rw [IntKind.wrap_i64]; omega
            clear df ho hgp hn
            by_cases hk1 : e.kind = 1
            · have hq1 : (e.kind == 1) = true := by rw [hk1]; rfl
              have HN1 := Lib.hid (show TS w (L.take (i + 1)) N' (wb.setCell ⟨g, p * 3 + 1, none⟩ (.int .i64 ((tm 1 e.node K : Int) + 1))) (.slice (some ⟨g, 0, none⟩) N'.length k') by
                have h := HO.out.set1 HPM.out ((tm 1 e.node K : Int) + 1)
                rw [HGP.out] at h
                dsimp only at h
                rw [← tl_bump1 hk1, map_bump HP.out.isn.rise HPN.out HNN.out] at h
                rw [List.length_map] at h
                rw [HTK.out]
                exact ⟨HP.out.isn, h.to_R, HP.out.bel.setCell (p := ⟨g, p * 3 + 1, none⟩) HBG.out _⟩)
              clear hk1
              go_wp2_with fail
              go_roundw
              case rel => exact ⟨i + 1, N', some ⟨g, 0, none⟩, k', by omega, by go_num, rfl, HN1.out⟩
              case measure => simp [intOf]; omega
            · have hk2 : e.kind = 2 := HA.out.resolve_left hk1
              have hq1 : (e.kind == 1) = false := by rw [hk2]; rfl
              have HN1 := Lib.hid (show TS w (L.take (i + 1)) N' (wb.setCell ⟨g, p * 3 + 2, none⟩ (.int .i64 ((tm 2 e.node K : Int) + 1))) (.slice (some ⟨g, 0, none⟩) N'.length k') by
                have h := HO.out.set2 HPM.out ((tm 2 e.node K : Int) + 1)
                rw [HGP.out] at h
                dsimp only at h
                rw [← tl_bump2 hk2, map_bump HP.out.isn.rise HPN.out HNN.out] at h
                rw [List.length_map] at h
                rw [HTK.out]
                exact ⟨HP.out.isn, h.to_R, HP.out.bel.setCell (p := ⟨g, p * 3 + 2, none⟩) HBG.out _⟩)
              clear hk2 hk1
              go_wp2_with fail
              go_roundw
              case rel => exact ⟨i + 1, N', some ⟨g, 0, none⟩, k', by omega, by go_num, rfl, HN1.out⟩
              case measure => simp [intOf]; omega
      · have HSK := Lib.hid (HTX.out.isn.skip ha)
        have h1 : (e.kind != 1) = true := by simpa using fun h : e.kind = 1 => ha (.inl h)
        have h2 : (e.kind != 2) = true := by simpa using fun h : e.kind = 2 => ha (.inr h)
        clear ha
        go_wp2_with fail
        go_roundw
        case rel => exact ⟨i + 1, N, B, k, by omega, by go_num, rfl, by rw [HTK.out]; exact HSK.out.1, by rw [HTK.out, HSK.out.2]; exact HTX.out.row, HTX.out.bel⟩
        case measure => simp [intOf]; omega
    · have hi3 : ¬ (i : Int) < (L.length : Int) := by omega
      have HT := Lib.hid (show L.take i = L by rw [List.take_of_length_le (by omega)])
      have HR := Lib.hid (show TS w L N wr (.slice B N.length k) by rw [← HT.out]; exact HI.out)
      clear HI
      go_wp2_with fail
      go_ret
      have h := Kd.R_reads' HR.out.row
      rw [List.length_map] at h
      exact ⟨N, B, k, rfl, h.2.1, HR.out.isn, h.2.2, HR.out.bel⟩
end Go.Proofs.YtgfljpchdiapeaaDoor
