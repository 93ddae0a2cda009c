/- The document's words and rows; rows that are parts of rows; numbers. The document's deed with a key: keyed. The document's deed of a line: Deed. -/
import Derived.Test.YtbckbpimabmacaaDoorG6
namespace Go.Proofs.YtbckbpimabmacaaDoor
set_option linter.unusedVariables false
set_option linter.unusedSimpArgs false
open Go.RowKit Go.Proofs.YtbckbpimabmacaaDoorW.PrintWords
attribute [local go_sem ↓] Go.wp_at_zero Go.wp_at_succ
attribute [local go_sem] bsV_get bsV_size bsV_toList

theorem words_l (s : Bs) (hl : s.length < 100000000) : ∀ (n k i fr : Nat) (acc : List Bs), i + n = s.length → n < k → fr ≤ i → acc.length ≤ i →
    PR.butteryref29_Words.l0 k (bsV s) (acc.map bsV) (fr : Int) (i : Int) = some ((splitGo 32 acc ((s.take i).drop fr) (s.drop i)).map bsV)
  | 0, k + 1, i, fr, acc, h1, h2, h3, h4 => by
    rw [PR.butteryref29_Words.l0, if_neg (by rw [bsV_size]; omega), if_pos (by omega), if_pos (by rw [bsV_size]; omega), if_pos (by rw [List.length_map]; omega), List.drop_of_length_le (l := s) (by omega), splitGo, List.map_append, Int.toNat_natCast, bsV_size, bs_extract]
    rw [List.take_of_length_le (l := s) (by omega), List.take_of_length_le (by rw [List.length_drop]; omega)]
    rfl
  | n + 1, k + 1, i, fr, acc, h1, h2, h3, h4 => by
    have hi : i < s.length := by omega
    have hd : s.drop i = s[i] :: s.drop (i + 1) := List.drop_eq_getElem_cons hi
    rw [PR.butteryref29_Words.l0, if_pos (by rw [bsV_size]; omega), if_pos (by omega), bt_bs s i hi, wrap_up' i (by omega), hd, splitGo]
    by_cases hc : s[i] = 32
    · rw [if_pos (by rw [hc]; rfl), if_pos hc, if_pos (by omega), if_pos (by omega), if_pos (by rw [bsV_size]; omega), if_pos (by rw [List.length_map]; omega)]
      have e1 : acc.map bsV ++ [(bsV s).extract (fr : Int).toNat (i : Int).toNat] = (acc ++ [(s.take i).drop fr]).map bsV := by
        rw [List.map_append, Int.toNat_natCast, Int.toNat_natCast, bs_extract, List.take_drop]
        rw [show fr + (i - fr) = i by omega]
        rfl
      rw [e1, words_l s hl n k (i + 1) (i + 1) _ (by omega) (by omega) (Nat.le_refl _) (by simp; omega)]
      have e2 : (s.take (i + 1)).drop (i + 1) = [] := List.drop_of_length_le (by rw [List.length_take]; omega)
      rw [e2]
    · rw [if_neg (fun e => hc (UInt8.toNat_inj.1 (by rw [show (32 : UInt8).toNat = 32 from rfl]; omega))), if_neg hc, words_l s hl n k (i + 1) fr acc (by omega) (by omega) (by omega) (by omega)]
      rw [List.take_succ_eq_append_getElem hi, List.drop_append_of_le_length (by rw [List.length_take]; omega)]
theorem words_f (s : Bs) (hl : s.length < 100000000) : PR.butteryref29_Words.f (s.length + 1) (bsV s) = some ((splitS 32 s).map bsV) := by
  have h := words_l s hl s.length (s.length + 1) 0 0 [] (by omega) (by omega) (Nat.le_refl _) (Nat.le_refl _)
  rw [List.drop_zero, List.drop_zero, List.take_zero, split_go] at h
  exact h
/-- A made row of words, as it is read. -/
theorem words_any (s : Bs) (hl : s.length < 100000000) (w : World) : Calls Tryd.prog 53 #[.string (bsV s)] w fun e w' => ∃ A c, e = .returned (.slice A (splitS 32 s).length c) ∧ (splitS 32 s).length ≤ c ∧ Kd.string.C w' A (splitS 32 s).length ((splitS 32 s).map bsV) ∧ Below w.heap.size w w' := by
  refine (PR.butteryref29_Words.calls _ _ _ w (words_f s hl)).mono ?_
  rintro e w' ⟨v, rfl, hr, hb⟩
  obtain ⟨A, c, rfl, h1, h2⟩ := Kd.R_reads hr
  rw [List.length_map] at h1 h2 ⊢
  exact ⟨A, c, rfl, h1, h2, hb⟩
theorem rows_l (s : Bs) (hl : s.length < 100000000) : ∀ (n k i fr : Nat) (acc : List Bs), i + n = s.length → n < k → fr ≤ i → acc.length ≤ i →
    PR.butteryref29_Rows.l0 k (bsV s) (acc.map bsV) (fr : Int) (i : Int) = some ((splitGo 10 acc ((s.take i).drop fr) (s.drop i)).map bsV)
  | 0, k + 1, i, fr, acc, h1, h2, h3, h4 => by
    rw [PR.butteryref29_Rows.l0, if_neg (by rw [bsV_size]; omega), if_pos (by omega), if_pos (by rw [bsV_size]; omega), if_pos (by rw [List.length_map]; omega), List.drop_of_length_le (l := s) (by omega), splitGo, List.map_append, Int.toNat_natCast, bsV_size, bs_extract]
    rw [List.take_of_length_le (l := s) (by omega), List.take_of_length_le (by rw [List.length_drop]; omega)]
    rfl
  | n + 1, k + 1, i, fr, acc, h1, h2, h3, h4 => by
    have hi : i < s.length := by omega
    have hd : s.drop i = s[i] :: s.drop (i + 1) := List.drop_eq_getElem_cons hi
    rw [PR.butteryref29_Rows.l0, if_pos (by rw [bsV_size]; omega), if_pos (by omega), bt_bs s i hi, wrap_up' i (by omega), hd, splitGo]
    by_cases hc : s[i] = 10
    · rw [if_pos (by rw [hc]; rfl), if_pos hc, if_pos (by omega), if_pos (by omega), if_pos (by rw [bsV_size]; omega), if_pos (by rw [List.length_map]; omega)]
      have e1 : acc.map bsV ++ [(bsV s).extract (fr : Int).toNat (i : Int).toNat] = (acc ++ [(s.take i).drop fr]).map bsV := by
        rw [List.map_append, Int.toNat_natCast, Int.toNat_natCast, bs_extract, List.take_drop]
        rw [show fr + (i - fr) = i by omega]
        rfl
      rw [e1, rows_l s hl n k (i + 1) (i + 1) _ (by omega) (by omega) (Nat.le_refl _) (by simp; omega)]
      have e2 : (s.take (i + 1)).drop (i + 1) = [] := List.drop_of_length_le (by rw [List.length_take]; omega)
      rw [e2]
    · rw [if_neg (fun e => hc (UInt8.toNat_inj.1 (by rw [show (10 : UInt8).toNat = 10 from rfl]; omega))), if_neg hc, rows_l s hl n k (i + 1) fr acc (by omega) (by omega) (by omega) (by omega)]
      rw [List.take_succ_eq_append_getElem hi, List.drop_append_of_le_length (by rw [List.length_take]; omega)]
theorem rows_f (s : Bs) (hl : s.length < 100000000) : PR.butteryref29_Rows.f (s.length + 1) (bsV s) = some ((splitS 10 s).map bsV) := by
  have h := rows_l s hl s.length (s.length + 1) 0 0 [] (by omega) (by omega) (Nat.le_refl _) (Nat.le_refl _)
  rw [List.drop_zero, List.drop_zero, List.take_zero, split_go] at h
  exact h
/-- A made row of words, as it is read. -/
theorem rows_any (s : Bs) (hl : s.length < 100000000) (w : World) : Calls Tryd.prog 27 #[.string (bsV s)] w fun e w' => ∃ A c, e = .returned (.slice A (splitS 10 s).length c) ∧ (splitS 10 s).length ≤ c ∧ Kd.string.C w' A (splitS 10 s).length ((splitS 10 s).map bsV) ∧ Below w.heap.size w w' := by
  refine (PR.butteryref29_Rows.calls _ _ _ w (rows_f s hl)).mono ?_
  rintro e w' ⟨v, rfl, hr, hb⟩
  obtain ⟨A, c, rfl, h1, h2⟩ := Kd.R_reads hr
  rw [List.length_map] at h1 h2 ⊢
  exact ⟨A, c, rfl, h1, h2, hb⟩
def manyS (k : Int) : Int := if k = 1 ∨ k = 2 ∨ k = 10 ∨ k = 15 then 2 else if k = 7 then 3 else if k = 8 then 0 else 1
theorem many_f (k : Int) : PR.butteryref29_many.f 1 k = some (manyS k) := by
  unfold PR.butteryref29_many.f manyS
  by_cases h1 : k = 1
  · subst h1; rfl
  by_cases h2 : k = 2
  · subst h2; rfl
  by_cases h3 : k = 10
  · subst h3; rfl
  by_cases h4 : k = 15
  · subst h4; rfl
  simp [PR.butteryref29_many.j0, h1, h2, h3, h4]
  by_cases h5 : k = 7
  · simp [h5]
  by_cases h6 : k = 8
  · simp [h6]
  simp [h5, h6]
theorem many_any (k : Int) (w : World) : Calls Tryd.prog 54 #[.int .i64 k] w fun e w' => e = .returned (.int .i64 (manyS k)) ∧ Below w.heap.size w w' :=
  (PR.butteryref29_many.calls 1 k _ w (many_f k)).mono fun e w' ⟨h1, h2⟩ => ⟨h1, h2.below⟩

/-! ### Rows that may be parts of rows -/
/-- A row of numbers of the call's own, or a part of one. -/
def subK (k : IntKind) (e : Nat) : Kd (List Int) where
  sz := 1
  E := [e]
  K := fun w xs cs => ∃ A c, cs = [.slice A xs.length c] ∧ xs.length ≤ c ∧ (Kd.int k).C w A xs.length xs
  M := fun w base ok xs cs => ∃ A c, cs = [.slice A xs.length c] ∧ xs.length ≤ c ∧ (Kd.int k).C w A xs.length xs ∧ (xs = [] ∨ ∃ ad, A = some ad ∧ ok ad.block ∧ base ≤ ad.block ∧ ∃ cells, w.heap[ad.block]? = some (.cells cells e (0, 0)))
  K_len := by
    rintro w x cs ⟨A, c, rfl, _⟩
    rfl
  K_one := by
    rintro w x cs ⟨A, c, rfl, _⟩ u hu
    rw [List.mem_singleton.1 hu]
    rfl
  K_below := by
    rintro w w1 x cs hb ⟨A, c, rfl, hl, hr⟩
    exact ⟨A, c, rfl, hl, Kd.C_below hr hb⟩
  K_of_M := by
    rintro w base ok x cs ⟨A, c, rfl, hl, hr, _⟩
    exact ⟨A, c, rfl, hl, hr⟩
  M_mono := by
    rintro w base ok ok' x cs hok ⟨A, c, rfl, hl, hr, h⟩
    refine ⟨A, c, rfl, hl, hr, h.imp id ?_⟩
    rintro ⟨ad, rfl, h1, h2, h3⟩
    exact ⟨ad, rfl, hok _ h1, h2, h3⟩
  M_bound := by
    rintro w base ok x cs ⟨A, c, rfl, hl, hr, h⟩
    refine ⟨A, c, rfl, hl, hr, h.imp id ?_⟩
    rintro ⟨ad, rfl, h1, h2, cells, h3⟩
    exact ⟨ad, rfl, ⟨h1, h2, (Array.getElem?_eq_some_iff.1 h3).1, e, List.mem_singleton.2 rfl, cells, h3⟩, h2, cells, h3⟩
  M_move := by
    rintro w w1 base ok x cs hm ⟨A, c, rfl, hl, hr, h⟩
    rcases h with rfl | ⟨ad, rfl, h1, h2, cells, h3⟩
    · exact ⟨A, c, rfl, hl, ⟨rfl, by simp, fun hp => absurd hp (by simp)⟩, .inl rfl⟩
    · refine ⟨some ad, c, rfl, hl, ⟨hr.1, hr.2.1, fun hp => ?_⟩, .inr ⟨ad, rfl, h1, h2, cells, (hm _ h1).trans h3⟩⟩
      obtain ⟨ad', e1, hc⟩ := hr.2.2 hp
      injection e1 with e1
      subst e1
      refine ⟨ad, rfl, fun j p hj => ?_⟩
      obtain ⟨cs, h4, h5, h6⟩ := hc j p hj
      exact ⟨cs, h4, h5, fun i u hu => (World.cell?_of_block (w := w) (w' := w1) (by rw [add_block]; exact hm _ h1)).trans (h6 i u hu)⟩
  M_lower := by
    rintro w base base' ok x cs hb ⟨A, c, rfl, hl, hr, h⟩
    refine ⟨A, c, rfl, hl, hr, h.imp id ?_⟩
    rintro ⟨ad, rfl, h1, h2, h3⟩
    exact ⟨ad, rfl, h1, Nat.le_trans hb h2, h3⟩
theorem sub_of_R {k : IntKind} {e : Nat} {w : World} {base : Nat} {ok : Nat → Prop} {A : Option Addr} {n c : Nat} {xs : List Int} (h : Kd.R (Kd.int k) e w base ok (.slice A n c) xs) : (subK k e).M w base ok xs [.slice A n c] := by
  obtain ⟨h1, h2, h3⟩ := Kd.R_reads' h
  have ho := Kd.own_of_R h
  subst h1
  refine ⟨A, c, rfl, h2, h3, ?_⟩
  rcases Nat.eq_zero_or_pos xs.length with h0 | h0
  · exact .inl (List.length_eq_zero_iff.1 h0)
  · obtain ⟨ad, rfl, _⟩ := h3.2.2 h0
    have hbk : (Value.slice (some ad) xs.length c).ownBlock = some ad.block := rfl
    obtain ⟨cells, hc⟩ := own_typed ho _ hbk
    exact .inr ⟨ad, rfl, h.1 _ hbk, own_base ho _ hbk, cells, hc⟩
/-- Deeds whose rows may be parts of rows. -/
def kE : Kd Dd := Kd.iso (Kd.pair (Kd.int .i64) (Kd.pair (Kd.int .i64) (Kd.pair Kd.string (Kd.pair (subK .u8 5) (Kd.pair (Kd.int .i64) (Kd.pair (Kd.int .i64) (Kd.pair (Kd.int .u8) (Kd.pair (Kd.int .u8) (subK .i64 3))))))))) (fun d : Dd => (d.kind, d.node, bsV d.key, bI d.value, d.n, d.at_, d.by_, d.draw, d.keep))
theorem kE_K {w : World} {d : Dd} {cs : List Value} : kE.K w d cs ↔ kD.K w d cs := Iff.rfl
theorem kE_C {w : World} {A : Option Addr} {n : Nat} {L : List Dd} (h : kE.C w A n L) : kD.C w A n L := h
theorem kE_mkM {W : World} {base : Nat} {ok : Nat → Prop} {d : Dd} {A1 A2 : Option Addr} {c1 c2 : Nat} (hv : (subK .u8 5).M W base ok (bI d.value) [.slice A1 d.value.length c1]) (hk : (subK .i64 3).M W base ok d.keep [.slice A2 d.keep.length c2]) : kE.M W base ok d (dC d A1 A2 c1 c2).toList :=
  ⟨[.int .i64 d.kind], _, rfl, rfl, [.int .i64 d.node], _, rfl, rfl, [.string (bsV d.key)], _, rfl, rfl, [.slice A1 d.value.length c1], _, rfl, hv, [.int .i64 d.n], _, rfl, rfl, [.int .i64 d.at_], _, rfl, rfl, [.int .u8 d.by_], _, rfl, rfl, [.int .u8 d.draw], [.slice A2 d.keep.length c2], rfl, rfl, hk⟩
theorem kE_DM {W : World} {base : Nat} {ok : Nat → Prop} {d : Dd} {A1 A2 : Option Addr} {c1 c2 : Nat} (h : kE.M W base ok d (dC d A1 A2 c1 c2).toList) (hk : okS d) : DM W d A1 A2 c1 c2 := by
  obtain ⟨A3, c3, A8, c8, e, l3, g3, l8, g8⟩ := PR.k45_open (x := deOf d) (kE.K_of_M h)
  have hv : (deOf d).f3.length = d.value.length := bI_len d.value
  rw [hv] at e l3 g3
  have e3 : Value.slice A1 d.value.length c1 = .slice A3 d.value.length c3 := congrArg (fun l : List Value => l.getD 3 undef) e
  have e8 : Value.slice A2 d.keep.length c2 = .slice A8 d.keep.length c8 := congrArg (fun l : List Value => l.getD 8 undef) e
  injection e3 with p1 p2 p3
  injection e8 with p4 p5 p6
  subst p1
  subst p3
  subst p4
  subst p6
  exact DM.mk' l3 g3 l8 g8 hk
/-- xs[m:], without a case on the capacity. -/
theorem cut_row (t e : TypeId) {i : TypeInfo} (ht : Tryd.prog.underlying t = some (.slice e)) (hi : Tryd.prog.info? e = some i) (hsz : i.size = 1) (A : Option Addr) (n c m : Nat) (hm : m ≤ n) (hc : n ≤ c) :
    ∃ A' : Option Addr, (∀ W : World, (Instr.slice t (.slice A n c) (some (.int .i64 (m : Int))) none none).run Tryd.prog W = .ok (.slice A' (n - m) (c - m)) W) ∧
      (∀ {α : Type} (d : Kd α) (W : World) (xs : List α), d.sz = 1 → d.C W A n xs → d.C W A' (n - m) (xs.drop m)) ∧ (∀ ad', A' = some ad' → 0 < n - m → ∃ ad, A = some ad ∧ ad'.block = ad.block) := by
  refine ⟨if c = m then A else A.map (·.add m), fun W => ?_, fun d W xs hd h => ?_, fun ad' h hp => ?_⟩
  · have hel : Tryd.prog.elem t = e := by simp [Program.elem, ht]
    have hu : Tryd.prog.underlying t = some (.slice (Tryd.prog.elem t)) := by rw [hel]; exact ht
    rw [run_slice_l W t A n c hu .i64 (m : Int) (Int.natCast_nonneg _) (by omega), hel]
    simp [sizeOf, typeInfo, hi, hsz, sliced, Result.andThen]
  · refine ⟨by rw [List.length_drop, h.1], by have := h.2.1; omega, fun hp => ?_⟩
    obtain ⟨ad, rfl, hcell⟩ := h.2.2 (by omega)
    rw [if_neg (by omega)]
    refine ⟨ad.add m, rfl, fun j p hj => ?_⟩
    rw [List.getElem?_drop] at hj
    obtain ⟨cs, h1, h2, h3⟩ := hcell (m + j) p hj
    refine ⟨cs, h1, h2, fun i u hu => ?_⟩
    have := h3 i u hu
    rw [hd] at this ⊢
    rw [Go.Deep.add_add, show m + (j * 1 + i) = (m + j) * 1 + i by omega]
    exact this
  · rw [if_neg (by omega)] at h
    cases A with
    | none => cases h
    | some ad =>
      injection h with h
      exact ⟨ad, rfl, by rw [← h, add_block]⟩

/-! ### numbers -/
def NumsPost (ws : List Bs) (w : World) (e : Ending) (w' : World) : Prop := ∃ A c l ok, e = .returned (.tuple #[.slice A l.length c, .bool ok]) ∧ (ok = true ∧ numsS ws = some l ∨ ok = false ∧ numsS ws = none) ∧ Kd.R (Kd.int .i64) 3 w' w.heap.size (fun _ => True) (.slice A l.length c) l ∧ Below w.heap.size w w'
theorem nums_app : ∀ (p q : List Bs) (l : List Int), numsS p = some l → numsS (p ++ q) = (numsS q).map (l ++ ·)
  | [], q, l, h => by
    injection h with h
    subst h
    simp
  | a :: r, q, l, h => by
    rw [numsS] at h
    obtain ⟨n, h1, h⟩ := bind_some h
    obtain ⟨t, h2, h⟩ := bind_some h
    injection h with h
    subst h
    rw [List.cons_append, numsS, h1, nums_app r q t h2]
    cases numsS q <;> rfl
set_option maxHeartbeats 2000000 in
set_option maxRecDepth 100000 in
theorem numbers_any (ws : List Bs) (A : Option Addr) (c : Nat) (w : World) (hC : Kd.string.C w A ws.length (ws.map bsV)) (hc : ws.length ≤ c) (hl : ws.length ≤ 10000000) (hs : ∀ x ∈ ws, x.length < 100000000) : Calls Tryd.prog 56 #[.slice A ws.length c] w (NumsPost ws w) := by
  have HC := Lib.hid hC
  have HS := Lib.hid hs
  clear hC hs
  go_enter Tryd.func56, Tryd.ntmps56
  go_wp2_with fail
  go_loopw [4, 5] (fun ov iv wr => ∃ (i : Nat) (B : Option Addr) (n k : Nat) (l : List Int), i ≤ ws.length ∧ iv = .int .i64 i ∧ ov = .slice B n k ∧ Hid (n = l.length ∧ numsS (ws.take i) = some l ∧ l.length = i ∧ Kd.R (Kd.int .i64) 3 wr w.heap.size (fun _ => True) (.slice B n k) l ∧ Below w.heap.size w wr)) (fun _ iv _ => ws.length - (intOf iv).toNat)
  case atStart => exact ⟨0, none, 0, 0, [], Nat.zero_le _, rfl, rfl, rfl, rfl, rfl, Kd.R_nil _ _ _ _ _, Below.refl _ _⟩
  case round =>
    obtain ⟨i, B, n, k, l, hi, rfl, rfl, HI⟩ := hrel
    obtain ⟨hn0, _, hli, _, _⟩ := HI.out
    subst hn0
    by_cases hlt : i < ws.length
    · have i1 : (0 : Int) ≤ (i : Int) := by omega
      have i2 : (i : Int) < (ws.length : Int) := by omega
      have i3 : i < c := by omega
      have hwi : IntKind.i64.wrap ((i : Int) + 1) = (i : Int) + 1 := by rw [IntKind.wrap_i64]; omega
      obtain ⟨ad, rfl, hcell⟩ := at_str (Kd.C_below HC.out HI.out.2.2.2.2) hlt
      obtain ⟨x, hx⟩ : ∃ x, x = ws[i] := ⟨_, rfl⟩
      have hsx : sget (ws.map bsV) i = bsV x := by rw [sget_eq (by rw [List.length_map]; exact hlt), List.getElem_map, hx]
      rw [hsx] at hcell
      have HN := Lib.hid (refNum_any x (show Hid _ from HS.out x (by rw [hx]; exact List.getElem_mem hlt)) wr)
      have HTK := Lib.hid (show numsS (ws.take (i + 1)) = (numS x).map fun v => l ++ [v] by
        rw [List.take_succ_eq_append_getElem hlt, ← hx, nums_app _ _ l HI.out.2.1, numsS]
        cases numS x <;> rfl)
      have HAL := Lib.hid (show numsS ws = (numsS (ws.drop (i + 1))).bind fun t => (numS x).map fun v => l ++ (v :: t) by
        conv => lhs; rw [← List.take_append_drop i ws, List.drop_eq_getElem_cons hlt, ← hx]
        rw [nums_app _ _ l HI.out.2.1, numsS]
        cases numS x <;> cases numsS (ws.drop (i + 1)) <;> rfl)
      have HR := Lib.hid HI.out.2.2.2.1
      have HB := Lib.hid HI.out.2.2.2.2
      have HLI := Lib.hid hli
      clear hx hsx hli HI
      go_wp2_with fail
      refine HN.out.mono ?_
      rintro e w1 ⟨v, ok, rfl, hn, hb⟩
      have HR1 := Lib.hid (Kd.R_below HR.out hb)
      have HB1 := Lib.hid (HB.out.trans (hb.mono HB.out.size))
      have HN1 := Lib.hid hn
      clear hb hn HR HB HN
      cases ok with
      | false =>
        have HF := Lib.hid (show numsS ws = none by
          rw [HAL.out, show numS x = none from HN1.out]
          cases numsS (ws.drop (i + 1)) <;> rfl)
        go_wp2_with fail
        go_ret2
        exact ⟨none, 0, [], false, rfl, .inr ⟨rfl, HF.out⟩, Kd.R_nil _ _ _ _ _, HB1.out⟩
      | true =>
        have HT := Lib.hid (show numsS (ws.take (i + 1)) = some (l ++ [v]) by rw [HTK.out, show numS x = some v from HN1.out]; rfl)
        go_wp2_with (at_builtin; refine Kd.R_append (Kd.int .i64) (w0 := w) (W := w1) w.heap.size rfl (.tmp 24) (.tmp 26) 43 3 (.int .i64 0) 8 rfl Tryd.underlying43 info_int rfl (by decide) (by omega) (.slice B l.length k) l v [.int .i64 v] (fun _ => True) (fun _ => False) rfl rfl rfl (fun _ hk => hk.elim) (fun _ _ => trivial) HR1.out HB1.out HB1.out.size (by have := HLI.out; omega) ?_; intro v9 w9 ho9 hb9 hg9 hat9; obtain ⟨A9, c9, hv9⟩ := Kd.R_slice ho9; subst hv9; have HO9 := Lib.hid ho9; have HB9 := Lib.hid hb9; clear ho9 hb9 hg9 hat9)
        all_goals
          go_wp2_with fail
          go_roundw
          case rel => exact ⟨i + 1, A9, _, c9, l ++ [v], by omega, by go_num, rfl, by first | rfl | simp, HT.out, by rw [List.length_append, HLI.out]; rfl, by first | exact HO9.out | (have := HO9.out; rw [List.length_append] at this; exact this), HB9.out⟩
          case measure => simp [intOf]; omega
    · have hi3 : ¬ (i : Int) < (ws.length : Int) := by omega
      clear hli
      have HT := Lib.hid (show numsS ws = some l by have := HI.out.2.1; rwa [List.take_of_length_le (by omega)] at this)
      go_wp2_with fail
      go_ret2
      exact ⟨B, k, l, true, rfl, .inl ⟨rfl, HT.out⟩, HI.out.2.2.2.1, HI.out.2.2.2.2⟩
end Go.Proofs.YtbckbpimabmacaaDoor
namespace Go.Proofs.YtbckbpimabmacaaDoor
set_option linter.unusedVariables false
set_option linter.unusedSimpArgs false
open Go.RowKit Go.Proofs.YtbckbpimabmacaaDoorW.PrintWords
attribute [local go_sem ↓] Go.wp_at_zero Go.wp_at_succ
attribute [local go_sem] bsV_get bsV_size bsV_toList

/-- A deed's result, or none. -/
def DP (r : Option Dd) (w : World) (e : Ending) (w' : World) : Prop := ∃ A1 A2 c1 c2, e = .returned (.tuple #[.agg (dC (r.getD zD) A1 A2 c1 c2), .bool r.isSome]) ∧ kE.M w' w.heap.size (fun _ => True) (r.getD zD) (dC (r.getD zD) A1 A2 c1 c2).toList ∧ Below w.heap.size w w'
theorem sub_nil {k : IntKind} {e : Nat} {w : World} {base : Nat} {ok : Nat → Prop} : (subK k e).M w base ok [] [.slice none 0 0] := ⟨none, 0, rfl, Nat.le_refl _, ⟨rfl, by simp, fun hp => absurd hp (by simp)⟩, .inl rfl⟩
theorem dp_none {r : Option Dd} {w w' : World} {e : Ending} (h : r = none) (he : e = .returned (.tuple #[.agg z9, .bool false])) (hb : Below w.heap.size w w') : DP r w e w' := by
  subst h
  exact ⟨none, none, 0, 0, he, kE_mkM sub_nil sub_nil, hb⟩
theorem dp_some {r : Option Dd} {w w' : World} {e : Ending} {d : Dd} {A1 A2 : Option Addr} {c1 c2 : Nat} (h : r = some d) (he : e = .returned (.tuple #[.agg (dC d A1 A2 c1 c2), .bool true])) (hv : (subK .u8 5).M w' w.heap.size (fun _ => True) (bI d.value) [.slice A1 d.value.length c1]) (hk : (subK .i64 3).M w' w.heap.size (fun _ => True) d.keep [.slice A2 d.keep.length c2]) (hb : Below w.heap.size w w') : DP r w e w' := by
  subst h
  exact ⟨A1, A2, c1, c2, he, kE_mkM hv hk, hb⟩
theorem dp_deed {s : Bs} {w w' : World} {e : Ending} (h : DeedPost s w e w') : DP (deedS s) w e w' := by
  obtain ⟨A1, A2, c1, c2, he, hM, hb⟩ := h
  refine ⟨A1, A2, c1, c2, he, ?_, hb⟩
  obtain ⟨v3, v8, e1, g3, g8⟩ := PR.k45_openM (x := deOf (deedD s)) hM
  have e3 : Value.slice A1 (deedD s).value.length c1 = v3 := congrArg (fun l : List Value => l.getD 3 undef) e1
  have e8 : Value.slice A2 (deedD s).keep.length c2 = v8 := congrArg (fun l : List Value => l.getD 8 undef) e1
  subst e3
  subst e8
  exact kE_mkM (sub_of_R g3) (sub_of_R g8)
/-- The result's cell, and the deed's. -/
structure KI (w : World) (d : Dd) (A1 A2 : Option Addr) (c1 c2 : Nat) (W : World) : Prop where
  res : W.heap[w.heap.size]? = some (.cells z9 45 (0, 0))
  box : W.heap[w.heap.size + 1]? = some (.cells (dC d A1 A2 c1 c2) 45 (0, 0))
  bel : Below w.heap.size w W
section
variable {w W W' : World} {d : Dd} {A1 A2 : Option Addr} {c1 c2 : Nat}
theorem KI.later (h : KI w d A1 A2 c1 c2 W) (hb : Below W.heap.size W W') : KI w d A1 A2 c1 c2 W' :=
  ⟨(hb.block _ (Array.getElem?_eq_some_iff.1 h.res).1).trans h.res, (hb.block _ (Array.getElem?_eq_some_iff.1 h.box).1).trans h.box, h.bel.trans (hb.mono h.bel.size)⟩
theorem KI.set {d' : Dd} {A1' A2' : Option Addr} {c1' c2' : Nat} (j : Nat) (v : Value) (h : KI w d A1 A2 c1 c2 W) (he : (dC d A1 A2 c1 c2).setIfInBounds j v = dC d' A1' A2' c1' c2') : KI w d' A1' A2' c1' c2' (W.setCell ⟨w.heap.size + 1, j, none⟩ v) :=
  ⟨(heap_setCell_other W ⟨w.heap.size + 1, j, none⟩ _ v (by show w.heap.size ≠ w.heap.size + 1; omega)).trans h.res, by rw [← he]; exact heap_setCell_same W _ j _ _ v h.box, h.bel.setCell (by show w.heap.size ≤ w.heap.size + 1; omega) v⟩
theorem KI.cell (h : KI w d A1 A2 c1 c2 W) (j : Nat) : W.cell? ⟨w.heap.size + 1, j, none⟩ = (dC d A1 A2 c1 c2)[j]? := cell_of_row W _ j _ _ (0, 0) h.box
theorem KI.frz (h : KI w d A1 A2 c1 c2 W) (j : Nat) : W.frozen? ⟨w.heap.size + 1, j, none⟩ = false := by simp [World.frozen?, h.box]
end
theorem ki_start (w : World) (k : Int) : KI w { zD with kind := k } none none 0 0 ((w.alloc (.cells z9 45)).alloc (.cells (dC { zD with kind := k } none none 0 0) 45)) :=
  ⟨(Below.heap_alloc _ _ _ (by simp)).trans (heap_alloc_new _ _), by
    have := heap_alloc_new (w.alloc (.cells z9 45)) (.cells (dC { zD with kind := k } none none 0 0) 45)
    simpa using this, (bel_alloc w _).trans ((bel_alloc _ _).mono (by simp))⟩
theorem str_at {W : World} {A : Option Addr} {n : Nat} {ws : List Bs} (h : Kd.string.C W A n (ws.map bsV)) {i : Nat} (hi : i < ws.length) : ∃ ad, A = some ad ∧ W.cell? (ad.add i) = some (.string (bsV ws[i])) := by
  have hl := h.1
  rw [List.length_map] at hl
  obtain ⟨ad, e, hc⟩ := at_str h (k := i) (by omega)
  rw [sget_eq (by rw [List.length_map]; exact hi), List.getElem_map] at hc
  exact ⟨ad, e, hc⟩

set_option maxHeartbeats 4000000 in
set_option maxRecDepth 100000 in
theorem keyed1 (a b : Bs) (A : Option Addr) (c : Nat) (w : World) (hC : Kd.string.C w A [a, b].length ([a, b].map bsV)) (hc : [a, b].length ≤ c) (hl : ∀ x ∈ [a, b], x.length < 100000000) : Calls Tryd.prog 55 #[.int .i64 1, .slice A [a, b].length c] w (DP (readD 1 [a, b]) w) := by
  have HC := Lib.hid hC
  have HL := Lib.hid hl
  have HK0 := Lib.hid (ki_start w 1)
  have hc2 : [a, b].length ≤ c := hc
  rw [show [a, b].length = 2 from rfl] at hc2 ⊢
  clear hC hl hc
  go_enter Tryd.func55, Tryd.ntmps55
  go_upto_region 4 with (fail)
  have e0 : (w.alloc (.cells z9 45)).alloc (.cells (dC { zD with kind := 1 } none none 0 0) 45) = (w.alloc (.cells #[.int .i64 0, .int .i64 0, .string ⟨#[]⟩, .slice none 0 0, .int .i64 0, .int .i64 0, .int .u8 0, .int .u8 0, .slice none 0 0] 45)).alloc (.cells #[.int .i64 1, .int .i64 0, .string ⟨#[]⟩, .slice none 0 0, .int .i64 0, .int .i64 0, .int .u8 0, .int .u8 0, .slice none 0 0] 45) := rfl
  rw [e0] at HK0
  clear e0
  generalize (w.alloc (.cells #[.int .i64 0, .int .i64 0, .string ⟨#[]⟩, .slice none 0 0, .int .i64 0, .int .i64 0, .int .u8 0, .int .u8 0, .slice none 0 0] 45)).alloc (.cells #[.int .i64 1, .int .i64 0, .string ⟨#[]⟩, .slice none 0 0, .int .i64 0, .int .i64 0, .int .u8 0, .int .u8 0, .slice none 0 0] 45) = w1 at *
  obtain ⟨ad, rfl, hca⟩ := str_at (Kd.C_below HC.out HK0.out.bel) (i := 0) (by simp)
  have hca' : w1.cell? ad = some (.string (bsV a)) := hca
  clear hca
  have HN := Lib.hid (refNum_any a (show Hid _ from HL.out a (by simp)) w1)
  go_wp2_with fail
  refine HN.out.mono ?_
  rintro e w2 ⟨x, ok1, rfl, hn, hb⟩
  have HK2 := Lib.hid (HK0.out.later hb)
  have HN1 := Lib.hid hn
  obtain ⟨_, e1, hcb⟩ := str_at (Kd.C_below HC.out HK2.out.bel) (i := 1) (by simp)
  injection e1 with e1
  subst e1
  have hcb' : w2.cell? ⟨ad.block, ad.off + 1, none⟩ = some (.string (bsV b)) := hcb
  have hk1 : w2.cell? ⟨w.heap.size + 1, 1, none⟩ = some (.int .i64 0) := HK2.out.cell 1
  have hf1 := HK2.out.frz 1
  have hne : ad.block ≠ w.heap.size + 1 := fun e => by
    have h1 := World.block_lt_of_cell? w _ (str_at HC.out (i := 0) (by simp)).choose_spec.2
    have h2 := (str_at HC.out (i := 0) (by simp)).choose_spec.1
    injection h2 with h2
    rw [← h2, add_block] at h1
    omega
  have HK3 := Lib.hid (HK2.out.set 1 (.int .i64 x) (d' := { zD with kind := 1, node := x }) (A1' := none) (A2' := none) (c1' := 0) (c2' := 0) rfl)
  have hcw : (w2.setCell ⟨w.heap.size + 1, 1, none⟩ (.int .i64 x)).cell? ⟨ad.block, ad.off + 1, none⟩ = some (.string (bsV b)) := (World.cell?_of_block (w := w2) (a := ⟨ad.block, ad.off + 1, none⟩) (heap_setCell_other w2 ⟨w.heap.size + 1, 1, none⟩ _ _ hne)).trans hcb'
  have HU := Lib.hid (refUnq_any b (HL.out b (by simp)) (w2.setCell ⟨w.heap.size + 1, 1, none⟩ (.int .i64 x)))
  clear hb hn hcb hca' HN hne
  go_wp2_with fail
  refine HU.out.mono ?_
  rintro e w4 ⟨v, bs, ok2, rfl, hu, hR, hb⟩
  obtain ⟨B, cb, rfl⟩ := Kd.R_slice hR
  obtain ⟨hnl, hcap, hCb⟩ := Kd.R_reads' hR
  rw [bI_len] at hCb ⊢
  have HK4 := Lib.hid (HK3.out.later hb)
  have HU4 := Lib.hid hu
  have hcv := conv_bs (W := w4) cb hCb
  have HK5 := Lib.hid (HK4.out.set 2 (.string (bsV bs)) (d' := { zD with kind := 1, node := x, key := bs }) (A1' := none) (A2' := none) (c1' := 0) (c2' := 0) rfl)
  have hk2 : w4.cell? ⟨w.heap.size + 1, 2, none⟩ = some (.string ⟨#[]⟩) := HK4.out.cell 2
  have hf2 := HK4.out.frz 2
  clear hu hR hb hnl hcap hCb HK3 HK2 hcb' hcw hk1 hf1
  obtain ⟨y0, y1, y2, y3, y4, y5, y6, y7, y8, x0, x1, x2, x3, x4, x5, x6, x7, x8⟩ := z9_facts HK4.out.res
  have k0 : w4.cell? ⟨w.heap.size + 1, 0, none⟩ = some (.int .i64 1) := HK4.out.cell 0
  have k1 : w4.cell? ⟨w.heap.size + 1, 1, none⟩ = some (.int .i64 x) := HK4.out.cell 1
  have k2 : w4.cell? ⟨w.heap.size + 1, 2, none⟩ = some (.string ⟨#[]⟩) := HK4.out.cell 2
  have k3 : w4.cell? ⟨w.heap.size + 1, 3, none⟩ = some (.slice none 0 0) := HK4.out.cell 3
  have k4 : w4.cell? ⟨w.heap.size + 1, 4, none⟩ = some (.int .i64 0) := HK4.out.cell 4
  have k5 : w4.cell? ⟨w.heap.size + 1, 5, none⟩ = some (.int .i64 0) := HK4.out.cell 5
  have k6 : w4.cell? ⟨w.heap.size + 1, 6, none⟩ = some (.int .u8 0) := HK4.out.cell 6
  have k7 : w4.cell? ⟨w.heap.size + 1, 7, none⟩ = some (.int .u8 0) := HK4.out.cell 7
  have k8 : w4.cell? ⟨w.heap.size + 1, 8, none⟩ = some (.slice none 0 0) := HK4.out.cell 8
  have HRD := Lib.hid (show readD 1 [a, b] = (numS a).bind fun x => (unqS b).bind fun y => some { zD with kind := 1, node := x, key := y } from rfl)
  cases ok1 with
  | false =>
    have HRN := Lib.hid (show readD 1 [a, b] = none by rw [HRD.out, show numS a = none from HN1.out]; rfl)
    go_wp2_with fail
    obtain ⟨q1, q2, q3⟩ := set9 HK5.out.res (.int .i64 0) (.int .i64 0) (.string ⟨#[]⟩) (.slice none 0 0) (.int .i64 0) (.int .i64 0) (.int .u8 0) (.int .u8 0) (.slice none 0 0)
    refine bodyPost_ret (results_ct rfl _ _ w.heap.size 45 #[.int .i64 0, .int .i64 0, .string ⟨#[]⟩, .slice none 0 0, .int .i64 0, .int .i64 0, .int .u8 0, .int .u8 0, .slice none 0 0] (0, 0) _ rfl q1 Tryd.underlying45 rfl (by kernel_rfl)) rfl ?_
    exact dp_none (HRN.out) rfl (q3 HK5.out.bel (Nat.le_refl _))
  | true =>
    cases ok2 with
    | false =>
      have HRN := Lib.hid (show readD 1 [a, b] = none by
        rw [HRD.out, show numS a = some x from HN1.out]
        rcases HU4.out with ⟨e, _⟩ | ⟨_, e⟩
        · cases e
        · rw [e]; rfl)
      go_wp2_with fail
      obtain ⟨q1, q2, q3⟩ := set9 HK5.out.res (.int .i64 0) (.int .i64 0) (.string ⟨#[]⟩) (.slice none 0 0) (.int .i64 0) (.int .i64 0) (.int .u8 0) (.int .u8 0) (.slice none 0 0)
      refine bodyPost_ret (results_ct rfl _ _ w.heap.size 45 #[.int .i64 0, .int .i64 0, .string ⟨#[]⟩, .slice none 0 0, .int .i64 0, .int .i64 0, .int .u8 0, .int .u8 0, .slice none 0 0] (0, 0) _ rfl q1 Tryd.underlying45 rfl (by kernel_rfl)) rfl ?_
      exact dp_none (HRN.out) rfl (q3 HK5.out.bel (Nat.le_refl _))
    | true =>
      have HRN := Lib.hid (show readD 1 [a, b] = some { zD with kind := 1, node := x, key := bs } by
        rw [HRD.out, show numS a = some x from HN1.out]
        rcases HU4.out with ⟨_, e⟩ | ⟨e, _⟩
        · rw [e]; rfl
        · cases e)
      go_wp2_with fail
      obtain ⟨q1, q2, q3⟩ := set9 HK5.out.res (.int .i64 1) (.int .i64 x) (.string (bsV bs)) (.slice none 0 0) (.int .i64 0) (.int .i64 0) (.int .u8 0) (.int .u8 0) (.slice none 0 0)
      refine bodyPost_ret (results_ct rfl _ _ w.heap.size 45 #[.int .i64 1, .int .i64 x, .string (bsV bs), .slice none 0 0, .int .i64 0, .int .i64 0, .int .u8 0, .int .u8 0, .slice none 0 0] (0, 0) _ rfl q1 Tryd.underlying45 rfl (by kernel_rfl)) rfl ?_
      exact dp_some (HRN.out) rfl sub_nil sub_nil (q3 HK5.out.bel (Nat.le_refl _))

set_option maxHeartbeats 4000000 in
set_option maxRecDepth 100000 in
theorem keyed3 (a : Bs) (A : Option Addr) (c : Nat) (w : World) (hC : Kd.string.C w A [a].length ([a].map bsV)) (hc : [a].length ≤ c) (hl : ∀ x ∈ [a], x.length < 100000000) : Calls Tryd.prog 55 #[.int .i64 3, .slice A [a].length c] w (DP (readD 3 [a]) w) := by
  have HC := Lib.hid hC
  have HL := Lib.hid hl
  have HK0 := Lib.hid (ki_start w 3)
  have hc2 : [a].length ≤ c := hc
  rw [show [a].length = 1 from rfl] at hc2 ⊢
  clear hC hl hc
  go_enter Tryd.func55, Tryd.ntmps55
  go_upto_region 4 with (fail)
  have e0 : (w.alloc (.cells z9 45)).alloc (.cells (dC { zD with kind := 3 } none none 0 0) 45) = (w.alloc (.cells #[.int .i64 0, .int .i64 0, .string ⟨#[]⟩, .slice none 0 0, .int .i64 0, .int .i64 0, .int .u8 0, .int .u8 0, .slice none 0 0] 45)).alloc (.cells #[.int .i64 3, .int .i64 0, .string ⟨#[]⟩, .slice none 0 0, .int .i64 0, .int .i64 0, .int .u8 0, .int .u8 0, .slice none 0 0] 45) := rfl
  rw [e0] at HK0
  clear e0
  generalize (w.alloc (.cells #[.int .i64 0, .int .i64 0, .string ⟨#[]⟩, .slice none 0 0, .int .i64 0, .int .i64 0, .int .u8 0, .int .u8 0, .slice none 0 0] 45)).alloc (.cells #[.int .i64 3, .int .i64 0, .string ⟨#[]⟩, .slice none 0 0, .int .i64 0, .int .i64 0, .int .u8 0, .int .u8 0, .slice none 0 0] 45) = w1 at *
  obtain ⟨ad, rfl, hca⟩ := str_at (Kd.C_below HC.out HK0.out.bel) (i := 0) (by simp)
  have hca' : w1.cell? ad = some (.string (bsV a)) := hca
  have HU := Lib.hid (refUnq_any a (HL.out a (by simp)) w1)
  clear hca
  go_wp2_with fail
  refine HU.out.mono ?_
  rintro e w4 ⟨v, bs, ok1, rfl, hu, hR, hb⟩
  obtain ⟨B, cb, rfl⟩ := Kd.R_slice hR
  obtain ⟨hnl, hcap, hCb⟩ := Kd.R_reads' hR
  rw [bI_len] at hCb ⊢
  have HK4 := Lib.hid (HK0.out.later hb)
  have HU4 := Lib.hid hu
  have hcv := conv_bs (W := w4) cb hCb
  have HK5 := Lib.hid (HK4.out.set 2 (.string (bsV bs)) (d' := { zD with kind := 3, key := bs }) (A1' := none) (A2' := none) (c1' := 0) (c2' := 0) rfl)
  have hk2 : w4.cell? ⟨w.heap.size + 1, 2, none⟩ = some (.string ⟨#[]⟩) := HK4.out.cell 2
  have hf2 := HK4.out.frz 2
  clear hu hR hb hnl hcap hCb hca'
  obtain ⟨y0, y1, y2, y3, y4, y5, y6, y7, y8, x0, x1, x2, x3, x4, x5, x6, x7, x8⟩ := z9_facts HK4.out.res
  have k0 : w4.cell? ⟨w.heap.size + 1, 0, none⟩ = some (.int .i64 3) := HK4.out.cell 0
  have k1 : w4.cell? ⟨w.heap.size + 1, 1, none⟩ = some (.int .i64 0) := HK4.out.cell 1
  have k2 : w4.cell? ⟨w.heap.size + 1, 2, none⟩ = some (.string ⟨#[]⟩) := HK4.out.cell 2
  have k3 : w4.cell? ⟨w.heap.size + 1, 3, none⟩ = some (.slice none 0 0) := HK4.out.cell 3
  have k4 : w4.cell? ⟨w.heap.size + 1, 4, none⟩ = some (.int .i64 0) := HK4.out.cell 4
  have k5 : w4.cell? ⟨w.heap.size + 1, 5, none⟩ = some (.int .i64 0) := HK4.out.cell 5
  have k6 : w4.cell? ⟨w.heap.size + 1, 6, none⟩ = some (.int .u8 0) := HK4.out.cell 6
  have k7 : w4.cell? ⟨w.heap.size + 1, 7, none⟩ = some (.int .u8 0) := HK4.out.cell 7
  have k8 : w4.cell? ⟨w.heap.size + 1, 8, none⟩ = some (.slice none 0 0) := HK4.out.cell 8
  have HRD := Lib.hid (show readD 3 [a] = (unqS a).bind fun y => some { zD with kind := 3, key := y } from rfl)
  cases ok1 with
  | false =>
    have HRN := Lib.hid (show readD 3 [a] = none by
      rw [HRD.out]
      rcases HU4.out with ⟨e, _⟩ | ⟨_, e⟩
      · cases e
      · rw [e]; rfl)
    go_wp2_with fail
    obtain ⟨q1, q2, q3⟩ := set9 HK5.out.res (.int .i64 0) (.int .i64 0) (.string ⟨#[]⟩) (.slice none 0 0) (.int .i64 0) (.int .i64 0) (.int .u8 0) (.int .u8 0) (.slice none 0 0)
    refine bodyPost_ret (results_ct rfl _ _ w.heap.size 45 #[.int .i64 0, .int .i64 0, .string ⟨#[]⟩, .slice none 0 0, .int .i64 0, .int .i64 0, .int .u8 0, .int .u8 0, .slice none 0 0] (0, 0) _ rfl q1 Tryd.underlying45 rfl (by kernel_rfl)) rfl ?_
    exact dp_none (HRN.out) rfl (q3 HK5.out.bel (Nat.le_refl _))
  | true =>
    have HRN := Lib.hid (show readD 3 [a] = some { zD with kind := 3, key := bs } by
      rw [HRD.out]
      rcases HU4.out with ⟨_, e⟩ | ⟨e, _⟩
      · rw [e]; rfl
      · cases e)
    go_wp2_with fail
    obtain ⟨q1, q2, q3⟩ := set9 HK5.out.res (.int .i64 3) (.int .i64 0) (.string (bsV bs)) (.slice none 0 0) (.int .i64 0) (.int .i64 0) (.int .u8 0) (.int .u8 0) (.slice none 0 0)
    refine bodyPost_ret (results_ct rfl _ _ w.heap.size 45 #[.int .i64 3, .int .i64 0, .string (bsV bs), .slice none 0 0, .int .i64 0, .int .i64 0, .int .u8 0, .int .u8 0, .slice none 0 0] (0, 0) _ rfl q1 Tryd.underlying45 rfl (by kernel_rfl)) rfl ?_
    exact dp_some (HRN.out) rfl sub_nil sub_nil (q3 HK5.out.bel (Nat.le_refl _))

set_option maxHeartbeats 4000000 in
set_option maxRecDepth 100000 in
theorem keyed2 (a b : Bs) (A : Option Addr) (c : Nat) (w : World) (hC : Kd.string.C w A [a, b].length ([a, b].map bsV)) (hc : [a, b].length ≤ c) (hl : ∀ x ∈ [a, b], x.length < 100000000) : Calls Tryd.prog 55 #[.int .i64 2, .slice A [a, b].length c] w (DP (readD 2 [a, b]) w) := by
  have HC := Lib.hid hC
  have HL := Lib.hid hl
  have HK0 := Lib.hid (ki_start w 2)
  have hc2 : [a, b].length ≤ c := hc
  rw [show [a, b].length = 2 from rfl] at hc2 ⊢
  clear hC hl hc
  go_enter Tryd.func55, Tryd.ntmps55
  go_upto_region 4 with (fail)
  have e0 : (w.alloc (.cells z9 45)).alloc (.cells (dC { zD with kind := 2 } none none 0 0) 45) = (w.alloc (.cells #[.int .i64 0, .int .i64 0, .string ⟨#[]⟩, .slice none 0 0, .int .i64 0, .int .i64 0, .int .u8 0, .int .u8 0, .slice none 0 0] 45)).alloc (.cells #[.int .i64 2, .int .i64 0, .string ⟨#[]⟩, .slice none 0 0, .int .i64 0, .int .i64 0, .int .u8 0, .int .u8 0, .slice none 0 0] 45) := rfl
  rw [e0] at HK0
  clear e0
  generalize (w.alloc (.cells #[.int .i64 0, .int .i64 0, .string ⟨#[]⟩, .slice none 0 0, .int .i64 0, .int .i64 0, .int .u8 0, .int .u8 0, .slice none 0 0] 45)).alloc (.cells #[.int .i64 2, .int .i64 0, .string ⟨#[]⟩, .slice none 0 0, .int .i64 0, .int .i64 0, .int .u8 0, .int .u8 0, .slice none 0 0] 45) = w1 at *
  obtain ⟨ad, rfl, hca⟩ := str_at (Kd.C_below HC.out HK0.out.bel) (i := 0) (by simp)
  have hca' : w1.cell? ad = some (.string (bsV a)) := hca
  have HU := Lib.hid (refUnq_any a (HL.out a (by simp)) w1)
  clear hca
  go_wp2_with fail
  refine HU.out.mono ?_
  rintro e w4 ⟨v, bs, ok1, rfl, hu, hR, hb⟩
  obtain ⟨B, cb, rfl⟩ := Kd.R_slice hR
  obtain ⟨hnl, hcap, hCb⟩ := Kd.R_reads' hR
  rw [bI_len] at hCb ⊢
  have HK4 := Lib.hid (HK0.out.later hb)
  have HU4 := Lib.hid hu
  have hcv := conv_bs (W := w4) cb hCb
  have HK5 := Lib.hid (HK4.out.set 2 (.string (bsV bs)) (d' := { zD with kind := 2, key := bs }) (A1' := none) (A2' := none) (c1' := 0) (c2' := 0) rfl)
  have hk2 : w4.cell? ⟨w.heap.size + 1, 2, none⟩ = some (.string ⟨#[]⟩) := HK4.out.cell 2
  have hf2 := HK4.out.frz 2
  obtain ⟨_, e1, hcb⟩ := str_at (Kd.C_below HC.out HK4.out.bel) (i := 1) (by simp)
  injection e1 with e1
  subst e1
  have hcb' : w4.cell? ⟨ad.block, ad.off + 1, none⟩ = some (.string (bsV b)) := hcb
  have hne : ad.block ≠ w.heap.size + 1 := fun e => by
    have h1 := World.block_lt_of_cell? w _ (str_at HC.out (i := 0) (by simp)).choose_spec.2
    have h2 := (str_at HC.out (i := 0) (by simp)).choose_spec.1
    injection h2 with h2
    rw [← h2, add_block] at h1
    omega
  have hcw : (w4.setCell ⟨w.heap.size + 1, 2, none⟩ (.string (bsV bs))).cell? ⟨ad.block, ad.off + 1, none⟩ = some (.string (bsV b)) := (World.cell?_of_block (w := w4) (a := ⟨ad.block, ad.off + 1, none⟩) (heap_setCell_other w4 ⟨w.heap.size + 1, 2, none⟩ _ _ hne)).trans hcb'
  have HV := Lib.hid (refUnq_any b (HL.out b (by simp)) (w4.setCell ⟨w.heap.size + 1, 2, none⟩ (.string (bsV bs))))
  clear hu hR hb hnl hcap hCb hca' hcb hne
  have HRD := Lib.hid (show readD 2 [a, b] = (unqS a).bind fun x => (unqS b).bind fun y => some { zD with kind := 2, key := x, value := y } from rfl)
  cases ok1
  all_goals
    go_wp2_with fail
    refine HV.out.mono ?_
    rintro e w5 ⟨v2, b2, ok2, rfl, hu2, hR2, hb2⟩
    obtain ⟨B2, cb2, rfl⟩ := Kd.R_slice hR2
    rw [bI_len] at hR2 ⊢
    have HK6 := Lib.hid (HK5.out.later hb2)
    have HV6 := Lib.hid hu2
    have HK7 := Lib.hid (HK6.out.set 3 (.slice B2 b2.length cb2) (d' := { zD with kind := 2, key := bs, value := b2 }) (A1' := B2) (A2' := none) (c1' := cb2) (c2' := 0) rfl)
    have HR7 := Lib.hid (Kd.R_set (Kd.R_lower hR2 HK5.out.bel.size) HK6.out.box (by decide) 3 (.slice B2 b2.length cb2))
    have hk3 : w5.cell? ⟨w.heap.size + 1, 3, none⟩ = some (.slice none 0 0) := HK6.out.cell 3
    have hf3 := HK6.out.frz 3
    clear hu2 hR2 hb2 hcw hcb' hk2 hf2 hcv
    obtain ⟨y0, y1, y2, y3, y4, y5, y6, y7, y8, x0, x1, x2, x3, x4, x5, x6, x7, x8⟩ := z9_facts HK6.out.res
    have k0 : w5.cell? ⟨w.heap.size + 1, 0, none⟩ = some (.int .i64 2) := HK6.out.cell 0
    have k1 : w5.cell? ⟨w.heap.size + 1, 1, none⟩ = some (.int .i64 0) := HK6.out.cell 1
    have k2 : w5.cell? ⟨w.heap.size + 1, 2, none⟩ = some (.string (bsV bs)) := HK6.out.cell 2
    have k3 : w5.cell? ⟨w.heap.size + 1, 3, none⟩ = some (.slice none 0 0) := HK6.out.cell 3
    have k4 : w5.cell? ⟨w.heap.size + 1, 4, none⟩ = some (.int .i64 0) := HK6.out.cell 4
    have k5 : w5.cell? ⟨w.heap.size + 1, 5, none⟩ = some (.int .i64 0) := HK6.out.cell 5
    have k6 : w5.cell? ⟨w.heap.size + 1, 6, none⟩ = some (.int .u8 0) := HK6.out.cell 6
    have k7 : w5.cell? ⟨w.heap.size + 1, 7, none⟩ = some (.int .u8 0) := HK6.out.cell 7
    have k8 : w5.cell? ⟨w.heap.size + 1, 8, none⟩ = some (.slice none 0 0) := HK6.out.cell 8
    cases ok2
  · have HRN := Lib.hid (show readD 2 [a, b] = none by
      rw [HRD.out]
      rcases HU4.out with ⟨e, _⟩ | ⟨_, e⟩
      · cases e
      · rw [e]; rfl)
    go_wp2_with fail
    obtain ⟨q1, q2, q3⟩ := set9 HK7.out.res (.int .i64 0) (.int .i64 0) (.string ⟨#[]⟩) (.slice none 0 0) (.int .i64 0) (.int .i64 0) (.int .u8 0) (.int .u8 0) (.slice none 0 0)
    refine bodyPost_ret (results_ct rfl _ _ w.heap.size 45 #[.int .i64 0, .int .i64 0, .string ⟨#[]⟩, .slice none 0 0, .int .i64 0, .int .i64 0, .int .u8 0, .int .u8 0, .slice none 0 0] (0, 0) _ rfl q1 Tryd.underlying45 rfl (by kernel_rfl)) rfl ?_
    exact dp_none (HRN.out) rfl (q3 HK7.out.bel (Nat.le_refl _))
  · have HRN := Lib.hid (show readD 2 [a, b] = none by
      rw [HRD.out]
      rcases HU4.out with ⟨e, _⟩ | ⟨_, e⟩
      · cases e
      · rw [e]; rfl)
    go_wp2_with fail
    obtain ⟨q1, q2, q3⟩ := set9 HK7.out.res (.int .i64 0) (.int .i64 0) (.string ⟨#[]⟩) (.slice none 0 0) (.int .i64 0) (.int .i64 0) (.int .u8 0) (.int .u8 0) (.slice none 0 0)
    refine bodyPost_ret (results_ct rfl _ _ w.heap.size 45 #[.int .i64 0, .int .i64 0, .string ⟨#[]⟩, .slice none 0 0, .int .i64 0, .int .i64 0, .int .u8 0, .int .u8 0, .slice none 0 0] (0, 0) _ rfl q1 Tryd.underlying45 rfl (by kernel_rfl)) rfl ?_
    exact dp_none (HRN.out) rfl (q3 HK7.out.bel (Nat.le_refl _))
  · have HRN := Lib.hid (show readD 2 [a, b] = none by
      rw [HRD.out]
      rcases HU4.out with ⟨_, e⟩ | ⟨e, _⟩
      · rw [e]
        rcases HV6.out with ⟨e, _⟩ | ⟨_, e⟩
        · cases e
        · rw [e]; rfl
      · cases e)
    go_wp2_with fail
    obtain ⟨q1, q2, q3⟩ := set9 HK7.out.res (.int .i64 0) (.int .i64 0) (.string ⟨#[]⟩) (.slice none 0 0) (.int .i64 0) (.int .i64 0) (.int .u8 0) (.int .u8 0) (.slice none 0 0)
    refine bodyPost_ret (results_ct rfl _ _ w.heap.size 45 #[.int .i64 0, .int .i64 0, .string ⟨#[]⟩, .slice none 0 0, .int .i64 0, .int .i64 0, .int .u8 0, .int .u8 0, .slice none 0 0] (0, 0) _ rfl q1 Tryd.underlying45 rfl (by kernel_rfl)) rfl ?_
    exact dp_none (HRN.out) rfl (q3 HK7.out.bel (Nat.le_refl _))
  · have HRN := Lib.hid (show readD 2 [a, b] = some { zD with kind := 2, key := bs, value := b2 } by
      rw [HRD.out]
      rcases HU4.out with ⟨_, e⟩ | ⟨e, _⟩
      · rw [e]
        rcases HV6.out with ⟨_, e⟩ | ⟨e, _⟩
        · rw [e]; rfl
        · cases e
      · cases e)
    go_wp2_with fail
    obtain ⟨q1, q2, q3⟩ := set9 HK7.out.res (.int .i64 2) (.int .i64 0) (.string (bsV bs)) (.slice B2 b2.length cb2) (.int .i64 0) (.int .i64 0) (.int .u8 0) (.int .u8 0) (.slice none 0 0)
    refine bodyPost_ret (results_ct rfl _ _ w.heap.size 45 #[.int .i64 2, .int .i64 0, .string (bsV bs), .slice B2 b2.length cb2, .int .i64 0, .int .i64 0, .int .u8 0, .int .u8 0, .slice none 0 0] (0, 0) _ rfl q1 Tryd.underlying45 rfl (by kernel_rfl)) rfl ?_
    exact dp_some (HRN.out) rfl (sub_of_R (R_off HR7.out HK7.out.res (by decide) q2)) sub_nil (q3 HK7.out.bel (Nat.le_refl _))
end Go.Proofs.YtbckbpimabmacaaDoor
namespace Go.Proofs.YtbckbpimabmacaaDoor
set_option linter.unusedVariables false
set_option linter.unusedSimpArgs false
open Go.RowKit Go.Proofs.YtbckbpimabmacaaDoorW.PrintWords
attribute [local go_sem ↓] Go.wp_at_zero Go.wp_at_succ
attribute [local go_sem] bsV_get bsV_size bsV_toList

theorem find_le (w : Bs) : 0 ≤ findS w ∧ findS w ≤ 19 := by unfold findS; omega
theorem find_some {w : Bs} (h : findS w ≠ 0) : wordS (findS w) = w := by
  have hl : wordsL.findIdx (· = w) ≤ 19 := List.findIdx_le_length
  have hlt : wordsL.findIdx (· = w) < 19 := by
    unfold findS at h
    rcases Nat.lt_or_ge (wordsL.findIdx (· = w)) 19 with h1 | h1
    · exact h1
    · have : wordsL.findIdx (· = w) = 19 := by omega
      rw [this] at h
      exact absurd rfl h
  have he : findS w = ((wordsL.findIdx (· = w) : Nat) : Int) + 1 := by unfold findS; omega
  rw [he, word_in _ hlt]
  have := List.findIdx_getElem (xs := wordsL) (p := fun x => decide (x = w)) (w := hlt)
  exact of_decide_eq_true this
/-- What the numbers behind a kind's word say. -/
def nrd (k : Int) (l : List Int) : Option Dd :=
  if k = 4 ∨ k = 5 ∨ k = 6 then (match l with | [x] => some { zD with kind := k, n := x } | _ => none)
  else if k = 7 then (match l with | [x, y, z] => (small z).bind fun z => some { zD with kind := k, n := x, at_ := y, by_ := z } | _ => none)
  else if k = 8 then (match l with | [] => some { zD with kind := k } | _ => none)
  else if k = 10 then (match l with | [x, z] => (small z).bind fun z => some { zD with kind := k, node := x, draw := z } | _ => none)
  else if k = 15 then (match l with | [x, y] => some { zD with kind := k, node := x, n := y } | _ => none)
  else if k = 16 then (match l with | x :: r => some { zD with kind := k, node := x, keep := r } | _ => none)
  else (match l with | [x] => some { zD with kind := k, node := x } | _ => none)
theorem nums_len : ∀ {ws : List Bs} {l : List Int}, numsS ws = some l → l.length = ws.length := fun {ws l} h => by rw [← nums_some ws l h, List.length_map]
theorem read_nums {k : Int} {ws : List Bs} {l : List Int} (hk : 3 < k) (h : numsS ws = some l) : readD k ws = nrd k l := by
  have n1 : ¬ k = 1 := by omega
  have n2 : ¬ k = 2 := by omega
  have n3 : ¬ k = 3 := by omega
  unfold readD nrd
  rw [if_neg n1, if_neg n2, if_neg n3]
  rcases ws with _ | ⟨a, _ | ⟨b, _ | ⟨c, _ | ⟨e, r⟩⟩⟩⟩
  · injection h with h; subst h; rfl
  · obtain ⟨x, hx, h⟩ := bind_some h
    injection h with h; subst h
    simp [hx]
    rfl
  · obtain ⟨x, hx, h⟩ := bind_some h
    obtain ⟨t, ht, h⟩ := bind_some h
    obtain ⟨y, hy, ht⟩ := bind_some ht
    injection ht with ht; subst ht
    injection h with h; subst h
    simp [numsS, hx, hy]
  · obtain ⟨x, hx, h⟩ := bind_some h
    obtain ⟨t, ht, h⟩ := bind_some h
    obtain ⟨y, hy, ht⟩ := bind_some ht
    obtain ⟨u, hu, ht⟩ := bind_some ht
    obtain ⟨z, hz, hu⟩ := bind_some hu
    injection hu with hu; subst hu
    injection ht with ht; subst ht
    injection h with h; subst h
    simp [numsS, hx, hy, hz]
  · obtain ⟨x, hx, h⟩ := bind_some h
    obtain ⟨t, ht, h⟩ := bind_some h
    obtain ⟨y, hy, ht2⟩ := bind_some ht
    obtain ⟨u, hu, ht2⟩ := bind_some ht2
    obtain ⟨z, hz, hu2⟩ := bind_some hu
    obtain ⟨v, hv, hu2⟩ := bind_some hu2
    obtain ⟨q, hq, hv2⟩ := bind_some hv
    obtain ⟨o, ho, hv2⟩ := bind_some hv2
    injection hv2 with hv2; subst hv2
    injection hu2 with hu2; subst hu2
    injection ht2 with ht2; subst ht2
    injection h with h; subst h
    simp [hx, ht]
theorem read_nums_none {k : Int} {ws : List Bs} (hk : 3 < k) (h : numsS ws = none) : readD k ws = none := by
  have n1 : ¬ k = 1 := by omega
  have n2 : ¬ k = 2 := by omega
  have n3 : ¬ k = 3 := by omega
  cases hr : readD k ws with
  | none => rfl
  | some d =>
    exfalso
    obtain ⟨h1, h2⟩ := read_line hr
    unfold readD at hr
    rw [if_neg n1, if_neg n2, if_neg n3] at hr
    have key : ∀ l : List Int, (∀ x ∈ l, I64 x) → tailW d = l.map decS → False := fun l hl e => by
      rw [← h2, e, nums_dec l hl] at h
      cases h
    have hb : ∀ {a : Bs} {x : Int}, numS a = some x → I64 x := fun hx => (numS_some hx).2
    have hs : ∀ {o : Option Int} {z : Int}, o.bind small = some z → o = some z := fun h => small_some h
    have hnl : ∀ {ws : List Bs} {l : List Int}, numsS ws = some l → ∀ x ∈ l, I64 x := fun {ws l} h => by
      induction ws generalizing l with
      | nil => injection h with h; subst h; intro x hx; cases hx
      | cons a r ih =>
        obtain ⟨n, hn, h⟩ := bind_some h
        obtain ⟨t, ht, h⟩ := bind_some h
        injection h with h
        subst h
        intro x hx
        rcases List.mem_cons.1 hx with rfl | hx
        · exact hb hn
        · exact ih ht x hx
    repeat' (split at hr)
    all_goals first
    | cases hr
    | skip
    · obtain ⟨x, hx, hr⟩ := bind_some hr
      simp [numsS, hx] at h
    · obtain ⟨x, hx, hr⟩ := bind_some hr
      obtain ⟨y, hy, hr⟩ := bind_some hr
      obtain ⟨z, hz, hr⟩ := bind_some hr
      simp [numsS, hx, hy, hs hz] at h
    · simp [numsS] at h
    · obtain ⟨x, hx, hr⟩ := bind_some hr
      obtain ⟨z, hz, hr⟩ := bind_some hr
      simp [numsS, hx, hs hz] at h
    · obtain ⟨x, hx, hr⟩ := bind_some hr
      obtain ⟨z, hz, hr⟩ := bind_some hr
      simp [numsS, hx, hz] at h
    · obtain ⟨x, hx, hr⟩ := bind_some hr
      obtain ⟨z, hz, hr⟩ := bind_some hr
      simp [numsS, hx, hz] at h
    · obtain ⟨x, hx, hr⟩ := bind_some hr
      simp [numsS, hx] at h
theorem read_len {k : Int} {ws : List Bs} (h : readD k ws ≠ none) (h0 : 1 ≤ k) : manyS k ≤ ws.length ∧ (k ≠ 16 → (ws.length : Int) ≤ manyS k) := by
  unfold readD at h
  unfold manyS
  rcases kind_cases k with rfl | rfl | rfl | rfl | rfl | rfl | rfl | rfl | rfl | rfl | rfl | ⟨n1, n2, n3, n4, n5, n6, n7, n8, n9, nA, nB⟩
  all_goals first
  | (rcases ws with _ | ⟨a, _ | ⟨b, _ | ⟨c, _ | ⟨e, r⟩⟩⟩⟩ <;> simp at h ⊢ <;> omega)
  | (rcases ws with _ | ⟨a, _ | ⟨b, _ | ⟨c, _ | ⟨e, r⟩⟩⟩⟩ <;> simp at h ⊢ <;> done)
  | (rcases ws with _ | ⟨a, _ | ⟨b, r⟩⟩ <;> simp [n1, n2, n3, n4, n5, n6, n7, n8, n9, nA, nB] at h ⊢)
theorem kE_off {b : Nat} {w W : World} {base : Nat} {d : Dd} {cs : List Value} {bc : Array Value} (h : kE.M w base (fun _ => True) d cs) (hb : w.heap[b]? = some (.cells bc 45 (0, 0))) (hm : ∀ j, j ≠ b → W.heap[j]? = w.heap[j]?) : kE.M W base (fun _ => True) d cs :=
  kE.M_mono (fun _ _ => trivial) (Kd.M_step (Kd.M_types h hb (by decide)) (fun j hj _ => hm j hj.2))
theorem sub_cut {k : IntKind} {e : Nat} {w : World} {base : Nat} {A A' : Option Addr} {n c m : Nat} {xs : List Int} (h : Kd.R (Kd.int k) e w base (fun _ => True) (.slice A n c) xs) (hm : m ≤ n) (h1 : ∀ {α : Type} (d : Kd α) (W : World) (xs : List α), d.sz = 1 → d.C W A n xs → d.C W A' (n - m) (xs.drop m)) (h2 : ∀ ad', A' = some ad' → 0 < n - m → ∃ ad, A = some ad ∧ ad'.block = ad.block) :
    (subK k e).M w base (fun _ => True) (xs.drop m) [.slice A' (n - m) (c - m)] := by
  obtain ⟨q1, q2, q3⟩ := Kd.R_reads' h
  subst q1
  have hl : (xs.drop m).length = xs.length - m := List.length_drop ..
  have hC := h1 (Kd.int k) w xs rfl q3
  refine ⟨A', c - m, by rw [hl], by rw [hl]; omega, by rw [hl]; exact hC, ?_⟩
  rcases Nat.eq_zero_or_pos (xs.length - m) with h0 | h0
  · exact .inl (List.length_eq_zero_iff.1 (by omega))
  · obtain ⟨ad', rfl, _⟩ := hC.2.2 h0
    obtain ⟨ad, rfl, hb⟩ := h2 ad' rfl h0
    have ho := Kd.own_of_R h
    have hbk : (Value.slice (some ad) xs.length c).ownBlock = some ad.block := rfl
    obtain ⟨cells, hc⟩ := own_typed ho _ hbk
    exact .inr ⟨ad', rfl, trivial, by rw [hb]; exact own_base ho _ hbk, cells, by rw [hb]; exact hc⟩
end Go.Proofs.YtbckbpimabmacaaDoor
