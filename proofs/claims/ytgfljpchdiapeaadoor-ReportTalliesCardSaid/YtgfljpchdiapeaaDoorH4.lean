/- Light: events that are not more than is waited for. -/
import Derived.Test.YtgfljpchdiapeaaDoorG7
import Derived.Test.YtgfljpchdiapeaaDoorPRx3
namespace Go.Proofs.YtgfljpchdiapeaaDoor
set_option linter.unusedVariables false
set_option linter.unusedSimpArgs false
open Go.RowKit Go.Proofs.YtgfljpchdiapeaaDoorW.PrintWords Go.Proofs.YtgfljpchdiapeaaDoorW.PrintLast
attribute [local go_sem ↓] Go.wp_at_zero Go.wp_at_succ
attribute [local go_sem] bsV_get bsV_size bsV_toList
abbrev Nn : Type := PR.S28
def enOf (e : Ev) : Nn := ⟨bsV e.key, e.ver, e.asof, e.ends, bI e.value⟩
def ltN (e : Nn) : Prop := e.f0.size ≤ 200 ∧ e.f4.length ≤ 5000
theorem lightN_l (L : List Nn) (hl : L.length ≤ 40) : ∀ (n k i : Nat) (x : Int), i + n = L.length → 2 * n < k → 0 ≤ x → x ≤ 12000 → ∃ r : Int, PR.butterylaw06_Light.l0 k L x i = some r ∧ (r ≤ 0 → ∀ j (h : j < L.length), i ≤ j → ltN L[j])
  | 0, k + 1, i, x, h1, h2, h3, h4 => ⟨0, by rw [PR.butterylaw06_Light.l0, if_neg (by omega)], fun _ j h hj => by omega⟩
  | n + 1, 0, i, x, h1, h2, h3, h4 => by omega
  | n + 1, 1, i, x, h1, h2, h3, h4 => by omega
  | n + 1, k + 2, i, x, h1, h2, h3, h4 => by
    have hi : i < L.length := by omega
    have hr : PR.rd_T28 L (i : Int) = L[i] := by
      unfold PR.rd_T28
      rw [Int.toNat_natCast, List.getD_eq_getElem?_getD, List.getElem?_eq_getElem hi]
      rfl
    have hj : PR.butterylaw06_Light.j1 (k + 1) L x i true = some 1 := by rw [PR.butterylaw06_Light.j1, if_pos rfl]
    have one : ∀ q : Prop, (1 : Int) ≤ 0 → q := fun q h => absurd h (by decide)
    rw [PR.butterylaw06_Light.l0, if_pos (by omega), if_pos (by omega), hr]
    by_cases a1 : ((L[i].f0.size : Nat) : Int) > 200
    · rw [if_pos a1]; exact ⟨1, hj, one _⟩
    rw [if_neg a1]
    by_cases a3 : ((L[i].f4.length : Nat) : Int) > 5000
    · rw [decide_eq_true a3]; exact ⟨1, hj, one _⟩
    rw [decide_eq_false a3, PR.butterylaw06_Light.j1, if_neg (by decide), if_pos (by omega), if_pos (by omega), hr]
    have hw : wrap64 (x + ((L[i].f4.length : Nat) : Int)) = x + ((L[i].f4.length : Nat) : Int) := by unfold wrap64; omega
    have hw2 : wrap64 ((i : Int) + 1) = ((i + 1 : Nat) : Int) := by unfold wrap64; omega
    rw [hw, hw2]
    by_cases a4 : x + ((L[i].f4.length : Nat) : Int) > 12000
    · rw [if_pos a4]; exact ⟨1, rfl, one _⟩
    rw [if_neg a4]
    obtain ⟨r, h5, h6⟩ := lightN_l L hl n k (i + 1) (x + ((L[i].f4.length : Nat) : Int)) (by omega) (by omega) (by omega) (by omega)
    refine ⟨r, h5, fun h0 j hj hij => ?_⟩
    rcases Nat.eq_or_lt_of_le hij with e | e
    · subst e
      exact ⟨by omega, by omega⟩
    · exact h6 h0 j hj e
theorem lightN_any (L : List Ev) (A : Option Addr) (c : Nat) (w : World) (hC : PR.k28.C w A L.length (L.map enOf)) (hc : L.length ≤ c) : Calls Tryd.prog 30 #[.slice A L.length c] w fun e w' => ∃ r : Int, e = .returned (.int .i64 r) ∧ (r ≤ 0 → L.length ≤ 40 ∧ ∀ d ∈ L, d.key.length ≤ 200 ∧ d.value.length ≤ 5000) ∧ Below w.heap.size w w' := by
  have key : ∃ r : Int, PR.butterylaw06_Light.f (2 * L.length + 2) (L.map enOf) = some r ∧ (r ≤ 0 → L.length ≤ 40 ∧ ∀ d ∈ L, d.key.length ≤ 200 ∧ d.value.length ≤ 5000) := by
    unfold PR.butterylaw06_Light.f
    rw [List.length_map]
    by_cases h : (L.length : Int) > 40
    · rw [if_pos h]; exact ⟨1, rfl, fun h => absurd h (by decide)⟩
    · rw [if_neg h]
      obtain ⟨r, h1, h2⟩ := lightN_l (L.map enOf) (by rw [List.length_map]; omega) L.length (2 * L.length + 2) 0 0 (by rw [List.length_map]; omega) (by omega) (by omega) (by omega)
      refine ⟨r, h1, fun h0 => ⟨by omega, fun d hd => ?_⟩⟩
      obtain ⟨j, hj, rfl⟩ := List.getElem_of_mem hd
      obtain ⟨b1, b2⟩ := h2 h0 j (by rw [List.length_map]; exact hj) (Nat.zero_le _)
      rw [List.getElem_map] at b1 b2
      have e1 : (enOf L[j]).f0.size = L[j].key.length := bsV_size _
      have e2 : (enOf L[j]).f4.length = L[j].value.length := bI_len _
      exact ⟨by omega, by omega⟩
  obtain ⟨r, h1, h2⟩ := key
  have h := PR.butterylaw06_Light.calls (2 * L.length + 2) A c (L.map enOf) r w (by rw [List.length_map]; exact hC) (by rw [List.length_map]; exact hc) h1
  rw [List.length_map] at h
  exact h.mono fun e w' ⟨he, hd⟩ => ⟨r, he, h2, by obtain ⟨n, rfl⟩ := hd.out; exact Drawn0.below ⟨n, rfl⟩⟩
def entC (e : Ev) (A : Option Addr) (c : Nat) : List Value := [.string (bsV e.key), .int .i64 e.ver, .int .i64 e.asof, .int .i64 e.ends, .slice A e.value.length c]
theorem entry_at {W : World} {A : Option Addr} {n : Nat} {L : List Ev} (h : kV.C W A n L) {i : Nat} (hi : i < L.length) {e : Ev} (he : L[i] = e) : ∃ ad A1 c1, A = some ad ∧ e.value.length ≤ c1 ∧ (Kd.int .u8).C W A1 e.value.length (bI e.value) ∧ W.cell? ⟨(ad.add (i * 8)).block, (ad.add (i * 8)).off + 2, none⟩ = some (.string (bsV e.key)) ∧ W.cell? ⟨(ad.add (i * 8)).block, (ad.add (i * 8)).off + 3, none⟩ = some (.int .i64 e.ver) ∧ W.cell? ⟨(ad.add (i * 8)).block, (ad.add (i * 8)).off + 4, none⟩ = some (.int .i64 e.asof) ∧ W.cell? ⟨(ad.add (i * 8)).block, (ad.add (i * 8)).off + 5, none⟩ = some (.int .i64 e.ends) ∧ W.cell? ⟨(ad.add (i * 8)).block, (ad.add (i * 8)).off + 6, none⟩ = some (.slice A1 e.value.length c1) := by
  have hl : L.length = n := h.1
  obtain ⟨ad, A1, c1, e1, k0, k1, k2, k3, k4, k5, k6, k7, l3, g3⟩ := PR.at_T30 (kV_C h) (i : Int) (by omega) (by omega)
  have hr : PR.rd_T30 (L.map evOf) (i : Int) = evOf e := by
    unfold PR.rd_T30
    rw [Int.toNat_natCast, List.getD_eq_getElem?_getD, List.getElem?_map, List.getElem?_eq_getElem hi, he]
    rfl
  rw [hr] at k0 k1 k2 k3 k4 k5 k6 k7 l3 g3
  rw [Int.toNat_natCast] at k0 k1 k2 k3 k4 k5 k6 k7
  have hv : (evOf e).f2.f4.length = e.value.length := bI_len e.value
  rw [hv] at k6 l3 g3
  exact ⟨ad, A1, c1, e1, l3, g3, k2, k3, k4, k5, k6⟩
theorem info_entry : (Tryd.prog.info? 28).map (fun i => (i.zero, i.size, i.bytes)) = some (some (.agg #[.string ⟨#[]⟩, .int .i64 0, .int .i64 0, .int .i64 0, .slice none 0 0]), (Kd.raw 5).sz, 64) := by kernel_rfl
def EnRows (w : World) (L : List Ev) (i : Nat) (rows : List (List Value)) : Prop := rows.length = i ∧ ∀ j (h : j < L.length), j < i → ∃ A1 c1, rows[j]? = some (entC L[j] A1 c1) ∧ L[j].value.length ≤ c1 ∧ (Kd.int .u8).C w A1 L[j].value.length (bI L[j].value)
theorem en_C {w W : World} {L : List Ev} {rows : List (List Value)} {B : Option Addr} (h : EnRows w L L.length rows) (hb : Below w.heap.size w W) (hR : (Kd.raw 5).C W B rows.length rows) : PR.k28.C W B L.length (L.map enOf) := by
  refine ⟨List.length_map .., by rw [← h.1]; exact hR.2.1, fun hp => ?_⟩
  obtain ⟨ad, e, hc⟩ := hR.2.2 (by rw [h.1]; exact hp)
  refine ⟨ad, e, fun j p hj => ?_⟩
  rw [List.getElem?_map] at hj
  obtain ⟨d, hd, rfl⟩ := Option.map_eq_some_iff.1 hj
  obtain ⟨hjl, hdj⟩ := List.getElem?_eq_some_iff.1 hd
  obtain ⟨A1, c1, h1, h2, h3⟩ := h.2 j hjl hjl
  rw [hdj] at h1 h2 h3
  obtain ⟨cs, hl, hK, hcell⟩ := hc j _ h1
  have hcs : cs = entC d A1 c1 := hK.1
  subst hcs
  refine ⟨entC d A1 c1, rfl, ?_, hcell⟩
  have hv : (Kd.int .u8).C W A1 (bI d.value).length (bI d.value) := by rw [bI_len]; exact Kd.C_below h3 hb
  have := PR.k28_mk W (enOf d) (A4 := A1) (c4 := c1) (by show (bI d.value).length ≤ c1; rw [bI_len]; exact h2) hv
  have e2 : (enOf d).f4.length = d.value.length := bI_len d.value
  rw [e2] at this
  exact this
set_option maxHeartbeats 4000000 in
set_option maxRecDepth 100000 in
theorem light_any (L : List Ev) (A : Option Addr) (c : Nat) (w : World) (hC : kV.C w A L.length L) (hc : L.length ≤ c) : Calls Tryd.prog 7 #[.slice A L.length c] w fun e w' => ∃ r : Int, e = .returned (.int .i64 r) ∧ (r ≤ 0 → L.length ≤ 40 ∧ ∀ d ∈ L, d.key.length ≤ 200 ∧ d.value.length ≤ 5000) ∧ Below w.heap.size w w' := by
  have HC := Lib.hid hC
  clear hC
  by_cases hg : L.length ≤ 40
  · have d1 : ¬ (40 : Int) < (L.length : Int) := by omega
    have HG := Lib.hid hg
    clear hg
    go_enter Tryd.func7, Tryd.ntmps7
    go_wp2_with fail
    go_loopw [3, 4] (fun ov iv wr => ∃ (i : Nat) (B : Option Addr) (n k : Nat), i ≤ L.length ∧ iv = .int .i64 i ∧ ov = .slice B n k ∧ Hid (∃ rows : List (List Value), n = rows.length ∧ EnRows w L i rows ∧ (Kd.raw 5).R 28 wr w.heap.size (fun _ => True) (.slice B n k) rows ∧ Below w.heap.size w wr)) (fun _ iv _ => L.length - (intOf iv).toNat)
    case atStart => exact ⟨0, none, 0, 0, Nat.zero_le _, rfl, rfl, [], rfl, ⟨rfl, fun j h hj => absurd hj (Nat.not_lt_zero _)⟩, Kd.R_nil _ _ _ _ _, Below.refl _ _⟩
    case round =>
      obtain ⟨i, B, n, k, hi, rfl, rfl, HI⟩ := hrel
      by_cases hlt : i < L.length
      · have i1 : (0 : Int) ≤ (i : Int) := by omega
        have i2 : (i : Int) < (L.length : Int) := by omega
        have hwi : IntKind.i64.wrap ((i : Int) + 1) = (i : Int) + 1 := by have := HG.out; rw [IntKind.wrap_i64]; omega
        obtain ⟨rows, hn, hrw, hR, hB⟩ := HI.out
        obtain ⟨e, he⟩ : ∃ e, L[i] = e := ⟨_, rfl⟩
        obtain ⟨ad, A1, c1, rfl, hcap, hval, k2, k3, k4, k5, k6⟩ := entry_at (Kd.C_below HC.out hB) hlt he
        have hval0 : ∃ A2 c2, e.value.length ≤ c2 ∧ (Kd.int .u8).C w A2 e.value.length (bI e.value) ∧ w.cell? ⟨(ad.add (i * 8)).block, (ad.add (i * 8)).off + 6, none⟩ = some (.slice A2 e.value.length c2) := by
          obtain ⟨ad', A2, c2, e1, h1, h2, _, _, _, _, h6⟩ := entry_at HC.out hlt he
          injection e1 with e1
          subst e1
          exact ⟨A2, c2, h1, h2, h6⟩
        obtain ⟨A2, c2, h21, h22, h26⟩ := hval0
        have hsame := (hB.cell (World.block_lt_of_cell? w _ h26)).trans h26
        rw [k6] at hsame
        injection hsame with hsame
        injection hsame with s1 s2 s3
        subst s1
        subst s3
        have hli : rows.length ≤ 40 := by rw [hrw.1]; have := HG.out; omega
        have HRW := Lib.hid (show EnRows w L (i + 1) (rows ++ [entC e A1 c1]) from ⟨by rw [List.length_append, hrw.1]; rfl, fun j h hj => by
          rcases Nat.eq_or_lt_of_le (Nat.le_of_lt_succ hj) with e0 | e0
          · subst e0
            refine ⟨A1, c1, ?_, by rw [he]; exact h21, by rw [he]; exact h22⟩
            rw [List.getElem?_append_right (by rw [hrw.1]; exact Nat.le_refl _), hrw.1, Nat.sub_self, he]
            rfl
          · obtain ⟨a, b, q1, q2, q3⟩ := hrw.2 j h e0
            exact ⟨a, b, by rw [List.getElem?_append_left (by rw [hrw.1]; exact e0)]; exact q1, q2, q3⟩⟩)
        have HR := Lib.hid hR
        have HB := Lib.hid hB
        have HMM := Lib.hid (show (Kd.raw 5).M wr w.heap.size (fun _ => False) (entC e A1 c1) [.string (bsV e.key), .int .i64 e.ver, .int .i64 e.asof, .int .i64 e.ends, .slice A1 e.value.length c1] from ⟨rfl, rfl, fun u hu => by simp at hu; rcases hu with rfl | rfl | rfl | rfl | rfl <;> rfl⟩)
        subst hn
        clear hR hB hrw hval hcap h21 h22 h26 he HI
        go_wp2_with (at_builtin; refine Kd.R_append (Kd.raw 5) (w0 := w) (W := wr) w.heap.size rfl (.tmp 14) (.tmp 20) 61 28 (.agg #[.string ⟨#[]⟩, .int .i64 0, .int .i64 0, .int .i64 0, .slice none 0 0]) 64 rfl Tryd.underlying61 info_entry rfl (by decide) (by omega) (.slice B rows.length k) rows (entC e A1 c1) [.string (bsV e.key), .int .i64 e.ver, .int .i64 e.asof, .int .i64 e.ends, .slice A1 e.value.length c1] (fun _ => True) (fun _ => False) rfl rfl HMM.out (fun _ hk => hk.elim) (fun _ _ => trivial) HR.out HB.out HB.out.size (by omega) ?_; intro v9 w9 ho9 hb9 hg9 hat9; obtain ⟨A9, c9, hv9⟩ := Kd.R_slice ho9; rw [List.length_append, List.length_singleton] at hv9; subst hv9; have HO9 := Lib.hid ho9; have HB9 := Lib.hid hb9; clear ho9 hb9 hg9 hat9)
        all_goals
          go_wp2_with fail
          go_roundw
          case rel => exact ⟨i + 1, A9, _, c9, by omega, by go_num, rfl, rows ++ [entC e A1 c1], by rw [List.length_append]; rfl, HRW.out, HO9.out, HB9.out⟩
          case measure => simp [intOf]; omega
      · have hi3 : ¬ (i : Int) < (L.length : Int) := by omega
        obtain ⟨rows, hn, hrw, hR, hB⟩ := HI.out
        have hil : i = L.length := by omega
        rw [hil] at hrw
        have hn2 : n = L.length := by rw [hn, hrw.1]
        have hk := (Kd.R_reads' hR).2.1
        have hCr := (Kd.R_reads' hR).2.2
        have HL := Lib.hid (lightN_any L B k wr (en_C hrw hB hCr) (by omega))
        have HB := Lib.hid hB
        subst hn2
        clear hR hB hrw hn hCr HI hil hk
        go_wp2_with fail
        refine HL.out.mono ?_
        rintro x w9 ⟨r, rfl, hr, hb9⟩
        have HR := Lib.hid hr
        have HB9 := Lib.hid (HB.out.trans (hb9.mono HB.out.size))
        clear hr hb9
        go_wp2_with fail
        go_ret
        exact ⟨r, rfl, HR.out, HB9.out⟩
  · have d1 : (40 : Int) < (L.length : Int) := by omega
    go_enter Tryd.func7, Tryd.ntmps7
    go_wp2_with fail
    go_ret
    exact ⟨1, rfl, fun h => absurd h (by decide), Below.refl _ _⟩
theorem lineE_small {e : Ev} (hk : okE e) (h1 : e.key.length ≤ 200) (h2 : e.value.length ≤ 5000) : (lineE e).length ≤ 16000 := by
  obtain ⟨_, b3, b4, b5, _⟩ := hk
  have d3 := decS_len b3.1 b3.2
  have d4 := decS_len b4.1 b4.2
  have d5 := decS_len b5.1 b5.2
  have q1 := q3_len e.key
  have q2 := q3_len e.value
  by_cases h : 1 ≤ e.kind ∧ e.kind ≤ 4
  · rw [lineE, if_pos h]
    rcases kind4 h with k | k | ⟨k, f⟩ | ⟨k, f⟩ | k
    · simp [wordE, tailE, k, joinS, hitW]; omega
    · simp [wordE, tailE, k, joinS, missW]; omega
    · simp [wordE, tailE, k, f, joinS, writeW]; omega
    · simp [wordE, tailE, k, f, joinS, eraseW]; omega
    · simp [wordE, tailE, k, joinS, doneW]; omega
  · rw [lineE_nil h]; simp
theorem textE_small : ∀ L : List Ev, (∀ d ∈ L, (lineE d).length ≤ 16000) → (textE L).length ≤ 16001 * L.length
  | [], _ => Nat.le_refl _
  | d :: L, h => by
    have h1 := h d List.mem_cons_self
    have h2 := textE_small L (fun y hy => h y (List.mem_cons_of_mem _ hy))
    have e : textE (d :: L) = rowE d ++ textE L := rfl
    have hr : (rowE d).length ≤ 16001 := by
      unfold rowE
      split
      · simp
      · simp; omega
    rw [e, List.length_append, List.length_cons]
    omega
theorem normE_ok {e : Ev} (h : okV e) : okV (normE e) := by
  obtain ⟨⟨a1, a2, a3, a4, a5⟩, b1, b2⟩ := h
  have k1 : I64 1 := ⟨by decide, by decide⟩
  have k2 : I64 2 := ⟨by decide, by decide⟩
  have k3 : I64 3 := ⟨by decide, by decide⟩
  have k4 : I64 4 := ⟨by decide, by decide⟩
  have z4 : ([] : Bs).length ≤ 10000 := by decide
  unfold normE
  repeat' split
  all_goals exact ⟨⟨by first | exact k1 | exact k2 | exact k3 | exact k4 | exact a1, by first | exact a2 | exact z64, by first | exact a3 | exact z64, by first | exact a4 | exact z64, by first | exact a5 | exact z64⟩, by first | exact b1 | exact z4, by first | exact b2 | exact z4⟩
end Go.Proofs.YtgfljpchdiapeaaDoor
