/- DeedsBack: deeds as a text are read as they were; a line that is a deed's is that deed's line. -/
import Derived.Test.YtbckbpimabmacaaDoorGB
namespace Go.Proofs.YtbckbpimabmacaaDoor
set_option linter.unusedVariables false
set_option linter.unusedSimpArgs false
open Go.RowKit Go.Proofs.YtbckbpimabmacaaDoorW.PrintWords
attribute [local go_sem ↓] Go.wp_at_zero Go.wp_at_succ
attribute [local go_sem] bsV_get bsV_size bsV_toList

/-- Not more than is waited for. -/
def ltD (e : De) : Prop := e.f2.size ≤ 200 ∧ e.f3.length ≤ 1000 ∧ e.f8.length ≤ 60
theorem light_l (L : List De) (hl : L.length ≤ 80) : ∀ (n k i : Nat) (x : Int), i + n = L.length → 2 * n < k → 0 ≤ x → x ≤ 6000 → ∃ r : Int, PR.butterylaw27_Light.l0 k L x i = some r ∧ (r ≤ 0 → ∀ j (h : j < L.length), i ≤ j → ltD L[j])
  | 0, k + 1, i, x, h1, h2, h3, h4 => ⟨0, by rw [PR.butterylaw27_Light.l0, if_neg (by omega)], fun _ j h hj => by omega⟩
  | n + 1, 0, i, x, h1, h2, h3, h4 => by omega
  | n + 1, 1, i, x, h1, h2, h3, h4 => by omega
  | n + 1, k + 2, i, x, h1, h2, h3, h4 => by
    have hi : i < L.length := by omega
    have hr : PR.rd_T45 L (i : Int) = L[i] := by
      unfold PR.rd_T45
      rw [Int.toNat_natCast, List.getD_eq_getElem?_getD, List.getElem?_eq_getElem hi]
      rfl
    have hj : PR.butterylaw27_Light.j1 (k + 1) L x i true = some 1 := by rw [PR.butterylaw27_Light.j1, if_pos rfl]
    have one : ∀ q : Prop, (1 : Int) ≤ 0 → q := fun q h => absurd h (by decide)
    rw [PR.butterylaw27_Light.l0, if_pos (by omega), if_pos (by omega), hr]
    by_cases a1 : ((L[i].f2.size : Nat) : Int) > 200
    · rw [if_pos a1]; exact ⟨1, hj, one _⟩
    rw [if_neg a1]
    by_cases a2 : ((L[i].f3.length : Nat) : Int) > 1000
    · rw [if_pos a2]; exact ⟨1, hj, one _⟩
    rw [if_neg a2]
    by_cases a3 : ((L[i].f8.length : Nat) : Int) > 60
    · rw [decide_eq_true a3]; exact ⟨1, hj, one _⟩
    rw [decide_eq_false a3, PR.butterylaw27_Light.j1, if_neg (by decide), if_pos (by omega), if_pos (by omega), hr]
    have hw : wrap64 (x + ((L[i].f3.length : Nat) : Int)) = x + ((L[i].f3.length : Nat) : Int) := by unfold wrap64; omega
    have hw2 : wrap64 ((i : Int) + 1) = ((i + 1 : Nat) : Int) := by unfold wrap64; omega
    rw [hw, hw2]
    by_cases a4 : x + ((L[i].f3.length : Nat) : Int) > 6000
    · rw [if_pos a4]; exact ⟨1, rfl, one _⟩
    rw [if_neg a4]
    obtain ⟨r, h5, h6⟩ := light_l L hl n k (i + 1) (x + ((L[i].f3.length : Nat) : Int)) (by omega) (by omega) (by omega) (by omega)
    refine ⟨r, h5, fun h0 j hj hij => ?_⟩
    rcases Nat.eq_or_lt_of_le hij with e | e
    · subst e
      exact ⟨by omega, by omega, by omega⟩
    · exact h6 h0 j hj e
theorem light_any (L : List Dd) (A : Option Addr) (c : Nat) (w : World) (hC : kD.C w A L.length L) (hc : L.length ≤ c) : Calls Tryd.prog 28 #[.slice A L.length c] w fun e w' => ∃ r : Int, e = .returned (.int .i64 r) ∧ (r ≤ 0 → L.length ≤ 80 ∧ ∀ d ∈ L, d.key.length ≤ 200 ∧ d.value.length ≤ 1000 ∧ d.keep.length ≤ 60) ∧ Below w.heap.size w w' := by
  have key : ∃ r : Int, PR.butterylaw27_Light.f (2 * L.length + 2) (L.map deOf) = some r ∧ (r ≤ 0 → L.length ≤ 80 ∧ ∀ d ∈ L, d.key.length ≤ 200 ∧ d.value.length ≤ 1000 ∧ d.keep.length ≤ 60) := by
    unfold PR.butterylaw27_Light.f
    rw [List.length_map]
    by_cases h : (L.length : Int) > 80
    · rw [if_pos h]; exact ⟨1, rfl, fun h => absurd h (by decide)⟩
    · rw [if_neg h]
      obtain ⟨r, h1, h2⟩ := light_l (L.map deOf) (by rw [List.length_map]; omega) L.length (2 * L.length + 2) 0 0 (by rw [List.length_map]; omega) (by omega) (by omega) (by omega)
      refine ⟨r, h1, fun h0 => ⟨by omega, fun d hd => ?_⟩⟩
      obtain ⟨j, hj, rfl⟩ := List.getElem_of_mem hd
      obtain ⟨b1, b2, b3⟩ := h2 h0 j (by rw [List.length_map]; exact hj) (Nat.zero_le _)
      rw [List.getElem_map] at b1 b2 b3
      have e2 : (deOf L[j]).f2.size = L[j].key.length := bsV_size _
      have e3 : (deOf L[j]).f3.length = L[j].value.length := bI_len _
      have e8 : (deOf L[j]).f8.length = L[j].keep.length := rfl
      exact ⟨by omega, by omega, by omega⟩
  obtain ⟨r, h1, h2⟩ := key
  have h := PR.butterylaw27_Light.calls (2 * L.length + 2) A c (L.map deOf) r w (by have := kD_C hC; rw [List.length_map]; exact this) (by rw [List.length_map]; exact hc) h1
  rw [List.length_map] at h
  exact h.mono fun e w' ⟨he, hd⟩ => ⟨r, he, h2, by obtain ⟨n, rfl⟩ := hd.out; exact Drawn0.below ⟨n, rfl⟩⟩
theorem keep_len : ∀ l : List Int, (∀ x ∈ l, I64 x) → (listS l).length ≤ 21 * l.length
  | [], _ => Nat.le_refl _
  | x :: r, h => by
    have h1 := decS_len (h x List.mem_cons_self).1 (h x List.mem_cons_self).2
    have h2 := keep_len r (fun y hy => h y (List.mem_cons_of_mem _ hy))
    have e : listS (x :: r) = (32 :: decS x) ++ listS r := rfl
    rw [e, List.length_append, List.length_cons, List.length_cons]
    omega
theorem line_small {d : Dd} (hk : okD d) (h1 : d.key.length ≤ 200) (h2 : d.value.length ≤ 1000) (h3 : d.keep.length ≤ 60) : (lineS d).length ≤ 4000 := by
  obtain ⟨_, b3, b4, b5, b6, b7, b8⟩ := hk
  have dl : ∀ n : Int, I64 n → (decS n).length ≤ 20 := fun n hn => decS_len hn.1 hn.2
  have c3 := dl _ b3
  have c4 := dl _ b4
  have c5 := dl _ b5
  have c6 := dl d.by_ ⟨by omega, by omega⟩
  have c7 := dl d.draw ⟨by omega, by omega⟩
  have c8 := keep_len d.keep b8
  have hq : ∀ b : Bs, (quoS b).length ≤ 3 * b.length + 1 := fun b => by
    unfold quoS
    split
    · simp
    · have := q_len b
      omega
  have q1 := hq d.key
  have q2 := hq d.value
  have hw := word_short d.kind
  rw [line_flat, List.length_append]
  have : ((tailW d).flatMap bl).length ≤ 3900 := by
    unfold tailW
    repeat' split
    all_goals first
    | (rw [List.flatMap_cons, list_map, List.length_append]; unfold bl; rw [List.length_cons]; omega)
    | (simp [bl] <;> omega)
  omega
theorem text_small : ∀ L : List Dd, (∀ d ∈ L, (lineS d).length ≤ 4000) → (textS L).length ≤ 4001 * L.length
  | [], _ => Nat.le_refl _
  | d :: L, h => by
    have h1 := h d List.mem_cons_self
    have h2 := text_small L (fun y hy => h y (List.mem_cons_of_mem _ hy))
    have e : textS (d :: L) = (lineS d ++ [10]) ++ textS L := rfl
    rw [e, List.length_append, List.length_append]
    simp only [List.length_cons, List.length_nil]
    omega
theorem norm_ok {d : Dd} (h : okS d) : okS (normD d) := by
  obtain ⟨⟨a1, a2, a3, a4, a5, a6, a7⟩, b1, b2, b3⟩ := h
  have z1 : I64 0 := ⟨by decide, by decide⟩
  have z2 : (0 : Int) ≤ 0 ∧ (0 : Int) ≤ 255 := ⟨by decide, by decide⟩
  have z3 : ∀ x ∈ ([] : List Int), I64 x := fun x hx => absurd hx (by simp)
  have z4 : ([] : Bs).length ≤ 10000 := by decide
  have z5 : ([] : List Int).length ≤ 10000 := by decide
  unfold normD
  repeat' split
  all_goals exact ⟨⟨a1, by first | exact a2 | exact z1, by first | exact a3 | exact z1, by first | exact a4 | exact z1, by first | exact a5 | exact z2, by first | exact a6 | exact z2, by first | exact a7 | exact z3⟩, by first | exact b1 | exact z4, by first | exact b2 | exact z4, by first | exact b3 | exact z5⟩
theorem word_ne {k : Int} (h0 : 1 ≤ k) (h1 : k ≤ 19) : (wordS k == ([] : Bs)) = false := by
  obtain ⟨x, r, e, _⟩ := word_head h0 h1
  rw [e]
  simp
theorem word_eq {k : Int} (h : ¬ (1 ≤ k ∧ k ≤ 19)) : wordS k = [] := by
  unfold wordS; rw [if_pos (by omega)]
set_option maxHeartbeats 4000000 in
set_option maxRecDepth 100000 in
theorem back_law (L : List Dd) (A : Option Addr) (c : Nat) (ln : Bs) (w : World) (hC : kD.C w A L.length L) (hc : L.length ≤ c) (hok : ∀ d ∈ L, okD d) (hg : HG w) (hm : MX w) : Calls Tryd.prog 6 #[.slice A L.length c, .string (bsV ln)] w fun e w' => e = .returned (.bool true) ∧ Below w.heap.size w w' := by
  have HW := Lib.hid (works_later hg hm)
  have HM := Lib.hid hm
  have HC := Lib.hid hC
  have HOK := Lib.hid hok
  have HLI := Lib.hid (light_any L A c w hC hc)
  clear hg hm hC hok
  go_enter Tryd.func6, Tryd.ntmps6
  go_wp2_with fail
  refine HLI.out.mono ?_
  rintro e w1 ⟨r, rfl, hr, hb⟩
  have HB1 := Lib.hid hb
  have HR := Lib.hid hr
  clear hb hr HLI
  by_cases hr0 : r ≤ 0
  · have d0 : ¬ (0 : Int) < r := by omega
    by_cases hln : ln.length ≤ 1000
    · have d1 : ¬ (1000 : Int) < (ln.length : Int) := by omega
      have HSZ := Lib.hid (HR.out hr0)
      have hde : ∀ W, MX W → Calls Tryd.prog 24 #[.string (bsV ln)] W (DP (deedS ln) W) := fun W hW => (deed_any ln W (by omega) hW).mono fun e w' h => dp_deed h
      have hdk : okS ((deedS ln).getD zD) := by
        cases h : deedS ln with
        | none => exact ⟨⟨by decide, by decide, by decide, by decide, by decide, by decide, by decide⟩, by decide, by decide, by decide⟩
        | some d => exact oks_of h (by omega)
      have hdl : (deedS ln).isSome = true → lineS ((deedS ln).getD zD) = ln := fun h => by
        cases h2 : deedS ln with
        | none => rw [h2] at h; cases h
        | some d => exact (line_of h2).1
      unfold DP at hde
      unfold dC at hde
      generalize (deedS ln).getD zD = dd at hde hdk hdl
      generalize (deedS ln).isSome = db at hde hdl
      have HDE := Lib.hid hde
      have HDK := Lib.hid hdk
      have HDL := Lib.hid hdl
      clear hde hdk hdl HR hln
      go_wp2_with fail
      refine (HDE.out w1 (HM.out.later HB1.out)).mono ?_
      rintro e w2 ⟨A1, A2, c1, c2, rfl, hM, hb⟩
      have HB2 := Lib.hid (HB1.out.trans (hb.mono HB1.out.size))
      have HD2 := Lib.hid (kE_DM (d := dd) (A1 := A1) (A2 := A2) (c1 := c1) (c2 := c2) hM HDK.out)
      have HB3 := Lib.hid (HB2.out.trans ((bel_alloc w2 (.cells #[.int .i64 dd.kind, .int .i64 dd.node, .string (bsV dd.key), .slice A1 dd.value.length c1, .int .i64 dd.n, .int .i64 dd.at_, .int .u8 dd.by_, .int .u8 dd.draw, .slice A2 dd.keep.length c2] 45)).mono HB2.out.size))
      have HX3 := Lib.hid (heap_alloc_new w2 (.cells #[.int .i64 dd.kind, .int .i64 dd.node, .string (bsV dd.key), .slice A1 dd.value.length c1, .int .i64 dd.n, .int .i64 dd.at_, .int .u8 dd.by_, .int .u8 dd.draw, .slice A2 dd.keep.length c2] 45))
      have HD3 := Lib.hid (HD2.out.later (bel_alloc w2 (.cells #[.int .i64 dd.kind, .int .i64 dd.node, .string (bsV dd.key), .slice A1 dd.value.length c1, .int .i64 dd.n, .int .i64 dd.at_, .int .u8 dd.by_, .int .u8 dd.draw, .slice A2 dd.keep.length c2] 45)))
      clear hb hM HB1 HDE HB2 HD2
      go_upto_region 4 with (fail)
      generalize w2.alloc (.cells #[.int .i64 dd.kind, .int .i64 dd.node, .string (bsV dd.key), .slice A1 dd.value.length c1, .int .i64 dd.n, .int .i64 dd.at_, .int .u8 dd.by_, .int .u8 dd.draw, .slice A2 dd.keep.length c2] 45) = w3 at *
      go_cut [31] (fun bx wx => bx = .bool false ∧ Hid (Below w.heap.size w wx))
      case first =>
        have p0 : w3.cell? ⟨w2.heap.size, 0, none⟩ = some (.int .i64 dd.kind) := cell_of_row w3 _ 0 _ _ (0, 0) HX3.out
        have p1 : w3.cell? ⟨w2.heap.size, 1, none⟩ = some (.int .i64 dd.node) := cell_of_row w3 _ 1 _ _ (0, 0) HX3.out
        have p2 : w3.cell? ⟨w2.heap.size, 2, none⟩ = some (.string (bsV dd.key)) := cell_of_row w3 _ 2 _ _ (0, 0) HX3.out
        have p3 : w3.cell? ⟨w2.heap.size, 3, none⟩ = some (.slice A1 dd.value.length c1) := cell_of_row w3 _ 3 _ _ (0, 0) HX3.out
        have p4 : w3.cell? ⟨w2.heap.size, 4, none⟩ = some (.int .i64 dd.n) := cell_of_row w3 _ 4 _ _ (0, 0) HX3.out
        have p5 : w3.cell? ⟨w2.heap.size, 5, none⟩ = some (.int .i64 dd.at_) := cell_of_row w3 _ 5 _ _ (0, 0) HX3.out
        have p6 : w3.cell? ⟨w2.heap.size, 6, none⟩ = some (.int .u8 dd.by_) := cell_of_row w3 _ 6 _ _ (0, 0) HX3.out
        have p7 : w3.cell? ⟨w2.heap.size, 7, none⟩ = some (.int .u8 dd.draw) := cell_of_row w3 _ 7 _ _ (0, 0) HX3.out
        have p8 : w3.cell? ⟨w2.heap.size, 8, none⟩ = some (.slice A2 dd.keep.length c2) := cell_of_row w3 _ 8 _ _ (0, 0) HX3.out
        cases db with
        | true =>
          have hbb : (ln == ln) = true := by simp
          have hLN := HDL.out rfl
          go_wp2_with fail
          refine (show Calls Tryd.prog 29 #[.agg #[.int .i64 dd.kind, .int .i64 dd.node, .string (bsV dd.key), .slice A1 dd.value.length c1, .int .i64 dd.n, .int .i64 dd.at_, .int .u8 dd.by_, .int .u8 dd.draw, .slice A2 dd.keep.length c2]] w3 _ from line_any dd A1 A2 c1 c2 w3 HD3.out).mono ?_
          rintro e w4 ⟨rfl, hb4⟩
          rw [hLN]
          have HB4 := Lib.hid (HB3.out.trans (hb4.mono HB3.out.size))
          clear hb4
          go_wp2_with fail
          go_meet
          exact ⟨by first | rfl | (simp [*]; done), HB4.out⟩
        | false =>
          go_wp2_with fail
          go_meet
          exact ⟨by first | rfl | (simp [*]; done), HB3.out⟩
      case rest =>
        obtain ⟨rfl, HX⟩ := hcut
        obtain ⟨w4, rfl⟩ : ∃ w4 : World, w4 = wc := ⟨_, rfl⟩
        clear HB3 HX3 HD3 HDK HDL
        go_wp2_with fail
        go_loopw [7] (fun iv wr => ∃ i : Nat, i ≤ L.length ∧ iv = .int .i64 i ∧ Hid ((∀ j (h : j < L.length), j < i → 1 ≤ L[j].kind ∧ L[j].kind ≤ 19) ∧ Below w.heap.size w wr)) (fun iv _ => L.length - (intOf iv).toNat)
        case atStart => exact ⟨0, Nat.zero_le _, rfl, fun j h hj => absurd hj (Nat.not_lt_zero _), HX.out⟩
        case round =>
          obtain ⟨i, hi, rfl, HI⟩ := hrel
          by_cases hlt : i < L.length
          · have i1 : (0 : Int) ≤ (i : Int) := by omega
            have i2 : (i : Int) < (L.length : Int) := by omega
            have i4 : i < c := by omega
            have hl80 := HSZ.out.1
            have hwi : IntKind.i64.wrap ((i : Int) + 1) = (i : Int) + 1 := by rw [IntKind.wrap_i64]; omega
            obtain ⟨d, hd⟩ : ∃ d, L[i] = d := ⟨_, rfl⟩
            have HKD := Lib.hid hd
            have hsz := HSZ.out.2 d (by rw [← hd]; exact List.getElem_mem hlt)
            have hks : okS d := ⟨HOK.out d (by rw [← hd]; exact List.getElem_mem hlt), by omega, by omega, by omega⟩
            obtain ⟨ad, A1, c1, A2, c2, rfl, hDA, q0, q1, q2, q3, q4, q5, q6, q7, q8⟩ := deed_at (Kd.C_below HC.out HI.out.2) hlt hd hks
            have HDA := Lib.hid hDA
            have HBW := Lib.hid HI.out.2
            have HIJ := Lib.hid HI.out.1
            clear hDA hd HI hsz hks
            go_wp2_with fail
            refine (refWord_any d.kind wr).mono ?_
            rintro e w5 ⟨rfl, hb5⟩
            have HB5 := Lib.hid (HBW.out.trans (hb5.mono HBW.out.size))
            by_cases hk : 1 ≤ d.kind ∧ d.kind ≤ 19
            · have hwe := word_ne hk.1 hk.2
              have HK := Lib.hid hk
              clear hk
              have HX5 := Lib.hid (show w5.cell? (ad.add (i * 9)) = some (.int .i64 d.kind) ∧ w5.cell? ⟨(ad.add (i * 9)).block, (ad.add (i * 9)).off + 1, none⟩ = some (.int .i64 d.node) ∧ w5.cell? ⟨(ad.add (i * 9)).block, (ad.add (i * 9)).off + 2, none⟩ = some (.string (bsV d.key)) ∧ w5.cell? ⟨(ad.add (i * 9)).block, (ad.add (i * 9)).off + 3, none⟩ = some (.slice A1 d.value.length c1) ∧ w5.cell? ⟨(ad.add (i * 9)).block, (ad.add (i * 9)).off + 4, none⟩ = some (.int .i64 d.n) ∧ w5.cell? ⟨(ad.add (i * 9)).block, (ad.add (i * 9)).off + 5, none⟩ = some (.int .i64 d.at_) ∧ w5.cell? ⟨(ad.add (i * 9)).block, (ad.add (i * 9)).off + 6, none⟩ = some (.int .u8 d.by_) ∧ w5.cell? ⟨(ad.add (i * 9)).block, (ad.add (i * 9)).off + 7, none⟩ = some (.int .u8 d.draw) ∧ w5.cell? ⟨(ad.add (i * 9)).block, (ad.add (i * 9)).off + 8, none⟩ = some (.slice A2 d.keep.length c2) from ⟨(hb5.cell (World.block_lt_of_cell? wr _ q0)).trans q0, (hb5.cell (World.block_lt_of_cell? wr _ q1)).trans q1, (hb5.cell (World.block_lt_of_cell? wr _ q2)).trans q2, (hb5.cell (World.block_lt_of_cell? wr _ q3)).trans q3, (hb5.cell (World.block_lt_of_cell? wr _ q4)).trans q4, (hb5.cell (World.block_lt_of_cell? wr _ q5)).trans q5, (hb5.cell (World.block_lt_of_cell? wr _ q6)).trans q6, (hb5.cell (World.block_lt_of_cell? wr _ q7)).trans q7, (hb5.cell (World.block_lt_of_cell? wr _ q8)).trans q8⟩)
              have HD5 := Lib.hid (HDA.out.later hb5)
              clear hb5 HDA q0 q1 q2 q3 q4 q5 q6 q7 q8 HBW
              obtain ⟨q0, q1, q2, q3, q4, q5, q6, q7, q8⟩ := HX5.out
              have HXX := Lib.hid (show ∀ W, Below w5.heap.size w5 W → W.cell? (ad.add (i * 9)) = some (.int .i64 d.kind) ∧ W.cell? ⟨(ad.add (i * 9)).block, (ad.add (i * 9)).off + 1, none⟩ = some (.int .i64 d.node) ∧ W.cell? ⟨(ad.add (i * 9)).block, (ad.add (i * 9)).off + 2, none⟩ = some (.string (bsV d.key)) ∧ W.cell? ⟨(ad.add (i * 9)).block, (ad.add (i * 9)).off + 3, none⟩ = some (.slice A1 d.value.length c1) ∧ W.cell? ⟨(ad.add (i * 9)).block, (ad.add (i * 9)).off + 4, none⟩ = some (.int .i64 d.n) ∧ W.cell? ⟨(ad.add (i * 9)).block, (ad.add (i * 9)).off + 5, none⟩ = some (.int .i64 d.at_) ∧ W.cell? ⟨(ad.add (i * 9)).block, (ad.add (i * 9)).off + 6, none⟩ = some (.int .u8 d.by_) ∧ W.cell? ⟨(ad.add (i * 9)).block, (ad.add (i * 9)).off + 7, none⟩ = some (.int .u8 d.draw) ∧ W.cell? ⟨(ad.add (i * 9)).block, (ad.add (i * 9)).off + 8, none⟩ = some (.slice A2 d.keep.length c2) from fun W hW => ⟨(hW.cell (World.block_lt_of_cell? w5 _ q0)).trans q0, (hW.cell (World.block_lt_of_cell? w5 _ q1)).trans q1, (hW.cell (World.block_lt_of_cell? w5 _ q2)).trans q2, (hW.cell (World.block_lt_of_cell? w5 _ q3)).trans q3, (hW.cell (World.block_lt_of_cell? w5 _ q4)).trans q4, (hW.cell (World.block_lt_of_cell? w5 _ q5)).trans q5, (hW.cell (World.block_lt_of_cell? w5 _ q6)).trans q6, (hW.cell (World.block_lt_of_cell? w5 _ q7)).trans q7, (hW.cell (World.block_lt_of_cell? w5 _ q8)).trans q8⟩)
              have z0 : Hid (Below w5.heap.size w5 w5.drew) := (Drawn0.below ⟨1, rfl⟩)
              have HCL := Lib.hid (show ∀ W, Below w5.heap.size w5 W → Calls Tryd.prog 29 #[.agg #[.int .i64 d.kind, .int .i64 d.node, .string (bsV d.key), .slice A1 d.value.length c1, .int .i64 d.n, .int .i64 d.at_, .int .u8 d.by_, .int .u8 d.draw, .slice A2 d.keep.length c2]] W fun e w' => e = .returned (.string (bsV (lineS d))) ∧ Below w5.heap.size w5 w' from fun W hW =>
                (line_any d A1 A2 c1 c2 W (HD5.out.later hW)).mono fun e w' ⟨he, hb⟩ => ⟨he, hW.trans (hb.mono hW.size)⟩)
              have HCR := Lib.hid (show ∀ W, Below w5.heap.size w5 W → Calls Tryd.prog 30 #[.agg #[.int .i64 d.kind, .int .i64 d.node, .string (bsV d.key), .slice A1 d.value.length c1, .int .i64 d.n, .int .i64 d.at_, .int .u8 d.by_, .int .u8 d.draw, .slice A2 d.keep.length c2]] W fun e w' => e = .returned (.string (bsV (lineS d))) ∧ Below w5.heap.size w5 w' from fun W hW =>
                (refLine_any d A1 A2 c1 c2 W (HD5.out.later hW)).mono fun e w' ⟨he, hb⟩ => ⟨he, hW.trans (hb.mono hW.size)⟩)
              generalize lineS d = lv at HCL HCR
              have hll : (lv == lv) = true := by simp
              go_wp2_with fail
              go_region_held3 (fun w' => w'.cell? (ad.add (i * 9)) = some (.int .i64 d.kind) ∧ w'.cell? ⟨(ad.add (i * 9)).block, (ad.add (i * 9)).off + 1, none⟩ = some (.int .i64 d.node) ∧ w'.cell? ⟨(ad.add (i * 9)).block, (ad.add (i * 9)).off + 2, none⟩ = some (.string (bsV d.key)) ∧ w'.cell? ⟨(ad.add (i * 9)).block, (ad.add (i * 9)).off + 3, none⟩ = some (.slice A1 d.value.length c1) ∧ w'.cell? ⟨(ad.add (i * 9)).block, (ad.add (i * 9)).off + 4, none⟩ = some (.int .i64 d.n) ∧ w'.cell? ⟨(ad.add (i * 9)).block, (ad.add (i * 9)).off + 5, none⟩ = some (.int .i64 d.at_) ∧ w'.cell? ⟨(ad.add (i * 9)).block, (ad.add (i * 9)).off + 6, none⟩ = some (.int .u8 d.by_) ∧ w'.cell? ⟨(ad.add (i * 9)).block, (ad.add (i * 9)).off + 7, none⟩ = some (.int .u8 d.draw) ∧ w'.cell? ⟨(ad.add (i * 9)).block, (ad.add (i * 9)).off + 8, none⟩ = some (.slice A2 d.keep.length c2))
                (first | exact ⟨q0, q1, q2, q3, q4, q5, q6, q7, q8⟩ | exact HXX.out _ z0.out | exact HXX.out _ z1.out | exact HXX.out _ z2.out)
                (first
                | (go_at_call 29; ((with_reducible refine (HCL.out _ ?_).mono ?_)); (case refine_1 => first | exact z0.out | exact Below.refl _ _); rintro e y1 ⟨rfl, hb⟩; have z1 := Lib.hid hb; clear hb)
                | (go_at_call 30; ((with_reducible refine (HCR.out _ ?_).mono ?_)); (case refine_1 => first | exact z1.out | exact z0.out); rintro e y2 ⟨rfl, hb⟩; have z2 := Lib.hid hb; clear hb))
              all_goals
                go_wp2_with fail
                go_roundw
                case rel => exact ⟨i + 1, by omega, by go_num, fun j h hj => (by
                    rcases Nat.eq_or_lt_of_le (Nat.le_of_lt_succ hj) with e | e
                    · subst e; rw [HKD.out]; exact HK.out
                    · exact HIJ.out j h e), HB5.out.trans (z2.out.mono HB5.out.size)⟩
                case measure => simp [intOf]; omega
            · rw [word_eq hk]
              clear hk
              go_wp2_with fail
              refine (HW.out _ HB5.out).mono ?_
              rintro e w6 ⟨rfl, hb6⟩
              have HB6 := Lib.hid hb6
              clear hb6
              go_wp2_with fail
              go_ret
              exact ⟨rfl, HB6.out⟩
          · have hi3 : ¬ (i : Int) < (L.length : Int) := by omega
            have HKS := Lib.hid (show ∀ d ∈ L, okD d ∧ 1 ≤ d.kind ∧ d.kind ≤ 19 from fun d hd => by
              obtain ⟨j, hj, rfl⟩ := List.getElem_of_mem hd
              exact ⟨HOK.out _ hd, HI.out.1 j hj (by omega)⟩)
            have HOS := Lib.hid (show ∀ d ∈ L, okS d from fun d hd => ⟨HOK.out d hd, by have := HSZ.out.2 d hd; omega, by have := HSZ.out.2 d hd; omega, by have := HSZ.out.2 d hd; omega⟩)
            have HTL := Lib.hid (show (textS L).length ≤ 400000 from Nat.le_trans (text_small L fun d hd => line_small (HOK.out d hd) (HSZ.out.2 d hd).1 (HSZ.out.2 d hd).2.1 (HSZ.out.2 d hd).2.2) (by have := HSZ.out.1; omega))
            have hread := fun W (hW : MX W) => read_any (textS L) W (by have := HTL.out; omega) hW
            unfold ReadPost at hread
            rw [read_text HKS.out (by have := HSZ.out.1; omega)] at hread
            have hnt : textS (L.map normD) = textS L := norm_text L
            have hns := norm_sameAll L
            have hno : ∀ d ∈ L.map normD, okS d := fun d hd => by
              obtain ⟨x, hx, rfl⟩ := List.mem_map.1 hd
              exact norm_ok (HOS.out x hx)
            have hnl : (L.map normD).length = L.length := List.length_map ..
            generalize L.map normD = M at hread hnt hns hno hnl
            dsimp only at hread
            have HRD := Lib.hid hread
            have HNT := Lib.hid hnt
            have HNS := Lib.hid hns
            have HNO := Lib.hid hno
            have HNL := Lib.hid hnl
            have HB5 := Lib.hid HI.out.2
            have HTX := Lib.hid (fun W (hW : Below w.heap.size w W) => text_any L A c W (Kd.C_below HC.out hW) hc HOS.out (by have := HTL.out; omega) (by have := HSZ.out.1; omega))
            have HRT := Lib.hid (fun W (hW : Below w.heap.size w W) => refText_any L A c W (Kd.C_below HC.out hW) hc HOS.out (by have := HTL.out; omega) (by have := HSZ.out.1; omega))
            clear hread hnt hns hno hnl HI
            generalize textS L = tx at HRD HNT HTX HRT HTL
            have htt : (tx == tx) = true := by simp
            go_wp2_with fail
            refine (HTX.out wr HB5.out).mono ?_
            rintro e w5 ⟨rfl, hb5⟩
            have HB6 := Lib.hid (HB5.out.trans (hb5.mono HB5.out.size))
            clear hb5
            go_wp2_with fail
            refine (HRD.out w5 (HM.out.later HB6.out)).mono ?_
            rintro e w6 ⟨B, k, ev, rfl, hR, hE, hb6⟩
            obtain ⟨_, hk, hCM⟩ := Kd.R_reads' hR
            have HB7 := Lib.hid (HB6.out.trans (hb6.mono HB6.out.size))
            have HCM := Lib.hid hCM
            obtain ⟨_, rfl⟩ | ⟨hz, _⟩ := hE
            · clear hR hb6 hCM HRD
              go_wp2_with fail
              refine (HRT.out w6 HB7.out).mono ?_
              rintro e w7 ⟨rfl, hb7⟩
              have HB8 := Lib.hid (HB7.out.trans (hb7.mono HB7.out.size))
              have HCN := Lib.hid (Kd.C_below HCM.out hb7)
              clear hb7
              go_wp2_with fail
              refine (refSameAll_any L M A B c k w7 (Kd.C_below HC.out HB8.out) (kE_C HCN.out) hc hk HOS.out HNO.out (by have := HSZ.out.1; omega) (by have := HSZ.out.1; have := HNL.out; omega)).mono ?_
              rintro e w8 ⟨rfl, hb8⟩
              rw [HNS.out]
              have HB9 := Lib.hid (HB8.out.trans (hb8.mono HB8.out.size))
              have HCO := Lib.hid (Kd.C_below HCN.out hb8)
              clear hb8
              go_wp2_with fail
              refine (text_any M B k w8 (kE_C HCO.out) hk HNO.out (by rw [HNT.out]; have := HTL.out; omega) (by have := HSZ.out.1; have := HNL.out; omega)).mono ?_
              rintro e w9 ⟨rfl, hb9⟩
              rw [HNT.out]
              have HBA := Lib.hid (HB9.out.trans (hb9.mono HB9.out.size))
              clear hb9
              go_wp2_with fail
              refine (HW.out _ HBA.out).mono ?_
              rintro e wA ⟨rfl, hbB⟩
              have HBB := Lib.hid hbB
              clear hbB
              go_wp2_with fail
              go_ret
              exact ⟨rfl, HBB.out⟩
            · exact absurd rfl hz
    · have d1 : (1000 : Int) < (ln.length : Int) := by omega
      go_wp2_with fail
      refine (HW.out _ HB1.out).mono ?_
      rintro e w6 ⟨rfl, hb6⟩
      have HB6 := Lib.hid hb6
      clear hb6
      go_wp2_with fail
      go_ret
      exact ⟨rfl, HB6.out⟩
  · have d0 : (0 : Int) < r := by omega
    go_wp2_with fail
    refine (HW.out _ HB1.out).mono ?_
    rintro e w6 ⟨rfl, hb6⟩
    have HB6 := Lib.hid hb6
    clear hb6
    go_wp2_with fail
    go_ret
    exact ⟨rfl, HB6.out⟩
end Go.Proofs.YtbckbpimabmacaaDoor
