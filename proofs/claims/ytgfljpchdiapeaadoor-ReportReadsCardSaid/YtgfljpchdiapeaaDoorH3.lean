/- The document's words and rows; its events of words, and of a text, plainly. The document's Event and Read. -/
import Derived.Test.YtgfljpchdiapeaaDoorG3
import Derived.Test.YtgfljpchdiapeaaDoorG5
import Derived.Test.YtgfljpchdiapeaaDoorG7
namespace Go.Proofs.YtgfljpchdiapeaaDoor
set_option linter.unusedVariables false
set_option linter.unusedSimpArgs false
open Go.RowKit Go.Proofs.YtgfljpchdiapeaaDoorW.PrintWords
attribute [local go_sem ↓] Go.wp_at_zero Go.wp_at_succ
attribute [local go_sem] bsV_get bsV_size bsV_toList
theorem words_l (s : Bs) (hl : s.length < 100000000) : ∀ (n k i fr : Nat) (acc : List Bs), i + n = s.length → n < k → fr ≤ i → acc.length ≤ i →
    PR.butteryref29_Words.l0 k (bsV s) (acc.map bsV) (fr : Int) (i : Int) = some ((splitGo 32 acc ((s.take i).drop fr) (s.drop i)).map bsV)
  | 0, k + 1, i, fr, acc, h1, h2, h3, h4 => by
    rw [PR.butteryref29_Words.l0, if_neg (by rw [bsV_size]; omega), if_pos (by omega), if_pos (by rw [bsV_size]; omega), if_pos (by rw [List.length_map]; omega), List.drop_of_length_le (l := s) (by omega), splitGo, List.map_append, Int.toNat_natCast, bsV_size, bs_extract]
    rw [List.take_of_length_le (l := s) (by omega), List.take_of_length_le (by rw [List.length_drop]; omega)]
    rfl
  | n + 1, k + 1, i, fr, acc, h1, h2, h3, h4 => by
    have hi : i < s.length := by omega
    have hd : s.drop i = s[i] :: s.drop (i + 1) := List.drop_eq_getElem_cons hi
    rw [PR.butteryref29_Words.l0, if_pos (by rw [bsV_size]; omega), if_pos (by omega), bt_bs s i hi, wrap_up' i (by omega), hd, splitGo]
    by_cases hc : s[i] = 32
    · rw [if_pos (by rw [hc]; rfl), if_pos hc, if_pos (by omega), if_pos (by omega), if_pos (by rw [bsV_size]; omega), if_pos (by rw [List.length_map]; omega)]
      have e1 : acc.map bsV ++ [(bsV s).extract (fr : Int).toNat (i : Int).toNat] = (acc ++ [(s.take i).drop fr]).map bsV := by
        rw [List.map_append, Int.toNat_natCast, Int.toNat_natCast, bs_extract, List.take_drop]
        rw [show fr + (i - fr) = i by omega]
        rfl
      rw [e1, words_l s hl n k (i + 1) (i + 1) _ (by omega) (by omega) (Nat.le_refl _) (by simp; omega)]
      have e2 : (s.take (i + 1)).drop (i + 1) = [] := List.drop_of_length_le (by rw [List.length_take]; omega)
      rw [e2]
    · rw [if_neg (fun e => hc (UInt8.toNat_inj.1 (by rw [show (32 : UInt8).toNat = 32 from rfl]; omega))), if_neg hc, words_l s hl n k (i + 1) fr acc (by omega) (by omega) (by omega) (by omega)]
      rw [List.take_succ_eq_append_getElem hi, List.drop_append_of_le_length (by rw [List.length_take]; omega)]
theorem words_f (s : Bs) (hl : s.length < 100000000) : PR.butteryref29_Words.f (s.length + 1) (bsV s) = some ((splitS 32 s).map bsV) := by
  have h := words_l s hl s.length (s.length + 1) 0 0 [] (by omega) (by omega) (Nat.le_refl _) (Nat.le_refl _)
  rw [List.drop_zero, List.drop_zero, List.take_zero, split_go] at h
  exact h
theorem words_any (s : Bs) (hl : s.length < 100000000) (w : World) : Calls Tryd.prog 48 #[.string (bsV s)] w fun e w' => ∃ A c, e = .returned (.slice A (splitS 32 s).length c) ∧ (splitS 32 s).length ≤ c ∧ Kd.string.C w' A (splitS 32 s).length ((splitS 32 s).map bsV) ∧ Below w.heap.size w w' := by
  refine (PR.butteryref29_Words.calls _ _ _ w (words_f s hl)).mono ?_
  rintro e w' ⟨v, rfl, hr, hb⟩
  obtain ⟨A, c, rfl, h1, h2⟩ := Kd.R_reads hr
  rw [List.length_map] at h1 h2 ⊢
  exact ⟨A, c, rfl, h1, h2, hb⟩
theorem rdw {ws : List Bs} {i : Int} {j : Nat} (hi : i = j) (h : j < ws.length) : rdOf ByteArray.empty (ws.map bsV) i = bsV ws[j] := by
  subst hi
  unfold rdOf
  rw [Int.toNat_natCast, List.getD_eq_getElem?_getD, List.getElem?_map, List.getElem?_eq_getElem h]
  rfl
theorem str_bI (b : Bs) : strOfNums (bI b) = bsV b := by
  unfold strOfNums bI bsV
  congr 1
  rw [List.map_map]
  congr 1
  apply List.ext_getElem (by simp)
  intro i h1 h2
  simp
theorem refn_f {ws : List Bs} {i : Int} {j : Nat} (hi : i = j) (h : j < ws.length) (hl : ws[j].length < 100000000) (k : Nat) (ok : Bool) : PR.butteryref32_number.f k (ws.map bsV) i ok = some ((numV ws[j]).1, ok && (numV ws[j]).2) := by
  unfold PR.butteryref32_number.f
  rw [if_pos (by omega), if_pos (by rw [List.length_map]; omega), rdw hi h]
  have e : PR.butteryref29_Number.f k (bsV ws[j]) = some (numV ws[j]) := by
    unfold PR.butteryref29_Number.f
    rw [show (bsV ws[j]).data.toList = ws[j] from bsV_list _, if_pos hl]
  rw [e, Option.bind_some]
  cases ok <;> simp
theorem bytes_f {ws : List Bs} {i : Int} {j : Nat} (hi : i = j) (h : j < ws.length) (hl : ws[j].length < 100000000) (k : Nat) (hk : 2 * ws[j].length + 5 ≤ k) : ∃ b q, UnqIs ws[j] b q ∧ ∀ ok, PR.butteryref32_bytes.f k (ws.map bsV) i ok = some (bI b, ok && q) := by
  obtain ⟨b, q, h1, h2⟩ := refUnq_f ws[j] hl
  have h3 := mono_to (g := fun k => PR.butteryref29_Unquote.f k (bsV ws[j])) (fun k => PR.butteryref29_Unquote.mono _ k) h1 hk
  refine ⟨b, q, h2, fun ok => ?_⟩
  unfold PR.butteryref32_bytes.f
  rw [if_pos (by omega), if_pos (by rw [List.length_map]; omega), rdw hi h]
  rw [h3, Option.bind_some]
  cases ok <;> simp
abbrev T9 : Type := Int × Int × ByteArray × Int × Int × Int × List Int × Bool × Bool
def tupE (e : Ev) (b : Bool) : T9 := (e.kind, e.node, bsV e.key, e.ver, e.asof, e.ends, bI e.value, e.found, b)
def EvIs (o : Option Ev) (t : T9) : Prop := (o = none ∧ t.2.2.2.2.2.2.2.2 = false) ∨ ∃ e, o = some e ∧ t = tupE e true
theorem num_two (a : Bs) : (∃ x, numS a = some x ∧ numV a = (x, true)) ∨ (numS a = none ∧ numV a = (0, false)) := by
  unfold numV
  cases numS a with
  | none => exact .inr ⟨rfl, rfl⟩
  | some x => exact .inl ⟨x, rfl, rfl⟩
theorem hit_f (w a b c d e : Bs) (k : Nat) (hl : ∀ x ∈ [w, a, b, c, d, e], x.length < 100000000) (hk : ∀ x ∈ [w, a, b, c, d, e], 2 * x.length + 5 ≤ k) : ∃ t, PR.butteryref32_hit.f k ([w, a, b, c, d, e].map bsV) = some t ∧ EvIs (hitR [a, b, c, d, e]) t := by
  unfold PR.butteryref32_hit.f
  obtain ⟨b1, q1, u1, f1⟩ := bytes_f (ws := [w, a, b, c, d, e]) (i := 2) (j := 2) rfl (by simp) (hl _ (by simp)) k (hk _ (by simp))
  obtain ⟨b2, q2, u2, f2⟩ := bytes_f (ws := [w, a, b, c, d, e]) (i := 5) (j := 5) rfl (by simp) (hl _ (by simp)) k (hk _ (by simp))
  rw [refn_f (ws := [w, a, b, c, d, e]) (i := 1) (j := 1) rfl (by simp) (hl _ (by simp)) k true, Option.bind_some]
  dsimp only
  rw [f1, Option.bind_some]
  dsimp only
  rw [refn_f (ws := [w, a, b, c, d, e]) (i := 3) (j := 3) rfl (by simp) (hl _ (by simp)) k _, Option.bind_some]
  dsimp only
  rw [refn_f (ws := [w, a, b, c, d, e]) (i := 4) (j := 4) rfl (by simp) (hl _ (by simp)) k _, Option.bind_some]
  dsimp only
  rw [f2, Option.bind_some]
  refine ⟨_, rfl, ?_⟩
  simp only [List.getElem_cons_succ, List.getElem_cons_zero] at u1 u2 ⊢
  rcases num_two a with ⟨x, n1, m1⟩ | ⟨n1, m1⟩
  · rcases u1 with ⟨rfl, u1⟩ | ⟨rfl, u1⟩
    · rcases num_two c with ⟨y, n2, m2⟩ | ⟨n2, m2⟩
      · rcases num_two d with ⟨z, n3, m3⟩ | ⟨n3, m3⟩
        · rcases u2 with ⟨rfl, u2⟩ | ⟨rfl, u2⟩
          · refine .inr ⟨⟨1, x, b1, y, z, 0, b2, false⟩, by simp [hitR, n1, u1, n2, n3, u2], ?_⟩
            rw [m1, m2, m3, str_bI]
            rfl
          · exact .inl ⟨by simp [hitR, n1, u1, n2, n3, u2], by simp⟩
        · exact .inl ⟨by simp [hitR, n1, u1, n2, n3], by simp [m3]⟩
      · exact .inl ⟨by simp [hitR, n1, u1, n2], by simp [m2]⟩
    · exact .inl ⟨by simp [hitR, n1, u1], by simp⟩
  · exact .inl ⟨by simp [hitR, n1], by simp [m1]⟩
theorem write_f (w a b c : Bs) (k : Nat) (hl : ∀ x ∈ [w, a, b, c], x.length < 100000000) (hk : ∀ x ∈ [w, a, b, c], 2 * x.length + 5 ≤ k) : ∃ t, PR.butteryref32_written.f k ([w, a, b, c].map bsV) = some t ∧ EvIs (writeR [a, b, c]) t := by
  unfold PR.butteryref32_written.f
  obtain ⟨b1, q1, u1, f1⟩ := bytes_f (ws := [w, a, b, c]) (i := 2) (j := 2) rfl (by simp) (hl _ (by simp)) k (hk _ (by simp))
  obtain ⟨b2, q2, u2, f2⟩ := bytes_f (ws := [w, a, b, c]) (i := 3) (j := 3) rfl (by simp) (hl _ (by simp)) k (hk _ (by simp))
  rw [refn_f (ws := [w, a, b, c]) (i := 1) (j := 1) rfl (by simp) (hl _ (by simp)) k true, Option.bind_some]
  dsimp only
  rw [f1, Option.bind_some]
  rw [if_pos (by simp)]
  dsimp only
  rw [f2, Option.bind_some]
  refine ⟨_, rfl, ?_⟩
  simp only [List.getElem_cons_succ, List.getElem_cons_zero] at u1 u2 ⊢
  rcases num_two a with ⟨x, n1, m1⟩ | ⟨n1, m1⟩
  · rcases u1 with ⟨rfl, u1⟩ | ⟨rfl, u1⟩
    · rcases u2 with ⟨rfl, u2⟩ | ⟨rfl, u2⟩
      · refine .inr ⟨⟨3, 0, b1, x, 0, 0, b2, true⟩, by simp [writeR, n1, u1, u2], ?_⟩
        rw [m1, str_bI]
        rfl
      · exact .inl ⟨by simp [writeR, n1, u1, u2], by simp⟩
    · exact .inl ⟨by simp [writeR, n1, u1], by simp⟩
  · exact .inl ⟨by simp [writeR, n1], by simp [m1]⟩
theorem erase_f (w a b : Bs) (k : Nat) (hl : ∀ x ∈ [w, a, b], x.length < 100000000) (hk : ∀ x ∈ [w, a, b], 2 * x.length + 5 ≤ k) : ∃ t, PR.butteryref32_written.f k ([w, a, b].map bsV) = some t ∧ EvIs (eraseR [a, b]) t := by
  unfold PR.butteryref32_written.f
  obtain ⟨b1, q1, u1, f1⟩ := bytes_f (ws := [w, a, b]) (i := 2) (j := 2) rfl (by simp) (hl _ (by simp)) k (hk _ (by simp))
  rw [refn_f (ws := [w, a, b]) (i := 1) (j := 1) rfl (by simp) (hl _ (by simp)) k true, Option.bind_some]
  dsimp only
  rw [f1, Option.bind_some]
  rw [if_neg (by simp)]
  refine ⟨_, rfl, ?_⟩
  simp only [List.getElem_cons_succ, List.getElem_cons_zero] at u1 ⊢
  rcases num_two a with ⟨x, n1, m1⟩ | ⟨n1, m1⟩
  · rcases u1 with ⟨rfl, u1⟩ | ⟨rfl, u1⟩
    · refine .inr ⟨⟨3, 0, b1, x, 0, 0, [], false⟩, by simp [eraseR, n1, u1], ?_⟩
      rw [m1, str_bI]
      rfl
    · exact .inl ⟨by simp [eraseR, n1, u1], by simp⟩
  · exact .inl ⟨by simp [eraseR, n1], by simp [m1]⟩
theorem bind_tup (o : Option T9) : (o.bind fun t => some (t.1, t.2.1, t.2.2.1, t.2.2.2.1, t.2.2.2.2.1, t.2.2.2.2.2.1, t.2.2.2.2.2.2.1, t.2.2.2.2.2.2.2.1, t.2.2.2.2.2.2.2.2)) = o := by cases o <;> rfl
theorem j2_none {l : List ByteArray} {w : Bs} (k : Nat) (h : w ≠ doneW) : ∃ t, PR.butteryref32_event.j2 (k + 1) l (bsV w) false = some t ∧ t.2.2.2.2.2.2.2.2 = false := by
  rw [PR.butteryref32_event.j2, if_neg (by decide), bsV_toList, if_neg (show ¬ w = [100, 111, 110, 101] from h)]
  exact ⟨_, rfl, rfl⟩
theorem event_f (w : Bs) (r : List Bs) (k : Nat) (hl : ∀ x ∈ w :: r, x.length < 100000000) (hk : ∀ x ∈ w :: r, 2 * x.length + 5 ≤ k) : ∃ t, PR.butteryref32_event.f (k + 3) ((w :: r).map bsV) = some t ∧ EvIs (readE w r) t := by
  have hk' : ∀ j, ∀ x ∈ w :: r, 2 * x.length + 5 ≤ k + j := fun j x hx => Nat.le_trans (hk x hx) (Nat.le_add_right _ _)
  have hlen : (((w :: r).map bsV).length : Int) = (r.length : Int) + 1 := by simp
  have a1 : hitW ≠ missW := by decide
  have a2 : hitW ≠ writeW := by decide
  have a3 : hitW ≠ eraseW := by decide
  have a4 : hitW ≠ doneW := by decide
  have b2 : missW ≠ writeW := by decide
  have b3 : missW ≠ eraseW := by decide
  have b4 : missW ≠ doneW := by decide
  have c3 : writeW ≠ eraseW := by decide
  have c4 : writeW ≠ doneW := by decide
  have d4 : eraseW ≠ doneW := by decide
  have eh : ([104, 105, 116] : List UInt8) = hitW := rfl
  have em : ([109, 105, 115, 115] : List UInt8) = missW := rfl
  have ew : ([119, 114, 105, 116, 101] : List UInt8) = writeW := rfl
  have ee : ([101, 114, 97, 115, 101] : List UInt8) = eraseW := rfl
  have ed : ([100, 111, 110, 101] : List UInt8) = doneW := rfl
  unfold PR.butteryref32_event.f
  rw [if_pos (by rw [hlen]; omega), rdw (ws := w :: r) (i := 0) (j := 0) rfl (by simp), List.getElem_cons_zero, bsV_toList, eh, hlen]
  unfold readE
  by_cases k1 : w = hitW
  · subst k1
    rw [if_pos rfl, if_pos rfl]
    by_cases h5 : r.length = 5
    · obtain ⟨a, b, c, d, e, rfl⟩ := len5 h5
      have hb : ((([a, b, c, d, e] : List Bs).length : Int) + 1 == 6) = true := rfl
      rw [hb, PR.butteryref32_event.j0, if_pos rfl, bind_tup]
      exact hit_f _ a b c d e _ hl (hk' 2)
    · have hb : ((r.length : Int) + 1 == 6) = false := beq_eq_false_iff_ne.2 (by omega)
      rw [hb, PR.butteryref32_event.j0, if_neg (by decide), bsV_toList, em, if_neg a1, PR.butteryref32_event.j1, if_neg (by decide), bsV_toList, ew, if_neg a2, ee, if_neg a3, hitR_no h5]
      obtain ⟨t, h1, h2⟩ := j2_none (l := (hitW :: r).map bsV) k a4
      exact ⟨t, h1, .inl ⟨rfl, h2⟩⟩
  rw [if_neg k1, if_neg k1, PR.butteryref32_event.j0, if_neg (by decide), bsV_toList, em]
  by_cases k2 : w = missW
  · subst k2
    rw [if_pos rfl, if_pos rfl, hlen]
    by_cases h2 : r.length = 2
    · obtain ⟨a, b, rfl⟩ := len2' h2
      have hb : ((([a, b] : List Bs).length : Int) + 1 == 3) = true := rfl
      rw [hb, PR.butteryref32_event.j1, if_pos rfl]
      obtain ⟨b1, q1, u1, f1⟩ := bytes_f (ws := [missW, a, b]) (i := 2) (j := 2) rfl (by simp) (hl _ (by simp)) (k + 1) (hk' 1 _ (by simp))
      rw [refn_f (ws := [missW, a, b]) (i := 1) (j := 1) rfl (by simp) (hl _ (by simp)) (k + 1) true, Option.bind_some]
      dsimp only
      rw [f1, Option.bind_some]
      refine ⟨_, rfl, ?_⟩
      simp only [List.getElem_cons_succ, List.getElem_cons_zero] at u1 ⊢
      rcases num_two a with ⟨x, n1, m1⟩ | ⟨n1, m1⟩
      · rcases u1 with ⟨rfl, u1⟩ | ⟨rfl, u1⟩
        · refine .inr ⟨⟨2, x, b1, 0, 0, 0, [], false⟩, by simp [missR, n1, u1], ?_⟩
          rw [m1, str_bI]
          rfl
        · exact .inl ⟨by simp [missR, n1, u1], by simp⟩
      · exact .inl ⟨by simp [missR, n1], by simp [m1]⟩
    · have hb : ((r.length : Int) + 1 == 3) = false := beq_eq_false_iff_ne.2 (by omega)
      rw [hb, PR.butteryref32_event.j1, if_neg (by decide), bsV_toList, ew, if_neg b2, ee, if_neg b3, missR_no h2]
      obtain ⟨t, h1, h2⟩ := j2_none (l := (missW :: r).map bsV) k b4
      exact ⟨t, h1, .inl ⟨rfl, h2⟩⟩
  rw [if_neg k2, if_neg k2, PR.butteryref32_event.j1, if_neg (by decide), bsV_toList, ew, ee, hlen]
  by_cases k3 : w = writeW
  · subst k3
    rw [if_pos rfl, if_pos rfl]
    by_cases h3 : r.length = 3
    · obtain ⟨a, b, c, rfl⟩ := len3' h3
      rw [if_pos (by rfl), PR.butteryref32_event.j2, if_pos rfl, bind_tup]
      exact write_f _ a b c _ hl hk
    · rw [if_neg (by omega), if_neg c3, writeR_no h3]
      obtain ⟨t, h1, h2⟩ := j2_none (l := (writeW :: r).map bsV) k c4
      exact ⟨t, h1, .inl ⟨rfl, h2⟩⟩
  rw [if_neg k3, if_neg k3]
  by_cases k4 : w = eraseW
  · subst k4
    rw [if_pos rfl, if_pos rfl]
    by_cases h2 : r.length = 2
    · obtain ⟨a, b, rfl⟩ := len2' h2
      have hb : ((([a, b] : List Bs).length : Int) + 1 == 3) = true := rfl
      rw [hb, PR.butteryref32_event.j2, if_pos rfl, bind_tup]
      exact erase_f _ a b _ hl hk
    · have hb : ((r.length : Int) + 1 == 3) = false := beq_eq_false_iff_ne.2 (by omega)
      rw [hb, eraseR_no h2]
      obtain ⟨t, h1, h2⟩ := j2_none (l := (eraseW :: r).map bsV) k d4
      exact ⟨t, h1, .inl ⟨rfl, h2⟩⟩
  rw [if_neg k4, if_neg k4, PR.butteryref32_event.j2, if_neg (by decide), bsV_toList, ed, hlen]
  by_cases k5 : w = doneW
  · subst k5
    rw [if_pos rfl, if_pos rfl]
    by_cases h1 : r.length = 1
    · obtain ⟨a, rfl⟩ := len1' h1
      rw [if_pos (by rfl), refn_f (ws := [doneW, a]) (i := 1) (j := 1) rfl (by simp) (hl _ (by simp)) k true, Option.bind_some]
      refine ⟨_, rfl, ?_⟩
      simp only [List.getElem_cons_succ, List.getElem_cons_zero]
      rcases num_two a with ⟨x, n1, m1⟩ | ⟨n1, m1⟩
      · refine .inr ⟨⟨4, 0, [], x, 0, 0, [], false⟩, by simp [doneR, n1], ?_⟩
        rw [m1]
        rfl
      · exact .inl ⟨by simp [doneR, n1], by simp [m1]⟩
    · rw [if_neg (by omega), doneR_no h1]
      exact ⟨_, rfl, .inl ⟨rfl, rfl⟩⟩
  rw [if_neg k5, if_neg k5]
  exact ⟨_, rfl, .inl ⟨rfl, rfl⟩⟩
theorem Event_f (s : Bs) (k : Nat) (hl : s.length < 100000000) (hk : 2 * s.length + 8 ≤ k) : PR.butteryref32_Event.f k (bsV s) = some (tupE (evD s) (eventS s).isSome) := by
  unfold PR.butteryref32_Event.f
  have h1 := mono_to (g := fun k => PR.butteryref29_Words.f k (bsV s)) (fun k => PR.butteryref29_Words.mono _ k) (words_f s hl) (m := k) (by omega)
  rw [h1, Option.bind_some]
  obtain ⟨w, r, hs⟩ := split_cons 32 s
  have hm : ∀ x ∈ w :: r, x.length ≤ s.length := fun x hx => by rw [← hs] at hx; exact mem_split_len hx
  rw [hs]
  obtain ⟨k, rfl⟩ : ∃ j, k = j + 3 := ⟨k - 3, by omega⟩
  obtain ⟨t, h2, h3⟩ := event_f w r k (fun x hx => Nat.lt_of_le_of_lt (hm x hx) hl) (fun x hx => by have := hm x hx; omega)
  rw [h2, Option.bind_some]
  have he : eventS s = readE w r := by rw [eventS, hs]
  rcases h3 with ⟨h3, h4⟩ | ⟨e, h3, h4⟩
  · rw [if_neg (by rw [h4]; decide), evD, he, h3]
    rfl
  · rw [h4, if_pos (show (tupE e true).2.2.2.2.2.2.2.2 = true from rfl), evD, he, h3]
    rfl
end Go.Proofs.YtgfljpchdiapeaaDoor
namespace Go.Proofs.YtgfljpchdiapeaaDoor
set_option linter.unusedVariables false
set_option linter.unusedSimpArgs false
open Go.RowKit Go.Proofs.YtgfljpchdiapeaaDoorW.PrintWords
attribute [local go_sem ↓] Go.wp_at_zero Go.wp_at_succ
attribute [local go_sem] bsV_get bsV_size bsV_toList
def RefEv (s : Bs) (w : World) (e : Ending) (w' : World) : Prop := ∃ A c, e = .returned (.tuple #[.agg (eC (evD s) A c), .bool (eventS s).isSome]) ∧ Kd.R (Kd.int .u8) 5 w' w.heap.size (fun _ => True) (.slice A (evD s).value.length c) (bI (evD s).value) ∧ Below w.heap.size w w'
theorem refEvent_any (s : Bs) (w : World) (hl : s.length < 100000000) : Calls Tryd.prog 21 #[.string (bsV s)] w (RefEv s w) := by
  refine (PR.butteryref32_Event.calls (2 * s.length + 8) (bsV s) _ _ _ _ _ _ _ _ _ w (Event_f s _ hl (Nat.le_refl _))).mono ?_
  rintro e w' ⟨v, rfl, hr, hb⟩
  obtain ⟨A, c, rfl⟩ := Kd.R_slice hr
  rw [bI_len] at hr ⊢
  exact ⟨A, c, rfl, hr, hb⟩
def outR (r : Nat ⊕ List Ev) : List Vv × Int × Int := match r with
  | .inl i => ([], 16, i)
  | .inr L => (L.map evOf, 0, 0)
theorem refRead_l (rows : List Bs) (F : Nat) (hl : ∀ x ∈ rows, x.length < 100000000) (hF : ∀ x ∈ rows, 2 * x.length + 8 ≤ F) (hn : rows.length ≤ 1000000000) : ∀ (n k i : Nat) (L : List Ev), i + n = rows.length → n + F < k → L.length ≤ i →
    PR.butteryref32_Read.l0 k (rows.map bsV) (L.map evOf) (i : Int) = some (outR (preGE L (readGE i (rows.drop i))))
  | 0, k + 1, i, L, h1, h2, h3 => by
    rw [PR.butteryref32_Read.l0, if_neg (by rw [List.length_map]; omega), List.drop_of_length_le (by omega), readGE]
    simp [preGE, outR]
  | n + 1, k + 1, i, L, h1, h2, h3 => by
    have hi : i < rows.length := by omega
    have hd : rows.drop i = rows[i] :: rows.drop (i + 1) := List.drop_eq_getElem_cons hi
    have hw : wrap64 ((i : Int) + 1) = ((i + 1 : Nat) : Int) := by unfold wrap64; omega
    rw [PR.butteryref32_Read.l0, if_pos (by rw [List.length_map]; omega), if_pos (by omega), rdw (ws := rows) rfl hi, bsV_toList, hd, hw]
    by_cases he : rows[i] = []
    · rw [if_pos he, readGE_skip he]
      exact refRead_l rows F hl hF hn n k (i + 1) L (by omega) (by omega) (by omega)
    · rw [if_neg he, Event_f rows[i] k (hl _ (List.getElem_mem hi)) (by have := hF _ (List.getElem_mem hi); omega), Option.bind_some]
      cases hev : eventS rows[i] with
      | none =>
        rw [if_neg (by rw [show (tupE (evD rows[i]) (none : Option Ev).isSome).2.2.2.2.2.2.2.2 = false from rfl]; decide), readGE_none he hev]
        rfl
      | some d =>
        have hdd : evD rows[i] = d := by rw [evD, hev]; rfl
        rw [hdd, if_pos (show (tupE d (some d).isSome).2.2.2.2.2.2.2.2 = true from rfl), if_pos (by rw [List.length_map]; omega), readGE_some he hev, preGE_snoc]
        have ea : L.map evOf ++ [(⟨(tupE d (some d).isSome).1, (tupE d (some d).isSome).2.1, ⟨(tupE d (some d).isSome).2.2.1, (tupE d (some d).isSome).2.2.2.1, (tupE d (some d).isSome).2.2.2.2.1, (tupE d (some d).isSome).2.2.2.2.2.1, (tupE d (some d).isSome).2.2.2.2.2.2.1⟩, (tupE d (some d).isSome).2.2.2.2.2.2.2.1⟩ : Vv)] = (L ++ [d]).map evOf := by rw [List.map_append]; rfl
        rw [ea]
        exact refRead_l rows F hl hF hn n k (i + 1) (L ++ [d]) (by omega) (by omega) (by simp; omega)
theorem refRead_f (s : Bs) (hl : s.length < 100000000) : PR.butteryref32_Read.f (3 * s.length + 20) (bsV s) = some ((readSE s).1.map evOf, (readSE s).2.1, (readSE s).2.2) := by
  unfold PR.butteryref32_Read.f
  have h1 := mono_to (g := fun k => PR.butteryref29_Rows.f k (bsV s)) (fun k => PR.butteryref29_Rows.mono _ k) (rows_f s hl) (m := 3 * s.length + 20) (by omega)
  rw [h1, Option.bind_some]
  have hm : ∀ x ∈ splitS 10 s, x.length ≤ s.length := fun x hx => mem_split_len hx
  have hn := split_len 10 s
  have h := refRead_l (splitS 10 s) (2 * s.length + 8) (fun x hx => Nat.lt_of_le_of_lt (hm x hx) hl) (fun x hx => by have := hm x hx; omega) (by omega) (splitS 10 s).length (3 * s.length + 20) 0 [] (by omega) (by omega) (Nat.le_refl _)
  rw [show (([] : List Ev).map evOf) = [] from rfl, show ((0 : Nat) : Int) = 0 from rfl, List.drop_zero, preGE_nil] at h
  rw [h]
  unfold readSE
  cases readGE 0 (splitS 10 s) <;> rfl
def RRead (s : Bs) (w : World) (e : Ending) (w' : World) : Prop := ∃ A c, e = .returned (.tuple #[.slice A (readSE s).1.length c, .int .i64 (readSE s).2.1, .int .i64 (readSE s).2.2]) ∧ (readSE s).1.length ≤ c ∧ kV.C w' A (readSE s).1.length (readSE s).1 ∧ Below w.heap.size w w'
theorem refReadE_any (s : Bs) (w : World) (hl : s.length < 100000000) : Calls Tryd.prog 16 #[.string (bsV s)] w (RRead s w) := by
  refine (PR.butteryref32_Read.calls _ (bsV s) _ _ _ w (refRead_f s hl)).mono ?_
  rintro e w' ⟨v, rfl, hS, hb⟩
  obtain ⟨A, c, rfl, h1, h2⟩ := Kd.R_reads (Kd.S_R hS)
  have hC := kV_of h2
  rw [List.length_map] at h1 hC ⊢
  exact ⟨A, c, rfl, h1, hC, hb⟩
end Go.Proofs.YtgfljpchdiapeaaDoor
