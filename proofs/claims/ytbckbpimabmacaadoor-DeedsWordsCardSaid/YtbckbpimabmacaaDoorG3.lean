/- Kinds' words: Word both ways, find, parts. A kind's parts. The reader of a line's words: next. The reader of a line's words: number, bytes, small. The reader of a line's words: bytes. -/
import Derived.Test.YtbckbpimabmacaaDoorG1
import Derived.Test.YtbckbpimabmacaaDoorG2
import Derived.Deep.WholeRow
import Derived.Laws.Rows
import Derived.Deep.Slices
namespace Go.Proofs.YtbckbpimabmacaaDoor
set_option linter.unusedVariables false
set_option linter.unusedSimpArgs false
open Go.RowKit Go.Proofs.YtbckbpimabmacaaDoorW.PrintWords
attribute [local go_sem ↓] Go.wp_at_zero Go.wp_at_succ
attribute [local go_sem] bsV_get bsV_size bsV_toList

theorem word_out {k : Int} (h : k < 1 ∨ 19 < k) : wordS k = [] := by rw [wordS, if_pos h]
/-- The words as the code lays them: none, then the nineteen. -/
def wArr : Array Value := #[.string ⟨#[]⟩, .string ⟨#[103, 101, 116]⟩, .string ⟨#[112, 117, 116]⟩, .string ⟨#[101, 114, 97, 115, 101]⟩, .string ⟨#[99, 111, 109, 101]⟩, .string ⟨#[108, 111, 115, 101]⟩, .string ⟨#[100, 111, 117, 98, 108, 101]⟩, .string ⟨#[115, 112, 111, 105, 108]⟩, .string ⟨#[116, 101, 108, 108]⟩, .string ⟨#[98, 101, 97, 116]⟩, .string ⟨#[100, 101, 109, 111, 116, 101]⟩, .string ⟨#[112, 114, 111, 109, 111, 116, 101]⟩, .string ⟨#[114, 101, 99, 108, 97, 105, 109]⟩, .string ⟨#[115, 101, 97, 108]⟩, .string ⟨#[115, 119, 101, 101, 112]⟩, .string ⟨#[102, 117, 115, 101]⟩, .string ⟨#[99, 114, 97, 115, 104]⟩, .string ⟨#[115, 116, 97, 114, 116]⟩, .string ⟨#[101, 120, 112, 101, 108]⟩, .string ⟨#[115, 104, 117, 116]⟩]
theorem wArr_at : ∀ n : Nat, n < 19 → wArr[n + 1]? = some (.string (bsV (wordS ((n : Int) + 1))))
  | 0, _ => rfl | 1, _ => rfl | 2, _ => rfl | 3, _ => rfl | 4, _ => rfl | 5, _ => rfl | 6, _ => rfl | 7, _ => rfl | 8, _ => rfl | 9, _ => rfl
  | 10, _ => rfl | 11, _ => rfl | 12, _ => rfl | 13, _ => rfl | 14, _ => rfl | 15, _ => rfl | 16, _ => rfl | 17, _ => rfl | 18, _ => rfl
  | n + 19, h => absurd h (by omega)
theorem wArr_one : wArr.all (·.oneCell') = true := by kernel_rfl
theorem wArr_size : wArr.size = 20 := by kernel_rfl
theorem word_build (W : World) : (Instr.build 64 #[(0, .string ⟨#[]⟩), (1, .string ⟨#[103, 101, 116]⟩), (2, .string ⟨#[112, 117, 116]⟩), (3, .string ⟨#[101, 114, 97, 115, 101]⟩), (4, .string ⟨#[99, 111, 109, 101]⟩), (5, .string ⟨#[108, 111, 115, 101]⟩), (6, .string ⟨#[100, 111, 117, 98, 108, 101]⟩), (7, .string ⟨#[115, 112, 111, 105, 108]⟩), (8, .string ⟨#[116, 101, 108, 108]⟩), (9, .string ⟨#[98, 101, 97, 116]⟩), (10, .string ⟨#[100, 101, 109, 111, 116, 101]⟩), (11, .string ⟨#[112, 114, 111, 109, 111, 116, 101]⟩), (12, .string ⟨#[114, 101, 99, 108, 97, 105, 109]⟩), (13, .string ⟨#[115, 101, 97, 108]⟩), (14, .string ⟨#[115, 119, 101, 101, 112]⟩), (15, .string ⟨#[102, 117, 115, 101]⟩), (16, .string ⟨#[99, 114, 97, 115, 104]⟩), (17, .string ⟨#[115, 116, 97, 114, 116]⟩), (18, .string ⟨#[101, 120, 112, 101, 108]⟩), (19, .string ⟨#[115, 104, 117, 116]⟩)]).run Tryd.prog W = .ok (.agg wArr) W := by kernel_rfl
theorem word_store (w : World) (c : Array Value) (hc : c.size = 20) : (Instr.storeAt 64 (.pointer (some ⟨w.heap.size, 0, none⟩)) (.agg wArr)).run Tryd.prog (w.alloc (.cells c 64)) = .ok () (w.alloc (.cells wArr 64)) :=
  run_storeAt_new (P := Tryd.prog) w 64 c wArr (by kernel_rfl) (hc.trans wArr_size.symm) wArr_one
theorem word_cells (w : World) (c : Array Value) (hc : c.size = 20) : (storeCells ⟨w.heap.size, 0, none⟩ wArr.toList 0).run Tryd.prog (w.alloc (.cells c 64)) = .ok () (w.alloc (.cells wArr 64)) :=
  run_storeCells_new (P := Tryd.prog) w 64 c wArr (by kernel_rfl) (hc.trans wArr_size.symm) wArr_one
theorem wp_val {P : Program} {o : Oper} {a : Act} {w w' : World} {K : Act → World → Prop} {Q : Exit → Act → World → Prop} (v : Value) (h : (execOp a.eval o).run P w = .ok (.value v) w') (hk : K (a.put o.dst v) w') : o.wp P a w K Q := by
  unfold Oper.wp
  rw [h]
  exact hk
theorem wp_skip {P : Program} {o : Oper} {a : Act} {w w' : World} {K : Act → World → Prop} {Q : Exit → Act → World → Prop} (h : (execOp a.eval o).run P w = .ok .skip w') (hk : K (a.put o.dst undef) w') : o.wp P a w K Q := by
  unfold Oper.wp
  rw [h]
  exact hk
set_option maxRecDepth 100000 in
theorem word_any (k : Int) (w : World) : Calls Tryd.prog 13 #[.int .i64 k] w (QS w (wordS k)) := by
  have HA := Lib.hid (heap_alloc_new w (.cells wArr 64))
  have HB := Lib.hid ((Below.refl w.heap.size w).alloc (Nat.le_refl _) (.cells wArr 64))
  go_enter Tryd.func13, Tryd.ntmps13
  go_upto_region 1 with (fail)
  go_cut [3] (fun p wx => p = .pointer (some ⟨w.heap.size, 0, none⟩) ∧ Hid (wx.heap[w.heap.size]? = some (.cells wArr 64 (0, 0)) ∧ Below w.heap.size w wx))
  case first =>
    refine wp_region_lit ?_
    refine wpList_plain rfl (fun K1 hK1 => ?_)
    refine wp_val (w' := w) (.agg wArr) (by kernel_rfl) (hK1 _ _ ?_)
    refine wpList_plain rfl (fun K2 hK2 => ?_)
    refine wp_val (w' := w.alloc (.cells (Array.replicate 20 (.string ⟨#[]⟩)) 64)) (.pointer (some ⟨w.heap.size, 0, none⟩)) (by kernel_rfl) (hK2 _ _ ?_)
    refine wpList_plain rfl (fun K3 hK3 => ?_)
    refine wp_skip (w' := w.alloc (.cells wArr 64)) ?_ (hK3 _ _ ?_)
    · show (do Instr.storeAt 64 (.pointer (some ⟨w.heap.size, 0, none⟩)) (.agg wArr); pure Next.skip : Sem Next).run Tryd.prog _ = _
      rw [Sem.run_bind, word_store w _ (by rw [Array.size_replicate])]
      rfl
    · refine wpList_nil ?_
      show Exit.then _ _ .normal { tmps := #[.int .i64 k, undef, .string ⟨#[]⟩, .pointer (some ⟨w.heap.size, 0, none⟩), .agg wArr, undef, undef, undef, undef, undef, undef, undef, undef, undef], defers := [] } _
      go_wp2_with fail
      go_meet
      exact ⟨rfl, HA.out, HB.out⟩
  case rest =>
    obtain ⟨rfl, HX⟩ := hcut
    by_cases h1 : k < 1
    · have HO := Lib.hid (word_out (.inl h1))
      go_wp2_with fail
      go_ret
      exact ⟨by rw [HO.out]; rfl, HX.out.2⟩
    · by_cases h2 : 20 ≤ k
      · have HO := Lib.hid (word_out (k := k) (.inr (by omega)))
        go_wp2_with fail
        go_ret
        exact ⟨by rw [HO.out]; rfl, HX.out.2⟩
      · obtain ⟨n, rfl⟩ : ∃ n : Nat, k = (n : Int) + 1 := ⟨(k - 1).toNat, by omega⟩
        have hcell : wc.cell? ⟨w.heap.size, n + 1, none⟩ = some (.string (bsV (wordS ((n : Int) + 1)))) := by
          rw [World.cell?, HX.out.1]
          exact wArr_at n (by omega)
        have hs : ((n : Int) + 1).toNat = n + 1 := by omega
        go_wp2_with fail
        go_ret
        exact ⟨rfl, HX.out.2⟩
theorem refWord_at : ∀ n : Nat, n < 19 → PR.butteryref29_Word.f ((n : Int) + 1) = some (bsV (wordS ((n : Int) + 1)))
  | 0, _ => by kernel_rfl
  | 1, _ => by kernel_rfl
  | 2, _ => by kernel_rfl
  | 3, _ => by kernel_rfl
  | 4, _ => by kernel_rfl
  | 5, _ => by kernel_rfl
  | 6, _ => by kernel_rfl
  | 7, _ => by kernel_rfl
  | 8, _ => by kernel_rfl
  | 9, _ => by kernel_rfl
  | 10, _ => by kernel_rfl
  | 11, _ => by kernel_rfl
  | 12, _ => by kernel_rfl
  | 13, _ => by kernel_rfl
  | 14, _ => by kernel_rfl
  | 15, _ => by kernel_rfl
  | 16, _ => by kernel_rfl
  | 17, _ => by kernel_rfl
  | 18, _ => by kernel_rfl
  | n + 19, h => absurd h (by omega)
theorem refWord_f (k : Int) : PR.butteryref29_Word.f k = some (bsV (wordS k)) := by
  by_cases h1 : k < 1
  · rw [word_out (.inl h1), PR.butteryref29_Word.f, Option.bind_some, if_pos h1]
    rfl
  · by_cases h2 : 19 < k
    · rw [word_out (.inr h2), PR.butteryref29_Word.f, Option.bind_some, if_neg h1, if_pos h2]
      rfl
    · have := refWord_at (k - 1).toNat (by omega)
      rwa [show (((k - 1).toNat : Int) + 1) = k by omega] at this
theorem refWord_any (k : Int) (w : World) : Calls Tryd.prog 14 #[.int .i64 k] w (QS w (wordS k)) :=
  (PR.butteryref29_Word.calls k _ w (refWord_f k)).mono fun e w' h => h
theorem find_any (s : Bs) (w : World) : Calls Tryd.prog 47 #[.string (bsV s)] w fun e w' => e = .returned (.int .i64 (findS s)) ∧ Below w.heap.size w w' := by
  go_enter Tryd.func47, Tryd.ntmps47
  go_wp2_with fail
  go_loopw [3] (fun kv wr => ∃ k : Nat, 1 ≤ k ∧ k ≤ 20 ∧ kv = .int .i64 k ∧ Hid ((∀ j : Int, 1 ≤ j → j < k → wordS j ≠ s) ∧ Below w.heap.size w wr)) (fun kv _ => 20 - (intOf kv).toNat)
  case atStart => exact ⟨1, by omega, by omega, rfl, fun j h1 h2 => by omega, Below.refl _ _⟩
  case round =>
    obtain ⟨k, hk1, hk2, rfl, HI⟩ := hrel
    by_cases hlt : k ≤ 19
    · have i1 : (k : Int) ≤ 19 := by omega
      have hwk : IntKind.i64.wrap ((k : Int) + 1) = (k : Int) + 1 := by rw [IntKind.wrap_i64]; omega
      by_cases heq : wordS k = s
      · have HF := Lib.hid (show findS s = k by rw [← heq]; exact find_word (by omega) (by omega))
        have hb : (wordS k == s) = true := by simpa using heq
        go_wp2_with (go_at_call 13; refine (word_any _ _).mono ?_; rintro e w1 ⟨rfl, hb⟩; have B1 := Lib.hid (HI.out.2.trans (hb.mono HI.out.2.size)); clear hb)
        all_goals
          go_wp2_with fail
          go_ret
          exact ⟨by rw [HF.out]; rfl, B1.out⟩
      · have hb : (wordS k == s) = false := by simpa using heq
        have HN := Lib.hid (show ∀ j : Int, 1 ≤ j → j < (k + 1 : Nat) → wordS j ≠ s from fun j h1 h2 e => by
          rcases Int.lt_or_le j k with h3 | h3
          · exact HI.out.1 j h1 h3 e
          · obtain rfl : j = k := by omega
            exact heq e)
        go_wp2_with (go_at_call 13; refine (word_any _ _).mono ?_; rintro e w1 ⟨rfl, hb⟩; have B1 := Lib.hid (HI.out.2.trans (hb.mono HI.out.2.size)); clear hb)
        all_goals
          go_wp2_with fail
          go_roundw
          case rel => exact ⟨k + 1, by omega, by omega, by go_num, HN.out, B1.out⟩
          case measure => simp [intOf]; omega
    · have i1 : ¬ (k : Int) ≤ 19 := by omega
      have HF := Lib.hid (show findS s = 0 from find_none fun j h1 h2 => HI.out.1 j h1 (by omega))
      go_wp2_with fail
      go_ret
      exact ⟨by rw [HF.out]; rfl, HI.out.2⟩
end Go.Proofs.YtbckbpimabmacaaDoor
namespace Go.Proofs.YtbckbpimabmacaaDoor
set_option linter.unusedVariables false
set_option linter.unusedSimpArgs false
open Go.RowKit Go.Proofs.YtbckbpimabmacaaDoorW.PrintWords

/-- A letter for each part of a kind's line. -/
def partsS (k : Int) : Bs :=
  if k = 1 then [110, 107] else if k = 2 then [107, 118] else if k = 3 then [107] else if k = 4 ∨ k = 5 ∨ k = 6 then [105] else if k = 7 then [105, 97, 98] else if k = 8 then []
  else if k = 10 then [110, 100] else if k = 15 then [110, 105] else if k = 16 then [110, 108] else [110]
theorem parts_f (k : Int) : PR.deeds_parts.f 1 k = some (bsV (partsS k)) := by
  unfold PR.deeds_parts.f partsS
  by_cases h1 : k = 1
  · subst h1; rfl
  by_cases h2 : k = 2
  · subst h2; rfl
  by_cases h3 : k = 3
  · subst h3; rfl
  by_cases h4 : k = 4
  · subst h4; rfl
  by_cases h5 : k = 5
  · subst h5; rfl
  by_cases h6 : k = 6
  · subst h6; rfl
  by_cases h7 : k = 7
  · subst h7; rfl
  by_cases h8 : k = 8
  · subst h8; rfl
  by_cases h10 : k = 10
  · subst h10; rfl
  by_cases h15 : k = 15
  · subst h15; rfl
  by_cases h16 : k = 16
  · subst h16; rfl
  simp [PR.deeds_parts.j0, h1, h2, h3, h4, h5, h6, h7, h8, h10, h15, h16]
  rfl
theorem parts_any (k : Int) (w : World) : Calls Tryd.prog 49 #[.int .i64 k] w fun e w' => e = .returned (.string (bsV (partsS k))) ∧ Below w.heap.size w w' :=
  (PR.deeds_parts.calls 1 k _ w (parts_f k)).mono fun e w' ⟨h1, h2⟩ => ⟨h1, h2.below⟩
end Go.Proofs.YtbckbpimabmacaaDoor
namespace Go.Proofs.YtbckbpimabmacaaDoor
set_option linter.unusedVariables false
set_option linter.unusedSimpArgs false
open Go.RowKit Go.Proofs.YtbckbpimabmacaaDoorW.PrintWords
attribute [local go_sem ↓] Go.wp_at_zero Go.wp_at_succ
attribute [local go_sem] bsV_get bsV_size bsV_toList

/-- A row of texts in memory, below the block b. -/
def SR (W : World) (b : Nat) (A : Option Addr) (ws : List Bs) : Prop := ws = [] ∨ ∃ g o, A = some ⟨g, o, none⟩ ∧ g < b ∧ (∃ cs, W.heap[g]? = some (.cells cs 9 (0, 0))) ∧ ∀ (i : Nat) (hi : i < ws.length), W.cell? ⟨g, o + i, none⟩ = some (.string (bsV ws[i]))
/-- A reader in the block b: the words that are still to come; is all well so far. -/
structure RD (W : World) (b : Nat) (A : Option Addr) (c : Nat) (ws : List Bs) (ok : Bool) : Prop where
  blk : W.heap[b]? = some (.cells #[.slice A ws.length c, .bool ok] 83 (0, 0))
  cap : ws.length ≤ c
  row : SR W b A ws
theorem gr_refl (w : World) (r : Option Nat) : w.grownBy w r := ⟨rfl, rfl, rfl, Nat.le_refl _, fun _ _ _ => rfl⟩
theorem gr_set {a b : World} {g : Nat} (h : a.grownBy b (some g)) (j : Nat) (v : Value) : a.grownBy (b.setCell ⟨g, j, none⟩ v) (some g) :=
  ⟨h.os, h.tape, h.output, Nat.le_trans h.size (by simp [World.setCell]), fun k hk hn => (Below.heap_setCell b ⟨g, j, none⟩ v k (fun e => hn (by rw [e]))).trans (h.block k hk hn)⟩
theorem SR.move {W W' : World} {b : Nat} {A : Option Addr} {ws : List Bs} (hm : ∀ g, g < b → (∃ cs, W.heap[g]? = some (.cells cs 9 (0, 0))) → W'.heap[g]? = W.heap[g]?) (h : SR W b A ws) : SR W' b A ws := by
  rcases h with h | ⟨g, o, h1, h2, ⟨cs, h4⟩, h3⟩
  · exact .inl h
  · have e := hm g h2 ⟨cs, h4⟩
    exact .inr ⟨g, o, h1, h2, ⟨cs, e.trans h4⟩, fun i hi => (World.cell?_of_block (w := W) (w' := W') e).trans (h3 i hi)⟩
theorem SR.set {W : World} {b : Nat} {A : Option Addr} {ws : List Bs} (h : SR W b A ws) (j : Nat) (v : Value) : SR (W.setCell ⟨b, j, none⟩ v) b A ws := h.move fun g hg _ => heap_setCell_other W ⟨b, j, none⟩ g v (Nat.ne_of_lt hg)
theorem SR.tail {W : World} {b g o : Nat} {s : Bs} {r : List Bs} (h : SR W b (some ⟨g, o, none⟩) (s :: r)) : SR W b (some ⟨g, o + 1, none⟩) r := by
  rcases h with h | ⟨g', o', h1, h2, h4, h3⟩
  · cases h
  · cases h1
    refine .inr ⟨g, o + 1, rfl, h2, h4, fun i hi => ?_⟩
    have := h3 (i + 1) (by simp; omega)
    rw [show o + 1 + i = o + (i + 1) by omega]
    exact this
def NextPost (W : World) (b : Nat) (ws : List Bs) (ok : Bool) (e : Ending) (w' : World) : Prop := e = .returned (.string (bsV (ws.headD []))) ∧ (∃ A c, RD w' b A c ws.tail (ok && !ws.isEmpty)) ∧ W.grownBy w' (some b)
theorem next_any (W : World) (b : Nat) (A : Option Addr) (c : Nat) (ws : List Bs) (ok : Bool) (h : RD W b A c ws ok) (hl : Hid (ws.length < 1000000000)) : Calls Tryd.prog 48 #[.pointer (some ⟨b, 0, none⟩)] W (NextPost W b ws ok) := by
  have HH := Lib.hid h
  have c0 : W.cell? ⟨b, 0, none⟩ = some (.slice A ws.length c) := cell_of_row W _ 0 _ _ (0, 0) h.blk
  have c1 : W.cell? ⟨b, 1, none⟩ = some (.bool ok) := cell_of_row W _ 1 _ _ (0, 0) h.blk
  have f0 : W.frozen? ⟨b, 0, none⟩ = false := by simp [World.frozen?, h.blk]
  have f1 : W.frozen? ⟨b, 1, none⟩ = false := by simp [World.frozen?, h.blk]
  have hcap := h.cap
  clear h
  cases ws with
  | nil =>
    go_enter Tryd.func48, Tryd.ntmps48
    go_wp2_with fail
    go_ret
    refine ⟨rfl, ⟨A, c, ?_, Nat.zero_le _, .inl rfl⟩, gr_set (gr_refl _ _) _ _⟩
    have := heap_setCell_same W b 1 _ _ (.bool false) HH.out.blk
    simpa using this
  | cons s r =>
    obtain ⟨g, o, rfl, hlb, _, hc⟩ := HH.out.row.resolve_left (by simp)
    have hne : g ≠ b := Nat.ne_of_lt hlb
    clear hlb
    have hc0 : W.cell? ⟨g, o, none⟩ = some (.string (bsV s)) := hc 0 (by simp)
    have hq1 : (0 : Int) ≤ (r.length : Int) := by omega
    have hq2 : (r.length : Int) + 1 ≤ (c : Int) := by have : r.length + 1 ≤ c := hcap; omega
    have hq3 : (1 : Int) ≤ (r.length : Int) + 1 := by omega
    have hsz : (s :: r).length = r.length + 1 := rfl
    rw [hsz] at c0 hcap
    clear hc
    go_enter Tryd.func48, Tryd.ntmps48
    go_wp2_with fail
    all_goals
      go_ret
      have hb0 := heap_setCell_same W b 0 _ _ (.slice (some ⟨g, o + 1, none⟩) r.length (c - 1)) HH.out.blk
      have hb1 := heap_setCell_same W b 0 _ _ (.slice (some ⟨g, o, none⟩) 0 0) HH.out.blk
      have hcp : r.length + 1 ≤ c := hcap
      first
      | exact ⟨rfl, ⟨some ⟨g, o + 1, none⟩, c - 1, by simpa using hb0, (by show r.length ≤ c - 1; omega), HH.out.row.tail.set _ _⟩, gr_set (gr_refl _ _) _ _⟩
      | (have hc1 : c = 1 := by assumption
         have hr : r = [] := List.length_eq_zero_iff.1 (by omega)
         subst hr
         subst hc1
         exact ⟨rfl, ⟨some ⟨g, o, none⟩, 0, by simpa using hb1, Nat.zero_le _, .inl rfl⟩, gr_set (gr_refl _ _) _ _⟩)
end Go.Proofs.YtbckbpimabmacaaDoor
namespace Go.Proofs.YtbckbpimabmacaaDoor
set_option linter.unusedVariables false
set_option linter.unusedSimpArgs false
open Go.RowKit Go.Proofs.YtbckbpimabmacaaDoorW.PrintWords
attribute [local go_sem ↓] Go.wp_at_zero Go.wp_at_succ
attribute [local go_sem] bsV_get bsV_size bsV_toList

theorem SR.later {W W' : World} {b : Nat} {A : Option Addr} {ws : List Bs} (h : SR W b A ws) (hb : Below W.heap.size W W') : SR W' b A ws := h.move fun g _ ⟨_, hc⟩ => hb.block g (Array.getElem?_eq_some_iff.1 hc).1
theorem RD.later {W W' : World} {b c : Nat} {A : Option Addr} {ws : List Bs} {ok : Bool} (h : RD W b A c ws ok) (hb : Below W.heap.size W W') : RD W' b A c ws ok :=
  ⟨(hb.block b (Array.getElem?_eq_some_iff.1 h.blk).1).trans h.blk, h.cap, h.row.later hb⟩
theorem RD.setOk {W : World} {b c : Nat} {A : Option Addr} {ws : List Bs} {ok : Bool} (h : RD W b A c ws ok) (q : Bool) : RD (W.setCell ⟨b, 1, none⟩ (.bool q)) b A c ws q :=
  ⟨by have := heap_setCell_same W b 1 _ _ (.bool q) h.blk; simpa using this, h.cap, h.row.set _ _⟩
theorem gr_later {a b c : World} {r : Option Nat} (h : a.grownBy b r) (k : Below b.heap.size b c) : a.grownBy c r :=
  ⟨k.os.trans h.os, k.tape.trans h.tape, k.output.trans h.output, Nat.le_trans h.size k.size, fun i hi hn => (k.block i (Nat.lt_of_lt_of_le hi h.size)).trans (h.block i hi hn)⟩
def NumRPost (W : World) (b : Nat) (ws : List Bs) (ok : Bool) (e : Ending) (w' : World) : Prop := ∃ x nok, e = .returned (.int .i64 x) ∧ NumIs (ws.headD []) x nok ∧ (∃ A c, RD w' b A c ws.tail (ok && !ws.isEmpty && nok)) ∧ W.grownBy w' (some b)
set_option maxRecDepth 100000 in
set_option maxHeartbeats 2000000 in
theorem number_any (W : World) (b : Nat) (A : Option Addr) (c : Nat) (ws : List Bs) (ok : Bool) (h : RD W b A c ws ok) (hl : Hid (ws.length < 1000000000)) (hs : Hid ((ws.headD []).length < 100000000)) : Calls Tryd.prog 50 #[.pointer (some ⟨b, 0, none⟩)] W (NumRPost W b ws ok) := by
  have HH := Lib.hid h
  clear h
  unfold NumRPost
  obtain ⟨s, hsd⟩ : ∃ s : Bs, s = ws.headD [] := ⟨_, rfl⟩
  have hN := next_any W b A c ws ok HH.out hl
  unfold NextPost at hN
  rw [← hsd] at hs hN ⊢
  have HS := Lib.hid (num_any s hs.out)
  clear hsd
  go_enter Tryd.func50, Tryd.ntmps50
  go_wp2_with fail
  refine hN.mono ?_
  rintro e w1 ⟨rfl, ⟨A1, c1, h1⟩, g1⟩
  obtain ⟨q, hq⟩ : ∃ q, q = (ok && !ws.isEmpty) := ⟨_, rfl⟩
  rw [← hq] at h1
  have HQ := Lib.hid hq
  have H1 := Lib.hid h1
  have G1 := Lib.hid g1
  clear h1 g1 hq hN
  go_wp2_with fail
  refine (HS.out w1).mono ?_
  rintro e w2 ⟨x, nok, rfl, hn, hb⟩
  have H2 := Lib.hid (H1.out.later hb)
  have G2 := Lib.hid (gr_later G1.out hb)
  have HN := Lib.hid hn
  clear hb hn H1 G1
  have k1 : w2.cell? ⟨b, 1, none⟩ = some (.bool q) := cell_of_row w2 _ 1 _ _ (0, 0) H2.out.blk
  have f1 : w2.frozen? ⟨b, 1, none⟩ = false := by simp [World.frozen?, H2.out.blk]
  cases q <;> cases nok
  all_goals
    go_wp2_with fail
    go_ret
    exact ⟨x, _, rfl, HN.out, ⟨A1, c1, by rw [← HQ.out]; exact H2.out.setOk _⟩, gr_set G2.out _ _⟩
def SmallRPost (W : World) (b : Nat) (ws : List Bs) (ok : Bool) (e : Ending) (w' : World) : Prop := ∃ v x nok, e = .returned (.int .u8 v) ∧ (0 ≤ x → x ≤ 255 → v = x) ∧ NumIs (ws.headD []) x nok ∧ (∃ A c, RD w' b A c ws.tail (ok && !ws.isEmpty && nok && decide (0 ≤ x) && decide (x ≤ 255))) ∧ W.grownBy w' (some b)
set_option maxRecDepth 100000 in
set_option maxHeartbeats 1000000 in
theorem small_any (W : World) (b : Nat) (A : Option Addr) (c : Nat) (ws : List Bs) (ok : Bool) (h : RD W b A c ws ok) (hl : Hid (ws.length < 1000000000)) (hs : Hid ((ws.headD []).length < 100000000)) : Calls Tryd.prog 52 #[.pointer (some ⟨b, 0, none⟩)] W (SmallRPost W b ws ok) := by
  have hN := number_any W b A c ws ok h hl hs
  clear h hs hl
  unfold NumRPost at hN
  go_enter Tryd.func52, Tryd.ntmps52
  go_wp2_with fail
  refine hN.mono ?_
  rintro e w1 ⟨x, nok, rfl, hn, ⟨A1, c1, h1⟩, g1⟩
  obtain ⟨q, hq⟩ : ∃ q, q = (ok && !ws.isEmpty && nok) := ⟨_, rfl⟩
  rw [← hq] at h1
  have HQ := Lib.hid hq
  have H2 := Lib.hid h1
  have G2 := Lib.hid g1
  have HN := Lib.hid hn
  clear h1 g1 hq hN hn
  have k1 : w1.cell? ⟨b, 1, none⟩ = some (.bool q) := cell_of_row w1 _ 1 _ _ (0, 0) H2.out.blk
  have f1 : w1.frozen? ⟨b, 1, none⟩ = false := by simp [World.frozen?, H2.out.blk]
  cases q
  · go_wp2_with fail
    go_ret
    exact ⟨_, x, nok, rfl, fun h0 h1 => by first | rfl | omega, HN.out, ⟨A1, c1, by rw [← HQ.out]; exact H2.out.setOk _⟩, gr_set G2.out _ _⟩
  · by_cases p1 : 0 ≤ x
    · by_cases p2 : x ≤ 255
      all_goals
        have HD : Hid ((true && decide (0 ≤ x) && decide (x ≤ 255)) = decide (x ≤ 255)) := by show _ = _; simp [p1]
        go_wp2_with fail
        go_ret
        exact ⟨_, x, nok, rfl, fun h0 h1 => by first | rfl | omega, HN.out, ⟨A1, c1, by rw [← HQ.out, HD.out]; first | exact H2.out.setOk _ | (rw [decide_eq_true p2]; exact H2.out.setOk _) | (rw [decide_eq_false p2]; exact H2.out.setOk _)⟩, gr_set G2.out _ _⟩
    · have HD : Hid ((true && decide (0 ≤ x) && decide (x ≤ 255)) = false) := by show _ = _; simp [p1]
      go_wp2_with fail
      go_ret
      exact ⟨_, x, nok, rfl, fun h0 h1 => by first | rfl | omega, HN.out, ⟨A1, c1, by rw [← HQ.out, HD.out]; exact H2.out.setOk _⟩, gr_set G2.out _ _⟩
end Go.Proofs.YtbckbpimabmacaaDoor
namespace Go.Proofs.YtbckbpimabmacaaDoor
set_option linter.unusedVariables false
set_option linter.unusedSimpArgs false
open Go.RowKit Go.Proofs.YtbckbpimabmacaaDoorW.PrintWords
attribute [local go_sem ↓] Go.wp_at_zero Go.wp_at_succ
attribute [local go_sem] bsV_get bsV_size bsV_toList

def BytesRPost (W : World) (b : Nat) (ws : List Bs) (ok : Bool) (e : Ending) (w' : World) : Prop := ∃ (B : Option Addr) (n c : Nat) (bs : Bs) (nok : Bool), e = .returned (.slice B n c) ∧ UnqIs (ws.headD []) bs nok ∧ Kd.R (Kd.int .u8) 5 w' W.heap.size (fun _ => True) (.slice B n c) (bI bs) ∧ (∃ A c, RD w' b A c ws.tail (ok && !ws.isEmpty && nok)) ∧ W.grownBy w' (some b)
set_option maxRecDepth 100000 in
set_option maxHeartbeats 2000000 in
theorem bytes_any (W : World) (b : Nat) (A : Option Addr) (c : Nat) (ws : List Bs) (ok : Bool) (h : RD W b A c ws ok) (hl : Hid (ws.length < 1000000000)) (hs : Hid ((ws.headD []).length < 100000000)) : Calls Tryd.prog 51 #[.pointer (some ⟨b, 0, none⟩)] W (BytesRPost W b ws ok) := by
  have HH := Lib.hid h
  clear h
  unfold BytesRPost
  obtain ⟨s, hsd⟩ : ∃ s : Bs, s = ws.headD [] := ⟨_, rfl⟩
  have hN := next_any W b A c ws ok HH.out hl
  unfold NextPost at hN
  rw [← hsd] at hs hN ⊢
  have HS := Lib.hid (unq_any s hs)
  clear hsd
  go_enter Tryd.func51, Tryd.ntmps51
  go_wp2_with fail
  refine hN.mono ?_
  rintro e w1 ⟨rfl, ⟨A1, c1, h1⟩, g1⟩
  obtain ⟨q, hq⟩ : ∃ q, q = (ok && !ws.isEmpty) := ⟨_, rfl⟩
  rw [← hq] at h1
  have HQ := Lib.hid hq
  have H1 := Lib.hid h1
  have G1 := Lib.hid g1
  clear h1 g1 hq hN
  go_wp2_with fail
  refine (HS.out w1).mono ?_
  rintro e w2 ⟨v, bs, nok, rfl, hu, hr, hb⟩
  obtain ⟨B, cb, rfl⟩ := Kd.R_slice hr
  have HR := Lib.hid (Kd.R_newB hr H1.out.blk)
  have H2 := Lib.hid (H1.out.later hb)
  have G2 := Lib.hid (gr_later G1.out hb)
  have HU := Lib.hid hu
  clear hb hu hr
  have k1 : w2.cell? ⟨b, 1, none⟩ = some (.bool q) := cell_of_row w2 _ 1 _ _ (0, 0) H2.out.blk
  have f1 : w2.frozen? ⟨b, 1, none⟩ = false := by simp [World.frozen?, H2.out.blk]
  have HRF : ∀ q : Bool, Hid (Kd.R (Kd.int .u8) 5 (w2.setCell ⟨b, 1, none⟩ (.bool q)) W.heap.size (fun _ => True) (.slice B (bI bs).length cb) (bI bs)) := fun q => show _ from Kd.R_lower (Kd.R_mono (Kd.R_far (p := ⟨b, 1, none⟩) HR.out (fun k hk => hk.2) (.bool q)) (fun _ _ => trivial)) G1.out.size
  clear HR
  cases q <;> cases nok
  all_goals
    go_wp2_with fail
    go_ret
    exact ⟨B, _, cb, bs, _, rfl, HU.out, (HRF _).out, ⟨A1, c1, by rw [← HQ.out]; exact H2.out.setOk _⟩, gr_set G2.out _ _⟩
end Go.Proofs.YtbckbpimabmacaaDoor
