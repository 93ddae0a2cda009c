/- There and back, plainly: lines, texts. The example of chapter 29 works. The example of chapter 29 works: the walk. -/
import Derived.Test.YtbckbpimabmacaaDoorG8
import Derived.Test.YtbckbpimabmacaaDoorIntsA
import Derived.Test.YtbckbpimabmacaaDoorWTab
namespace Go.Proofs.YtbckbpimabmacaaDoor
set_option linter.unusedVariables false
set_option linter.unusedSimpArgs false
open Go.RowKit

/-- A byte that may stand in a word. -/
def wb' (c : UInt8) : Prop := c ≠ 32 ∧ c ≠ 10
theorem wb_dig {c : UInt8} (h : isDig c = true) : wb' c := by
  have := dig_nat h
  refine ⟨?_, ?_⟩ <;> (rintro rfl; simp at this)
theorem wb_dec (n : Int) : ∀ c ∈ decS n, wb' c := by
  intro c hc
  unfold decS at hc
  split at hc
  · rcases List.mem_cons.1 hc with rfl | hc
    · exact ⟨by decide, by decide⟩
    · exact wb_dig (dec_dig _ c hc)
  · exact wb_dig (dec_dig _ c hc)
theorem wb_plain {c : UInt8} (h : plainB c = true) : wb' c := by
  refine ⟨?_, ?_⟩ <;> (rintro rfl; revert h; decide)
theorem wb_quo (b : Bs) : ∀ c ∈ quoS b, wb' c := by
  intro c hc
  unfold quoS at hc
  split at hc
  · rw [List.mem_singleton.1 hc]
    exact ⟨by decide, by decide⟩
  · obtain ⟨x, _, hx⟩ := List.mem_flatMap.1 hc
    unfold qb at hx
    split at hx
    · rename_i hp
      rw [List.mem_singleton.1 hx]
      exact wb_plain hp
    · have hlt := x.toNat_lt
      simp only [List.mem_cons, List.not_mem_nil, or_false] at hx
      rcases hx with rfl | rfl | rfl
      · exact ⟨by decide, by decide⟩
      · exact wb_plain (hexB_ne _ (by omega))
      · exact wb_plain (hexB_ne _ (by omega))
theorem words_wb : ∀ k : Nat, k < 19 → ∀ c ∈ wordsL.getD k [], 97 ≤ c.toNat := by decide
theorem wb_word (k : Int) : ∀ c ∈ wordS k, wb' c := by
  intro c hc
  unfold wordS at hc
  split at hc
  · cases hc
  · have h := words_wb (k - 1).toNat (by omega) c hc
    refine ⟨?_, ?_⟩ <;> (rintro rfl; simp at h)
theorem wb_tail (d : Dd) : ∀ x ∈ wordS d.kind :: tailW d, ∀ c ∈ x, wb' c := by
  intro x hx
  rcases List.mem_cons.1 hx with rfl | hx
  · exact wb_word _
  · rw [tail_seg] at hx
    obtain ⟨p, _, hp⟩ := List.mem_flatMap.1 hx
    unfold segS at hp
    repeat' (split at hp)
    all_goals first
    | (rw [List.mem_singleton.1 hp]; first | exact wb_dec _ | exact wb_quo _)
    | (obtain ⟨n, _, rfl⟩ := List.mem_map.1 hp; exact wb_dec n)
    | cases hp
theorem split_line (d : Dd) : splitS 32 (lineS d) = wordS d.kind :: tailW d :=
  split_join (by simp) (fun x hx h => (wb_tail d x hx 32 h).1 rfl)
theorem join_mem {s : UInt8} : ∀ {l : List Bs} {c : UInt8}, c ∈ joinS s l → c = s ∨ ∃ x ∈ l, c ∈ x
  | [], c, h => by cases h
  | [x], c, h => .inr ⟨x, by simp, h⟩
  | x :: y :: r, c, h => by
    rw [joinS] at h
    rcases List.mem_append.1 h with h | h
    · exact .inr ⟨x, by simp, h⟩
    · rcases List.mem_cons.1 h with h | h
      · exact .inl h
      · rcases join_mem h with h | ⟨z, hz, h⟩
        · exact .inl h
        · exact .inr ⟨z, List.mem_cons_of_mem _ hz, h⟩
theorem line_no10 (d : Dd) : (10 : UInt8) ∉ lineS d := fun h => by
  rcases join_mem h with h | ⟨x, hx, h⟩
  · exact absurd h (by decide)
  · exact (wb_tail d x hx 10 h).2 rfl
theorem deed_line {d : Dd} (hk : okD d) (h0 : 1 ≤ d.kind) (h1 : d.kind ≤ 19) : deedS (lineS d) = some (normD d) := by
  rw [deedS, split_line]
  show (if findS (wordS d.kind) = 0 then none else readD (findS (wordS d.kind)) (tailW d)) = _
  rw [find_word h0 h1, if_neg (by omega), read_tail d hk]
theorem line_of {s : Bs} {d : Dd} (h : deedS s = some d) : lineS d = s ∧ 1 ≤ d.kind ∧ d.kind ≤ 19 := by
  unfold deedS at h
  split at h
  · rename_i w r hs
    split at h
    · cases h
    · rename_i hf
      obtain ⟨h1, h2⟩ := read_line h
      have hb := find_le w
      refine ⟨?_, by omega, by omega⟩
      rw [lineS, h1, h2, find_some hf, ← hs]
      exact join_split 32 s
  · cases h
/-- What is read is in range, and no longer than its line. -/
theorem okd_of {k : Int} {ws : List Bs} {d : Dd} (h : readD k ws = some d) (hk : I64 k) : okD d := by
  have hn : ∀ {a : Bs} {x : Int}, numS a = some x → I64 x := fun h => (numS_some h).2
  have hs : ∀ {a : Bs} {z : Int}, (numS a).bind small = some z → 0 ≤ z ∧ z ≤ 255 := fun {a z} h => by
    obtain ⟨n, _, h⟩ := bind_some h
    unfold small at h
    split at h
    · rename_i hz
      injection h with h
      subst h
      exact hz
    · cases h
  have hl : ∀ {ws : List Bs} {l : List Int}, numsS ws = some l → ∀ x ∈ l, I64 x := fun {ws l} h => by
    induction ws generalizing l with
    | nil => injection h with h; subst h; intro x hx; cases hx
    | cons a r ih =>
      obtain ⟨n, h1, h⟩ := bind_some h
      obtain ⟨t, h2, h⟩ := bind_some h
      injection h with h
      subst h
      intro x hx
      rcases List.mem_cons.1 hx with rfl | hx
      · exact hn h1
      · exact ih h2 x hx
  have z : I64 0 := ⟨by decide, by decide⟩
  have zb : (0 : Int) ≤ 0 ∧ (0 : Int) ≤ 255 := ⟨by decide, by decide⟩
  have zl : ∀ x ∈ ([] : List Int), I64 x := fun x hx => by cases hx
  unfold readD at h
  repeat' (split at h)
  all_goals first
  | cases h
  | skip
  · obtain ⟨x, hx, h⟩ := bind_some h
    obtain ⟨y, hy, h⟩ := bind_some h
    injection h with h; subst h
    exact ⟨hk, hn hx, z, z, zb, zb, zl⟩
  · obtain ⟨x, hx, h⟩ := bind_some h
    obtain ⟨y, hy, h⟩ := bind_some h
    injection h with h; subst h
    exact ⟨hk, z, z, z, zb, zb, zl⟩
  · obtain ⟨x, hx, h⟩ := bind_some h
    injection h with h; subst h
    exact ⟨hk, z, z, z, zb, zb, zl⟩
  · obtain ⟨x, hx, h⟩ := bind_some h
    injection h with h; subst h
    exact ⟨hk, z, hn hx, z, zb, zb, zl⟩
  · obtain ⟨x, hx, h⟩ := bind_some h
    obtain ⟨y, hy, h⟩ := bind_some h
    obtain ⟨w, hw, h⟩ := bind_some h
    injection h with h; subst h
    exact ⟨hk, z, hn hx, hn hy, hs hw, zb, zl⟩
  · exact ⟨hk, z, z, z, zb, zb, zl⟩
  · obtain ⟨x, hx, h⟩ := bind_some h
    obtain ⟨w, hw, h⟩ := bind_some h
    injection h with h; subst h
    exact ⟨hk, hn hx, z, z, zb, hs hw, zl⟩
  · obtain ⟨x, hx, h⟩ := bind_some h
    obtain ⟨y, hy, h⟩ := bind_some h
    injection h with h; subst h
    exact ⟨hk, hn hx, hn hy, z, zb, zb, zl⟩
  · obtain ⟨x, hx, h⟩ := bind_some h
    obtain ⟨l, hy, h⟩ := bind_some h
    injection h with h; subst h
    exact ⟨hk, hn hx, z, z, zb, zb, hl hy⟩
  · obtain ⟨x, hx, h⟩ := bind_some h
    injection h with h; subst h
    exact ⟨hk, hn hx, z, z, zb, zb, zl⟩
theorem qb_ge (c : UInt8) : 1 ≤ (qb c).length := by unfold qb; split <;> simp
theorem flatq_ge : ∀ b : Bs, b.length ≤ (b.flatMap qb).length
  | [] => by simp
  | c :: r => by
    have ih := flatq_ge r
    have := qb_ge c
    rw [List.flatMap_cons, List.length_append, List.length_cons]
    omega
theorem quo_ge (b : Bs) : b.length ≤ (quoS b).length := by
  unfold quoS
  split
  · rename_i h; rw [h]; simp
  · exact flatq_ge b
theorem flat_ge (l : List Bs) : l.length ≤ (l.flatMap bl).length := by
  induction l with
  | nil => simp
  | cons x r ih =>
    rw [List.flatMap_cons, List.length_append, List.length_cons]
    have : 1 ≤ (bl x).length := by simp [bl]
    omega
theorem flat_mem {x : Bs} : ∀ {l : List Bs}, x ∈ l → x.length + 1 ≤ (l.flatMap bl).length
  | y :: r, h => by
    rw [List.flatMap_cons, List.length_append]
    rcases List.mem_cons.1 h with rfl | h
    · simp [bl]
    · have := flat_mem h
      omega
theorem parts_sizes {k : Int} {ws : List Bs} {d : Dd} (h : readD k ws = some d) : (d.key = [] ∨ quoS d.key ∈ ws) ∧ (d.value = [] ∨ quoS d.value ∈ ws) ∧ (d.keep = [] ∨ d.keep.length ≤ ws.length) := by
  have hq : ∀ {a b : Bs}, unqS a = some b → quoS b = a := fun h => unqS_some h
  unfold readD at h
  repeat' (split at h)
  all_goals first
  | cases h
  | skip
  · obtain ⟨x, hx, h⟩ := bind_some h
    obtain ⟨y, hy, h⟩ := bind_some h
    injection h with h; subst h
    exact ⟨.inr (by simp [hq hy]), .inl rfl, .inl rfl⟩
  · obtain ⟨x, hx, h⟩ := bind_some h
    obtain ⟨y, hy, h⟩ := bind_some h
    injection h with h; subst h
    exact ⟨.inr (by simp [hq hx]), .inr (by simp [hq hy]), .inl rfl⟩
  · obtain ⟨x, hx, h⟩ := bind_some h
    injection h with h; subst h
    exact ⟨.inr (by simp [hq hx]), .inl rfl, .inl rfl⟩
  · obtain ⟨x, hx, h⟩ := bind_some h
    injection h with h; subst h
    exact ⟨.inl rfl, .inl rfl, .inl rfl⟩
  · obtain ⟨x, hx, h⟩ := bind_some h
    obtain ⟨y, hy, h⟩ := bind_some h
    obtain ⟨w, hw, h⟩ := bind_some h
    injection h with h; subst h
    exact ⟨.inl rfl, .inl rfl, .inl rfl⟩
  · exact ⟨.inl rfl, .inl rfl, .inl rfl⟩
  · obtain ⟨x, hx, h⟩ := bind_some h
    obtain ⟨w, hw, h⟩ := bind_some h
    injection h with h; subst h
    exact ⟨.inl rfl, .inl rfl, .inl rfl⟩
  · obtain ⟨x, hx, h⟩ := bind_some h
    obtain ⟨y, hy, h⟩ := bind_some h
    injection h with h; subst h
    exact ⟨.inl rfl, .inl rfl, .inl rfl⟩
  · obtain ⟨x, hx, h⟩ := bind_some h
    obtain ⟨l, hy, h⟩ := bind_some h
    injection h with h; subst h
    exact ⟨.inl rfl, .inl rfl, .inr (by have := nums_len hy; simp; omega)⟩
  · obtain ⟨x, hx, h⟩ := bind_some h
    injection h with h; subst h
    exact ⟨.inl rfl, .inl rfl, .inl rfl⟩
theorem oks_of {s : Bs} {d : Dd} (h : deedS s = some d) (hl : s.length ≤ 9000) : okS d := by
  have hln := (line_of h).1
  unfold deedS at h
  split at h
  · rename_i w r hs
    split at h
    · cases h
    · have hfb := find_le w
      have h1 := okd_of h ⟨by omega, by omega⟩
      have h2 := parts_sizes h
      have hm : ∀ x ∈ r, x.length ≤ s.length := fun x hx => mem_split_len (c := 32) (by rw [hs]; exact List.mem_cons_of_mem _ hx)
      have hr : r.length ≤ s.length := by have := split_len 32 s; rw [hs] at this; simp at this; omega
      refine ⟨h1, ?_, ?_, ?_⟩
      · rcases h2.1 with e | e
        · rw [e]; simp
        · have := hm _ e; have := quo_ge d.key; omega
      · rcases h2.2.1 with e | e
        · rw [e]; simp
        · have := hm _ e; have := quo_ge d.value; omega
      · rcases h2.2.2 with e | e
        · rw [e]; simp
        · omega
  · cases h
theorem readG_ok {P : Dd → Prop} : ∀ {i : Nat} {rs : List Bs} {L : List Dd}, (∀ r ∈ rs, ∀ d, deedS r = some d → P d) → readG i rs = .inr L → ∀ d ∈ L, P d
  | _, [], L, _, h, d, hd => by
    rw [readG] at h
    injection h with h
    subst h
    cases hd
  | i, r :: rs, L, hp, h, d, hd => by
    rw [readG] at h
    split at h
    · exact readG_ok (fun x hx => hp x (List.mem_cons_of_mem _ hx)) h d hd
    · split at h
      · cases h
      · rename_i d0 hd0
        cases hr : readG (i + 1) rs with
        | inl j => rw [hr] at h; cases h
        | inr T =>
          rw [hr] at h
          injection h with h
          subst h
          rcases List.mem_cons.1 hd with rfl | hd
          · exact hp r List.mem_cons_self _ hd0
          · exact readG_ok (fun x hx => hp x (List.mem_cons_of_mem _ hx)) hr d hd
theorem readG_len : ∀ {i : Nat} {rs : List Bs} {L : List Dd}, readG i rs = .inr L → L.length ≤ rs.length
  | _, [], L, h => by
    rw [readG] at h
    injection h with h
    subst h
    exact Nat.le_refl _
  | i, r :: rs, L, h => by
    rw [readG] at h
    split at h
    · have := readG_len h
      simp
      omega
    · split at h
      · cases h
      · cases hr : readG (i + 1) rs with
        | inl j => rw [hr] at h; cases h
        | inr T =>
          rw [hr] at h
          injection h with h
          subst h
          have := readG_len hr
          show T.length + 1 ≤ rs.length + 1
          omega
theorem readS_ok {s : Bs} (hl : s.length ≤ 9000) : (∀ d ∈ (readS s).1, okS d) ∧ (readS s).1.length ≤ s.length + 1 := by
  have key : ∀ r ∈ splitS 10 s, ∀ d, deedS r = some d → okS d := fun r hr d hd => oks_of hd (by have := mem_split_len hr; omega)
  unfold readS
  split
  · exact ⟨(fun d hd => by cases hd), by simp⟩
  · cases hr : readG 0 (splitS 10 s) with
    | inl j => exact ⟨(fun d hd => by cases hd), by simp [outG]⟩
    | inr L => exact ⟨readG_ok key hr, by have h1 := readG_len hr; have h2 := split_len 10 s; show L.length ≤ _; omega⟩
theorem same_refl (d : Dd) : sameS d d = true := decide_eq_true ⟨rfl, rfl⟩
theorem sameAll_refl : ∀ L : List Dd, sameAllS L L = true
  | [] => rfl
  | d :: L => by rw [sameAllS, same_refl, sameAll_refl L]; rfl
/-! ### Texts -/
theorem norm_tail (d : Dd) : (normD d).kind = d.kind ∧ tailW (normD d) = tailW d := by
  by_cases k1 : d.kind = 1
  · simp [normD, tailW, k1]
  by_cases k2 : d.kind = 2
  · simp [normD, tailW, k2]
  by_cases k3 : d.kind = 3
  · simp [normD, tailW, k3]
  by_cases k4 : d.kind = 4 ∨ d.kind = 5 ∨ d.kind = 6
  · rcases k4 with k4 | k4 | k4 <;> simp [normD, tailW, k4]
  by_cases k7 : d.kind = 7
  · simp [normD, tailW, k7]
  by_cases k8 : d.kind = 8
  · simp [normD, tailW, k8]
  by_cases k10 : d.kind = 10
  · simp [normD, tailW, k10]
  by_cases k15 : d.kind = 15
  · simp [normD, tailW, k15]
  by_cases k16 : d.kind = 16
  · simp [normD, tailW, k16]
  simp [normD, tailW, k1, k2, k3, k4, k7, k8, k10, k15, k16]
theorem norm_line (d : Dd) : lineS (normD d) = lineS d := by
  obtain ⟨h1, h2⟩ := norm_tail d
  rw [lineS, lineS, h1, h2]
theorem norm_same (d : Dd) : sameS d (normD d) = true := decide_eq_true ⟨(norm_tail d).1.symm, (norm_line d).symm⟩
theorem norm_sameAll : ∀ L : List Dd, sameAllS L (L.map normD) = true
  | [] => rfl
  | d :: L => by rw [List.map_cons, sameAllS, norm_same, norm_sameAll L]; rfl
theorem norm_text (L : List Dd) : textS (L.map normD) = textS L := by
  unfold textS
  rw [List.flatMap_map]
  congr 1
  funext d
  rw [norm_line]
theorem rows_text : ∀ L : List Dd, splitS 10 (textS L) = L.map lineS ++ [[]]
  | [] => rfl
  | d :: L => by
    have e : textS (d :: L) = lineS d ++ 10 :: textS L := by simp [textS]
    rw [e, split_app, split_none (line_no10 d), rows_text L]
    rfl
theorem word_head {k : Int} (h0 : 1 ≤ k) (h1 : k ≤ 19) : ∃ c r, wordS k = c :: r ∧ c ≠ 35 := by
  have key : ∀ i : Nat, i < 19 → ∃ c r, wordsL.getD i [] = c :: r ∧ c ≠ 35 := fun i hi => by
    have h : ∀ i : Nat, i < 19 → (wordsL.getD i []).head? ≠ none ∧ (wordsL.getD i []).head? ≠ some 35 := by decide
    obtain ⟨h1, h2⟩ := h i hi
    cases hw : wordsL.getD i [] with
    | nil => rw [hw] at h1; exact absurd rfl h1
    | cons c r => exact ⟨c, r, rfl, fun e => h2 (by rw [hw, e]; rfl)⟩
  rw [wordS, if_neg (by omega)]
  exact key _ (by omega)
theorem line_head {d : Dd} (h0 : 1 ≤ d.kind) (h1 : d.kind ≤ 19) : ¬ (lineS d = [] ∨ (lineS d).head? = some 35) := by
  obtain ⟨c, r, hw, hc⟩ := word_head h0 h1
  have e : ∃ t, lineS d = c :: t := by
    rw [line_flat, hw]
    exact ⟨_, rfl⟩
  obtain ⟨t, e⟩ := e
  rw [e]
  simp [hc]
theorem readG_text : ∀ (L : List Dd) (i : Nat), (∀ d ∈ L, okD d ∧ 1 ≤ d.kind ∧ d.kind ≤ 19) → readG i (L.map lineS ++ [[]]) = .inr (L.map normD)
  | [], i, _ => by
    show readG i [[]] = _
    rw [readG_skip (.inl rfl), readG]
    rfl
  | d :: L, i, h => by
    obtain ⟨h1, h2, h3⟩ := h d List.mem_cons_self
    rw [List.map_cons, List.cons_append, readG_some (line_head h2 h3) (deed_line h1 h2 h3), readG_text L (i + 1) (fun x hx => h x (List.mem_cons_of_mem _ hx))]
    rfl
theorem read_text {L : List Dd} (h : ∀ d ∈ L, okD d ∧ 1 ≤ d.kind ∧ d.kind ≤ 19) (hl : L.length ≤ 4000) : readS (textS L) = (L.map normD, 0, 0) := by
  unfold readS
  rw [rows_text, if_neg (by simp; omega), readG_text L 0 h]
  rfl
theorem readG_app : ∀ (xs ys : List Bs) (i : Nat), readG i (xs ++ ys) = match readG i xs with
    | .inl j => .inl j
    | .inr L => preG L (readG (i + xs.length) ys)
  | [], ys, i => by
    rw [readG]
    exact (preG_nil _).symm
  | r :: xs, ys, i => by
    have ih := readG_app xs ys (i + 1)
    rw [List.cons_append]
    by_cases hs : r = [] ∨ r.head? = some 35
    · rw [readG_skip hs, readG_skip hs, ih, List.length_cons, Nat.add_assoc, Nat.add_comm 1]
    · cases hd : deedS r with
      | none => rw [readG_none hs hd, readG_none hs hd]
      | some d =>
        rw [readG_some hs hd, readG_some hs hd, ih, List.length_cons, Nat.add_assoc, Nat.add_comm 1]
        cases readG (i + 1) xs with
        | inl j => rfl
        | inr T => cases readG (i + (xs.length + 1)) ys <;> rfl
/-- Where it starts counting does not matter to what is read. -/
theorem readG_at : ∀ (rs : List Bs) (i j : Nat), (∃ a b, readG i rs = .inl a ∧ readG j rs = .inl b) ∨ ∃ L, readG i rs = .inr L ∧ readG j rs = .inr L
  | [], i, j => .inr ⟨[], by rw [readG], by rw [readG]⟩
  | r :: rs, i, j => by
    by_cases hs : r = [] ∨ r.head? = some 35
    · rw [readG_skip hs, readG_skip hs]
      exact readG_at rs (i + 1) (j + 1)
    · cases hd : deedS r with
      | none => exact .inl ⟨i, j, readG_none hs hd, readG_none hs hd⟩
      | some d =>
        rw [readG_some hs hd, readG_some hs hd]
        rcases readG_at rs (i + 1) (j + 1) with ⟨a, b, h1, h2⟩ | ⟨L, h1, h2⟩
        · exact .inl ⟨a, b, by rw [h1]; rfl, by rw [h2]; rfl⟩
        · exact .inr ⟨d :: L, by rw [h1]; rfl, by rw [h2]; rfl⟩
end Go.Proofs.YtbckbpimabmacaaDoor
namespace Go.Proofs.YtbckbpimabmacaaDoor
set_option linter.unusedVariables false
set_option linter.unusedSimpArgs false
open Go.RowKit Go.Proofs.YtbckbpimabmacaaDoorW.PrintWords Go.Proofs.YtbckbpimabmacaaDoorW.PrintLast
attribute [local go_sem ↓] Go.wp_at_zero Go.wp_at_succ
attribute [local go_sem] bsV_get bsV_size bsV_toList

def T1 : Bs := [35, 32, 110, 111, 116, 101, 10, 112, 117, 116, 32, 107, 37, 50, 102, 32, 45, 32, 10]
def T2 : Bs := [112, 117, 116, 32, 107, 37, 50, 102, 32, 45, 10, 10, 99, 114, 97, 115, 104, 32, 50, 32, 45, 49, 32, 51, 48, 48, 10, 115, 112, 111, 105, 108, 32, 48, 32, 51, 32, 50, 53, 53]
def D1 : Dd := { zD with kind := 2, key := [107, 47] }
def D2 : Dd := { zD with kind := 16, node := 2, keep := [-1, 300] }
def D3 : Dd := { zD with kind := 7, n := 0, at_ := 3, by_ := 255 }
theorem okz {k : Int} {d : Dd} (h1 : I64 d.kind) (h2 : I64 d.node) (h3 : I64 d.n) (h4 : I64 d.at_) (h5 : 0 ≤ d.by_ ∧ d.by_ ≤ 255) (h6 : 0 ≤ d.draw ∧ d.draw ≤ 255) (h7 : ∀ x ∈ d.keep, I64 x) : okD d := ⟨h1, h2, h3, h4, h5, h6, h7⟩
instance (n : Int) : Decidable (I64 n) := inferInstanceAs (Decidable (_ ∧ _))
theorem ok1 : okD D1 := ⟨by decide, by decide, by decide, by decide, by decide, by decide, by decide⟩
theorem ok2 : okD D2 := ⟨by decide, by decide, by decide, by decide, by decide, by decide, by decide⟩
theorem ok3 : okD D3 := ⟨by decide, by decide, by decide, by decide, by decide, by decide, by decide⟩
theorem oks1 : okS D1 := ⟨ok1, by decide, by decide, by decide⟩
theorem oks2 : okS D2 := ⟨ok2, by decide, by decide, by decide⟩
theorem oks3 : okS D3 := ⟨ok3, by decide, by decide, by decide⟩
theorem ln1 : lineS D1 = [112, 117, 116, 32, 107, 37, 50, 102, 32, 45] := by decide +kernel
theorem ln2 : lineS D2 = [99, 114, 97, 115, 104, 32, 50, 32, 45, 49, 32, 51, 48, 48] := by decide +kernel
theorem ln3 : lineS D3 = [115, 112, 111, 105, 108, 32, 48, 32, 51, 32, 50, 53, 53] := by decide +kernel
theorem dd1 : deedS [112, 117, 116, 32, 107, 37, 50, 102, 32, 45] = some D1 := by rw [← ln1]; exact deed_line ok1 (by decide) (by decide)
theorem dd2 : deedS [99, 114, 97, 115, 104, 32, 50, 32, 45, 49, 32, 51, 48, 48] = some D2 := by rw [← ln2]; exact deed_line ok2 (by decide) (by decide)
theorem dd3 : deedS [115, 112, 111, 105, 108, 32, 48, 32, 51, 32, 50, 53, 53] = some D3 := by rw [← ln3]; exact deed_line ok3 (by decide) (by decide)
theorem sp1 : splitS 10 T1 = [[35, 32, 110, 111, 116, 101], [112, 117, 116, 32, 107, 37, 50, 102, 32, 45, 32], []] := by decide +kernel
theorem sp2 : splitS 10 T2 = [[112, 117, 116, 32, 107, 37, 50, 102, 32, 45], [], [99, 114, 97, 115, 104, 32, 50, 32, 45, 49, 32, 51, 48, 48], [115, 112, 111, 105, 108, 32, 48, 32, 51, 32, 50, 53, 53]] := by decide +kernel
theorem bad1 : deedS [112, 117, 116, 32, 107, 37, 50, 102, 32, 45, 32] = none := by
  have h : splitS 32 [112, 117, 116, 32, 107, 37, 50, 102, 32, 45, 32] = [[112, 117, 116], [107, 37, 50, 102], [45], []] := by decide +kernel
  have hf : findS [112, 117, 116] = 2 := by decide +kernel
  rw [deedS_eq h, hf]
  rfl
theorem rd1 : readS T1 = ([], 16, 1) := by
  rw [readS, sp1, if_neg (by decide), readG_skip (.inr rfl), readG_none (by decide) bad1]
  rfl
theorem rd2 : readS T2 = ([D1, D2, D3], 0, 0) := by
  rw [readS, sp2, if_neg (by decide), readG_some (by decide) dd1, readG_skip (.inl rfl), readG_some (by decide) dd2, readG_some (by decide) dd3, readG]
  rfl
theorem w_read1 (w : World) (hm : MX w) : Calls Tryd.prog 19 #[.string ⟨#[35, 32, 110, 111, 116, 101, 10, 112, 117, 116, 32, 107, 37, 50, 102, 32, 45, 32, 10]⟩] w fun e w' => ∃ A c b op, e = .returned (.tuple #[.slice A 0 c, .iface 76 (.pointer (some ⟨b, 0, none⟩))]) ∧ w'.heap[b]? = some (faultO op 1 16 .nilIface) ∧ Below w.heap.size w w' := by
  refine (show Calls Tryd.prog 19 #[.string ⟨#[35, 32, 110, 111, 116, 101, 10, 112, 117, 116, 32, 107, 37, 50, 102, 32, 45, 32, 10]⟩] w (ReadPost T1 w) from read_any T1 w (by decide) hm).mono ?_
  intro e w' h
  unfold ReadPost at h
  rw [rd1] at h
  obtain ⟨A, c, ev, he, _, h2, h3⟩ := h
  rcases h2 with ⟨h2, _⟩ | ⟨_, b, op, rfl, h4⟩
  · exact absurd h2 (by show ¬ (16 : Int) = 0; decide)
  · exact ⟨A, c, b, op, he, h4, h3⟩
theorem w_read2 (w : World) (hm : MX w) : Calls Tryd.prog 19 #[.string ⟨#[112, 117, 116, 32, 107, 37, 50, 102, 32, 45, 10, 10, 99, 114, 97, 115, 104, 32, 50, 32, 45, 49, 32, 51, 48, 48, 10, 115, 112, 111, 105, 108, 32, 48, 32, 51, 32, 50, 53, 53]⟩] w fun e w' => ∃ g c, e = .returned (.tuple #[.slice (some ⟨g, 0, none⟩) 3 c, .nilIface]) ∧ kE.C w' (some ⟨g, 0, none⟩) 3 [D1, D2, D3] ∧ 3 ≤ c ∧ Below w.heap.size w w' := by
  refine (show Calls Tryd.prog 19 #[.string ⟨#[112, 117, 116, 32, 107, 37, 50, 102, 32, 45, 10, 10, 99, 114, 97, 115, 104, 32, 50, 32, 45, 49, 32, 51, 48, 48, 10, 115, 112, 111, 105, 108, 32, 48, 32, 51, 32, 50, 53, 53]⟩] w (ReadPost T2 w) from read_any T2 w (by decide) hm).mono ?_
  intro e w' h
  unfold ReadPost at h
  rw [rd2] at h
  obtain ⟨A, c, ev, he, h1, h2, h3⟩ := h
  rcases h2 with ⟨_, rfl⟩ | ⟨h2, _⟩
  · obtain ⟨inner, ho⟩ := Kd.R_own h1
    obtain ⟨g, cap, e1, _, _⟩ := ho.form (by simp)
    injection e1 with e1 e2 e3
    subst e1
    obtain ⟨hn, hc, hC⟩ := Kd.R_reads' h1
    exact ⟨g, c, he, hC, hc, h3⟩
  · exact absurd rfl h2
theorem w_num (w : World) : Calls Tryd.prog 8 #[.string ⟨#[45, 49, 50]⟩] w fun e w' => e = .returned (.tuple #[.int .i64 (-12), .bool true]) ∧ Below w.heap.size w w' := by
  refine (show Calls Tryd.prog 8 #[.string ⟨#[45, 49, 50]⟩] w _ from num_any [45, 49, 50] (by decide) w).mono ?_
  rintro e w' ⟨x, ok, he, hn, hb⟩
  have h1 : numS [45, 49, 50] = some (-12) := numS_is (by decide) (by decide) (by decide +kernel)
  unfold NumIs at hn
  rw [h1] at hn
  cases ok with
  | false => cases hn
  | true =>
    injection hn with hn
    rw [he, ← hn]
    exact ⟨rfl, hb⟩
theorem w_unq (w : World) : Calls Tryd.prog 10 #[.string ⟨#[97, 37, 50, 102, 98]⟩] w fun e w' => ∃ A c, e = .returned (.tuple #[.slice A 3 c, .bool true]) ∧ (Kd.int .u8).C w' A 3 (bI [97, 47, 98]) ∧ Below w.heap.size w w' := by
  refine (show Calls Tryd.prog 10 #[.string ⟨#[97, 37, 50, 102, 98]⟩] w _ from unq_any [97, 37, 50, 102, 98] (Lib.hid (by decide)) w).mono ?_
  rintro e w' ⟨v, b, ok, he, hu, hR, hb⟩
  have h1 : unqS [97, 37, 50, 102, 98] = some [97, 47, 98] := by
    have h2 : quoS [97, 47, 98] = [97, 37, 50, 102, 98] := by decide +kernel
    rw [← h2]
    exact unqS_quo _
  rcases hu with ⟨rfl, h2⟩ | ⟨rfl, h2⟩
  · rw [h1] at h2
    injection h2 with h2
    subst h2
    obtain ⟨A, c, rfl, _, hC⟩ := Kd.R_reads hR
    exact ⟨A, c, he, hC, hb⟩
  · rw [h1] at h2
    cases h2
def wk8_T : Bool × List (List Nat × List Nat) := (true, [([], []), ([0], [0]), ([1], [1]), ([2], [2]), ([3], [3]), ([4, 3, 3], [3, 4]), ([5, 3], [3, 5]), ([3, 6], [3, 6]), ([7, 5], [7]), ([8], [8]), ([8, 9], [8, 9]), ([10, 8], [10]), ([11], [11]), ([12, 11], [11, 12]), ([11, 13], [11, 13]), ([14, 11], [14]), ([15], [15]), ([16, 15], [15, 16]), ([15, 17], [15, 17]), ([18, 15], [18]), ([19], [19]), ([20, 19], [19, 20]), ([21, 19], [19, 21]), ([22, 19], [19, 22]), ([23, 19], [19, 23]), ([19, 24], [19, 24]), ([25, 19], [25]), ([26], [26]), ([27, 26], [26, 27]), ([28, 26], [26, 28]), ([29, 26], [26, 29]), ([30, 26], [26, 30]), ([31, 26], [26, 31]), ([26, 32], [26, 32]), ([33, 26], [33]), ([34], [34]), ([35, 34], [34, 35]), ([36, 34], [34, 36]), ([37, 34], [34, 37]), ([34], [34]), ([38, 39, 34, 34], [34, 38, 39]), ([34, 40], [34, 40]), ([41, 40], [41]), ([42], [42]), ([43, 42], [42, 43]), ([44, 42], [42, 44]), ([45, 42], [42, 45]), ([46, 42], [42, 46]), ([42, 47], [42, 47]), ([48, 42], [48]), ([49], [49]), ([50, 49], [49, 50]), ([51, 49], [49, 51]), ([52, 49, 49], [49, 52]), ([53, 49], [49, 53]), ([49, 54], [49, 54]), ([55, 53], [55]), ([56], [56]), ([56, 57], [56, 57]), ([58, 56], [58]), ([59], [59]), ([60, 59], [59, 60]), ([59, 61], [59, 61]), ([62, 59], [62]), ([63], [63]), ([63, 64], [63, 64]), ([65, 63], [65]), ([66], [66]), ([67, 66], [66, 67]), ([68, 66], [66, 68]), ([66, 69], [66, 69]), ([70, 66], [70]), ([71, 71], [71]), ([72, 71], [71, 72]), ([71, 73], [71, 73]), ([74, 72], [74]), ([75, 75], [75]), ([76, 75], [75, 76]), ([75, 77], [75, 77]), ([78, 76], [78]), ([79, 79], [79]), ([80, 79], [79, 80]), ([79, 81], [79, 81]), ([82, 80], [82]), ([83], [83]), ([84, 83], [83, 84]), ([85, 83], [83, 85]), ([83], [83]), ([87, 83], [83, 87]), ([88, 83], [83, 88]), ([86, 89, 83, 83], [83, 86, 89]), ([83, 90], [83, 90]), ([91, 90, 0, 1, 2, 3, 4, 5, 6, 7, 8, 9, 10, 11, 12, 13, 14, 15, 16, 17, 18, 19, 20, 21, 22, 23, 24, 25, 26, 27, 28, 29, 30, 31, 32, 33, 34, 35, 36, 37, 38, 39, 40, 41, 42, 43, 44, 45, 46, 47, 48, 49, 50, 51, 52, 53, 54, 55, 56, 57, 58, 59, 60, 61, 62, 63, 64, 65, 66, 67, 68, 69, 70, 71, 72, 73, 74, 75, 76, 77, 78, 79, 80, 81, 82, 83, 84, 85, 86, 87, 88, 89, 90, 91], [91])])
def wk8_B : List Nat := [0, 1, 3, 7, 15, 31, 63, 127, 255, 511, 1023, 2047, 4095, 8191, 16383, 32767, 65535, 131071, 262143, 524287, 1048575, 2097151, 4194303, 8388607, 16777215, 33554431, 67108863, 134217727, 268435455, 536870911, 1073741823, 2147483647, 4294967295, 8589934591, 17179869183, 34359738367, 68719476735, 137438953471, 274877906943, 34359738367, 1099511627775, 2199023255551, 4398046511103, 8796093022207, 17592186044415, 35184372088831, 70368744177663, 140737488355327, 281474976710655, 562949953421311, 1125899906842623, 2251799813685247, 4503599627370495, 9007199254740991, 18014398509481983, 36028797018963967, 72057594037927935, 144115188075855871, 288230376151711743, 576460752303423487, 1152921504606846975, 2305843009213693951, 4611686018427387903, 9223372036854775807, 18446744073709551615, 36893488147419103231, 73786976294838206463, 147573952589676412927, 295147905179352825855, 590295810358705651711, 1180591620717411303423, 2361183241434822606847, 4722366482869645213695, 9444732965739290427391, 18889465931478580854783, 37778931862957161709567, 75557863725914323419135, 151115727451828646838271, 302231454903657293676543, 604462909807314587353087, 1208925819614629174706175, 2417851639229258349412351, 4835703278458516698824703, 9671406556917033397649407, 19342813113834066795298815, 38685626227668133590597631, 77371252455336267181195263, 19342813113834066795298815, 174085318024506601157689343, 483570327845851669882470399, 1237940039285380274899124223, 2475880078570760549798248447, 4951760157141521099596496895]
theorem wk8_tab : rtab .any (opsOf Tryd.f7 8) = wk8_T := by kernel_rfl
theorem wk8_bits : waitsOk wk8_T.2 wk8_B = true := by kernel_rfl
structure WS (g : Nat) (A1 A2 B1 B2 : Option Addr) (c1 c2 e1 e2 : Nat) (A9 : Option Addr) (c9 : Nat) (W : World) : Prop where
  fc0 : W.cell? ⟨g, 0, none⟩ = some (.int .i64 2)
  fc1 : W.cell? ⟨g, 1, none⟩ = some (.int .i64 0)
  fc2 : W.cell? ⟨g, 2, none⟩ = some (.string ⟨#[107, 47]⟩)
  fc3 : W.cell? ⟨g, 3, none⟩ = some (.slice A1 0 c1)
  fc4 : W.cell? ⟨g, 4, none⟩ = some (.int .i64 0)
  fc5 : W.cell? ⟨g, 5, none⟩ = some (.int .i64 0)
  fc6 : W.cell? ⟨g, 6, none⟩ = some (.int .u8 0)
  fc7 : W.cell? ⟨g, 7, none⟩ = some (.int .u8 0)
  fc8 : W.cell? ⟨g, 8, none⟩ = some (.slice A2 0 c2)
  fc9 : W.cell? ⟨g, 9, none⟩ = some (.int .i64 16)
  fc10 : W.cell? ⟨g, 10, none⟩ = some (.int .i64 2)
  fc11 : W.cell? ⟨g, 11, none⟩ = some (.string ⟨#[]⟩)
  fc12 : W.cell? ⟨g, 12, none⟩ = some (.slice B1 0 e1)
  fc13 : W.cell? ⟨g, 13, none⟩ = some (.int .i64 0)
  fc14 : W.cell? ⟨g, 14, none⟩ = some (.int .i64 0)
  fc15 : W.cell? ⟨g, 15, none⟩ = some (.int .u8 0)
  fc16 : W.cell? ⟨g, 16, none⟩ = some (.int .u8 0)
  fc17 : W.cell? ⟨g, 17, none⟩ = some (.slice B2 2 e2)
  fc24 : W.cell? ⟨g, 24, none⟩ = some (.int .u8 255)
  fcv : (convert 22 9 (.slice A9 3 c9)).run Tryd.prog W = .ok (.string ⟨#[97, 47, 98]⟩) W
theorem exec_load {P : Program} {o : Oper} {ev : Operand → Value} {T : TypeId} {x : Operand} {p : Addr} {v : Value} {W : World} {d : TypeDesc} (ho : o.op = .load T x) (hx : ev x = .pointer (some p)) (hu : P.underlying T = some d) (hd : (match d with | .struct _ | .array _ _ => true | _ => false) = false) (hc : W.cell? p = some v) : (execOp ev o).run P W = .ok (.value v) W := by
  have hagg : (isAgg T).run P W = .ok false W := by
    unfold isAgg
    rw [Sem.run_bind, run_underlying hu W]
    cases d <;> simp_all
  unfold execOp
  simp [ho, hx, Instr.loadAt, Instr.sureAddr, Sem.run_bind, Sem.run_pure, Result.andThen_ok, loadVar, hagg, hc]
theorem exec_load9 {o : Oper} {ev : Operand → Value} {x : Operand} {g q : Nat} {x0 x1 x2 x3 x4 x5 x6 x7 x8 : Value} {W : World} (ho : o.op = .load 45 x) (hx : ev x = .pointer (some ⟨g, q, none⟩)) (h0 : W.cell? ⟨g, q + 0, none⟩ = some x0) (h1 : W.cell? ⟨g, q + 1, none⟩ = some x1) (h2 : W.cell? ⟨g, q + 2, none⟩ = some x2) (h3 : W.cell? ⟨g, q + 3, none⟩ = some x3) (h4 : W.cell? ⟨g, q + 4, none⟩ = some x4) (h5 : W.cell? ⟨g, q + 5, none⟩ = some x5) (h6 : W.cell? ⟨g, q + 6, none⟩ = some x6) (h7 : W.cell? ⟨g, q + 7, none⟩ = some x7) (h8 : W.cell? ⟨g, q + 8, none⟩ = some x8) : (execOp ev o).run Tryd.prog W = .ok (.value (.agg #[x0, x1, x2, x3, x4, x5, x6, x7, x8])) W := by
  have hr : W.rangeAt g q [x0, x1, x2, x3, x4, x5, x6, x7, x8] := by
    intro j v hj
    match j, hj with
    | 0, hj => exact (by have e : x0 = v := (by simpa using hj); rw [← e]; exact h0)
    | 1, hj => exact (by have e : x1 = v := (by simpa using hj); rw [← e]; exact h1)
    | 2, hj => exact (by have e : x2 = v := (by simpa using hj); rw [← e]; exact h2)
    | 3, hj => exact (by have e : x3 = v := (by simpa using hj); rw [← e]; exact h3)
    | 4, hj => exact (by have e : x4 = v := (by simpa using hj); rw [← e]; exact h4)
    | 5, hj => exact (by have e : x5 = v := (by simpa using hj); rw [← e]; exact h5)
    | 6, hj => exact (by have e : x6 = v := (by simpa using hj); rw [← e]; exact h6)
    | 7, hj => exact (by have e : x7 = v := (by simpa using hj); rw [← e]; exact h7)
    | 8, hj => exact (by have e : x8 = v := (by simpa using hj); rw [← e]; exact h8)
    | j + 9, hj => simp at hj
  have h := run_loadAt_mid (P := Tryd.prog) W g q 45 [x0, x1, x2, x3, x4, x5, x6, x7, x8] _ hr Tryd.underlying45 rfl (by kernel_rfl)
  unfold execOp
  simp only [ho, hx, h, Sem.run_bind, Sem.run_pure, Result.andThen_ok]
theorem exec_conv {o : Oper} {ev : Operand → Value} {s d : TypeId} {x : Operand} {a v : Value} {W : World} (ho : o.op = .convert s d x) (hx : ev x = a) (hc : (convert s d a).run Tryd.prog W = .ok v W) : (execOp ev o).run Tryd.prog W = .ok (.value v) W := by
  unfold execOp
  simp only [ho, hx, hc, Sem.run_bind, Sem.run_pure, Result.andThen_ok]
theorem mx_of {w w' : World} (h : MX w) (hb : Below w.heap.size w w') : MX w' := h.later hb
end Go.Proofs.YtbckbpimabmacaaDoor
namespace Go.Proofs.YtbckbpimabmacaaDoor
set_option linter.unusedVariables false
set_option linter.unusedSimpArgs false
open Go.RowKit Go.Proofs.YtbckbpimabmacaaDoorW.PrintWords Go.Proofs.YtbckbpimabmacaaDoorW.PrintLast
attribute [local go_sem ↓] Go.wp_at_zero Go.wp_at_succ
attribute [local go_sem] bsV_get bsV_size bsV_toList

set_option maxHeartbeats 8000000 in
set_option maxRecDepth 100000 in
theorem works_any (w : World) (hg : HG w) (hm : MX w) : Calls Tryd.prog 7 #[] w fun e w' => e = .returned (.bool true) ∧ Below w.heap.size w w' := by
  have HH := Lib.hid hg
  have HM := Lib.hid hm
  clear hg hm
  go_enter Tryd.func7, Tryd.ntmps7
  go_wp2_with fail
  refine (w_read1 w HM.out).mono ?_
  rintro e w1 ⟨A, c, b, op, rfl, hbk, hb⟩
  have HB1 := Lib.hid hb
  have HF1 := Lib.hid hbk
  clear hb hbk
  go_wp2_with fail
  refine (w_read2 w1 (HM.out.later HB1.out)).mono ?_
  rintro e w2 ⟨g, cg, rfl, hC, hcg, hb⟩
  have HB2 := Lib.hid (HB1.out.trans (hb.mono HB1.out.size))
  have HF2 := Lib.hid ((hb.block b (Array.getElem?_eq_some_iff.1 HF1.out).1).trans HF1.out)
  have HC2 := Lib.hid hC
  clear hb hC HB1 HF1
  have HWH := Lib.hid (where_any (.iface 76 (.pointer (some ⟨b, 0, none⟩))) 16 1 w2 (.inr ⟨by decide, b, op, rfl, HF2.out⟩) (hg_later HH.out HB2.out))
  go_wp2_with fail
  refine HWH.out.mono ?_
  rintro e w3 ⟨⟨x, rfl, hx⟩, hb⟩
  obtain rfl := hx (by decide)
  have hd16 : decide ((16 : Int) ≠ 0) = true := by decide
  rw [hd16]
  have HB3 := Lib.hid (HB2.out.trans (hb.mono HB2.out.size))
  have HF3 := Lib.hid ((hb.block b (Array.getElem?_eq_some_iff.1 HF2.out).1).trans HF2.out)
  have HC3 := Lib.hid (Kd.C_below HC2.out hb)
  clear hb hx hd16 HB2 HF2 HC2 HWH
  go_wp2_with fail
  refine (w_num w3).mono ?_
  rintro e w4 ⟨rfl, hb⟩
  have HB4 := Lib.hid (HB3.out.trans (hb.mono HB3.out.size))
  have HF4 := Lib.hid ((hb.block b (Array.getElem?_eq_some_iff.1 HF3.out).1).trans HF3.out)
  have HC4 := Lib.hid (Kd.C_below HC3.out hb)
  clear hb HB3 HF3 HC3
  go_wp2_with fail
  refine (w_unq w4).mono ?_
  rintro e w5 ⟨A9, c9, rfl, hC9, hb⟩
  have HB5 := Lib.hid (HB4.out.trans (hb.mono HB4.out.size))
  have HF5 := Lib.hid ((hb.block b (Array.getElem?_eq_some_iff.1 HF4.out).1).trans HF4.out)
  have HC5 := Lib.hid (Kd.C_below HC4.out hb)
  have HC9 := Lib.hid hC9
  clear hb hC9 HB4 HF4 HC4
  obtain ⟨ad, A1, c1, A2, c2, e1, hD1, k0, k1, k2, k3, k4, k5, k6, k7, k8⟩ := deed_at HC5.out (i := 0) (by decide) rfl oks1
  injection e1 with e1
  subst e1
  obtain ⟨ad, B1, e1, B2, e2, ee, hD2, m0, m1, m2, m3, m4, m5, m6, m7, m8⟩ := deed_at HC5.out (i := 1) (by decide) rfl oks2
  injection ee with ee
  subst ee
  obtain ⟨ad, E1, f1, E2, f2, ee, hD3, n0, n1, n2, n3, n4, n5, n6, n7, n8⟩ := deed_at HC5.out (i := 2) (by decide) rfl oks3
  injection ee with ee
  subst ee
  have HD1 := Lib.hid hD1
  have HD2 := Lib.hid hD2
  have hS5 : WS g A1 A2 B1 B2 c1 c2 e1 e2 A9 c9 w5 := ⟨k0, k1, k2, k3, k4, k5, k6, k7, k8, m0, m1, m2, m3, m4, m5, m6, m7, m8, n6, conv_bs c9 HC9.out⟩
  have HSW := Lib.hid (show ∀ W, Below w5.heap.size w5 W → WS g A1 A2 B1 B2 c1 c2 e1 e2 A9 c9 W from fun W hW => by
    have hc : ∀ (p : Addr) (v : Value), w5.cell? p = some v → W.cell? p = some v := fun p v h => (hW.cell (World.block_lt_of_cell? w5 _ h)).trans h
    exact ⟨hc _ _ k0, hc _ _ k1, hc _ _ k2, hc _ _ k3, hc _ _ k4, hc _ _ k5, hc _ _ k6, hc _ _ k7, hc _ _ k8, hc _ _ m0, hc _ _ m1, hc _ _ m2, hc _ _ m3, hc _ _ m4, hc _ _ m5, hc _ _ m6, hc _ _ m7, hc _ _ m8, hc _ _ n6, conv_bs c9 (Kd.C_below HC9.out hW)⟩)
  clear k0 k1 k2 k3 k4 k5 k6 k7 k8 m0 m1 m2 m3 m4 m5 m6 m7 m8 n0 n1 n2 n3 n4 n5 n6 n7 n8 hD1 hD2 hD3
  have HOF := Lib.hid (show ∀ W, Below w5.heap.size w5 W → Calls Tryd.prog 23 #[.iface 76 (.pointer (some ⟨b, 0, none⟩))] W fun e w' => e = .returned (.int .i64 16) ∧ Below w5.heap.size w5 w' from fun W hW => (of_one _ 16 1 W (.inr ⟨by decide, b, op, rfl, (hW.block b (Array.getElem?_eq_some_iff.1 HF5.out).1).trans HF5.out⟩) (hg_later HH.out (HB5.out.trans (hW.mono HB5.out.size)))).mono fun e w' ⟨he, hb⟩ => ⟨he, hW.trans (hb.mono hW.size)⟩)
  have HIN := Lib.hid (show ∀ W, Below w5.heap.size w5 W → Calls Tryd.prog 33 #[.slice B2 2 e2, .slice (some ⟨W.heap.size, 0, none⟩) 2 2] (W.alloc (.cells #[.int .i64 (-1), .int .i64 300] 3)) fun e w' => e = .returned (.bool true) ∧ Below w5.heap.size w5 w' from fun W hW => by
    have h1 := bel_alloc W (.cells #[.int .i64 (-1), .int .i64 300] 3)
    have h2 : (Kd.int .i64).C (W.alloc (.cells #[.int .i64 (-1), .int .i64 300] 3)) (some ⟨W.heap.size, 0, none⟩) 2 [-1, 300] := ⟨rfl, by decide, fun _ => ⟨_, rfl, fun j p hj => by
      rcases j with _ | _ | j
      · obtain rfl : (-1 : Int) = p := by simpa using hj
        exact ⟨[.int .i64 (-1)], rfl, rfl, fun i u hu => by rcases i with _ | i <;> simp at hu; subst hu; rw [add_plain, World.cell?, heap_alloc_new]; rfl⟩
      · obtain rfl : (300 : Int) = p := by simpa using hj
        exact ⟨[.int .i64 300], rfl, rfl, fun i u hu => by rcases i with _ | i <;> simp at hu; subst hu; rw [add_plain, World.cell?, heap_alloc_new]; rfl⟩
      · simp at hj⟩⟩
    refine (show Calls Tryd.prog 33 #[.slice B2 2 e2, .slice (some ⟨W.heap.size, 0, none⟩) 2 2] _ _ from ints_any B2 _ e2 2 [-1, 300] [-1, 300] _ (Kd.C_below HD2.out.kp (hW.trans (h1.mono hW.size))) HD2.out.capK h2 (by decide) (by decide)).mono fun e w' ⟨he, m, hm⟩ => ⟨he, ?_⟩
    rw [hm]
    exact (hW.trans (h1.mono hW.size)).trans ((Drawn0.below ⟨m, rfl⟩).mono (by have := hW.size; simp; omega)))
  have HLI := Lib.hid (show ∀ W, Below w5.heap.size w5 W → Calls Tryd.prog 29 #[.agg #[.int .i64 16, .int .i64 2, .string ⟨#[]⟩, .slice B1 0 e1, .int .i64 0, .int .i64 0, .int .u8 0, .int .u8 0, .slice B2 2 e2]] W fun e w' => e = .returned (.string ⟨#[99, 114, 97, 115, 104, 32, 50, 32, 45, 49, 32, 51, 48, 48]⟩) ∧ Below w5.heap.size w5 w' from fun W hW => (show Calls Tryd.prog 29 #[.agg #[.int .i64 16, .int .i64 2, .string ⟨#[]⟩, .slice B1 0 e1, .int .i64 0, .int .i64 0, .int .u8 0, .int .u8 0, .slice B2 2 e2]] W _ from line_any D2 B1 B2 e1 e2 W (HD2.out.later hW)).mono fun e w' ⟨he, hb⟩ => ⟨by rw [he, ln2]; rfl, hW.trans (hb.mono hW.size)⟩)
  have HWD := Lib.hid (show ∀ W, Below w5.heap.size w5 W → Calls Tryd.prog 13 #[.int .i64 19] W fun e w' => e = .returned (.string ⟨#[115, 104, 117, 116]⟩) ∧ Below w5.heap.size w5 w' from fun W hW => (word_any 19 W).mono fun e w' ⟨he, hb⟩ => ⟨he, hW.trans (hb.mono hW.size)⟩)
  have HDE := Lib.hid (show ∀ W, Below w5.heap.size w5 W → Calls Tryd.prog 15 #[.int .i64 (-40)] W fun e w' => e = .returned (.string ⟨#[45, 52, 48]⟩) ∧ Below w5.heap.size w5 w' from fun W hW => (dec_any (-40) (show Hid _ from ⟨by decide, by decide⟩) W).mono fun e w' ⟨he, hb⟩ => ⟨by rw [he, show decS (-40) = [45, 52, 48] by decide +kernel]; rfl, by rw [hb]; exact hW⟩)
  have HQU := Lib.hid (show ∀ W, Below w5.heap.size w5 W → Calls Tryd.prog 17 #[.slice none 0 0] W fun e w' => e = .returned (.string ⟨#[45]⟩) ∧ Below w5.heap.size w5 w' from fun W hW => (show Calls Tryd.prog 17 #[.slice none 0 0] W _ from quote_any [] none 0 W ⟨rfl, by decide, fun hp => absurd hp (by decide)⟩ (Lib.hid (by decide))).mono fun e w' ⟨he, hb⟩ => ⟨he, hW.trans (hb.mono hW.size)⟩)
  have HSA := Lib.hid (show ∀ W, Below w5.heap.size w5 W → Calls Tryd.prog 34 #[.agg #[.int .i64 2, .int .i64 0, .string ⟨#[107, 47]⟩, .slice A1 0 c1, .int .i64 0, .int .i64 0, .int .u8 0, .int .u8 0, .slice A2 0 c2], .agg #[.int .i64 2, .int .i64 0, .string ⟨#[107, 47]⟩, .slice A1 0 c1, .int .i64 0, .int .i64 0, .int .u8 0, .int .u8 0, .slice A2 0 c2]] W fun e w' => e = .returned (.bool true) ∧ Below w5.heap.size w5 w' from fun W hW => (show Calls Tryd.prog 34 #[.agg #[.int .i64 2, .int .i64 0, .string ⟨#[107, 47]⟩, .slice A1 0 c1, .int .i64 0, .int .i64 0, .int .u8 0, .int .u8 0, .slice A2 0 c2], .agg #[.int .i64 2, .int .i64 0, .string ⟨#[107, 47]⟩, .slice A1 0 c1, .int .i64 0, .int .i64 0, .int .u8 0, .int .u8 0, .slice A2 0 c2]] W _ from same_any D1 D1 A1 A2 A1 A2 c1 c2 c1 c2 W (HD1.out.later hW) (HD1.out.later hW)).mono fun e w' ⟨he, hb⟩ => ⟨by rw [he, same_refl], hW.trans (hb.mono hW.size)⟩)
  have z0 : Hid (Below w5.heap.size w5 w5.drew) := Drawn0.below ⟨1, rfl⟩
  have HCG := Lib.hid hcg
  have HS0 := Lib.hid hS5
  clear hS5
  go_wp2_with fail
  simp only [List.append_eq, List.cons_append, List.nil_append]
  refine start_ (n := 93) (S := WS g A1 A2 B1 B2 c1 c2 e1 e2 A9 c9) (ds := []) #[false, false, false, false, false, false, false, false, false, false, false, false, false, false, false, false, false, false, false, false, false, false, false, false, false, false, false, false, false, false, false, false, false, false, false, false, false, false, false, false, false, false, false, false, false, false, false, false, false, false, false, false, false, false, false, false, false, false, false, false, false, false, false, false, false, false, false, false, false, false, false, false, false, false, false, false, false, false, false, false, false, false, false, false, false, false, false, false, false, false, false, false, false] (by kernel_rfl) rfl rfl (HSW.out _ z0.out) (fun hHeld => ?_)
  refine with_tabW wk8_tab wk8_bits (fun HT_ HW_ => ?_)
  refine pure_ (i := 0) (N := some 35) (v := .slice A 0 c) #[true, false, false, false, false, false, false, false, false, false, false, false, false, false, false, false, false, false, false, false, false, false, false, false, false, false, false, false, false, false, false, false, false, false, false, false, false, false, false, false, false, false, false, false, false, false, false, false, false, false, false, false, false, false, false, false, false, false, false, false, false, false, false, false, false, false, false, false, false, false, false, false, false, false, false, false, false, false, false, false, false, false, false, false, false, false, false, false, false, false, false, false, false] rfl rfl (any_of HT_.out (by kernel_rfl)) (fun _ _ _ h => h) (Or.inl ⟨by kernel_rfl, fun W => by kernel_rfl⟩) rfl ?_
  refine pure_ (i := 1) (N := some 36) (v := .int .i64 0) #[true, true, false, false, false, false, false, false, false, false, false, false, false, false, false, false, false, false, false, false, false, false, false, false, false, false, false, false, false, false, false, false, false, false, false, false, false, false, false, false, false, false, false, false, false, false, false, false, false, false, false, false, false, false, false, false, false, false, false, false, false, false, false, false, false, false, false, false, false, false, false, false, false, false, false, false, false, false, false, false, false, false, false, false, false, false, false, false, false, false, false, false, false] rfl rfl (any_of HT_.out (by kernel_rfl)) (fun _ _ _ h => h) (Or.inl ⟨by kernel_rfl, fun W => by kernel_rfl⟩) rfl ?_
  refine pure_ (i := 2) (N := some 37) (v := .bool true) #[true, true, true, false, false, false, false, false, false, false, false, false, false, false, false, false, false, false, false, false, false, false, false, false, false, false, false, false, false, false, false, false, false, false, false, false, false, false, false, false, false, false, false, false, false, false, false, false, false, false, false, false, false, false, false, false, false, false, false, false, false, false, false, false, false, false, false, false, false, false, false, false, false, false, false, false, false, false, false, false, false, false, false, false, false, false, false, false, false, false, false, false, false] rfl rfl (any_of HT_.out (by kernel_rfl)) (fun _ _ _ h => h) (Or.inl ⟨by kernel_rfl, fun W => by kernel_rfl⟩) rfl ?_
  refine pure_ (i := 3) (N := some 38) (v := .bool true) #[true, true, true, true, false, false, false, false, false, false, false, false, false, false, false, false, false, false, false, false, false, false, false, false, false, false, false, false, false, false, false, false, false, false, false, false, false, false, false, false, false, false, false, false, false, false, false, false, false, false, false, false, false, false, false, false, false, false, false, false, false, false, false, false, false, false, false, false, false, false, false, false, false, false, false, false, false, false, false, false, false, false, false, false, false, false, false, false, false, false, false, false, false] rfl rfl (any_of HT_.out (by kernel_rfl)) (fun _ _ _ h => h) (Or.inl ⟨by kernel_rfl, fun W => by kernel_rfl⟩) rfl ?_
  refine pure_ (i := 4) (N := some 39) (v := .iface 76 (.pointer (some ⟨b, 0, none⟩))) #[true, true, true, true, true, false, false, false, false, false, false, false, false, false, false, false, false, false, false, false, false, false, false, false, false, false, false, false, false, false, false, false, false, false, false, false, false, false, false, false, false, false, false, false, false, false, false, false, false, false, false, false, false, false, false, false, false, false, false, false, false, false, false, false, false, false, false, false, false, false, false, false, false, false, false, false, false, false, false, false, false, false, false, false, false, false, false, false, false, false, false, false, false] rfl rfl (any_of HT_.out (by kernel_rfl)) (fun _ _ _ h => h) (Or.inl ⟨by kernel_rfl, fun W => by kernel_rfl⟩) rfl ?_
  refine norm_ (a' := { tmps := #[.bool false, .slice A 0 c, .iface 76 (.pointer (some ⟨b, 0, none⟩)), .slice (some ⟨g, 0, none⟩) 3 cg, .nilIface, .int .i64 1, .bool true, .int .i64 (-12), .bool true, .slice A9 3 c9, .bool true, .tuple #[.slice A 0 c, .iface 76 (.pointer (some ⟨b, 0, none⟩))], .tuple #[.slice A 0 c, .iface 76 (.pointer (some ⟨b, 0, none⟩))], .slice A 0 c, .iface 76 (.pointer (some ⟨b, 0, none⟩)), .tuple #[.slice (some ⟨g, 0, none⟩) 3 cg, .nilIface], .tuple #[.slice (some ⟨g, 0, none⟩) 3 cg, .nilIface], .slice (some ⟨g, 0, none⟩) 3 cg, .nilIface, .slice (some ⟨g, 0, none⟩) 3 cg, .int .i64 3, .bool false, .tuple #[.int .i64 1, .bool true], .iface 76 (.pointer (some ⟨b, 0, none⟩)), .tuple #[.int .i64 1, .bool true], .int .i64 1, .bool true, .tuple #[.int .i64 (-12), .bool true], .tuple #[.int .i64 (-12), .bool true], .int .i64 (-12), .bool true, .tuple #[.slice A9 3 c9, .bool true], .tuple #[.slice A9 3 c9, .bool true], .slice A9 3 c9, .bool true, .slice A 0 c, .int .i64 0, .bool true, .bool true, .iface 76 (.pointer (some ⟨b, 0, none⟩)), undef, undef, undef, undef, undef, undef, undef, undef, undef, undef, undef, undef, undef, undef, undef, undef, undef, undef, undef, undef, undef, undef, undef, undef, undef, undef, undef, undef, undef, undef, undef, undef, undef, undef, undef, undef, undef, undef, undef, undef, undef, undef, undef, undef, undef, undef, undef, undef, undef, undef, undef, undef, undef, undef, undef, undef, undef, undef, undef, undef, undef, undef, undef, undef, undef, undef, undef, undef, undef, undef, undef, undef, undef, undef, undef, undef, undef, undef, undef, undef, undef, undef, undef, undef, undef, undef, undef], defers := [] }) (by kernel_rfl) ?_
  refine one_ (i := 5) (N := some 40) #[true, true, true, true, true, true, false, false, false, false, false, false, false, false, false, false, false, false, false, false, false, false, false, false, false, false, false, false, false, false, false, false, false, false, false, false, false, false, false, false, false, false, false, false, false, false, false, false, false, false, false, false, false, false, false, false, false, false, false, false, false, false, false, false, false, false, false, false, false, false, false, false, false, false, false, false, false, false, false, false, false, false, false, false, false, false, false, false, false, false, false, false, false] rfl rfl (one_of HT_.out (by kernel_rfl)) (by simp) (fun K hK => ?_)
  refine goes_ Tryd.func23 (by kernel_rfl) rfl #[.iface 76 (.pointer (some ⟨b, 0, none⟩))] (by kernel_rfl) rfl rfl (by kernel_rfl) ?_
  refine (HOF.out _ z0.out).mono ?_
  rintro e y1 ⟨rfl, hb⟩
  have z1 := Lib.hid hb
  clear hb
  refine ⟨_, rfl, hK.out _ _ (HSW.out _ z1.out) (fun hHeld => ?_)⟩
  clear hK K
  refine pure_ (i := 6) (N := some 41) (v := .bool true) #[true, true, true, true, true, true, true, false, false, false, false, false, false, false, false, false, false, false, false, false, false, false, false, false, false, false, false, false, false, false, false, false, false, false, false, false, false, false, false, false, false, false, false, false, false, false, false, false, false, false, false, false, false, false, false, false, false, false, false, false, false, false, false, false, false, false, false, false, false, false, false, false, false, false, false, false, false, false, false, false, false, false, false, false, false, false, false, false, false, false, false, false, false] rfl rfl (any_of HT_.out (by kernel_rfl)) (fun _ _ _ h => h) (Or.inl ⟨by kernel_rfl, fun W => by kernel_rfl⟩) rfl ?_
  refine pure_ (i := 7) (N := some 42) (v := .bool true) #[true, true, true, true, true, true, true, true, false, false, false, false, false, false, false, false, false, false, false, false, false, false, false, false, false, false, false, false, false, false, false, false, false, false, false, false, false, false, false, false, false, false, false, false, false, false, false, false, false, false, false, false, false, false, false, false, false, false, false, false, false, false, false, false, false, false, false, false, false, false, false, false, false, false, false, false, false, false, false, false, false, false, false, false, false, false, false, false, false, false, false, false, false] rfl rfl (any_of HT_.out (by kernel_rfl)) (fun _ _ _ h => h) (Or.inl ⟨by kernel_rfl, fun W => by kernel_rfl⟩) rfl ?_
  refine pure_ (i := 8) (N := some 43) (v := .bool true) #[true, true, true, true, true, true, true, true, true, false, false, false, false, false, false, false, false, false, false, false, false, false, false, false, false, false, false, false, false, false, false, false, false, false, false, false, false, false, false, false, false, false, false, false, false, false, false, false, false, false, false, false, false, false, false, false, false, false, false, false, false, false, false, false, false, false, false, false, false, false, false, false, false, false, false, false, false, false, false, false, false, false, false, false, false, false, false, false, false, false, false, false, false] rfl rfl (any_of HT_.out (by kernel_rfl)) (fun _ _ _ h => h) (Or.inl ⟨by kernel_rfl, fun W => by kernel_rfl⟩) rfl ?_
  refine pure_ (i := 9) (N := some 44) (v := .bool true) #[true, true, true, true, true, true, true, true, true, true, false, false, false, false, false, false, false, false, false, false, false, false, false, false, false, false, false, false, false, false, false, false, false, false, false, false, false, false, false, false, false, false, false, false, false, false, false, false, false, false, false, false, false, false, false, false, false, false, false, false, false, false, false, false, false, false, false, false, false, false, false, false, false, false, false, false, false, false, false, false, false, false, false, false, false, false, false, false, false, false, false, false, false] rfl rfl (any_of HT_.out (by kernel_rfl)) (fun _ _ _ h => h) (Or.inl ⟨by kernel_rfl, fun W => by kernel_rfl⟩) rfl ?_
  refine pure_ (i := 10) (N := some 45) (v := .bool true) #[true, true, true, true, true, true, true, true, true, true, true, false, false, false, false, false, false, false, false, false, false, false, false, false, false, false, false, false, false, false, false, false, false, false, false, false, false, false, false, false, false, false, false, false, false, false, false, false, false, false, false, false, false, false, false, false, false, false, false, false, false, false, false, false, false, false, false, false, false, false, false, false, false, false, false, false, false, false, false, false, false, false, false, false, false, false, false, false, false, false, false, false, false] rfl rfl (any_of HT_.out (by kernel_rfl)) (fun _ _ _ h => h) (Or.inl ⟨by kernel_rfl, fun W => by kernel_rfl⟩) rfl ?_
  refine pure_ (i := 11) (N := some 46) (v := .bool true) #[true, true, true, true, true, true, true, true, true, true, true, true, false, false, false, false, false, false, false, false, false, false, false, false, false, false, false, false, false, false, false, false, false, false, false, false, false, false, false, false, false, false, false, false, false, false, false, false, false, false, false, false, false, false, false, false, false, false, false, false, false, false, false, false, false, false, false, false, false, false, false, false, false, false, false, false, false, false, false, false, false, false, false, false, false, false, false, false, false, false, false, false, false] rfl rfl (any_of HT_.out (by kernel_rfl)) (fun _ _ _ h => h) (Or.inl ⟨by kernel_rfl, fun W => by kernel_rfl⟩) rfl ?_
  refine pure_ (i := 12) (N := some 47) (v := .int .i64 1) #[true, true, true, true, true, true, true, true, true, true, true, true, true, false, false, false, false, false, false, false, false, false, false, false, false, false, false, false, false, false, false, false, false, false, false, false, false, false, false, false, false, false, false, false, false, false, false, false, false, false, false, false, false, false, false, false, false, false, false, false, false, false, false, false, false, false, false, false, false, false, false, false, false, false, false, false, false, false, false, false, false, false, false, false, false, false, false, false, false, false, false, false, false] rfl rfl (any_of HT_.out (by kernel_rfl)) (fun _ _ _ h => h) (Or.inl ⟨by kernel_rfl, fun W => by kernel_rfl⟩) rfl ?_
  refine pure_ (i := 13) (N := some 48) (v := .bool true) #[true, true, true, true, true, true, true, true, true, true, true, true, true, true, false, false, false, false, false, false, false, false, false, false, false, false, false, false, false, false, false, false, false, false, false, false, false, false, false, false, false, false, false, false, false, false, false, false, false, false, false, false, false, false, false, false, false, false, false, false, false, false, false, false, false, false, false, false, false, false, false, false, false, false, false, false, false, false, false, false, false, false, false, false, false, false, false, false, false, false, false, false, false] rfl rfl (any_of HT_.out (by kernel_rfl)) (fun _ _ _ h => h) (Or.inl ⟨by kernel_rfl, fun W => by kernel_rfl⟩) rfl ?_
  refine pure_ (i := 14) (N := some 49) (v := .bool true) #[true, true, true, true, true, true, true, true, true, true, true, true, true, true, true, false, false, false, false, false, false, false, false, false, false, false, false, false, false, false, false, false, false, false, false, false, false, false, false, false, false, false, false, false, false, false, false, false, false, false, false, false, false, false, false, false, false, false, false, false, false, false, false, false, false, false, false, false, false, false, false, false, false, false, false, false, false, false, false, false, false, false, false, false, false, false, false, false, false, false, false, false, false] rfl rfl (any_of HT_.out (by kernel_rfl)) (fun _ _ _ h => h) (Or.inl ⟨by kernel_rfl, fun W => by kernel_rfl⟩) rfl ?_
  refine pure_ (i := 15) (N := some 50) (v := .bool true) #[true, true, true, true, true, true, true, true, true, true, true, true, true, true, true, true, false, false, false, false, false, false, false, false, false, false, false, false, false, false, false, false, false, false, false, false, false, false, false, false, false, false, false, false, false, false, false, false, false, false, false, false, false, false, false, false, false, false, false, false, false, false, false, false, false, false, false, false, false, false, false, false, false, false, false, false, false, false, false, false, false, false, false, false, false, false, false, false, false, false, false, false, false] rfl rfl (any_of HT_.out (by kernel_rfl)) (fun _ _ _ h => h) (Or.inl ⟨by kernel_rfl, fun W => by kernel_rfl⟩) rfl ?_
  refine pure_ (i := 16) (N := some 51) (v := .nilIface) #[true, true, true, true, true, true, true, true, true, true, true, true, true, true, true, true, true, false, false, false, false, false, false, false, false, false, false, false, false, false, false, false, false, false, false, false, false, false, false, false, false, false, false, false, false, false, false, false, false, false, false, false, false, false, false, false, false, false, false, false, false, false, false, false, false, false, false, false, false, false, false, false, false, false, false, false, false, false, false, false, false, false, false, false, false, false, false, false, false, false, false, false, false] rfl rfl (any_of HT_.out (by kernel_rfl)) (fun _ _ _ h => h) (Or.inl ⟨by kernel_rfl, fun W => by kernel_rfl⟩) rfl ?_
  refine pure_ (i := 17) (N := some 52) (v := .bool true) #[true, true, true, true, true, true, true, true, true, true, true, true, true, true, true, true, true, true, false, false, false, false, false, false, false, false, false, false, false, false, false, false, false, false, false, false, false, false, false, false, false, false, false, false, false, false, false, false, false, false, false, false, false, false, false, false, false, false, false, false, false, false, false, false, false, false, false, false, false, false, false, false, false, false, false, false, false, false, false, false, false, false, false, false, false, false, false, false, false, false, false, false, false] rfl rfl (any_of HT_.out (by kernel_rfl)) (fun _ _ _ h => h) (Or.inl ⟨by kernel_rfl, fun W => by kernel_rfl⟩) rfl ?_
  refine pure_ (i := 18) (N := some 53) (v := .bool true) #[true, true, true, true, true, true, true, true, true, true, true, true, true, true, true, true, true, true, true, false, false, false, false, false, false, false, false, false, false, false, false, false, false, false, false, false, false, false, false, false, false, false, false, false, false, false, false, false, false, false, false, false, false, false, false, false, false, false, false, false, false, false, false, false, false, false, false, false, false, false, false, false, false, false, false, false, false, false, false, false, false, false, false, false, false, false, false, false, false, false, false, false, false] rfl rfl (any_of HT_.out (by kernel_rfl)) (fun _ _ _ h => h) (Or.inl ⟨by kernel_rfl, fun W => by kernel_rfl⟩) rfl ?_
  refine pure_ (i := 19) (N := some 54) (v := .bool true) #[true, true, true, true, true, true, true, true, true, true, true, true, true, true, true, true, true, true, true, true, false, false, false, false, false, false, false, false, false, false, false, false, false, false, false, false, false, false, false, false, false, false, false, false, false, false, false, false, false, false, false, false, false, false, false, false, false, false, false, false, false, false, false, false, false, false, false, false, false, false, false, false, false, false, false, false, false, false, false, false, false, false, false, false, false, false, false, false, false, false, false, false, false] rfl rfl (any_of HT_.out (by kernel_rfl)) (fun _ _ _ h => h) (Or.inl ⟨by kernel_rfl, fun W => by kernel_rfl⟩) rfl ?_
  refine pure_ (i := 20) (N := some 55) (v := .slice (some ⟨g, 0, none⟩) 3 cg) #[true, true, true, true, true, true, true, true, true, true, true, true, true, true, true, true, true, true, true, true, true, false, false, false, false, false, false, false, false, false, false, false, false, false, false, false, false, false, false, false, false, false, false, false, false, false, false, false, false, false, false, false, false, false, false, false, false, false, false, false, false, false, false, false, false, false, false, false, false, false, false, false, false, false, false, false, false, false, false, false, false, false, false, false, false, false, false, false, false, false, false, false, false] rfl rfl (any_of HT_.out (by kernel_rfl)) (fun _ _ _ h => h) (Or.inl ⟨by kernel_rfl, fun W => by kernel_rfl⟩) rfl ?_
  refine pure_ (i := 21) (N := some 56) (v := .pointer (some ⟨g, 0, none⟩)) #[true, true, true, true, true, true, true, true, true, true, true, true, true, true, true, true, true, true, true, true, true, true, false, false, false, false, false, false, false, false, false, false, false, false, false, false, false, false, false, false, false, false, false, false, false, false, false, false, false, false, false, false, false, false, false, false, false, false, false, false, false, false, false, false, false, false, false, false, false, false, false, false, false, false, false, false, false, false, false, false, false, false, false, false, false, false, false, false, false, false, false, false, false] rfl rfl (any_of HT_.out (by kernel_rfl)) (fun _ _ _ h => h) (Or.inl ⟨by kernel_rfl, fun W => by kernel_rfl⟩) rfl ?_
  refine pure_ (i := 22) (N := some 57) (v := .pointer (some ⟨g, 2, none⟩)) #[true, true, true, true, true, true, true, true, true, true, true, true, true, true, true, true, true, true, true, true, true, true, true, false, false, false, false, false, false, false, false, false, false, false, false, false, false, false, false, false, false, false, false, false, false, false, false, false, false, false, false, false, false, false, false, false, false, false, false, false, false, false, false, false, false, false, false, false, false, false, false, false, false, false, false, false, false, false, false, false, false, false, false, false, false, false, false, false, false, false, false, false, false] rfl rfl (any_of HT_.out (by kernel_rfl)) (fun _ _ _ h => h) (Or.inl ⟨by kernel_rfl, fun W => by kernel_rfl⟩) rfl ?_
  refine take_ (i := 23) (N := some 58) (v := .string ⟨#[107, 47]⟩) #[true, true, true, true, true, true, true, true, true, true, true, true, true, true, true, true, true, true, true, true, true, true, true, true, false, false, false, false, false, false, false, false, false, false, false, false, false, false, false, false, false, false, false, false, false, false, false, false, false, false, false, false, false, false, false, false, false, false, false, false, false, false, false, false, false, false, false, false, false, false, false, false, false, false, false, false, false, false, false, false, false, false, false, false, false, false, false, false, false, false, false, false, false] rfl rfl (take_ofW HT_.out HW_.out (by kernel_rfl)) (fun _ _ _ h => h) (Or.inl ⟨by kernel_rfl, fun W hS => exec_load rfl (by kernel_rfl) Tryd.underlying9 rfl hS.fc2⟩) hHeld rfl ?_
  refine pure_ (i := 24) (N := some 59) (v := .bool true) #[true, true, true, true, true, true, true, true, true, true, true, true, true, true, true, true, true, true, true, true, true, true, true, true, true, false, false, false, false, false, false, false, false, false, false, false, false, false, false, false, false, false, false, false, false, false, false, false, false, false, false, false, false, false, false, false, false, false, false, false, false, false, false, false, false, false, false, false, false, false, false, false, false, false, false, false, false, false, false, false, false, false, false, false, false, false, false, false, false, false, false, false, false] rfl rfl (any_of HT_.out (by kernel_rfl)) (fun _ _ _ h => h) (Or.inl ⟨by kernel_rfl, fun W => by kernel_rfl⟩) rfl ?_
  refine pure_ (i := 25) (N := some 60) (v := .bool true) #[true, true, true, true, true, true, true, true, true, true, true, true, true, true, true, true, true, true, true, true, true, true, true, true, true, true, false, false, false, false, false, false, false, false, false, false, false, false, false, false, false, false, false, false, false, false, false, false, false, false, false, false, false, false, false, false, false, false, false, false, false, false, false, false, false, false, false, false, false, false, false, false, false, false, false, false, false, false, false, false, false, false, false, false, false, false, false, false, false, false, false, false, false] rfl rfl (any_of HT_.out (by kernel_rfl)) (fun _ _ _ h => h) (Or.inl ⟨by kernel_rfl, fun W => by kernel_rfl⟩) rfl ?_
  refine pure_ (i := 26) (N := some 61) (v := .bool true) #[true, true, true, true, true, true, true, true, true, true, true, true, true, true, true, true, true, true, true, true, true, true, true, true, true, true, true, false, false, false, false, false, false, false, false, false, false, false, false, false, false, false, false, false, false, false, false, false, false, false, false, false, false, false, false, false, false, false, false, false, false, false, false, false, false, false, false, false, false, false, false, false, false, false, false, false, false, false, false, false, false, false, false, false, false, false, false, false, false, false, false, false, false] rfl rfl (any_of HT_.out (by kernel_rfl)) (fun _ _ _ h => h) (Or.inl ⟨by kernel_rfl, fun W => by kernel_rfl⟩) rfl ?_
  refine pure_ (i := 27) (N := some 62) (v := .slice (some ⟨g, 0, none⟩) 3 cg) #[true, true, true, true, true, true, true, true, true, true, true, true, true, true, true, true, true, true, true, true, true, true, true, true, true, true, true, true, false, false, false, false, false, false, false, false, false, false, false, false, false, false, false, false, false, false, false, false, false, false, false, false, false, false, false, false, false, false, false, false, false, false, false, false, false, false, false, false, false, false, false, false, false, false, false, false, false, false, false, false, false, false, false, false, false, false, false, false, false, false, false, false, false] rfl rfl (any_of HT_.out (by kernel_rfl)) (fun _ _ _ h => h) (Or.inl ⟨by kernel_rfl, fun W => by kernel_rfl⟩) rfl ?_
  refine pure_ (i := 28) (N := some 63) (v := .pointer (some ⟨g, 0, none⟩)) #[true, true, true, true, true, true, true, true, true, true, true, true, true, true, true, true, true, true, true, true, true, true, true, true, true, true, true, true, true, false, false, false, false, false, false, false, false, false, false, false, false, false, false, false, false, false, false, false, false, false, false, false, false, false, false, false, false, false, false, false, false, false, false, false, false, false, false, false, false, false, false, false, false, false, false, false, false, false, false, false, false, false, false, false, false, false, false, false, false, false, false, false, false] rfl rfl (any_of HT_.out (by kernel_rfl)) (fun _ _ _ h => h) (Or.inl ⟨by kernel_rfl, fun W => by kernel_rfl⟩) rfl ?_
  refine pure_ (i := 29) (N := some 64) (v := .pointer (some ⟨g, 3, none⟩)) #[true, true, true, true, true, true, true, true, true, true, true, true, true, true, true, true, true, true, true, true, true, true, true, true, true, true, true, true, true, true, false, false, false, false, false, false, false, false, false, false, false, false, false, false, false, false, false, false, false, false, false, false, false, false, false, false, false, false, false, false, false, false, false, false, false, false, false, false, false, false, false, false, false, false, false, false, false, false, false, false, false, false, false, false, false, false, false, false, false, false, false, false, false] rfl rfl (any_of HT_.out (by kernel_rfl)) (fun _ _ _ h => h) (Or.inl ⟨by kernel_rfl, fun W => by kernel_rfl⟩) rfl ?_
  refine take_ (i := 30) (N := some 65) (v := .slice A1 0 c1) #[true, true, true, true, true, true, true, true, true, true, true, true, true, true, true, true, true, true, true, true, true, true, true, true, true, true, true, true, true, true, true, false, false, false, false, false, false, false, false, false, false, false, false, false, false, false, false, false, false, false, false, false, false, false, false, false, false, false, false, false, false, false, false, false, false, false, false, false, false, false, false, false, false, false, false, false, false, false, false, false, false, false, false, false, false, false, false, false, false, false, false, false, false] rfl rfl (take_ofW HT_.out HW_.out (by kernel_rfl)) (fun _ _ _ h => h) (Or.inl ⟨by kernel_rfl, fun W hS => exec_load rfl (by kernel_rfl) Tryd.underlying22 rfl hS.fc3⟩) hHeld rfl ?_
  refine pure_ (i := 31) (N := some 66) (v := .int .i64 0) #[true, true, true, true, true, true, true, true, true, true, true, true, true, true, true, true, true, true, true, true, true, true, true, true, true, true, true, true, true, true, true, true, false, false, false, false, false, false, false, false, false, false, false, false, false, false, false, false, false, false, false, false, false, false, false, false, false, false, false, false, false, false, false, false, false, false, false, false, false, false, false, false, false, false, false, false, false, false, false, false, false, false, false, false, false, false, false, false, false, false, false, false, false] rfl rfl (any_of HT_.out (by kernel_rfl)) (fun _ _ _ h => h) (Or.inl ⟨by kernel_rfl, fun W => by kernel_rfl⟩) rfl ?_
  refine pure_ (i := 32) (N := some 67) (v := .bool true) #[true, true, true, true, true, true, true, true, true, true, true, true, true, true, true, true, true, true, true, true, true, true, true, true, true, true, true, true, true, true, true, true, true, false, false, false, false, false, false, false, false, false, false, false, false, false, false, false, false, false, false, false, false, false, false, false, false, false, false, false, false, false, false, false, false, false, false, false, false, false, false, false, false, false, false, false, false, false, false, false, false, false, false, false, false, false, false, false, false, false, false, false, false] rfl rfl (any_of HT_.out (by kernel_rfl)) (fun _ _ _ h => h) (Or.inl ⟨by kernel_rfl, fun W => by kernel_rfl⟩) rfl ?_
  refine pure_ (i := 33) (N := some 68) (v := .bool true) #[true, true, true, true, true, true, true, true, true, true, true, true, true, true, true, true, true, true, true, true, true, true, true, true, true, true, true, true, true, true, true, true, true, true, false, false, false, false, false, false, false, false, false, false, false, false, false, false, false, false, false, false, false, false, false, false, false, false, false, false, false, false, false, false, false, false, false, false, false, false, false, false, false, false, false, false, false, false, false, false, false, false, false, false, false, false, false, false, false, false, false, false, false] rfl rfl (any_of HT_.out (by kernel_rfl)) (fun _ _ _ h => h) (Or.inl ⟨by kernel_rfl, fun W => by kernel_rfl⟩) rfl ?_
  refine pure_ (i := 34) (N := some 69) (v := .bool true) #[true, true, true, true, true, true, true, true, true, true, true, true, true, true, true, true, true, true, true, true, true, true, true, true, true, true, true, true, true, true, true, true, true, true, true, false, false, false, false, false, false, false, false, false, false, false, false, false, false, false, false, false, false, false, false, false, false, false, false, false, false, false, false, false, false, false, false, false, false, false, false, false, false, false, false, false, false, false, false, false, false, false, false, false, false, false, false, false, false, false, false, false, false] rfl rfl (any_of HT_.out (by kernel_rfl)) (fun _ _ _ h => h) (Or.inl ⟨by kernel_rfl, fun W => by kernel_rfl⟩) rfl ?_
  refine pure_ (i := 35) (N := some 70) (v := .slice (some ⟨g, 0, none⟩) 3 cg) #[true, true, true, true, true, true, true, true, true, true, true, true, true, true, true, true, true, true, true, true, true, true, true, true, true, true, true, true, true, true, true, true, true, true, true, true, false, false, false, false, false, false, false, false, false, false, false, false, false, false, false, false, false, false, false, false, false, false, false, false, false, false, false, false, false, false, false, false, false, false, false, false, false, false, false, false, false, false, false, false, false, false, false, false, false, false, false, false, false, false, false, false, false] rfl rfl (any_of HT_.out (by kernel_rfl)) (fun _ _ _ h => h) (Or.inl ⟨by kernel_rfl, fun W => by kernel_rfl⟩) rfl ?_
  refine pure_ (i := 36) (N := some 71) (v := .pointer (some ⟨g, 9, none⟩)) #[true, true, true, true, true, true, true, true, true, true, true, true, true, true, true, true, true, true, true, true, true, true, true, true, true, true, true, true, true, true, true, true, true, true, true, true, true, false, false, false, false, false, false, false, false, false, false, false, false, false, false, false, false, false, false, false, false, false, false, false, false, false, false, false, false, false, false, false, false, false, false, false, false, false, false, false, false, false, false, false, false, false, false, false, false, false, false, false, false, false, false, false, false] rfl rfl (any_of HT_.out (by kernel_rfl)) (fun _ _ _ h => h) (Or.inl ⟨by kernel_rfl, fun W => by kernel_rfl⟩) rfl ?_
  refine pure_ (i := 37) (N := some 72) (v := .pointer (some ⟨g, 17, none⟩)) #[true, true, true, true, true, true, true, true, true, true, true, true, true, true, true, true, true, true, true, true, true, true, true, true, true, true, true, true, true, true, true, true, true, true, true, true, true, true, false, false, false, false, false, false, false, false, false, false, false, false, false, false, false, false, false, false, false, false, false, false, false, false, false, false, false, false, false, false, false, false, false, false, false, false, false, false, false, false, false, false, false, false, false, false, false, false, false, false, false, false, false, false, false] rfl rfl (any_of HT_.out (by kernel_rfl)) (fun _ _ _ h => h) (Or.inl ⟨by kernel_rfl, fun W => by kernel_rfl⟩) rfl ?_
  refine take_ (i := 38) (N := some 73) (v := .slice B2 2 e2) #[true, true, true, true, true, true, true, true, true, true, true, true, true, true, true, true, true, true, true, true, true, true, true, true, true, true, true, true, true, true, true, true, true, true, true, true, true, true, true, false, false, false, false, false, false, false, false, false, false, false, false, false, false, false, false, false, false, false, false, false, false, false, false, false, false, false, false, false, false, false, false, false, false, false, false, false, false, false, false, false, false, false, false, false, false, false, false, false, false, false, false, false, false] rfl rfl (take_ofW HT_.out HW_.out (by kernel_rfl)) (fun _ _ _ h => h) (Or.inl ⟨by kernel_rfl, fun W hS => exec_load rfl (by kernel_rfl) Tryd.underlying43 rfl hS.fc17⟩) hHeld rfl ?_
  refine norm_ (a' := { tmps := #[.bool false, .slice A 0 c, .iface 76 (.pointer (some ⟨b, 0, none⟩)), .slice (some ⟨g, 0, none⟩) 3 cg, .nilIface, .int .i64 1, .bool true, .int .i64 (-12), .bool true, .slice A9 3 c9, .bool true, .tuple #[.slice A 0 c, .iface 76 (.pointer (some ⟨b, 0, none⟩))], .tuple #[.slice A 0 c, .iface 76 (.pointer (some ⟨b, 0, none⟩))], .slice A 0 c, .iface 76 (.pointer (some ⟨b, 0, none⟩)), .tuple #[.slice (some ⟨g, 0, none⟩) 3 cg, .nilIface], .tuple #[.slice (some ⟨g, 0, none⟩) 3 cg, .nilIface], .slice (some ⟨g, 0, none⟩) 3 cg, .nilIface, .slice (some ⟨g, 0, none⟩) 3 cg, .int .i64 3, .bool false, .tuple #[.int .i64 1, .bool true], .iface 76 (.pointer (some ⟨b, 0, none⟩)), .tuple #[.int .i64 1, .bool true], .int .i64 1, .bool true, .tuple #[.int .i64 (-12), .bool true], .tuple #[.int .i64 (-12), .bool true], .int .i64 (-12), .bool true, .tuple #[.slice A9 3 c9, .bool true], .tuple #[.slice A9 3 c9, .bool true], .slice A9 3 c9, .bool true, .slice A 0 c, .int .i64 0, .bool true, .bool true, .iface 76 (.pointer (some ⟨b, 0, none⟩)), .int .i64 16, .bool true, .bool true, .bool true, .bool true, .bool true, .bool true, .int .i64 1, .bool true, .bool true, .bool true, .nilIface, .bool true, .bool true, .bool true, .slice (some ⟨g, 0, none⟩) 3 cg, .pointer (some ⟨g, 0, none⟩), .pointer (some ⟨g, 2, none⟩), .string ⟨#[107, 47]⟩, .bool true, .bool true, .bool true, .slice (some ⟨g, 0, none⟩) 3 cg, .pointer (some ⟨g, 0, none⟩), .pointer (some ⟨g, 3, none⟩), .slice A1 0 c1, .int .i64 0, .bool true, .bool true, .bool true, .slice (some ⟨g, 0, none⟩) 3 cg, .pointer (some ⟨g, 9, none⟩), .pointer (some ⟨g, 17, none⟩), .slice B2 2 e2, undef, undef, undef, undef, undef, undef, undef, undef, undef, undef, undef, undef, undef, undef, undef, undef, undef, undef, undef, undef, undef, undef, undef, undef, undef, undef, undef, undef, undef, undef, undef, undef, undef, undef, undef, undef, undef, undef, undef, undef, undef, undef, undef, undef, undef, undef, undef, undef, undef, undef, undef, undef, undef], defers := [] }) (by kernel_rfl) ?_
  refine one_ (i := 39) (N := some 74) #[true, true, true, true, true, true, true, true, true, true, true, true, true, true, true, true, true, true, true, true, true, true, true, true, true, true, true, true, true, true, true, true, true, true, true, true, true, true, true, true, false, false, false, false, false, false, false, false, false, false, false, false, false, false, false, false, false, false, false, false, false, false, false, false, false, false, false, false, false, false, false, false, false, false, false, false, false, false, false, false, false, false, false, false, false, false, false, false, false, false, false, false, false] rfl rfl (one_of HT_.out (by kernel_rfl)) (by simp) (fun K hK => ?_)
  refine value_ (w1 := y1.alloc (.cells #[.int .i64 (-1), .int .i64 300] 3)) (v := .slice (some ⟨y1.heap.size, 0, none⟩) 2 2) (by kernel_rfl) rfl (by kernel_rfl) ?_
  refine hK.out _ _ (HSW.out _ (z1.out.alloc z1.out.size _)) (fun hHeld => ?_)
  clear hK K
  refine norm_ (a' := { tmps := #[.bool false, .slice A 0 c, .iface 76 (.pointer (some ⟨b, 0, none⟩)), .slice (some ⟨g, 0, none⟩) 3 cg, .nilIface, .int .i64 1, .bool true, .int .i64 (-12), .bool true, .slice A9 3 c9, .bool true, .tuple #[.slice A 0 c, .iface 76 (.pointer (some ⟨b, 0, none⟩))], .tuple #[.slice A 0 c, .iface 76 (.pointer (some ⟨b, 0, none⟩))], .slice A 0 c, .iface 76 (.pointer (some ⟨b, 0, none⟩)), .tuple #[.slice (some ⟨g, 0, none⟩) 3 cg, .nilIface], .tuple #[.slice (some ⟨g, 0, none⟩) 3 cg, .nilIface], .slice (some ⟨g, 0, none⟩) 3 cg, .nilIface, .slice (some ⟨g, 0, none⟩) 3 cg, .int .i64 3, .bool false, .tuple #[.int .i64 1, .bool true], .iface 76 (.pointer (some ⟨b, 0, none⟩)), .tuple #[.int .i64 1, .bool true], .int .i64 1, .bool true, .tuple #[.int .i64 (-12), .bool true], .tuple #[.int .i64 (-12), .bool true], .int .i64 (-12), .bool true, .tuple #[.slice A9 3 c9, .bool true], .tuple #[.slice A9 3 c9, .bool true], .slice A9 3 c9, .bool true, .slice A 0 c, .int .i64 0, .bool true, .bool true, .iface 76 (.pointer (some ⟨b, 0, none⟩)), .int .i64 16, .bool true, .bool true, .bool true, .bool true, .bool true, .bool true, .int .i64 1, .bool true, .bool true, .bool true, .nilIface, .bool true, .bool true, .bool true, .slice (some ⟨g, 0, none⟩) 3 cg, .pointer (some ⟨g, 0, none⟩), .pointer (some ⟨g, 2, none⟩), .string ⟨#[107, 47]⟩, .bool true, .bool true, .bool true, .slice (some ⟨g, 0, none⟩) 3 cg, .pointer (some ⟨g, 0, none⟩), .pointer (some ⟨g, 3, none⟩), .slice A1 0 c1, .int .i64 0, .bool true, .bool true, .bool true, .slice (some ⟨g, 0, none⟩) 3 cg, .pointer (some ⟨g, 9, none⟩), .pointer (some ⟨g, 17, none⟩), .slice B2 2 e2, .slice (some ⟨y1.heap.size, 0, none⟩) 2 2, undef, undef, undef, undef, undef, undef, undef, undef, undef, undef, undef, undef, undef, undef, undef, undef, undef, undef, undef, undef, undef, undef, undef, undef, undef, undef, undef, undef, undef, undef, undef, undef, undef, undef, undef, undef, undef, undef, undef, undef, undef, undef, undef, undef, undef, undef, undef, undef, undef, undef, undef, undef], defers := [] }) (by kernel_rfl) ?_
  refine one_ (i := 40) (N := some 75) #[true, true, true, true, true, true, true, true, true, true, true, true, true, true, true, true, true, true, true, true, true, true, true, true, true, true, true, true, true, true, true, true, true, true, true, true, true, true, true, true, true, false, false, false, false, false, false, false, false, false, false, false, false, false, false, false, false, false, false, false, false, false, false, false, false, false, false, false, false, false, false, false, false, false, false, false, false, false, false, false, false, false, false, false, false, false, false, false, false, false, false, false, false] rfl rfl (one_of HT_.out (by kernel_rfl)) (by simp) (fun K hK => ?_)
  refine goes_ Tryd.func33 (by kernel_rfl) rfl #[.slice B2 2 e2, .slice (some ⟨y1.heap.size, 0, none⟩) 2 2] (by kernel_rfl) rfl rfl (by kernel_rfl) ?_
  refine (HIN.out y1 z1.out).mono ?_
  rintro e y2 ⟨rfl, hb⟩
  have z2 := Lib.hid hb
  clear hb
  refine ⟨_, rfl, hK.out _ _ (HSW.out _ z2.out) (fun hHeld => ?_)⟩
  clear hK K
  refine pure_ (i := 41) (N := some 76) (v := .bool true) #[true, true, true, true, true, true, true, true, true, true, true, true, true, true, true, true, true, true, true, true, true, true, true, true, true, true, true, true, true, true, true, true, true, true, true, true, true, true, true, true, true, true, false, false, false, false, false, false, false, false, false, false, false, false, false, false, false, false, false, false, false, false, false, false, false, false, false, false, false, false, false, false, false, false, false, false, false, false, false, false, false, false, false, false, false, false, false, false, false, false, false, false, false] rfl rfl (any_of HT_.out (by kernel_rfl)) (fun _ _ _ h => h) (Or.inl ⟨by kernel_rfl, fun W => by kernel_rfl⟩) rfl ?_
  refine pure_ (i := 42) (N := some 77) (v := .bool true) #[true, true, true, true, true, true, true, true, true, true, true, true, true, true, true, true, true, true, true, true, true, true, true, true, true, true, true, true, true, true, true, true, true, true, true, true, true, true, true, true, true, true, true, false, false, false, false, false, false, false, false, false, false, false, false, false, false, false, false, false, false, false, false, false, false, false, false, false, false, false, false, false, false, false, false, false, false, false, false, false, false, false, false, false, false, false, false, false, false, false, false, false, false] rfl rfl (any_of HT_.out (by kernel_rfl)) (fun _ _ _ h => h) (Or.inl ⟨by kernel_rfl, fun W => by kernel_rfl⟩) rfl ?_
  refine pure_ (i := 43) (N := some 78) (v := .slice (some ⟨g, 0, none⟩) 3 cg) #[true, true, true, true, true, true, true, true, true, true, true, true, true, true, true, true, true, true, true, true, true, true, true, true, true, true, true, true, true, true, true, true, true, true, true, true, true, true, true, true, true, true, true, true, false, false, false, false, false, false, false, false, false, false, false, false, false, false, false, false, false, false, false, false, false, false, false, false, false, false, false, false, false, false, false, false, false, false, false, false, false, false, false, false, false, false, false, false, false, false, false, false, false] rfl rfl (any_of HT_.out (by kernel_rfl)) (fun _ _ _ h => h) (Or.inl ⟨by kernel_rfl, fun W => by kernel_rfl⟩) rfl ?_
  refine pure_ (i := 44) (N := some 79) (v := .pointer (some ⟨g, 18, none⟩)) #[true, true, true, true, true, true, true, true, true, true, true, true, true, true, true, true, true, true, true, true, true, true, true, true, true, true, true, true, true, true, true, true, true, true, true, true, true, true, true, true, true, true, true, true, true, false, false, false, false, false, false, false, false, false, false, false, false, false, false, false, false, false, false, false, false, false, false, false, false, false, false, false, false, false, false, false, false, false, false, false, false, false, false, false, false, false, false, false, false, false, false, false, false] rfl rfl (any_of HT_.out (by kernel_rfl)) (fun _ _ _ h => h) (Or.inl ⟨by kernel_rfl, fun W => by kernel_rfl⟩) rfl ?_
  refine pure_ (i := 45) (N := some 80) (v := .pointer (some ⟨g, 24, none⟩)) #[true, true, true, true, true, true, true, true, true, true, true, true, true, true, true, true, true, true, true, true, true, true, true, true, true, true, true, true, true, true, true, true, true, true, true, true, true, true, true, true, true, true, true, true, true, true, false, false, false, false, false, false, false, false, false, false, false, false, false, false, false, false, false, false, false, false, false, false, false, false, false, false, false, false, false, false, false, false, false, false, false, false, false, false, false, false, false, false, false, false, false, false, false] rfl rfl (any_of HT_.out (by kernel_rfl)) (fun _ _ _ h => h) (Or.inl ⟨by kernel_rfl, fun W => by kernel_rfl⟩) rfl ?_
  refine take_ (i := 46) (N := some 81) (v := .int .u8 255) #[true, true, true, true, true, true, true, true, true, true, true, true, true, true, true, true, true, true, true, true, true, true, true, true, true, true, true, true, true, true, true, true, true, true, true, true, true, true, true, true, true, true, true, true, true, true, true, false, false, false, false, false, false, false, false, false, false, false, false, false, false, false, false, false, false, false, false, false, false, false, false, false, false, false, false, false, false, false, false, false, false, false, false, false, false, false, false, false, false, false, false, false, false] rfl rfl (take_ofW HT_.out HW_.out (by kernel_rfl)) (fun _ _ _ h => h) (Or.inl ⟨by kernel_rfl, fun W hS => exec_load rfl (by kernel_rfl) Tryd.underlying5 rfl hS.fc24⟩) hHeld rfl ?_
  refine pure_ (i := 47) (N := some 82) (v := .bool true) #[true, true, true, true, true, true, true, true, true, true, true, true, true, true, true, true, true, true, true, true, true, true, true, true, true, true, true, true, true, true, true, true, true, true, true, true, true, true, true, true, true, true, true, true, true, true, true, true, false, false, false, false, false, false, false, false, false, false, false, false, false, false, false, false, false, false, false, false, false, false, false, false, false, false, false, false, false, false, false, false, false, false, false, false, false, false, false, false, false, false, false, false, false] rfl rfl (any_of HT_.out (by kernel_rfl)) (fun _ _ _ h => h) (Or.inl ⟨by kernel_rfl, fun W => by kernel_rfl⟩) rfl ?_
  refine pure_ (i := 48) (N := some 83) (v := .bool true) #[true, true, true, true, true, true, true, true, true, true, true, true, true, true, true, true, true, true, true, true, true, true, true, true, true, true, true, true, true, true, true, true, true, true, true, true, true, true, true, true, true, true, true, true, true, true, true, true, true, false, false, false, false, false, false, false, false, false, false, false, false, false, false, false, false, false, false, false, false, false, false, false, false, false, false, false, false, false, false, false, false, false, false, false, false, false, false, false, false, false, false, false, false] rfl rfl (any_of HT_.out (by kernel_rfl)) (fun _ _ _ h => h) (Or.inl ⟨by kernel_rfl, fun W => by kernel_rfl⟩) rfl ?_
  refine pure_ (i := 49) (N := some 84) (v := .bool true) #[true, true, true, true, true, true, true, true, true, true, true, true, true, true, true, true, true, true, true, true, true, true, true, true, true, true, true, true, true, true, true, true, true, true, true, true, true, true, true, true, true, true, true, true, true, true, true, true, true, true, false, false, false, false, false, false, false, false, false, false, false, false, false, false, false, false, false, false, false, false, false, false, false, false, false, false, false, false, false, false, false, false, false, false, false, false, false, false, false, false, false, false, false] rfl rfl (any_of HT_.out (by kernel_rfl)) (fun _ _ _ h => h) (Or.inl ⟨by kernel_rfl, fun W => by kernel_rfl⟩) rfl ?_
  refine pure_ (i := 50) (N := some 85) (v := .slice (some ⟨g, 0, none⟩) 3 cg) #[true, true, true, true, true, true, true, true, true, true, true, true, true, true, true, true, true, true, true, true, true, true, true, true, true, true, true, true, true, true, true, true, true, true, true, true, true, true, true, true, true, true, true, true, true, true, true, true, true, true, true, false, false, false, false, false, false, false, false, false, false, false, false, false, false, false, false, false, false, false, false, false, false, false, false, false, false, false, false, false, false, false, false, false, false, false, false, false, false, false, false, false, false] rfl rfl (any_of HT_.out (by kernel_rfl)) (fun _ _ _ h => h) (Or.inl ⟨by kernel_rfl, fun W => by kernel_rfl⟩) rfl ?_
  refine pure_ (i := 51) (N := some 86) (v := .pointer (some ⟨g, 9, none⟩)) #[true, true, true, true, true, true, true, true, true, true, true, true, true, true, true, true, true, true, true, true, true, true, true, true, true, true, true, true, true, true, true, true, true, true, true, true, true, true, true, true, true, true, true, true, true, true, true, true, true, true, true, true, false, false, false, false, false, false, false, false, false, false, false, false, false, false, false, false, false, false, false, false, false, false, false, false, false, false, false, false, false, false, false, false, false, false, false, false, false, false, false, false, false] rfl rfl (any_of HT_.out (by kernel_rfl)) (fun _ _ _ h => h) (Or.inl ⟨by kernel_rfl, fun W => by kernel_rfl⟩) rfl ?_
  refine take_ (i := 52) (N := some 87) (v := .agg #[.int .i64 16, .int .i64 2, .string ⟨#[]⟩, .slice B1 0 e1, .int .i64 0, .int .i64 0, .int .u8 0, .int .u8 0, .slice B2 2 e2]) #[true, true, true, true, true, true, true, true, true, true, true, true, true, true, true, true, true, true, true, true, true, true, true, true, true, true, true, true, true, true, true, true, true, true, true, true, true, true, true, true, true, true, true, true, true, true, true, true, true, true, true, true, true, false, false, false, false, false, false, false, false, false, false, false, false, false, false, false, false, false, false, false, false, false, false, false, false, false, false, false, false, false, false, false, false, false, false, false, false, false, false, false, false] rfl rfl (take_ofW HT_.out HW_.out (by kernel_rfl)) (fun _ _ _ h => h) (Or.inl ⟨by kernel_rfl, fun W hS => exec_load9 rfl (by kernel_rfl) hS.fc9 hS.fc10 hS.fc11 hS.fc12 hS.fc13 hS.fc14 hS.fc15 hS.fc16 hS.fc17⟩) hHeld rfl ?_
  refine norm_ (a' := { tmps := #[.bool false, .slice A 0 c, .iface 76 (.pointer (some ⟨b, 0, none⟩)), .slice (some ⟨g, 0, none⟩) 3 cg, .nilIface, .int .i64 1, .bool true, .int .i64 (-12), .bool true, .slice A9 3 c9, .bool true, .tuple #[.slice A 0 c, .iface 76 (.pointer (some ⟨b, 0, none⟩))], .tuple #[.slice A 0 c, .iface 76 (.pointer (some ⟨b, 0, none⟩))], .slice A 0 c, .iface 76 (.pointer (some ⟨b, 0, none⟩)), .tuple #[.slice (some ⟨g, 0, none⟩) 3 cg, .nilIface], .tuple #[.slice (some ⟨g, 0, none⟩) 3 cg, .nilIface], .slice (some ⟨g, 0, none⟩) 3 cg, .nilIface, .slice (some ⟨g, 0, none⟩) 3 cg, .int .i64 3, .bool false, .tuple #[.int .i64 1, .bool true], .iface 76 (.pointer (some ⟨b, 0, none⟩)), .tuple #[.int .i64 1, .bool true], .int .i64 1, .bool true, .tuple #[.int .i64 (-12), .bool true], .tuple #[.int .i64 (-12), .bool true], .int .i64 (-12), .bool true, .tuple #[.slice A9 3 c9, .bool true], .tuple #[.slice A9 3 c9, .bool true], .slice A9 3 c9, .bool true, .slice A 0 c, .int .i64 0, .bool true, .bool true, .iface 76 (.pointer (some ⟨b, 0, none⟩)), .int .i64 16, .bool true, .bool true, .bool true, .bool true, .bool true, .bool true, .int .i64 1, .bool true, .bool true, .bool true, .nilIface, .bool true, .bool true, .bool true, .slice (some ⟨g, 0, none⟩) 3 cg, .pointer (some ⟨g, 0, none⟩), .pointer (some ⟨g, 2, none⟩), .string ⟨#[107, 47]⟩, .bool true, .bool true, .bool true, .slice (some ⟨g, 0, none⟩) 3 cg, .pointer (some ⟨g, 0, none⟩), .pointer (some ⟨g, 3, none⟩), .slice A1 0 c1, .int .i64 0, .bool true, .bool true, .bool true, .slice (some ⟨g, 0, none⟩) 3 cg, .pointer (some ⟨g, 9, none⟩), .pointer (some ⟨g, 17, none⟩), .slice B2 2 e2, .slice (some ⟨y1.heap.size, 0, none⟩) 2 2, .bool true, .bool true, .bool true, .slice (some ⟨g, 0, none⟩) 3 cg, .pointer (some ⟨g, 18, none⟩), .pointer (some ⟨g, 24, none⟩), .int .u8 255, .bool true, .bool true, .bool true, .slice (some ⟨g, 0, none⟩) 3 cg, .pointer (some ⟨g, 9, none⟩), .agg #[.int .i64 16, .int .i64 2, .string ⟨#[]⟩, .slice B1 0 e1, .int .i64 0, .int .i64 0, .int .u8 0, .int .u8 0, .slice B2 2 e2], undef, undef, undef, undef, undef, undef, undef, undef, undef, undef, undef, undef, undef, undef, undef, undef, undef, undef, undef, undef, undef, undef, undef, undef, undef, undef, undef, undef, undef, undef, undef, undef, undef, undef, undef, undef, undef, undef, undef], defers := [] }) (by kernel_rfl) ?_
  refine one_ (i := 53) (N := some 88) #[true, true, true, true, true, true, true, true, true, true, true, true, true, true, true, true, true, true, true, true, true, true, true, true, true, true, true, true, true, true, true, true, true, true, true, true, true, true, true, true, true, true, true, true, true, true, true, true, true, true, true, true, true, true, false, false, false, false, false, false, false, false, false, false, false, false, false, false, false, false, false, false, false, false, false, false, false, false, false, false, false, false, false, false, false, false, false, false, false, false, false, false, false] rfl rfl (one_of HT_.out (by kernel_rfl)) (by simp) (fun K hK => ?_)
  refine goes_ Tryd.func29 (by kernel_rfl) rfl #[.agg #[.int .i64 16, .int .i64 2, .string ⟨#[]⟩, .slice B1 0 e1, .int .i64 0, .int .i64 0, .int .u8 0, .int .u8 0, .slice B2 2 e2]] (by kernel_rfl) rfl rfl (by kernel_rfl) ?_
  refine (HLI.out _ z2.out).mono ?_
  rintro e y3 ⟨rfl, hb⟩
  have z3 := Lib.hid hb
  clear hb
  refine ⟨_, rfl, hK.out _ _ (HSW.out _ z3.out) (fun hHeld => ?_)⟩
  clear hK K
  refine pure_ (i := 54) (N := some 89) (v := .bool true) #[true, true, true, true, true, true, true, true, true, true, true, true, true, true, true, true, true, true, true, true, true, true, true, true, true, true, true, true, true, true, true, true, true, true, true, true, true, true, true, true, true, true, true, true, true, true, true, true, true, true, true, true, true, true, true, false, false, false, false, false, false, false, false, false, false, false, false, false, false, false, false, false, false, false, false, false, false, false, false, false, false, false, false, false, false, false, false, false, false, false, false, false, false] rfl rfl (any_of HT_.out (by kernel_rfl)) (fun _ _ _ h => h) (Or.inl ⟨by kernel_rfl, fun W => by kernel_rfl⟩) rfl ?_
  refine pure_ (i := 55) (N := some 90) (v := .bool true) #[true, true, true, true, true, true, true, true, true, true, true, true, true, true, true, true, true, true, true, true, true, true, true, true, true, true, true, true, true, true, true, true, true, true, true, true, true, true, true, true, true, true, true, true, true, true, true, true, true, true, true, true, true, true, true, true, false, false, false, false, false, false, false, false, false, false, false, false, false, false, false, false, false, false, false, false, false, false, false, false, false, false, false, false, false, false, false, false, false, false, false, false, false] rfl rfl (any_of HT_.out (by kernel_rfl)) (fun _ _ _ h => h) (Or.inl ⟨by kernel_rfl, fun W => by kernel_rfl⟩) rfl ?_
  refine pure_ (i := 56) (N := some 91) (v := .bool true) #[true, true, true, true, true, true, true, true, true, true, true, true, true, true, true, true, true, true, true, true, true, true, true, true, true, true, true, true, true, true, true, true, true, true, true, true, true, true, true, true, true, true, true, true, true, true, true, true, true, true, true, true, true, true, true, true, true, false, false, false, false, false, false, false, false, false, false, false, false, false, false, false, false, false, false, false, false, false, false, false, false, false, false, false, false, false, false, false, false, false, false, false, false] rfl rfl (any_of HT_.out (by kernel_rfl)) (fun _ _ _ h => h) (Or.inl ⟨by kernel_rfl, fun W => by kernel_rfl⟩) rfl ?_
  refine pure_ (i := 57) (N := some 92) (v := .bool true) #[true, true, true, true, true, true, true, true, true, true, true, true, true, true, true, true, true, true, true, true, true, true, true, true, true, true, true, true, true, true, true, true, true, true, true, true, true, true, true, true, true, true, true, true, true, true, true, true, true, true, true, true, true, true, true, true, true, true, false, false, false, false, false, false, false, false, false, false, false, false, false, false, false, false, false, false, false, false, false, false, false, false, false, false, false, false, false, false, false, false, false, false, false] rfl rfl (any_of HT_.out (by kernel_rfl)) (fun _ _ _ h => h) (Or.inl ⟨by kernel_rfl, fun W => by kernel_rfl⟩) rfl ?_
  refine pure_ (i := 58) (N := some 93) (v := .bool true) #[true, true, true, true, true, true, true, true, true, true, true, true, true, true, true, true, true, true, true, true, true, true, true, true, true, true, true, true, true, true, true, true, true, true, true, true, true, true, true, true, true, true, true, true, true, true, true, true, true, true, true, true, true, true, true, true, true, true, true, false, false, false, false, false, false, false, false, false, false, false, false, false, false, false, false, false, false, false, false, false, false, false, false, false, false, false, false, false, false, false, false, false, false] rfl rfl (any_of HT_.out (by kernel_rfl)) (fun _ _ _ h => h) (Or.inl ⟨by kernel_rfl, fun W => by kernel_rfl⟩) rfl ?_
  refine pure_ (i := 59) (N := some 94) (v := .bool true) #[true, true, true, true, true, true, true, true, true, true, true, true, true, true, true, true, true, true, true, true, true, true, true, true, true, true, true, true, true, true, true, true, true, true, true, true, true, true, true, true, true, true, true, true, true, true, true, true, true, true, true, true, true, true, true, true, true, true, true, true, false, false, false, false, false, false, false, false, false, false, false, false, false, false, false, false, false, false, false, false, false, false, false, false, false, false, false, false, false, false, false, false, false] rfl rfl (any_of HT_.out (by kernel_rfl)) (fun _ _ _ h => h) (Or.inl ⟨by kernel_rfl, fun W => by kernel_rfl⟩) rfl ?_
  refine pure_ (i := 60) (N := some 95) (v := .int .i64 (-12)) #[true, true, true, true, true, true, true, true, true, true, true, true, true, true, true, true, true, true, true, true, true, true, true, true, true, true, true, true, true, true, true, true, true, true, true, true, true, true, true, true, true, true, true, true, true, true, true, true, true, true, true, true, true, true, true, true, true, true, true, true, true, false, false, false, false, false, false, false, false, false, false, false, false, false, false, false, false, false, false, false, false, false, false, false, false, false, false, false, false, false, false, false, false] rfl rfl (any_of HT_.out (by kernel_rfl)) (fun _ _ _ h => h) (Or.inl ⟨by kernel_rfl, fun W => by kernel_rfl⟩) rfl ?_
  refine pure_ (i := 61) (N := some 96) (v := .bool true) #[true, true, true, true, true, true, true, true, true, true, true, true, true, true, true, true, true, true, true, true, true, true, true, true, true, true, true, true, true, true, true, true, true, true, true, true, true, true, true, true, true, true, true, true, true, true, true, true, true, true, true, true, true, true, true, true, true, true, true, true, true, true, false, false, false, false, false, false, false, false, false, false, false, false, false, false, false, false, false, false, false, false, false, false, false, false, false, false, false, false, false, false, false] rfl rfl (any_of HT_.out (by kernel_rfl)) (fun _ _ _ h => h) (Or.inl ⟨by kernel_rfl, fun W => by kernel_rfl⟩) rfl ?_
  refine pure_ (i := 62) (N := some 97) (v := .bool true) #[true, true, true, true, true, true, true, true, true, true, true, true, true, true, true, true, true, true, true, true, true, true, true, true, true, true, true, true, true, true, true, true, true, true, true, true, true, true, true, true, true, true, true, true, true, true, true, true, true, true, true, true, true, true, true, true, true, true, true, true, true, true, true, false, false, false, false, false, false, false, false, false, false, false, false, false, false, false, false, false, false, false, false, false, false, false, false, false, false, false, false, false, false] rfl rfl (any_of HT_.out (by kernel_rfl)) (fun _ _ _ h => h) (Or.inl ⟨by kernel_rfl, fun W => by kernel_rfl⟩) rfl ?_
  refine pure_ (i := 63) (N := some 98) (v := .bool true) #[true, true, true, true, true, true, true, true, true, true, true, true, true, true, true, true, true, true, true, true, true, true, true, true, true, true, true, true, true, true, true, true, true, true, true, true, true, true, true, true, true, true, true, true, true, true, true, true, true, true, true, true, true, true, true, true, true, true, true, true, true, true, true, true, false, false, false, false, false, false, false, false, false, false, false, false, false, false, false, false, false, false, false, false, false, false, false, false, false, false, false, false, false] rfl rfl (any_of HT_.out (by kernel_rfl)) (fun _ _ _ h => h) (Or.inl ⟨by kernel_rfl, fun W => by kernel_rfl⟩) rfl ?_
  refine pure_ (i := 64) (N := some 99) (v := .bool true) #[true, true, true, true, true, true, true, true, true, true, true, true, true, true, true, true, true, true, true, true, true, true, true, true, true, true, true, true, true, true, true, true, true, true, true, true, true, true, true, true, true, true, true, true, true, true, true, true, true, true, true, true, true, true, true, true, true, true, true, true, true, true, true, true, true, false, false, false, false, false, false, false, false, false, false, false, false, false, false, false, false, false, false, false, false, false, false, false, false, false, false, false, false] rfl rfl (any_of HT_.out (by kernel_rfl)) (fun _ _ _ h => h) (Or.inl ⟨by kernel_rfl, fun W => by kernel_rfl⟩) rfl ?_
  refine pure_ (i := 65) (N := some 100) (v := .bool true) #[true, true, true, true, true, true, true, true, true, true, true, true, true, true, true, true, true, true, true, true, true, true, true, true, true, true, true, true, true, true, true, true, true, true, true, true, true, true, true, true, true, true, true, true, true, true, true, true, true, true, true, true, true, true, true, true, true, true, true, true, true, true, true, true, true, true, false, false, false, false, false, false, false, false, false, false, false, false, false, false, false, false, false, false, false, false, false, false, false, false, false, false, false] rfl rfl (any_of HT_.out (by kernel_rfl)) (fun _ _ _ h => h) (Or.inl ⟨by kernel_rfl, fun W => by kernel_rfl⟩) rfl ?_
  refine pure_ (i := 66) (N := some 101) (v := .bool true) #[true, true, true, true, true, true, true, true, true, true, true, true, true, true, true, true, true, true, true, true, true, true, true, true, true, true, true, true, true, true, true, true, true, true, true, true, true, true, true, true, true, true, true, true, true, true, true, true, true, true, true, true, true, true, true, true, true, true, true, true, true, true, true, true, true, true, true, false, false, false, false, false, false, false, false, false, false, false, false, false, false, false, false, false, false, false, false, false, false, false, false, false, false] rfl rfl (any_of HT_.out (by kernel_rfl)) (fun _ _ _ h => h) (Or.inl ⟨by kernel_rfl, fun W => by kernel_rfl⟩) rfl ?_
  refine pure_ (i := 67) (N := some 102) (v := .slice A9 3 c9) #[true, true, true, true, true, true, true, true, true, true, true, true, true, true, true, true, true, true, true, true, true, true, true, true, true, true, true, true, true, true, true, true, true, true, true, true, true, true, true, true, true, true, true, true, true, true, true, true, true, true, true, true, true, true, true, true, true, true, true, true, true, true, true, true, true, true, true, true, false, false, false, false, false, false, false, false, false, false, false, false, false, false, false, false, false, false, false, false, false, false, false, false, false] rfl rfl (any_of HT_.out (by kernel_rfl)) (fun _ _ _ h => h) (Or.inl ⟨by kernel_rfl, fun W => by kernel_rfl⟩) rfl ?_
  refine take_ (i := 68) (N := some 103) (v := .string ⟨#[97, 47, 98]⟩) #[true, true, true, true, true, true, true, true, true, true, true, true, true, true, true, true, true, true, true, true, true, true, true, true, true, true, true, true, true, true, true, true, true, true, true, true, true, true, true, true, true, true, true, true, true, true, true, true, true, true, true, true, true, true, true, true, true, true, true, true, true, true, true, true, true, true, true, true, true, false, false, false, false, false, false, false, false, false, false, false, false, false, false, false, false, false, false, false, false, false, false, false, false] rfl rfl (take_ofW HT_.out HW_.out (by kernel_rfl)) (fun _ _ _ h => h) (Or.inl ⟨by kernel_rfl, fun W hS => exec_conv rfl (by kernel_rfl) hS.fcv⟩) hHeld rfl ?_
  refine pure_ (i := 69) (N := some 104) (v := .bool true) #[true, true, true, true, true, true, true, true, true, true, true, true, true, true, true, true, true, true, true, true, true, true, true, true, true, true, true, true, true, true, true, true, true, true, true, true, true, true, true, true, true, true, true, true, true, true, true, true, true, true, true, true, true, true, true, true, true, true, true, true, true, true, true, true, true, true, true, true, true, true, false, false, false, false, false, false, false, false, false, false, false, false, false, false, false, false, false, false, false, false, false, false, false] rfl rfl (any_of HT_.out (by kernel_rfl)) (fun _ _ _ h => h) (Or.inl ⟨by kernel_rfl, fun W => by kernel_rfl⟩) rfl ?_
  refine pure_ (i := 70) (N := some 105) (v := .bool true) #[true, true, true, true, true, true, true, true, true, true, true, true, true, true, true, true, true, true, true, true, true, true, true, true, true, true, true, true, true, true, true, true, true, true, true, true, true, true, true, true, true, true, true, true, true, true, true, true, true, true, true, true, true, true, true, true, true, true, true, true, true, true, true, true, true, true, true, true, true, true, true, false, false, false, false, false, false, false, false, false, false, false, false, false, false, false, false, false, false, false, false, false, false] rfl rfl (any_of HT_.out (by kernel_rfl)) (fun _ _ _ h => h) (Or.inl ⟨by kernel_rfl, fun W => by kernel_rfl⟩) rfl ?_
  refine pure_ (i := 71) (N := some 106) (v := .bool true) #[true, true, true, true, true, true, true, true, true, true, true, true, true, true, true, true, true, true, true, true, true, true, true, true, true, true, true, true, true, true, true, true, true, true, true, true, true, true, true, true, true, true, true, true, true, true, true, true, true, true, true, true, true, true, true, true, true, true, true, true, true, true, true, true, true, true, true, true, true, true, true, true, false, false, false, false, false, false, false, false, false, false, false, false, false, false, false, false, false, false, false, false, false] rfl rfl (any_of HT_.out (by kernel_rfl)) (fun _ _ _ h => h) (Or.inl ⟨by kernel_rfl, fun W => by kernel_rfl⟩) rfl ?_
  refine norm_ (a' := { tmps := #[.bool false, .slice A 0 c, .iface 76 (.pointer (some ⟨b, 0, none⟩)), .slice (some ⟨g, 0, none⟩) 3 cg, .nilIface, .int .i64 1, .bool true, .int .i64 (-12), .bool true, .slice A9 3 c9, .bool true, .tuple #[.slice A 0 c, .iface 76 (.pointer (some ⟨b, 0, none⟩))], .tuple #[.slice A 0 c, .iface 76 (.pointer (some ⟨b, 0, none⟩))], .slice A 0 c, .iface 76 (.pointer (some ⟨b, 0, none⟩)), .tuple #[.slice (some ⟨g, 0, none⟩) 3 cg, .nilIface], .tuple #[.slice (some ⟨g, 0, none⟩) 3 cg, .nilIface], .slice (some ⟨g, 0, none⟩) 3 cg, .nilIface, .slice (some ⟨g, 0, none⟩) 3 cg, .int .i64 3, .bool false, .tuple #[.int .i64 1, .bool true], .iface 76 (.pointer (some ⟨b, 0, none⟩)), .tuple #[.int .i64 1, .bool true], .int .i64 1, .bool true, .tuple #[.int .i64 (-12), .bool true], .tuple #[.int .i64 (-12), .bool true], .int .i64 (-12), .bool true, .tuple #[.slice A9 3 c9, .bool true], .tuple #[.slice A9 3 c9, .bool true], .slice A9 3 c9, .bool true, .slice A 0 c, .int .i64 0, .bool true, .bool true, .iface 76 (.pointer (some ⟨b, 0, none⟩)), .int .i64 16, .bool true, .bool true, .bool true, .bool true, .bool true, .bool true, .int .i64 1, .bool true, .bool true, .bool true, .nilIface, .bool true, .bool true, .bool true, .slice (some ⟨g, 0, none⟩) 3 cg, .pointer (some ⟨g, 0, none⟩), .pointer (some ⟨g, 2, none⟩), .string ⟨#[107, 47]⟩, .bool true, .bool true, .bool true, .slice (some ⟨g, 0, none⟩) 3 cg, .pointer (some ⟨g, 0, none⟩), .pointer (some ⟨g, 3, none⟩), .slice A1 0 c1, .int .i64 0, .bool true, .bool true, .bool true, .slice (some ⟨g, 0, none⟩) 3 cg, .pointer (some ⟨g, 9, none⟩), .pointer (some ⟨g, 17, none⟩), .slice B2 2 e2, .slice (some ⟨y1.heap.size, 0, none⟩) 2 2, .bool true, .bool true, .bool true, .slice (some ⟨g, 0, none⟩) 3 cg, .pointer (some ⟨g, 18, none⟩), .pointer (some ⟨g, 24, none⟩), .int .u8 255, .bool true, .bool true, .bool true, .slice (some ⟨g, 0, none⟩) 3 cg, .pointer (some ⟨g, 9, none⟩), .agg #[.int .i64 16, .int .i64 2, .string ⟨#[]⟩, .slice B1 0 e1, .int .i64 0, .int .i64 0, .int .u8 0, .int .u8 0, .slice B2 2 e2], .string ⟨#[99, 114, 97, 115, 104, 32, 50, 32, 45, 49, 32, 51, 48, 48]⟩, .bool true, .bool true, .bool true, .bool true, .bool true, .bool true, .int .i64 (-12), .bool true, .bool true, .bool true, .bool true, .bool true, .bool true, .slice A9 3 c9, .string ⟨#[97, 47, 98]⟩, .bool true, .bool true, .bool true, undef, undef, undef, undef, undef, undef, undef, undef, undef, undef, undef, undef, undef, undef, undef, undef, undef, undef, undef, undef], defers := [] }) (by kernel_rfl) ?_
  refine one_ (i := 72) (N := some 107) #[true, true, true, true, true, true, true, true, true, true, true, true, true, true, true, true, true, true, true, true, true, true, true, true, true, true, true, true, true, true, true, true, true, true, true, true, true, true, true, true, true, true, true, true, true, true, true, true, true, true, true, true, true, true, true, true, true, true, true, true, true, true, true, true, true, true, true, true, true, true, true, true, true, false, false, false, false, false, false, false, false, false, false, false, false, false, false, false, false, false, false, false, false] rfl rfl (one_of HT_.out (by kernel_rfl)) (by simp) (fun K hK => ?_)
  refine goes_ Tryd.func13 (by kernel_rfl) rfl #[.int .i64 19] (by kernel_rfl) rfl rfl (by kernel_rfl) ?_
  refine (HWD.out _ z3.out).mono ?_
  rintro e y4 ⟨rfl, hb⟩
  have z4 := Lib.hid hb
  clear hb
  refine ⟨_, rfl, hK.out _ _ (HSW.out _ z4.out) (fun hHeld => ?_)⟩
  clear hK K
  refine pure_ (i := 73) (N := some 108) (v := .bool true) #[true, true, true, true, true, true, true, true, true, true, true, true, true, true, true, true, true, true, true, true, true, true, true, true, true, true, true, true, true, true, true, true, true, true, true, true, true, true, true, true, true, true, true, true, true, true, true, true, true, true, true, true, true, true, true, true, true, true, true, true, true, true, true, true, true, true, true, true, true, true, true, true, true, true, false, false, false, false, false, false, false, false, false, false, false, false, false, false, false, false, false, false, false] rfl rfl (any_of HT_.out (by kernel_rfl)) (fun _ _ _ h => h) (Or.inl ⟨by kernel_rfl, fun W => by kernel_rfl⟩) rfl ?_
  refine pure_ (i := 74) (N := some 109) (v := .bool true) #[true, true, true, true, true, true, true, true, true, true, true, true, true, true, true, true, true, true, true, true, true, true, true, true, true, true, true, true, true, true, true, true, true, true, true, true, true, true, true, true, true, true, true, true, true, true, true, true, true, true, true, true, true, true, true, true, true, true, true, true, true, true, true, true, true, true, true, true, true, true, true, true, true, true, true, false, false, false, false, false, false, false, false, false, false, false, false, false, false, false, false, false, false] rfl rfl (any_of HT_.out (by kernel_rfl)) (fun _ _ _ h => h) (Or.inl ⟨by kernel_rfl, fun W => by kernel_rfl⟩) rfl ?_
  refine pure_ (i := 75) (N := some 110) (v := .bool true) #[true, true, true, true, true, true, true, true, true, true, true, true, true, true, true, true, true, true, true, true, true, true, true, true, true, true, true, true, true, true, true, true, true, true, true, true, true, true, true, true, true, true, true, true, true, true, true, true, true, true, true, true, true, true, true, true, true, true, true, true, true, true, true, true, true, true, true, true, true, true, true, true, true, true, true, true, false, false, false, false, false, false, false, false, false, false, false, false, false, false, false, false, false] rfl rfl (any_of HT_.out (by kernel_rfl)) (fun _ _ _ h => h) (Or.inl ⟨by kernel_rfl, fun W => by kernel_rfl⟩) rfl ?_
  refine norm_ (a' := { tmps := #[.bool false, .slice A 0 c, .iface 76 (.pointer (some ⟨b, 0, none⟩)), .slice (some ⟨g, 0, none⟩) 3 cg, .nilIface, .int .i64 1, .bool true, .int .i64 (-12), .bool true, .slice A9 3 c9, .bool true, .tuple #[.slice A 0 c, .iface 76 (.pointer (some ⟨b, 0, none⟩))], .tuple #[.slice A 0 c, .iface 76 (.pointer (some ⟨b, 0, none⟩))], .slice A 0 c, .iface 76 (.pointer (some ⟨b, 0, none⟩)), .tuple #[.slice (some ⟨g, 0, none⟩) 3 cg, .nilIface], .tuple #[.slice (some ⟨g, 0, none⟩) 3 cg, .nilIface], .slice (some ⟨g, 0, none⟩) 3 cg, .nilIface, .slice (some ⟨g, 0, none⟩) 3 cg, .int .i64 3, .bool false, .tuple #[.int .i64 1, .bool true], .iface 76 (.pointer (some ⟨b, 0, none⟩)), .tuple #[.int .i64 1, .bool true], .int .i64 1, .bool true, .tuple #[.int .i64 (-12), .bool true], .tuple #[.int .i64 (-12), .bool true], .int .i64 (-12), .bool true, .tuple #[.slice A9 3 c9, .bool true], .tuple #[.slice A9 3 c9, .bool true], .slice A9 3 c9, .bool true, .slice A 0 c, .int .i64 0, .bool true, .bool true, .iface 76 (.pointer (some ⟨b, 0, none⟩)), .int .i64 16, .bool true, .bool true, .bool true, .bool true, .bool true, .bool true, .int .i64 1, .bool true, .bool true, .bool true, .nilIface, .bool true, .bool true, .bool true, .slice (some ⟨g, 0, none⟩) 3 cg, .pointer (some ⟨g, 0, none⟩), .pointer (some ⟨g, 2, none⟩), .string ⟨#[107, 47]⟩, .bool true, .bool true, .bool true, .slice (some ⟨g, 0, none⟩) 3 cg, .pointer (some ⟨g, 0, none⟩), .pointer (some ⟨g, 3, none⟩), .slice A1 0 c1, .int .i64 0, .bool true, .bool true, .bool true, .slice (some ⟨g, 0, none⟩) 3 cg, .pointer (some ⟨g, 9, none⟩), .pointer (some ⟨g, 17, none⟩), .slice B2 2 e2, .slice (some ⟨y1.heap.size, 0, none⟩) 2 2, .bool true, .bool true, .bool true, .slice (some ⟨g, 0, none⟩) 3 cg, .pointer (some ⟨g, 18, none⟩), .pointer (some ⟨g, 24, none⟩), .int .u8 255, .bool true, .bool true, .bool true, .slice (some ⟨g, 0, none⟩) 3 cg, .pointer (some ⟨g, 9, none⟩), .agg #[.int .i64 16, .int .i64 2, .string ⟨#[]⟩, .slice B1 0 e1, .int .i64 0, .int .i64 0, .int .u8 0, .int .u8 0, .slice B2 2 e2], .string ⟨#[99, 114, 97, 115, 104, 32, 50, 32, 45, 49, 32, 51, 48, 48]⟩, .bool true, .bool true, .bool true, .bool true, .bool true, .bool true, .int .i64 (-12), .bool true, .bool true, .bool true, .bool true, .bool true, .bool true, .slice A9 3 c9, .string ⟨#[97, 47, 98]⟩, .bool true, .bool true, .bool true, .string ⟨#[115, 104, 117, 116]⟩, .bool true, .bool true, .bool true, undef, undef, undef, undef, undef, undef, undef, undef, undef, undef, undef, undef, undef, undef, undef, undef], defers := [] }) (by kernel_rfl) ?_
  refine one_ (i := 76) (N := some 111) #[true, true, true, true, true, true, true, true, true, true, true, true, true, true, true, true, true, true, true, true, true, true, true, true, true, true, true, true, true, true, true, true, true, true, true, true, true, true, true, true, true, true, true, true, true, true, true, true, true, true, true, true, true, true, true, true, true, true, true, true, true, true, true, true, true, true, true, true, true, true, true, true, true, true, true, true, true, false, false, false, false, false, false, false, false, false, false, false, false, false, false, false, false] rfl rfl (one_of HT_.out (by kernel_rfl)) (by simp) (fun K hK => ?_)
  refine goes_ Tryd.func15 (by kernel_rfl) rfl #[.int .i64 (-40)] (by kernel_rfl) rfl rfl (by kernel_rfl) ?_
  refine (HDE.out _ z4.out).mono ?_
  rintro e y5 ⟨rfl, hb⟩
  have z5 := Lib.hid hb
  clear hb
  refine ⟨_, rfl, hK.out _ _ (HSW.out _ z5.out) (fun hHeld => ?_)⟩
  clear hK K
  refine pure_ (i := 77) (N := some 112) (v := .bool true) #[true, true, true, true, true, true, true, true, true, true, true, true, true, true, true, true, true, true, true, true, true, true, true, true, true, true, true, true, true, true, true, true, true, true, true, true, true, true, true, true, true, true, true, true, true, true, true, true, true, true, true, true, true, true, true, true, true, true, true, true, true, true, true, true, true, true, true, true, true, true, true, true, true, true, true, true, true, true, false, false, false, false, false, false, false, false, false, false, false, false, false, false, false] rfl rfl (any_of HT_.out (by kernel_rfl)) (fun _ _ _ h => h) (Or.inl ⟨by kernel_rfl, fun W => by kernel_rfl⟩) rfl ?_
  refine pure_ (i := 78) (N := some 113) (v := .bool true) #[true, true, true, true, true, true, true, true, true, true, true, true, true, true, true, true, true, true, true, true, true, true, true, true, true, true, true, true, true, true, true, true, true, true, true, true, true, true, true, true, true, true, true, true, true, true, true, true, true, true, true, true, true, true, true, true, true, true, true, true, true, true, true, true, true, true, true, true, true, true, true, true, true, true, true, true, true, true, true, false, false, false, false, false, false, false, false, false, false, false, false, false, false] rfl rfl (any_of HT_.out (by kernel_rfl)) (fun _ _ _ h => h) (Or.inl ⟨by kernel_rfl, fun W => by kernel_rfl⟩) rfl ?_
  refine pure_ (i := 79) (N := some 114) (v := .bool true) #[true, true, true, true, true, true, true, true, true, true, true, true, true, true, true, true, true, true, true, true, true, true, true, true, true, true, true, true, true, true, true, true, true, true, true, true, true, true, true, true, true, true, true, true, true, true, true, true, true, true, true, true, true, true, true, true, true, true, true, true, true, true, true, true, true, true, true, true, true, true, true, true, true, true, true, true, true, true, true, true, false, false, false, false, false, false, false, false, false, false, false, false, false] rfl rfl (any_of HT_.out (by kernel_rfl)) (fun _ _ _ h => h) (Or.inl ⟨by kernel_rfl, fun W => by kernel_rfl⟩) rfl ?_
  refine norm_ (a' := { tmps := #[.bool false, .slice A 0 c, .iface 76 (.pointer (some ⟨b, 0, none⟩)), .slice (some ⟨g, 0, none⟩) 3 cg, .nilIface, .int .i64 1, .bool true, .int .i64 (-12), .bool true, .slice A9 3 c9, .bool true, .tuple #[.slice A 0 c, .iface 76 (.pointer (some ⟨b, 0, none⟩))], .tuple #[.slice A 0 c, .iface 76 (.pointer (some ⟨b, 0, none⟩))], .slice A 0 c, .iface 76 (.pointer (some ⟨b, 0, none⟩)), .tuple #[.slice (some ⟨g, 0, none⟩) 3 cg, .nilIface], .tuple #[.slice (some ⟨g, 0, none⟩) 3 cg, .nilIface], .slice (some ⟨g, 0, none⟩) 3 cg, .nilIface, .slice (some ⟨g, 0, none⟩) 3 cg, .int .i64 3, .bool false, .tuple #[.int .i64 1, .bool true], .iface 76 (.pointer (some ⟨b, 0, none⟩)), .tuple #[.int .i64 1, .bool true], .int .i64 1, .bool true, .tuple #[.int .i64 (-12), .bool true], .tuple #[.int .i64 (-12), .bool true], .int .i64 (-12), .bool true, .tuple #[.slice A9 3 c9, .bool true], .tuple #[.slice A9 3 c9, .bool true], .slice A9 3 c9, .bool true, .slice A 0 c, .int .i64 0, .bool true, .bool true, .iface 76 (.pointer (some ⟨b, 0, none⟩)), .int .i64 16, .bool true, .bool true, .bool true, .bool true, .bool true, .bool true, .int .i64 1, .bool true, .bool true, .bool true, .nilIface, .bool true, .bool true, .bool true, .slice (some ⟨g, 0, none⟩) 3 cg, .pointer (some ⟨g, 0, none⟩), .pointer (some ⟨g, 2, none⟩), .string ⟨#[107, 47]⟩, .bool true, .bool true, .bool true, .slice (some ⟨g, 0, none⟩) 3 cg, .pointer (some ⟨g, 0, none⟩), .pointer (some ⟨g, 3, none⟩), .slice A1 0 c1, .int .i64 0, .bool true, .bool true, .bool true, .slice (some ⟨g, 0, none⟩) 3 cg, .pointer (some ⟨g, 9, none⟩), .pointer (some ⟨g, 17, none⟩), .slice B2 2 e2, .slice (some ⟨y1.heap.size, 0, none⟩) 2 2, .bool true, .bool true, .bool true, .slice (some ⟨g, 0, none⟩) 3 cg, .pointer (some ⟨g, 18, none⟩), .pointer (some ⟨g, 24, none⟩), .int .u8 255, .bool true, .bool true, .bool true, .slice (some ⟨g, 0, none⟩) 3 cg, .pointer (some ⟨g, 9, none⟩), .agg #[.int .i64 16, .int .i64 2, .string ⟨#[]⟩, .slice B1 0 e1, .int .i64 0, .int .i64 0, .int .u8 0, .int .u8 0, .slice B2 2 e2], .string ⟨#[99, 114, 97, 115, 104, 32, 50, 32, 45, 49, 32, 51, 48, 48]⟩, .bool true, .bool true, .bool true, .bool true, .bool true, .bool true, .int .i64 (-12), .bool true, .bool true, .bool true, .bool true, .bool true, .bool true, .slice A9 3 c9, .string ⟨#[97, 47, 98]⟩, .bool true, .bool true, .bool true, .string ⟨#[115, 104, 117, 116]⟩, .bool true, .bool true, .bool true, .string ⟨#[45, 52, 48]⟩, .bool true, .bool true, .bool true, undef, undef, undef, undef, undef, undef, undef, undef, undef, undef, undef, undef], defers := [] }) (by kernel_rfl) ?_
  refine one_ (i := 80) (N := some 115) #[true, true, true, true, true, true, true, true, true, true, true, true, true, true, true, true, true, true, true, true, true, true, true, true, true, true, true, true, true, true, true, true, true, true, true, true, true, true, true, true, true, true, true, true, true, true, true, true, true, true, true, true, true, true, true, true, true, true, true, true, true, true, true, true, true, true, true, true, true, true, true, true, true, true, true, true, true, true, true, true, true, false, false, false, false, false, false, false, false, false, false, false, false] rfl rfl (one_of HT_.out (by kernel_rfl)) (by simp) (fun K hK => ?_)
  refine goes_ Tryd.func17 (by kernel_rfl) rfl #[.slice none 0 0] (by kernel_rfl) rfl rfl (by kernel_rfl) ?_
  refine (HQU.out _ z5.out).mono ?_
  rintro e y6 ⟨rfl, hb⟩
  have z6 := Lib.hid hb
  clear hb
  refine ⟨_, rfl, hK.out _ _ (HSW.out _ z6.out) (fun hHeld => ?_)⟩
  clear hK K
  refine pure_ (i := 81) (N := some 116) (v := .bool true) #[true, true, true, true, true, true, true, true, true, true, true, true, true, true, true, true, true, true, true, true, true, true, true, true, true, true, true, true, true, true, true, true, true, true, true, true, true, true, true, true, true, true, true, true, true, true, true, true, true, true, true, true, true, true, true, true, true, true, true, true, true, true, true, true, true, true, true, true, true, true, true, true, true, true, true, true, true, true, true, true, true, true, false, false, false, false, false, false, false, false, false, false, false] rfl rfl (any_of HT_.out (by kernel_rfl)) (fun _ _ _ h => h) (Or.inl ⟨by kernel_rfl, fun W => by kernel_rfl⟩) rfl ?_
  refine pure_ (i := 82) (N := some 117) (v := .bool true) #[true, true, true, true, true, true, true, true, true, true, true, true, true, true, true, true, true, true, true, true, true, true, true, true, true, true, true, true, true, true, true, true, true, true, true, true, true, true, true, true, true, true, true, true, true, true, true, true, true, true, true, true, true, true, true, true, true, true, true, true, true, true, true, true, true, true, true, true, true, true, true, true, true, true, true, true, true, true, true, true, true, true, true, false, false, false, false, false, false, false, false, false, false] rfl rfl (any_of HT_.out (by kernel_rfl)) (fun _ _ _ h => h) (Or.inl ⟨by kernel_rfl, fun W => by kernel_rfl⟩) rfl ?_
  refine pure_ (i := 83) (N := some 118) (v := .bool true) #[true, true, true, true, true, true, true, true, true, true, true, true, true, true, true, true, true, true, true, true, true, true, true, true, true, true, true, true, true, true, true, true, true, true, true, true, true, true, true, true, true, true, true, true, true, true, true, true, true, true, true, true, true, true, true, true, true, true, true, true, true, true, true, true, true, true, true, true, true, true, true, true, true, true, true, true, true, true, true, true, true, true, true, true, false, false, false, false, false, false, false, false, false] rfl rfl (any_of HT_.out (by kernel_rfl)) (fun _ _ _ h => h) (Or.inl ⟨by kernel_rfl, fun W => by kernel_rfl⟩) rfl ?_
  refine pure_ (i := 84) (N := some 119) (v := .slice (some ⟨g, 0, none⟩) 3 cg) #[true, true, true, true, true, true, true, true, true, true, true, true, true, true, true, true, true, true, true, true, true, true, true, true, true, true, true, true, true, true, true, true, true, true, true, true, true, true, true, true, true, true, true, true, true, true, true, true, true, true, true, true, true, true, true, true, true, true, true, true, true, true, true, true, true, true, true, true, true, true, true, true, true, true, true, true, true, true, true, true, true, true, true, true, true, false, false, false, false, false, false, false, false] rfl rfl (any_of HT_.out (by kernel_rfl)) (fun _ _ _ h => h) (Or.inl ⟨by kernel_rfl, fun W => by kernel_rfl⟩) rfl ?_
  refine pure_ (i := 85) (N := some 120) (v := .pointer (some ⟨g, 0, none⟩)) #[true, true, true, true, true, true, true, true, true, true, true, true, true, true, true, true, true, true, true, true, true, true, true, true, true, true, true, true, true, true, true, true, true, true, true, true, true, true, true, true, true, true, true, true, true, true, true, true, true, true, true, true, true, true, true, true, true, true, true, true, true, true, true, true, true, true, true, true, true, true, true, true, true, true, true, true, true, true, true, true, true, true, true, true, true, true, false, false, false, false, false, false, false] rfl rfl (any_of HT_.out (by kernel_rfl)) (fun _ _ _ h => h) (Or.inl ⟨by kernel_rfl, fun W => by kernel_rfl⟩) rfl ?_
  refine take_ (i := 86) (N := some 121) (v := .agg #[.int .i64 2, .int .i64 0, .string ⟨#[107, 47]⟩, .slice A1 0 c1, .int .i64 0, .int .i64 0, .int .u8 0, .int .u8 0, .slice A2 0 c2]) #[true, true, true, true, true, true, true, true, true, true, true, true, true, true, true, true, true, true, true, true, true, true, true, true, true, true, true, true, true, true, true, true, true, true, true, true, true, true, true, true, true, true, true, true, true, true, true, true, true, true, true, true, true, true, true, true, true, true, true, true, true, true, true, true, true, true, true, true, true, true, true, true, true, true, true, true, true, true, true, true, true, true, true, true, true, true, true, false, false, false, false, false, false] rfl rfl (take_ofW HT_.out HW_.out (by kernel_rfl)) (fun _ _ _ h => h) (Or.inl ⟨by kernel_rfl, fun W hS => exec_load9 rfl (by kernel_rfl) hS.fc0 hS.fc1 hS.fc2 hS.fc3 hS.fc4 hS.fc5 hS.fc6 hS.fc7 hS.fc8⟩) hHeld rfl ?_
  refine pure_ (i := 87) (N := some 122) (v := .slice (some ⟨g, 0, none⟩) 3 cg) #[true, true, true, true, true, true, true, true, true, true, true, true, true, true, true, true, true, true, true, true, true, true, true, true, true, true, true, true, true, true, true, true, true, true, true, true, true, true, true, true, true, true, true, true, true, true, true, true, true, true, true, true, true, true, true, true, true, true, true, true, true, true, true, true, true, true, true, true, true, true, true, true, true, true, true, true, true, true, true, true, true, true, true, true, true, true, true, true, false, false, false, false, false] rfl rfl (any_of HT_.out (by kernel_rfl)) (fun _ _ _ h => h) (Or.inl ⟨by kernel_rfl, fun W => by kernel_rfl⟩) rfl ?_
  refine pure_ (i := 88) (N := some 123) (v := .pointer (some ⟨g, 0, none⟩)) #[true, true, true, true, true, true, true, true, true, true, true, true, true, true, true, true, true, true, true, true, true, true, true, true, true, true, true, true, true, true, true, true, true, true, true, true, true, true, true, true, true, true, true, true, true, true, true, true, true, true, true, true, true, true, true, true, true, true, true, true, true, true, true, true, true, true, true, true, true, true, true, true, true, true, true, true, true, true, true, true, true, true, true, true, true, true, true, true, true, false, false, false, false] rfl rfl (any_of HT_.out (by kernel_rfl)) (fun _ _ _ h => h) (Or.inl ⟨by kernel_rfl, fun W => by kernel_rfl⟩) rfl ?_
  refine take_ (i := 89) (N := some 124) (v := .agg #[.int .i64 2, .int .i64 0, .string ⟨#[107, 47]⟩, .slice A1 0 c1, .int .i64 0, .int .i64 0, .int .u8 0, .int .u8 0, .slice A2 0 c2]) #[true, true, true, true, true, true, true, true, true, true, true, true, true, true, true, true, true, true, true, true, true, true, true, true, true, true, true, true, true, true, true, true, true, true, true, true, true, true, true, true, true, true, true, true, true, true, true, true, true, true, true, true, true, true, true, true, true, true, true, true, true, true, true, true, true, true, true, true, true, true, true, true, true, true, true, true, true, true, true, true, true, true, true, true, true, true, true, true, true, true, false, false, false] rfl rfl (take_ofW HT_.out HW_.out (by kernel_rfl)) (fun _ _ _ h => h) (Or.inl ⟨by kernel_rfl, fun W hS => exec_load9 rfl (by kernel_rfl) hS.fc0 hS.fc1 hS.fc2 hS.fc3 hS.fc4 hS.fc5 hS.fc6 hS.fc7 hS.fc8⟩) hHeld rfl ?_
  refine norm_ (a' := { tmps := #[.bool false, .slice A 0 c, .iface 76 (.pointer (some ⟨b, 0, none⟩)), .slice (some ⟨g, 0, none⟩) 3 cg, .nilIface, .int .i64 1, .bool true, .int .i64 (-12), .bool true, .slice A9 3 c9, .bool true, .tuple #[.slice A 0 c, .iface 76 (.pointer (some ⟨b, 0, none⟩))], .tuple #[.slice A 0 c, .iface 76 (.pointer (some ⟨b, 0, none⟩))], .slice A 0 c, .iface 76 (.pointer (some ⟨b, 0, none⟩)), .tuple #[.slice (some ⟨g, 0, none⟩) 3 cg, .nilIface], .tuple #[.slice (some ⟨g, 0, none⟩) 3 cg, .nilIface], .slice (some ⟨g, 0, none⟩) 3 cg, .nilIface, .slice (some ⟨g, 0, none⟩) 3 cg, .int .i64 3, .bool false, .tuple #[.int .i64 1, .bool true], .iface 76 (.pointer (some ⟨b, 0, none⟩)), .tuple #[.int .i64 1, .bool true], .int .i64 1, .bool true, .tuple #[.int .i64 (-12), .bool true], .tuple #[.int .i64 (-12), .bool true], .int .i64 (-12), .bool true, .tuple #[.slice A9 3 c9, .bool true], .tuple #[.slice A9 3 c9, .bool true], .slice A9 3 c9, .bool true, .slice A 0 c, .int .i64 0, .bool true, .bool true, .iface 76 (.pointer (some ⟨b, 0, none⟩)), .int .i64 16, .bool true, .bool true, .bool true, .bool true, .bool true, .bool true, .int .i64 1, .bool true, .bool true, .bool true, .nilIface, .bool true, .bool true, .bool true, .slice (some ⟨g, 0, none⟩) 3 cg, .pointer (some ⟨g, 0, none⟩), .pointer (some ⟨g, 2, none⟩), .string ⟨#[107, 47]⟩, .bool true, .bool true, .bool true, .slice (some ⟨g, 0, none⟩) 3 cg, .pointer (some ⟨g, 0, none⟩), .pointer (some ⟨g, 3, none⟩), .slice A1 0 c1, .int .i64 0, .bool true, .bool true, .bool true, .slice (some ⟨g, 0, none⟩) 3 cg, .pointer (some ⟨g, 9, none⟩), .pointer (some ⟨g, 17, none⟩), .slice B2 2 e2, .slice (some ⟨y1.heap.size, 0, none⟩) 2 2, .bool true, .bool true, .bool true, .slice (some ⟨g, 0, none⟩) 3 cg, .pointer (some ⟨g, 18, none⟩), .pointer (some ⟨g, 24, none⟩), .int .u8 255, .bool true, .bool true, .bool true, .slice (some ⟨g, 0, none⟩) 3 cg, .pointer (some ⟨g, 9, none⟩), .agg #[.int .i64 16, .int .i64 2, .string ⟨#[]⟩, .slice B1 0 e1, .int .i64 0, .int .i64 0, .int .u8 0, .int .u8 0, .slice B2 2 e2], .string ⟨#[99, 114, 97, 115, 104, 32, 50, 32, 45, 49, 32, 51, 48, 48]⟩, .bool true, .bool true, .bool true, .bool true, .bool true, .bool true, .int .i64 (-12), .bool true, .bool true, .bool true, .bool true, .bool true, .bool true, .slice A9 3 c9, .string ⟨#[97, 47, 98]⟩, .bool true, .bool true, .bool true, .string ⟨#[115, 104, 117, 116]⟩, .bool true, .bool true, .bool true, .string ⟨#[45, 52, 48]⟩, .bool true, .bool true, .bool true, .string ⟨#[45]⟩, .bool true, .bool true, .bool true, .slice (some ⟨g, 0, none⟩) 3 cg, .pointer (some ⟨g, 0, none⟩), .agg #[.int .i64 2, .int .i64 0, .string ⟨#[107, 47]⟩, .slice A1 0 c1, .int .i64 0, .int .i64 0, .int .u8 0, .int .u8 0, .slice A2 0 c2], .slice (some ⟨g, 0, none⟩) 3 cg, .pointer (some ⟨g, 0, none⟩), .agg #[.int .i64 2, .int .i64 0, .string ⟨#[107, 47]⟩, .slice A1 0 c1, .int .i64 0, .int .i64 0, .int .u8 0, .int .u8 0, .slice A2 0 c2], undef, undef], defers := [] }) (by kernel_rfl) ?_
  refine one_ (i := 90) (N := some 125) #[true, true, true, true, true, true, true, true, true, true, true, true, true, true, true, true, true, true, true, true, true, true, true, true, true, true, true, true, true, true, true, true, true, true, true, true, true, true, true, true, true, true, true, true, true, true, true, true, true, true, true, true, true, true, true, true, true, true, true, true, true, true, true, true, true, true, true, true, true, true, true, true, true, true, true, true, true, true, true, true, true, true, true, true, true, true, true, true, true, true, true, false, false] rfl rfl (one_of HT_.out (by kernel_rfl)) (by simp) (fun K hK => ?_)
  refine goes_ Tryd.func34 (by kernel_rfl) rfl #[.agg #[.int .i64 2, .int .i64 0, .string ⟨#[107, 47]⟩, .slice A1 0 c1, .int .i64 0, .int .i64 0, .int .u8 0, .int .u8 0, .slice A2 0 c2], .agg #[.int .i64 2, .int .i64 0, .string ⟨#[107, 47]⟩, .slice A1 0 c1, .int .i64 0, .int .i64 0, .int .u8 0, .int .u8 0, .slice A2 0 c2]] (by kernel_rfl) rfl rfl (by kernel_rfl) ?_
  refine (HSA.out _ z6.out).mono ?_
  rintro e y7 ⟨rfl, hb⟩
  have z7 := Lib.hid hb
  clear hb
  refine ⟨_, rfl, hK.out _ _ (HSW.out _ z7.out) (fun hHeld => ?_)⟩
  clear hK K
  refine pure_ (i := 91) (N := some 126) (v := .bool true) #[true, true, true, true, true, true, true, true, true, true, true, true, true, true, true, true, true, true, true, true, true, true, true, true, true, true, true, true, true, true, true, true, true, true, true, true, true, true, true, true, true, true, true, true, true, true, true, true, true, true, true, true, true, true, true, true, true, true, true, true, true, true, true, true, true, true, true, true, true, true, true, true, true, true, true, true, true, true, true, true, true, true, true, true, true, true, true, true, true, true, true, true, false] rfl rfl (any_of HT_.out (by kernel_rfl)) (fun _ _ _ h => h) (Or.inl ⟨by kernel_rfl, fun W => by kernel_rfl⟩) rfl ?_
  refine pure_ (i := 92) (N := some 0) (v := .bool true) #[true, true, true, true, true, true, true, true, true, true, true, true, true, true, true, true, true, true, true, true, true, true, true, true, true, true, true, true, true, true, true, true, true, true, true, true, true, true, true, true, true, true, true, true, true, true, true, true, true, true, true, true, true, true, true, true, true, true, true, true, true, true, true, true, true, true, true, true, true, true, true, true, true, true, true, true, true, true, true, true, true, true, true, true, true, true, true, true, true, true, true, true, true] rfl rfl (any_of HT_.out (by kernel_rfl)) (fun _ _ _ h => h) (Or.inl ⟨by kernel_rfl, fun W => by kernel_rfl⟩) rfl ?_
  refine done_ (done_of HT_.out (by kernel_rfl)) ?_
  go_wp2_with fail
  go_ret
  exact ⟨rfl, HB5.out.trans (z7.out.mono HB5.out.size)⟩
end Go.Proofs.YtbckbpimabmacaaDoor
