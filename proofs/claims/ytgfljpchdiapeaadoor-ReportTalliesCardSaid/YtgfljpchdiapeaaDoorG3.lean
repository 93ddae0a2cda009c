/- Events plainly: lines, words, texts, there and back. An event in memory; rows of words; strings.Join. Rows of a text; lengths; words that are too many or too few; a line's event. -/
import Derived.Test.YtgfljpchdiapeaaDoorG1
import Derived.Test.YtgfljpchdiapeaaDoorG2
import Derived.Lib.OthersKept
import Derived.Test.YtgfljpchdiapeaaDoorPRx2
namespace Go.Proofs.YtgfljpchdiapeaaDoor
set_option linter.unusedVariables false
set_option linter.unusedSimpArgs false
open Go.RowKit
structure Ev where
  kind : Int
  node : Int
  key : Bs
  ver : Int
  asof : Int
  ends : Int
  value : Bs
  found : Bool
def zE : Ev := ⟨0, 0, [], 0, 0, 0, [], false⟩
def hitW : Bs := [104, 105, 116]
def missW : Bs := [109, 105, 115, 115]
def writeW : Bs := [119, 114, 105, 116, 101]
def eraseW : Bs := [101, 114, 97, 115, 101]
def doneW : Bs := [100, 111, 110, 101]
def wordE (e : Ev) : Bs := if e.kind = 1 then hitW else if e.kind = 2 then missW else if e.kind = 3 then (if e.found = true then writeW else eraseW) else if e.kind = 4 then doneW else []
def manyE (e : Ev) : Int := if e.kind = 1 then 5 else if e.kind = 2 then 2 else if e.kind = 3 then (if e.found = true then 3 else 2) else if e.kind = 4 then 1 else 0
def tailE (e : Ev) : List Bs := if e.kind = 1 then [decS e.node, quoS e.key, decS e.ver, decS e.asof, quoS e.value] else if e.kind = 2 then [decS e.node, quoS e.key] else if e.kind = 3 then (if e.found = true then [decS e.ver, quoS e.key, quoS e.value] else [decS e.ver, quoS e.key]) else if e.kind = 4 then [decS e.ver] else []
def lineE (e : Ev) : Bs := if 1 ≤ e.kind ∧ e.kind ≤ 4 then joinS 32 (wordE e :: tailE e) else []
def hitR (l : List Bs) : Option Ev := match l with
  | [a, b, c, d, e] => (numS a).bind fun n => (unqS b).bind fun k => (numS c).bind fun v => (numS d).bind fun o => (unqS e).bind fun x => some ⟨1, n, k, v, o, 0, x, false⟩
  | _ => none
def missR (l : List Bs) : Option Ev := match l with
  | [a, b] => (numS a).bind fun n => (unqS b).bind fun k => some ⟨2, n, k, 0, 0, 0, [], false⟩
  | _ => none
def writeR (l : List Bs) : Option Ev := match l with
  | [a, b, c] => (numS a).bind fun v => (unqS b).bind fun k => (unqS c).bind fun x => some ⟨3, 0, k, v, 0, 0, x, true⟩
  | _ => none
def eraseR (l : List Bs) : Option Ev := match l with
  | [a, b] => (numS a).bind fun v => (unqS b).bind fun k => some ⟨3, 0, k, v, 0, 0, [], false⟩
  | _ => none
def doneR (l : List Bs) : Option Ev := match l with
  | [a] => (numS a).bind fun v => some ⟨4, 0, [], v, 0, 0, [], false⟩
  | _ => none
def readE (w : Bs) (l : List Bs) : Option Ev := if w = hitW then hitR l else if w = missW then missR l else if w = writeW then writeR l else if w = eraseW then eraseR l else if w = doneW then doneR l else none
def eventS (s : Bs) : Option Ev := match splitS 32 s with
  | w :: r => readE w r
  | [] => none
def normE (e : Ev) : Ev := if e.kind = 1 then ⟨1, e.node, e.key, e.ver, e.asof, 0, e.value, false⟩ else if e.kind = 2 then ⟨2, e.node, e.key, 0, 0, 0, [], false⟩ else if e.kind = 3 then (if e.found = true then ⟨3, 0, e.key, e.ver, 0, 0, e.value, true⟩ else ⟨3, 0, e.key, e.ver, 0, 0, [], false⟩) else if e.kind = 4 then ⟨4, 0, [], e.ver, 0, 0, [], false⟩ else e
def okE (e : Ev) : Prop := I64 e.kind ∧ I64 e.node ∧ I64 e.ver ∧ I64 e.asof ∧ I64 e.ends
theorem kind4 {e : Ev} (h : 1 ≤ e.kind ∧ e.kind ≤ 4) : e.kind = 1 ∨ e.kind = 2 ∨ (e.kind = 3 ∧ e.found = true) ∨ (e.kind = 3 ∧ e.found = false) ∨ e.kind = 4 := by
  cases hf : e.found <;> simp <;> omega
theorem read_tailE {e : Ev} (hk : okE e) (h : 1 ≤ e.kind ∧ e.kind ≤ 4) : readE (wordE e) (tailE e) = some (normE e) := by
  obtain ⟨h0, h1, h2, h3, h4⟩ := hk
  have e1 := numS_dec h1.1 h1.2
  have e2 := numS_dec h2.1 h2.2
  have e3 := numS_dec h3.1 h3.2
  have e5 := unqS_quo e.key
  have e6 := unqS_quo e.value
  have a1 : missW ≠ hitW := by decide
  have a2 : writeW ≠ hitW := by decide
  have a3 : writeW ≠ missW := by decide
  have a4 : eraseW ≠ hitW := by decide
  have a5 : eraseW ≠ missW := by decide
  have a6 : eraseW ≠ writeW := by decide
  have a7 : doneW ≠ hitW := by decide
  have a8 : doneW ≠ missW := by decide
  have a9 : doneW ≠ writeW := by decide
  have aA : doneW ≠ eraseW := by decide
  rcases kind4 h with k | k | ⟨k, f⟩ | ⟨k, f⟩ | k
  · simp [readE, wordE, tailE, normE, hitR, k, e1, e2, e3, e5, e6]
  · simp [readE, wordE, tailE, normE, missR, k, e1, e5, a1]
  · simp [readE, wordE, tailE, normE, writeR, k, f, e2, e5, e6, a2, a3]
  · simp [readE, wordE, tailE, normE, eraseR, k, f, e2, e5, a4, a5, a6]
  · simp [readE, wordE, tailE, normE, doneR, k, e2, a7, a8, a9, aA]
theorem bind_some {α β : Type} {o : Option α} {f : α → Option β} {b : β} (h : o.bind f = some b) : ∃ a, o = some a ∧ f a = some b := Option.bind_eq_some_iff.1 h
theorem i64_num {a : Bs} {n : Int} (h : numS a = some n) : decS n = a ∧ I64 n := numS_some h
theorem z64 : I64 0 := ⟨by decide, by decide⟩
theorem read_lineE {w : Bs} {l : List Bs} {e : Ev} (h : readE w l = some e) : wordE e = w ∧ tailE e = l ∧ (1 ≤ e.kind ∧ e.kind ≤ 4) ∧ okE e := by
  have hk1 : (1 : Int) ≤ 1 ∧ (1 : Int) ≤ 4 := by decide
  have hk2 : (1 : Int) ≤ 2 ∧ (2 : Int) ≤ 4 := by decide
  have hk3 : (1 : Int) ≤ 3 ∧ (3 : Int) ≤ 4 := by decide
  have hk4 : (1 : Int) ≤ 4 ∧ (4 : Int) ≤ 4 := by decide
  have b1 : I64 1 := ⟨by decide, by decide⟩
  have b2 : I64 2 := ⟨by decide, by decide⟩
  have b3 : I64 3 := ⟨by decide, by decide⟩
  have b4 : I64 4 := ⟨by decide, by decide⟩
  unfold readE at h
  by_cases k1 : w = hitW
  · rw [if_pos k1] at h
    unfold hitR at h
    split at h
    · obtain ⟨n, hn, h⟩ := bind_some h
      obtain ⟨k, hk, h⟩ := bind_some h
      obtain ⟨v, hv, h⟩ := bind_some h
      obtain ⟨o, ho, h⟩ := bind_some h
      obtain ⟨x, hx, h⟩ := bind_some h
      injection h with h
      rw [← h, k1]
      exact ⟨rfl, by simp [tailE, (numS_some hn).1, (numS_some hv).1, (numS_some ho).1, unqS_some hk, unqS_some hx], hk1, b1, (numS_some hn).2, (numS_some hv).2, (numS_some ho).2, z64⟩
    · cases h
  rw [if_neg k1] at h
  by_cases k2 : w = missW
  · rw [if_pos k2] at h
    unfold missR at h
    split at h
    · obtain ⟨n, hn, h⟩ := bind_some h
      obtain ⟨k, hk, h⟩ := bind_some h
      injection h with h
      rw [← h, k2]
      exact ⟨rfl, by simp [tailE, (numS_some hn).1, unqS_some hk], hk2, b2, (numS_some hn).2, z64, z64, z64⟩
    · cases h
  rw [if_neg k2] at h
  by_cases k3 : w = writeW
  · rw [if_pos k3] at h
    unfold writeR at h
    split at h
    · obtain ⟨v, hv, h⟩ := bind_some h
      obtain ⟨k, hk, h⟩ := bind_some h
      obtain ⟨x, hx, h⟩ := bind_some h
      injection h with h
      rw [← h, k3]
      exact ⟨rfl, by simp [tailE, (numS_some hv).1, unqS_some hk, unqS_some hx], hk3, b3, z64, (numS_some hv).2, z64, z64⟩
    · cases h
  rw [if_neg k3] at h
  by_cases k4 : w = eraseW
  · rw [if_pos k4] at h
    unfold eraseR at h
    split at h
    · obtain ⟨v, hv, h⟩ := bind_some h
      obtain ⟨k, hk, h⟩ := bind_some h
      injection h with h
      rw [← h, k4]
      exact ⟨rfl, by simp [tailE, (numS_some hv).1, unqS_some hk], hk3, b3, z64, (numS_some hv).2, z64, z64⟩
    · cases h
  rw [if_neg k4] at h
  by_cases k5 : w = doneW
  · rw [if_pos k5] at h
    unfold doneR at h
    split at h
    · obtain ⟨v, hv, h⟩ := bind_some h
      injection h with h
      rw [← h, k5]
      exact ⟨rfl, by simp [tailE, (numS_some hv).1], hk4, b4, z64, (numS_some hv).2, z64, z64⟩
    · cases h
  rw [if_neg k5] at h
  cases h
def wb' (c : UInt8) : Prop := c ≠ 32 ∧ c ≠ 10
theorem wb_dig {c : UInt8} (h : isDig c = true) : wb' c := by
  have := dig_nat h
  refine ⟨?_, ?_⟩ <;> (rintro rfl; simp at this)
theorem wb_dec (n : Int) : ∀ c ∈ decS n, wb' c := by
  intro c hc
  unfold decS at hc
  split at hc
  · rcases List.mem_cons.1 hc with rfl | hc
    · exact ⟨by decide, by decide⟩
    · exact wb_dig (dec_dig _ c hc)
  · exact wb_dig (dec_dig _ c hc)
theorem wb_plain {c : UInt8} (h : plainB c = true) : wb' c := by
  refine ⟨?_, ?_⟩ <;> (rintro rfl; revert h; decide)
theorem wb_quo (b : Bs) : ∀ c ∈ quoS b, wb' c := by
  intro c hc
  unfold quoS at hc
  split at hc
  · rw [List.mem_singleton.1 hc]
    exact ⟨by decide, by decide⟩
  · obtain ⟨x, _, hx⟩ := List.mem_flatMap.1 hc
    unfold qb at hx
    split at hx
    · rename_i hp
      rw [List.mem_singleton.1 hx]
      exact wb_plain hp
    · have hlt := x.toNat_lt
      simp only [List.mem_cons, List.not_mem_nil, or_false] at hx
      rcases hx with rfl | rfl | rfl
      · exact ⟨by decide, by decide⟩
      · exact wb_plain (hexB_ne _ (by omega))
      · exact wb_plain (hexB_ne _ (by omega))
theorem wb_wordE (e : Ev) : ∀ c ∈ wordE e, wb' c := by
  have h : ∀ w ∈ [hitW, missW, writeW, eraseW, doneW, []], ∀ c ∈ w, c ≠ 32 ∧ c ≠ 10 := by decide
  have hm : wordE e ∈ [hitW, missW, writeW, eraseW, doneW, []] := by
    unfold wordE
    repeat' split
    all_goals simp
  exact h _ hm
theorem wb_tailE (e : Ev) : ∀ x ∈ wordE e :: tailE e, ∀ c ∈ x, wb' c := by
  intro x hx
  rcases List.mem_cons.1 hx with rfl | hx
  · exact wb_wordE e
  · unfold tailE at hx
    repeat' (split at hx)
    all_goals
      simp only [List.mem_cons, List.not_mem_nil, or_false] at hx
      try (rcases hx with rfl | rfl | rfl | rfl | rfl)
      all_goals first | exact wb_dec _ | exact wb_quo _ | (rcases hx with rfl | rfl | rfl <;> first | exact wb_dec _ | exact wb_quo _) | (rcases hx with rfl | rfl <;> first | exact wb_dec _ | exact wb_quo _) | (subst hx; exact wb_dec _) | exact hx.elim
theorem split_lineE (e : Ev) (h : 1 ≤ e.kind ∧ e.kind ≤ 4) : splitS 32 (lineE e) = wordE e :: tailE e := by
  rw [lineE, if_pos h]
  exact split_join (by simp) (fun x hx h => (wb_tailE e x hx 32 h).1 rfl)
theorem join_mem {s : UInt8} : ∀ {l : List Bs} {c : UInt8}, c ∈ joinS s l → c = s ∨ ∃ x ∈ l, c ∈ x
  | [], c, h => by cases h
  | [x], c, h => .inr ⟨x, by simp, h⟩
  | x :: y :: r, c, h => by
    rw [joinS] at h
    rcases List.mem_append.1 h with h | h
    · exact .inr ⟨x, by simp, h⟩
    · rcases List.mem_cons.1 h with h | h
      · exact .inl h
      · rcases join_mem h with h | ⟨z, hz, h⟩
        · exact .inl h
        · exact .inr ⟨z, List.mem_cons_of_mem _ hz, h⟩
theorem lineE_no10 (e : Ev) : (10 : UInt8) ∉ lineE e := fun h => by
  unfold lineE at h
  split at h
  · rcases join_mem h with h | ⟨x, hx, h⟩
    · exact absurd h (by decide)
    · exact (wb_tailE e x hx 10 h).2 rfl
  · cases h
theorem event_line {e : Ev} (hk : okE e) (h : 1 ≤ e.kind ∧ e.kind ≤ 4) : eventS (lineE e) = some (normE e) := by
  rw [eventS, split_lineE e h]
  exact read_tailE hk h
theorem lineE_of {s : Bs} {e : Ev} (h : eventS s = some e) : lineE e = s ∧ (1 ≤ e.kind ∧ e.kind ≤ 4) ∧ okE e := by
  unfold eventS at h
  split at h
  · rename_i w r hs
    obtain ⟨h1, h2, h3, h4⟩ := read_lineE h
    refine ⟨?_, h3, h4⟩
    rw [lineE, if_pos h3, h1, h2, ← hs]
    exact join_split 32 s
  · cases h
theorem norm_kind (e : Ev) : (normE e).kind = e.kind := by
  unfold normE
  repeat' split
  all_goals first | rfl | (symm; assumption)
theorem norm_wordE (e : Ev) : wordE (normE e) = wordE e ∧ tailE (normE e) = tailE e := by
  by_cases h : 1 ≤ e.kind ∧ e.kind ≤ 4
  · rcases kind4 h with k | k | ⟨k, f⟩ | ⟨k, f⟩ | k
    · simp [wordE, tailE, normE, k]
    · simp [wordE, tailE, normE, k]
    · simp [wordE, tailE, normE, k, f]
    · simp [wordE, tailE, normE, k, f]
    · simp [wordE, tailE, normE, k]
  · have k : normE e = e := by
      unfold normE
      rw [if_neg (by omega), if_neg (by omega), if_neg (by omega), if_neg (by omega)]
    rw [k]
    exact ⟨rfl, rfl⟩
theorem norm_lineE (e : Ev) : lineE (normE e) = lineE e := by
  unfold lineE
  rw [norm_kind, (norm_wordE e).1, (norm_wordE e).2]
theorem lineE_ne {e : Ev} (h : 1 ≤ e.kind ∧ e.kind ≤ 4) : lineE e ≠ [] := fun h0 => by
  have := split_lineE e h
  rw [h0] at this
  rw [splitS] at this
  injection this with h1 h2
  rcases kind4 h with k | k | ⟨k, f⟩ | ⟨k, f⟩ | k <;> simp [wordE, k, hitW, missW, writeW, eraseW, doneW] at h1
  all_goals (simp_all [wordE, hitW, missW, writeW, eraseW, doneW])
theorem lineE_nil {e : Ev} (h : ¬ (1 ≤ e.kind ∧ e.kind ≤ 4)) : lineE e = [] := by rw [lineE, if_neg h]
def rowE (e : Ev) : Bs := if lineE e = [] then [] else lineE e ++ [10]
def textE (L : List Ev) : Bs := L.flatMap rowE
def readGE : Nat → List Bs → Nat ⊕ List Ev
  | _, [] => .inr []
  | i, r :: rs => if r = [] then readGE (i + 1) rs else match eventS r with
    | none => .inl i
    | some d => (readGE (i + 1) rs).map id (d :: ·)
def preGE (L : List Ev) (r : Nat ⊕ List Ev) : Nat ⊕ List Ev := r.map id (L ++ ·)
theorem preGE_nil (r : Nat ⊕ List Ev) : preGE [] r = r := by cases r <;> rfl
theorem preGE_snoc (L : List Ev) (d : Ev) (r : Nat ⊕ List Ev) : preGE L (r.map id (d :: ·)) = preGE (L ++ [d]) r := by cases r <;> simp [preGE]
theorem readGE_skip {i : Nat} {r : Bs} {rs : List Bs} (h : r = []) : readGE i (r :: rs) = readGE (i + 1) rs := by rw [readGE, if_pos h]
theorem readGE_none {i : Nat} {r : Bs} {rs : List Bs} (h : ¬ r = []) (h2 : eventS r = none) : readGE i (r :: rs) = .inl i := by rw [readGE, if_neg h, h2]
theorem readGE_some {i : Nat} {r : Bs} {rs : List Bs} {d : Ev} (h : ¬ r = []) (h2 : eventS r = some d) : readGE i (r :: rs) = (readGE (i + 1) rs).map id (d :: ·) := by rw [readGE, if_neg h, h2]
def outGE : Nat ⊕ List Ev → List Ev × Int × Int
  | .inl i => ([], 16, i)
  | .inr L => (L, 0, 0)
def readSE (s : Bs) : List Ev × Int × Int := outGE (readGE 0 (splitS 10 s))
theorem rows_textE : ∀ L : List Ev, (∀ e ∈ L, 1 ≤ e.kind ∧ e.kind ≤ 4) → splitS 10 (textE L) = L.map lineE ++ [[]]
  | [], _ => rfl
  | d :: L, h => by
    have h1 := h d List.mem_cons_self
    have e : textE (d :: L) = lineE d ++ 10 :: textE L := by
      show rowE d ++ textE L = _
      rw [rowE, if_neg (lineE_ne h1), List.append_assoc]
      rfl
    rw [e, split_app, split_none (lineE_no10 d), rows_textE L (fun x hx => h x (List.mem_cons_of_mem _ hx))]
    rfl
theorem readGE_text : ∀ (L : List Ev) (i : Nat), (∀ e ∈ L, okE e ∧ 1 ≤ e.kind ∧ e.kind ≤ 4) → readGE i (L.map lineE ++ [[]]) = .inr (L.map normE)
  | [], i, _ => by
    show readGE i [[]] = _
    rw [readGE_skip rfl, readGE]
    rfl
  | d :: L, i, h => by
    obtain ⟨h1, h2⟩ := h d List.mem_cons_self
    rw [List.map_cons, List.cons_append, readGE_some (lineE_ne h2) (event_line h1 h2), readGE_text L (i + 1) (fun x hx => h x (List.mem_cons_of_mem _ hx))]
    rfl
theorem read_textE {L : List Ev} (h : ∀ e ∈ L, okE e ∧ 1 ≤ e.kind ∧ e.kind ≤ 4) : readSE (textE L) = (L.map normE, 0, 0) := by
  unfold readSE
  rw [rows_textE L (fun e he => (h e he).2), readGE_text L 0 h]
  rfl
def sameE (a b : Ev) : Bool := decide (a.kind = b.kind ∧ lineE a = lineE b)
def sameAllE : List Ev → List Ev → Bool
  | [], [] => true
  | a :: l, b :: m => sameE a b && sameAllE l m
  | _, _ => false
theorem sameE_refl (d : Ev) : sameE d d = true := decide_eq_true ⟨rfl, rfl⟩
theorem sameAllE_refl : ∀ L : List Ev, sameAllE L L = true
  | [] => rfl
  | d :: L => by rw [sameAllE, sameE_refl, sameAllE_refl L]; rfl
theorem normE_same (d : Ev) : sameE d (normE d) = true := decide_eq_true ⟨(norm_kind d).symm, (norm_lineE d).symm⟩
theorem normE_sameAll : ∀ L : List Ev, sameAllE L (L.map normE) = true
  | [] => rfl
  | d :: L => by rw [List.map_cons, sameAllE, normE_same, normE_sameAll L]; rfl
theorem normE_text (L : List Ev) : textE (L.map normE) = textE L := by
  unfold textE
  rw [List.flatMap_map]
  congr 1
  funext d
  unfold rowE
  rw [norm_lineE]
theorem qb_ge (c : UInt8) : 1 ≤ (qb c).length := by unfold qb; split <;> simp
theorem flatq_ge : ∀ b : Bs, b.length ≤ (b.flatMap qb).length
  | [] => by simp
  | c :: r => by
    have ih := flatq_ge r
    have := qb_ge c
    rw [List.flatMap_cons, List.length_append, List.length_cons]
    omega
theorem quo_ge (b : Bs) : b.length ≤ (quoS b).length := by
  unfold quoS
  split
  · rename_i h; rw [h]; simp
  · exact flatq_ge b
end Go.Proofs.YtgfljpchdiapeaaDoor
namespace Go.Proofs.YtgfljpchdiapeaaDoor
set_option linter.unusedVariables false
set_option linter.unusedSimpArgs false
open Go.RowKit Go.Proofs.YtgfljpchdiapeaaDoorW.PrintWords
def eC (e : Ev) (A : Option Addr) (c : Nat) : Array Value := #[.int .i64 e.kind, .int .i64 e.node, .string (bsV e.key), .int .i64 e.ver, .int .i64 e.asof, .int .i64 e.ends, .slice A e.value.length c, .bool e.found]
structure EM (W : World) (e : Ev) (A : Option Addr) (c : Nat) : Prop where
  cap : e.value.length ≤ c
  val : (Kd.int .u8).C W A e.value.length (bI e.value)
  ok : okE e
  key : e.key.length ≤ 10000
  vl : e.value.length ≤ 10000
theorem EM.later {W W' : World} {e : Ev} {A : Option Addr} {c : Nat} (h : EM W e A c) (hb : Below W.heap.size W W') : EM W' e A c := ⟨h.cap, Kd.C_below h.val hb, h.ok, h.key, h.vl⟩
theorem bytes_C (W : World) (l : Bs) (h : l.length ≤ 100000) : (Kd.int .u8).C (Lib.bytesWorld W 5 (bsV l)) (some ⟨W.heap.size, 0, none⟩) l.length (bI l) := by
  have h1 := bytes_reads W 5 (bsV l) (by rw [bsV_size]; omega)
  have h2 : bytesOf (bsV l) = bI l := by rw [bytesOf, bsV_list]; rfl
  rw [h2, bsV_size] at h1
  exact Kd.C_of_reads (d := (0 : Int)) h1
/-! ### Rows of words -/
def SLs (W : World) (B : Nat) (v : Value) (L : List Bs) : Prop := Kd.R Kd.string 9 W B (fun _ => True) v (L.map bsV)
theorem SLs.cells {W : World} {B : Nat} {v : Value} {L : List Bs} (h : SLs W B v L) : (v = .slice none 0 0 ∧ L = []) ∨ ∃ g c, v = .slice (some ⟨g, 0, none⟩) L.length c ∧ g < W.heap.size ∧ L.length ≤ c ∧ ∀ (j : Nat) x, (L.map bsV)[j]? = some x → W.cell? ⟨g, 0 + j, none⟩ = some (.string x) := by
  have ho := Kd.own_of_R h
  have hl := own_lt ho
  rcases ho.2 with ⟨h1, h2⟩ | ⟨g, cap, cur, h1, hb, hh, hn, _⟩
  · refine .inl ⟨h1, ?_⟩
    rw [List.length_map] at h2
    exact List.length_eq_zero_iff.1 h2
  · rw [List.length_map] at h1
    refine .inr ⟨g, cap, h1, hl g (by rw [h1]; rfl), by rw [List.length_map] at hn; exact hn, fun j x hj => ?_⟩
    have hc := ho.cells (g := g) (by rw [h1]; rfl) j (.string x) (by rw [encs, List.getElem?_map, hj]; rfl)
    rw [add_plain] at hc
    rw [Nat.zero_add]
    exact hc
theorem lib_join (L : List Bs) : Lib.join L [32] = joinS 32 L := by
  match L with
  | [] => rfl
  | [x] => rw [Lib.join_one]; rfl
  | x :: y :: r =>
    have ih := lib_join (y :: r)
    rw [joinS, ← ih]
    simp [Lib.join, List.intercalate, List.intersperse]
theorem map_data (L : List Bs) : (L.map bsV).map (·.data.toList) = L := by
  rw [List.map_map]
  have : (fun x : ByteArray => x.data.toList) ∘ bsV = id := funext bsV_list
  rw [this, List.map_id]
theorem join_len (L : List Bs) (n : Nat) (h : ∀ x ∈ L, x.length ≤ n) : (joinS 32 L).length ≤ L.length * (n + 1) := by
  match L with
  | [] => simp [joinS]
  | [x] =>
    have := h x (by simp)
    show x.length ≤ _
    simp
    omega
  | x :: y :: r =>
    have ih := join_len (y :: r) n (fun z hz => h z (List.mem_cons_of_mem _ hz))
    have := h x (by simp)
    rw [joinS, List.length_append, List.length_cons, List.length_cons, Nat.add_mul]
    omega
theorem join_any {W : World} {B : Nat} {A : Option Addr} {n c : Nat} {L : List Bs} (h : SLs W B (.slice A n c) L) (hl : L.length ≤ 1000000) (hj : (joinS 32 L).length ≤ 1000000000) : Calls Tryd.prog 35 #[.slice A n c, .string ⟨#[32]⟩] W (QS W (joinS 32 L)) := by
  rcases h.cells with ⟨h1, h2⟩ | ⟨g, cp, h1, h2, h3, h4⟩
  · cases h1
    subst h2
    exact (Any.strings_Join_none lyB lyX none 0 ⟨#[32]⟩ W).mono fun e w' ⟨he, hw⟩ => ⟨he, hw ▸ Below.refl _ _⟩
  · cases h1
    have hm : (L.map bsV).length = L.length := List.length_map ..
    have hjj : Lib.join ((L.map bsV).map (·.data.toList)) (⟨#[32]⟩ : ByteArray).data.toList = joinS 32 L := by rw [map_data]; exact lib_join L
    have := Any.strings_Join lyB lyX g 0 c (L.map bsV) ⟨#[32]⟩ W h4 h2 (by rw [hm]; omega) (by rw [hm]; exact h3) (by rw [hjj]; omega)
    rw [hm, hjj] at this
    exact this
theorem bel_alloc (w : World) (o : Obj) : Below w.heap.size w (w.alloc o) := (Below.refl _ _).alloc (Nat.le_refl _) o
theorem wordsE_any (e : Ev) (A : Option Addr) (c : Nat) (w : World) (hE : EM w e A c) : Calls Tryd.prog 32 #[.agg (eC e A c)] w fun x w' => x = .returned (.tuple #[.string (bsV (wordE e)), .int .i64 (manyE e)]) ∧ Below w.heap.size w w' := by
  have h := PR.report_words.calls e.kind e.node (bsV e.key) e.ver e.asof e.ends A c (bI e.value) e.found (bsV (wordE e)) (manyE e) w (by rw [bI_len]; exact hE.val) (by rw [bI_len]; exact hE.cap) (by
    unfold PR.report_words.f wordE manyE
    by_cases k1 : e.kind = 1
    · rw [if_pos k1, if_pos k1, if_pos k1]; rfl
    rw [if_neg k1, if_neg k1, if_neg k1]
    by_cases k2 : e.kind = 2
    · rw [if_pos k2, if_pos k2, if_pos k2]; rfl
    rw [if_neg k2, if_neg k2, if_neg k2]
    by_cases k3 : e.kind = 3
    · rw [if_pos k3, if_pos k3, if_pos k3]
      cases e.found <;> rfl
    rw [if_neg k3, if_neg k3, if_neg k3]
    by_cases k4 : e.kind = 4
    · rw [if_pos k4, if_pos k4, if_pos k4]; rfl
    rw [if_neg k4, if_neg k4, if_neg k4]; rfl)
  rw [bI_len] at h
  exact h
theorem kind6 (e : Ev) : e.kind = 1 ∨ e.kind = 2 ∨ (e.kind = 3 ∧ e.found = true) ∨ (e.kind = 3 ∧ e.found = false) ∨ e.kind = 4 ∨ (¬ e.kind = 1 ∧ ¬ e.kind = 2 ∧ ¬ e.kind = 3 ∧ ¬ e.kind = 4) := by
  cases hf : e.found <;> simp <;> omega
end Go.Proofs.YtgfljpchdiapeaaDoor
namespace Go.Proofs.YtgfljpchdiapeaaDoor
set_option linter.unusedVariables false
set_option linter.unusedSimpArgs false
open Go.RowKit Go.Proofs.YtgfljpchdiapeaaDoorW.PrintWords
attribute [local go_sem ↓] Go.wp_at_zero Go.wp_at_succ
attribute [local go_sem] bsV_get bsV_size bsV_toList
def zC : Array Value := #[.int .i64 0, .int .i64 0, .string ⟨#[]⟩, .int .i64 0, .int .i64 0, .int .i64 0, .slice none 0 0, .bool false]
theorem zC_facts {W : World} {b : Nat} (h : W.heap[b]? = some (.cells zC 30 (0, 0))) : W.cell? ⟨b, 0, none⟩ = some (.int .i64 0) ∧ W.cell? ⟨b, 1, none⟩ = some (.int .i64 0) ∧ W.cell? ⟨b, 2, none⟩ = some (.string ⟨#[]⟩) ∧ W.cell? ⟨b, 3, none⟩ = some (.int .i64 0) ∧ W.cell? ⟨b, 4, none⟩ = some (.int .i64 0) ∧ W.cell? ⟨b, 5, none⟩ = some (.int .i64 0) ∧ W.cell? ⟨b, 6, none⟩ = some (.slice none 0 0) ∧ W.cell? ⟨b, 7, none⟩ = some (.bool false) ∧ W.frozen? ⟨b, 0, none⟩ = false ∧ W.frozen? ⟨b, 1, none⟩ = false ∧ W.frozen? ⟨b, 2, none⟩ = false ∧ W.frozen? ⟨b, 3, none⟩ = false ∧ W.frozen? ⟨b, 4, none⟩ = false ∧ W.frozen? ⟨b, 5, none⟩ = false ∧ W.frozen? ⟨b, 6, none⟩ = false ∧ W.frozen? ⟨b, 7, none⟩ = false := by
  refine ⟨(cell_of_row W b 0 _ _ (0, 0) h), (cell_of_row W b 1 _ _ (0, 0) h), (cell_of_row W b 2 _ _ (0, 0) h), (cell_of_row W b 3 _ _ (0, 0) h), (cell_of_row W b 4 _ _ (0, 0) h), (cell_of_row W b 5 _ _ (0, 0) h), (cell_of_row W b 6 _ _ (0, 0) h), (cell_of_row W b 7 _ _ (0, 0) h), ?_, ?_, ?_, ?_, ?_, ?_, ?_, ?_⟩
  all_goals simp [World.frozen?, h]
theorem blk_set8 {w : World} {b t : Nat} {cs : Array Value} (h : w.heap[b]? = some (.cells cs t (0, 0))) (j : Nat) (x : Value) : (w.setCell ⟨b, j, none⟩ x).heap[b]? = some (.cells (cs.setIfInBounds j x) t (0, 0)) := heap_setCell_same w b j _ _ x h
theorem set8 {w : World} {b : Nat} {t : TypeId} {y0 y1 y2 y3 y4 y5 y6 y7 : Value} (h : w.heap[b]? = some (.cells #[y0, y1, y2, y3, y4, y5, y6, y7] t (0, 0))) (x0 x1 x2 x3 x4 x5 x6 x7 : Value) :
    ((((((((w.setCell ⟨b, 0, none⟩ x0).setCell ⟨b, 1, none⟩ x1).setCell ⟨b, 2, none⟩ x2).setCell ⟨b, 3, none⟩ x3).setCell ⟨b, 4, none⟩ x4).setCell ⟨b, 5, none⟩ x5).setCell ⟨b, 6, none⟩ x6).setCell ⟨b, 7, none⟩ x7).heap[b]? = some (.cells #[x0, x1, x2, x3, x4, x5, x6, x7] t (0, 0)) ∧
    (∀ k, k ≠ b → ((((((((w.setCell ⟨b, 0, none⟩ x0).setCell ⟨b, 1, none⟩ x1).setCell ⟨b, 2, none⟩ x2).setCell ⟨b, 3, none⟩ x3).setCell ⟨b, 4, none⟩ x4).setCell ⟨b, 5, none⟩ x5).setCell ⟨b, 6, none⟩ x6).setCell ⟨b, 7, none⟩ x7).heap[k]? = w.heap[k]?) ∧
    (∀ {B : Nat} {a : World}, Below B a w → B ≤ b → Below B a ((((((((w.setCell ⟨b, 0, none⟩ x0).setCell ⟨b, 1, none⟩ x1).setCell ⟨b, 2, none⟩ x2).setCell ⟨b, 3, none⟩ x3).setCell ⟨b, 4, none⟩ x4).setCell ⟨b, 5, none⟩ x5).setCell ⟨b, 6, none⟩ x6).setCell ⟨b, 7, none⟩ x7)) := by
  have h0 := blk_set8 h 0 x0
  have h1 := blk_set8 h0 1 x1
  have h2 := blk_set8 h1 2 x2
  have h3 := blk_set8 h2 3 x3
  have h4 := blk_set8 h3 4 x4
  have h5 := blk_set8 h4 5 x5
  have h6 := blk_set8 h5 6 x6
  have h7 := blk_set8 h6 7 x7
  refine ⟨by simpa using h7, fun k hk => ?_, fun hB hb => ?_⟩
  · rw [Below.heap_setCell _ _ _ _ hk, Below.heap_setCell _ _ _ _ hk, Below.heap_setCell _ _ _ _ hk, Below.heap_setCell _ _ _ _ hk, Below.heap_setCell _ _ _ _ hk, Below.heap_setCell _ _ _ _ hk, Below.heap_setCell _ _ _ _ hk, Below.heap_setCell _ _ _ _ hk]
  · exact ((((((((hB.setCell (p := ⟨b, 0, none⟩) hb x0).setCell (p := ⟨b, 1, none⟩) hb x1).setCell (p := ⟨b, 2, none⟩) hb x2).setCell (p := ⟨b, 3, none⟩) hb x3).setCell (p := ⟨b, 4, none⟩) hb x4).setCell (p := ⟨b, 5, none⟩) hb x5).setCell (p := ⟨b, 6, none⟩) hb x6).setCell (p := ⟨b, 7, none⟩) hb x7)
theorem R_off2 {α : Type} {k : Kd α} {e base b b' t : Nat} {w W : World} {v : Value} {xs : List α} {cs cs' : Array Value} (h : k.R e w base (fun _ => True) v xs) (hb : w.heap[b]? = some (.cells cs t (0, 0))) (hb' : w.heap[b']? = some (.cells cs' t (0, 0))) (ht : ∀ q, q ∈ e :: k.E → q ≠ t) (hm : ∀ j, j ≠ b → j ≠ b' → W.heap[j]? = w.heap[j]?) : k.R e W base (fun _ => True) v xs :=
  Kd.R_mono (Kd.R_step (Kd.R_types (Kd.R_types h hb ht) hb' ht) (fun j hj _ => hm j hj.1.2 hj.2)) (fun _ _ => trivial)
theorem rows_l (s : Bs) (hl : s.length < 100000000) : ∀ (n k i fr : Nat) (acc : List Bs), i + n = s.length → n < k → fr ≤ i → acc.length ≤ i →
    PR.butteryref29_Rows.l0 k (bsV s) (acc.map bsV) (fr : Int) (i : Int) = some ((splitGo 10 acc ((s.take i).drop fr) (s.drop i)).map bsV)
  | 0, k + 1, i, fr, acc, h1, h2, h3, h4 => by
    rw [PR.butteryref29_Rows.l0, if_neg (by rw [bsV_size]; omega), if_pos (by omega), if_pos (by rw [bsV_size]; omega), if_pos (by rw [List.length_map]; omega), List.drop_of_length_le (l := s) (by omega), splitGo, List.map_append, Int.toNat_natCast, bsV_size, bs_extract]
    rw [List.take_of_length_le (l := s) (by omega), List.take_of_length_le (by rw [List.length_drop]; omega)]
    rfl
  | n + 1, k + 1, i, fr, acc, h1, h2, h3, h4 => by
    have hi : i < s.length := by omega
    have hd : s.drop i = s[i] :: s.drop (i + 1) := List.drop_eq_getElem_cons hi
    rw [PR.butteryref29_Rows.l0, if_pos (by rw [bsV_size]; omega), if_pos (by omega), bt_bs s i hi, wrap_up' i (by omega), hd, splitGo]
    by_cases hc : s[i] = 10
    · rw [if_pos (by rw [hc]; rfl), if_pos hc, if_pos (by omega), if_pos (by omega), if_pos (by rw [bsV_size]; omega), if_pos (by rw [List.length_map]; omega)]
      have e1 : acc.map bsV ++ [(bsV s).extract (fr : Int).toNat (i : Int).toNat] = (acc ++ [(s.take i).drop fr]).map bsV := by
        rw [List.map_append, Int.toNat_natCast, Int.toNat_natCast, bs_extract, List.take_drop]
        rw [show fr + (i - fr) = i by omega]
        rfl
      rw [e1, rows_l s hl n k (i + 1) (i + 1) _ (by omega) (by omega) (Nat.le_refl _) (by simp; omega)]
      have e2 : (s.take (i + 1)).drop (i + 1) = [] := List.drop_of_length_le (by rw [List.length_take]; omega)
      rw [e2]
    · rw [if_neg (fun e => hc (UInt8.toNat_inj.1 (by rw [show (10 : UInt8).toNat = 10 from rfl]; omega))), if_neg hc, rows_l s hl n k (i + 1) fr acc (by omega) (by omega) (by omega) (by omega)]
      rw [List.take_succ_eq_append_getElem hi, List.drop_append_of_le_length (by rw [List.length_take]; omega)]
theorem rows_f (s : Bs) (hl : s.length < 100000000) : PR.butteryref29_Rows.f (s.length + 1) (bsV s) = some ((splitS 10 s).map bsV) := by
  have h := rows_l s hl s.length (s.length + 1) 0 0 [] (by omega) (by omega) (Nat.le_refl _) (Nat.le_refl _)
  rw [List.drop_zero, List.drop_zero, List.take_zero, split_go] at h
  exact h
theorem rows_any (s : Bs) (hl : s.length < 100000000) (w : World) : Calls Tryd.prog 22 #[.string (bsV s)] w fun e w' => ∃ A c, e = .returned (.slice A (splitS 10 s).length c) ∧ (splitS 10 s).length ≤ c ∧ Kd.string.C w' A (splitS 10 s).length ((splitS 10 s).map bsV) ∧ Below w.heap.size w w' := by
  refine (PR.butteryref29_Rows.calls _ _ _ w (rows_f s hl)).mono ?_
  rintro e w' ⟨v, rfl, hr, hb⟩
  obtain ⟨A, c, rfl, h1, h2⟩ := Kd.R_reads hr
  rw [List.length_map] at h1 h2 ⊢
  exact ⟨A, c, rfl, h1, h2, hb⟩
theorem mem_split_len {c : UInt8} : ∀ {s x : Bs}, x ∈ splitS c s → x.length ≤ s.length
  | [], x, h => by
    rw [show splitS c [] = [[]] from rfl, List.mem_singleton] at h
    rw [h]
    exact Nat.le_refl _
  | y :: r, x, h => by
    by_cases e : y = c
    · subst e
      rw [split_hit] at h
      rcases List.mem_cons.1 h with h | h
      · rw [h]
        simp
      · have := mem_split_len h
        simp
        omega
    · obtain ⟨a, t, e2⟩ := split_cons c r
      rw [split_no e e2] at h
      rcases List.mem_cons.1 h with h | h
      · rw [h]
        have := mem_split_len (s := r) (x := a) (by rw [e2]; exact List.mem_cons_self)
        simp
        omega
      · have := mem_split_len (s := r) (x := x) (by rw [e2]; exact List.mem_cons_of_mem _ h)
        simp
        omega
theorem split_len (c : UInt8) : ∀ s : Bs, (splitS c s).length ≤ s.length + 1
  | [] => by simp [splitS]
  | y :: r => by
    have ih := split_len c r
    by_cases e : y = c
    · subst e
      rw [split_hit]
      simp
      omega
    · obtain ⟨a, t, e2⟩ := split_cons c r
      rw [split_no e e2]
      rw [e2] at ih
      simp at ih ⊢
      omega
theorem mono_le {β : Type} {g : Nat → Option β} (h : ∀ k, LeO (g k) (g (k + 1))) {k : Nat} {r : β} (hr : g k = some r) : ∀ j, g (k + j) = some r
  | 0 => hr
  | j + 1 => h (k + j) r (mono_le h hr j)
theorem mono_to {β : Type} {g : Nat → Option β} (h : ∀ k, LeO (g k) (g (k + 1))) {k m : Nat} {r : β} (hr : g k = some r) (hm : k ≤ m) : g m = some r := by
  have := mono_le h hr (m - k)
  rwa [show k + (m - k) = m by omega] at this
theorem hitR_no {r : List Bs} (h : r.length ≠ 5) : hitR r = none := by
  unfold hitR
  split
  · simp at h
  · rfl
theorem missR_no {r : List Bs} (h : r.length ≠ 2) : missR r = none := by
  unfold missR
  split
  · simp at h
  · rfl
theorem writeR_no {r : List Bs} (h : r.length ≠ 3) : writeR r = none := by
  unfold writeR
  split
  · simp at h
  · rfl
theorem eraseR_no {r : List Bs} (h : r.length ≠ 2) : eraseR r = none := by
  unfold eraseR
  split
  · simp at h
  · rfl
theorem doneR_no {r : List Bs} (h : r.length ≠ 1) : doneR r = none := by
  unfold doneR
  split
  · simp at h
  · rfl
theorem len5 {r : List Bs} (h : r.length = 5) : ∃ a b c d e, r = [a, b, c, d, e] := by
  match r, h with
  | [a, b, c, d, e], _ => exact ⟨a, b, c, d, e, rfl⟩
theorem len3' {r : List Bs} (h : r.length = 3) : ∃ a b c, r = [a, b, c] := by
  match r, h with
  | [a, b, c], _ => exact ⟨a, b, c, rfl⟩
theorem len2' {r : List Bs} (h : r.length = 2) : ∃ a b, r = [a, b] := by
  match r, h with
  | [a, b], _ => exact ⟨a, b, rfl⟩
theorem len1' {r : List Bs} (h : r.length = 1) : ∃ a, r = [a] := by
  match r, h with
  | [a], _ => exact ⟨a, rfl⟩
def evD (s : Bs) : Ev := (eventS s).getD zE
end Go.Proofs.YtgfljpchdiapeaaDoor
