/- Decimals, words of bytes, texts in pieces: the plain laws. Digits: the contracts of tens, Decimal. Digits: Decimal, both ways. Numbers of texts: what the printed Number comes to. Numbers of texts: the contracts. The document's Number: 0 where it is none. -/
import Derived.Test.YtgfljpchdiapeaaDoorPRall
import Derived.Test.YtgfljpchdiapeaaDoorBase
import Derived.Deep.RegionHeld3
import Derived.Deep.DrawnRows
namespace Go.Proofs.YtgfljpchdiapeaaDoor
set_option linter.unusedVariables false
set_option linter.unusedSimpArgs false
abbrev Bs := List UInt8
def isDig (c : UInt8) : Bool := decide (48 ≤ c.toNat ∧ c.toNat ≤ 57)
def dg (n : Nat) : UInt8 := UInt8.ofNat (48 + n % 10)
theorem dg_nat (n : Nat) : (dg n).toNat = 48 + n % 10 := by
  unfold dg
  rw [UInt8.toNat_ofNat']
  omega
theorem dg_dig (n : Nat) : isDig (dg n) = true := by
  unfold isDig
  rw [dg_nat]
  simp
  omega
def decN (n : Nat) : Bs := if n < 10 then [dg n] else decN (n / 10) ++ [dg n]
theorem decN_small {n : Nat} (h : n < 10) : decN n = [dg n] := by rw [decN, if_pos h]
theorem decN_big {n : Nat} (h : ¬ n < 10) : decN n = decN (n / 10) ++ [dg n] := by rw [decN, if_neg h]
def valN (l : Bs) : Nat := l.foldl (fun n c => n * 10 + (c.toNat - 48)) 0
theorem valN_snoc (l : Bs) (c : UInt8) : valN (l ++ [c]) = valN l * 10 + (c.toNat - 48) := by simp [valN]
theorem val_dec (n : Nat) : valN (decN n) = n := by
  induction n using Nat.strongRecOn with
  | _ n ih =>
    by_cases h : n < 10
    · rw [decN_small h]
      show 0 * 10 + ((dg n).toNat - 48) = n
      rw [dg_nat]
      omega
    · rw [decN_big h, valN_snoc, ih (n / 10) (by omega), dg_nat]
      omega
theorem dec_dig (n : Nat) : ∀ c ∈ decN n, isDig c = true := by
  induction n using Nat.strongRecOn with
  | _ n ih =>
    intro c hc
    by_cases h : n < 10
    · rw [decN_small h] at hc
      rw [List.mem_singleton.1 hc]
      exact dg_dig n
    · rw [decN_big h] at hc
      rcases List.mem_append.1 hc with h1 | h1
      · exact ih (n / 10) (by omega) c h1
      · rw [List.mem_singleton.1 h1]
        exact dg_dig n
theorem dec_ne (n : Nat) : decN n ≠ [] := by
  by_cases h : n < 10
  · rw [decN_small h]
    simp
  · rw [decN_big h]
    simp
theorem dec_head (n : Nat) (h0 : 0 < n) : ∃ c r, decN n = c :: r ∧ c ≠ 48 := by
  induction n using Nat.strongRecOn with
  | _ n ih =>
    by_cases h : n < 10
    · refine ⟨dg n, [], decN_small h, fun e => ?_⟩
      have := congrArg UInt8.toNat e
      rw [dg_nat] at this
      simp at this
      omega
    · obtain ⟨c, r, e, hc⟩ := ih (n / 10) (by omega) (by omega)
      exact ⟨c, r ++ [dg n], by rw [decN_big h, e]; rfl, hc⟩
def Can (l : Bs) : Prop := l ≠ [] ∧ (∀ c ∈ l, isDig c = true) ∧ ∀ r, l = 48 :: r → r = []
theorem can_dec (n : Nat) : Can (decN n) := by
  refine ⟨dec_ne n, dec_dig n, fun r hr => ?_⟩
  rcases Nat.eq_zero_or_pos n with h | h
  · subst h
    rw [decN_small (by omega)] at hr
    exact (List.cons.inj hr).2.symm
  · obtain ⟨c, t, e, hc⟩ := dec_head n h
    rw [e] at hr
    exact absurd (List.cons.inj hr).1 hc
theorem dig_nat {c : UInt8} (h : isDig c = true) : 48 ≤ c.toNat ∧ c.toNat ≤ 57 := of_decide_eq_true h
theorem dg_of {c : UInt8} (h : isDig c = true) (n : Nat) : dg (n * 10 + (c.toNat - 48)) = c := by
  obtain ⟨h1, h2⟩ := dig_nat h
  apply UInt8.toNat_inj.1
  rw [dg_nat]
  omega
theorem val_pos {c : UInt8} (hc : isDig c = true) (hn : c ≠ 48) (l : Bs) : 0 < valN (c :: l) := by
  have h0 : 0 < c.toNat - 48 := by
    obtain ⟨h1, h2⟩ := dig_nat hc
    have : c.toNat ≠ 48 := fun e => hn (UInt8.toNat_inj.1 (e.trans rfl))
    omega
  have : ∀ (l : Bs) (n : Nat), 0 < n → 0 < l.foldl (fun n c => n * 10 + (c.toNat - 48)) n := by
    intro l
    induction l with
    | nil => intro n h; exact h
    | cons x r ih => intro n h; exact ih _ (Nat.lt_of_lt_of_le (by omega : 0 < n * 10) (Nat.le_add_right _ _))
  exact this l _ (Nat.lt_of_lt_of_le h0 (Nat.le_add_left _ _))
theorem snocInd {α : Type} {P : List α → Prop} (h0 : P []) (h1 : ∀ l a, P l → P (l ++ [a])) (l : List α) : P l := by
  have : ∀ n, ∀ l : List α, l.length = n → P l := by
    intro n
    induction n with
    | zero => intro l hl; rw [List.length_eq_zero_iff.1 hl]; exact h0
    | succ n ih =>
      intro l hl
      have hne : l ≠ [] := by intro e; rw [e] at hl; cases hl
      rw [← List.dropLast_concat_getLast hne]
      exact h1 _ _ (ih _ (by rw [List.length_dropLast]; omega))
  exact this _ l rfl
theorem dec_val (l : Bs) : Can l → decN (valN l) = l := by
  refine snocInd (P := fun l => Can l → decN (valN l) = l) (fun h => absurd rfl h.1) (fun l a ih h => ?_) l
  obtain ⟨h1, h2, h3⟩ := h
  have ha := h2 a (by simp)
  rw [valN_snoc]
  cases l with
  | nil =>
    have hb : valN [] * 10 + (a.toNat - 48) < 10 := by
      have := dig_nat ha
      show 0 * 10 + (a.toNat - 48) < 10
      omega
    rw [decN_small hb, dg_of ha]
    rfl
  | cons c r =>
    have hc : c ≠ 48 := fun e => by
      have := h3 (r ++ [a]) (by rw [e]; rfl)
      exact absurd this (by simp)
    have hp := val_pos (h2 c (by simp)) hc r
    rw [decN_big (by omega), dg_of ha]
    have e : (valN (c :: r) * 10 + (a.toNat - 48)) / 10 = valN (c :: r) := by
      have := dig_nat ha
      omega
    rw [e, ih ⟨by simp, fun x hx => h2 x (List.mem_append_left _ hx), fun t ht => absurd (List.cons.inj ht).1 hc⟩]
def decS (n : Int) : Bs := if n < 0 then 45 :: decN n.natAbs else decN n.natAbs
theorem dec_minus (n : Nat) (r : Bs) : decN n ≠ 45 :: r := fun e => by
  have := dec_dig n 45 (by rw [e]; simp)
  exact absurd this (by decide)
theorem decS_inj {a b : Int} (h : decS a = decS b) : a = b := by
  unfold decS at h
  split at h
  · split at h
    · have := congrArg valN (List.cons.inj h).2
      rw [val_dec, val_dec] at this
      omega
    · exact absurd h.symm (dec_minus _ _)
  · split at h
    · exact absurd h (dec_minus _ _)
    · have := congrArg valN h
      rw [val_dec, val_dec] at this
      omega
def numS (s : Bs) : Option Int :=
  let t := if s.head? = some 45 then s.tail else s
  let v : Int := if s.head? = some 45 then -(valN t) else valN t
  if decS v = s ∧ -9223372036854775808 ≤ v ∧ v ≤ 9223372036854775807 then some v else none
theorem numS_some {s : Bs} {n : Int} (h : numS s = some n) : decS n = s ∧ -9223372036854775808 ≤ n ∧ n ≤ 9223372036854775807 := by
  have key : ∀ v : Int, (if decS v = s ∧ -9223372036854775808 ≤ v ∧ v ≤ 9223372036854775807 then some v else none) = some n → decS n = s ∧ -9223372036854775808 ≤ n ∧ n ≤ 9223372036854775807 := by
    intro v hv
    split at hv
    · rename_i h1
      injection hv with hv
      rw [← hv]
      exact h1
    · cases hv
  exact key _ h
theorem numS_dec {n : Int} (h0 : -9223372036854775808 ≤ n) (h1 : n ≤ 9223372036854775807) : numS (decS n) = some n := by
  unfold numS
  by_cases h : n < 0
  · have e : decS n = 45 :: decN n.natAbs := by unfold decS; rw [if_pos h]
    have hh : (decS n).head? = some 45 := by rw [e]; rfl
    have ht : (decS n).tail = decN n.natAbs := by rw [e]; rfl
    have hv : -((valN (decS n).tail : Nat) : Int) = n := by rw [ht, val_dec]; omega
    simp only [hh, if_true]
    rw [hv, if_pos ⟨rfl, h0, h1⟩]
  · have e : decS n = decN n.natAbs := by unfold decS; rw [if_neg h]
    have hh : ¬ (decS n).head? = some 45 := fun e2 => by
      rw [e] at e2
      cases hd : decN n.natAbs with
      | nil => exact dec_ne _ hd
      | cons c r =>
        rw [hd] at e2
        simp at e2
        rw [e2] at hd
        exact dec_minus _ _ hd
    have hv : ((valN (decS n) : Nat) : Int) = n := by rw [e, val_dec]; omega
    simp only [if_neg hh]
    rw [hv, if_pos ⟨rfl, h0, h1⟩]
theorem numS_is {s : Bs} {n : Int} (h0 : -9223372036854775808 ≤ n) (h1 : n ≤ 9223372036854775807) (h : decS n = s) : numS s = some n := by rw [← h]; exact numS_dec h0 h1
theorem numS_no {s : Bs} (h : ∀ n : Int, -9223372036854775808 ≤ n → n ≤ 9223372036854775807 → decS n ≠ s) : numS s = none := by
  cases hs : numS s with
  | none => rfl
  | some n =>
    obtain ⟨h1, h2, h3⟩ := numS_some hs
    exact absurd h1 (h n h2 h3)
def plainB (c : UInt8) : Bool := decide ((48 ≤ c.toNat ∧ c.toNat ≤ 57) ∨ (65 ≤ c.toNat ∧ c.toNat ≤ 90) ∨ (97 ≤ c.toNat ∧ c.toNat ≤ 122))
def hexB (n : Nat) : UInt8 := if n < 10 then UInt8.ofNat (48 + n) else UInt8.ofNat (87 + n)
def qb (c : UInt8) : Bs := if plainB c then [c] else [37, hexB (c.toNat / 16), hexB (c.toNat % 16)]
def quoS (b : Bs) : Bs := if b = [] then [45] else b.flatMap qb
def unhex (c : UInt8) : Nat := if 48 ≤ c.toNat ∧ c.toNat ≤ 57 then c.toNat - 48 else if 97 ≤ c.toNat ∧ c.toNat ≤ 102 then c.toNat - 87 else 16
theorem unhex_hex : ∀ n, n < 16 → unhex (hexB n) = n := by decide
theorem hex_unhex (c : UInt8) (h : unhex c < 16) : hexB (unhex c) = c := by
  unfold unhex at h ⊢
  apply UInt8.toNat_inj.1
  split
  · unfold hexB
    rw [if_pos (by omega), UInt8.toNat_ofNat']
    omega
  · split
    · unfold hexB
      rw [if_neg (by omega), UInt8.toNat_ofNat']
      omega
    · rename_i h1 h2
      rw [if_neg h1, if_neg h2] at h
      omega
theorem hexB_ne : ∀ n, n < 16 → plainB (hexB n) = true := by decide
theorem pct_plain : plainB 37 = false := by decide
theorem dash_plain : plainB 45 = false := by decide
def byteOf (a b : UInt8) : UInt8 := UInt8.ofNat (unhex a * 16 + unhex b)
theorem byteOf_hex (c : UInt8) : byteOf (hexB (c.toNat / 16)) (hexB (c.toNat % 16)) = c := by
  have h := c.toNat_lt
  apply UInt8.toNat_inj.1
  unfold byteOf
  rw [unhex_hex _ (by omega), unhex_hex _ (by omega), UInt8.toNat_ofNat']
  omega
def decode : Bs → Bs
  | [] => []
  | c :: r => match r with
    | a :: b :: t => if c = 37 ∧ unhex a < 16 ∧ unhex b < 16 then byteOf a b :: decode t else c :: decode (a :: b :: t)
    | r => c :: decode r
termination_by l => l.length
theorem decode_q : ∀ b : Bs, decode (b.flatMap qb) = b
  | [] => by simp [decode]
  | c :: r => by
    have ih := decode_q r
    rw [List.flatMap_cons]
    unfold qb
    by_cases h : plainB c = true
    · rw [if_pos h]
      have hc : ¬ c = 37 := fun e => by rw [e, pct_plain] at h; cases h
      show decode (c :: r.flatMap qb) = c :: r
      cases hr : r.flatMap qb with
      | nil =>
        rw [hr] at ih
        rw [decode]
        · rw [ih]
        · intro a b t e; cases e
      | cons x t =>
        rw [hr] at ih
        cases t with
        | nil =>
          rw [decode]
          · rw [ih]
          · intro a b t e; cases e
        | cons y t =>
          rw [decode, if_neg (fun e => hc e.1), ih]
    · rw [if_neg h]
      have h1 := c.toNat_lt
      show decode (37 :: hexB (c.toNat / 16) :: hexB (c.toNat % 16) :: r.flatMap qb) = c :: r
      rw [decode, if_pos ⟨rfl, by rw [unhex_hex _ (by omega)]; omega, by rw [unhex_hex _ (by omega)]; omega⟩, byteOf_hex, ih]
def unqS (s : Bs) : Option Bs := if s = [45] then some [] else if decode s ≠ [] ∧ quoS (decode s) = s then some (decode s) else none
theorem quo_dash (b : Bs) (h : b.flatMap qb = [45]) : False := by
  cases b with
  | nil => cases h
  | cons c r =>
    rw [List.flatMap_cons] at h
    unfold qb at h
    by_cases hp : plainB c = true
    · rw [if_pos hp] at h
      have := (List.cons.inj h).1
      rw [this, dash_plain] at hp
      cases hp
    · rw [if_neg hp] at h
      exact absurd (congrArg List.length h) (by simp)
theorem unqS_quo (b : Bs) : unqS (quoS b) = some b := by
  unfold unqS
  by_cases h : b = []
  · subst h
    rfl
  · have e : quoS b = b.flatMap qb := by unfold quoS; rw [if_neg h]
    rw [if_neg (fun e2 => quo_dash b (e.symm.trans e2)), e, decode_q, if_pos ⟨h, e⟩]
theorem unqS_some {s b : Bs} (h : unqS s = some b) : quoS b = s := by
  unfold unqS at h
  split at h
  · rename_i h1
    injection h with h
    rw [← h, h1]
    rfl
  · split at h
    · rename_i h1
      injection h with h
      rw [← h]
      exact h1.2
    · cases h
theorem unqS_no {s : Bs} (h : ∀ b, quoS b ≠ s) : unqS s = none := by
  cases hs : unqS s with
  | none => rfl
  | some b => exact absurd (unqS_some hs) (h b)
def splitS (c : UInt8) : Bs → List Bs
  | [] => [[]]
  | x :: r => if x = c then [] :: splitS c r else match splitS c r with
    | [] => [[x]]
    | h :: t => (x :: h) :: t
def joinS (c : UInt8) : List Bs → Bs
  | [] => []
  | [x] => x
  | x :: y :: r => x ++ c :: joinS c (y :: r)
theorem split_ne (c : UInt8) : ∀ s, splitS c s ≠ []
  | [] => by simp [splitS]
  | x :: r => by
    rw [splitS]
    split
    · simp
    · split <;> simp
theorem split_hit (c : UInt8) (r : Bs) : splitS c (c :: r) = [] :: splitS c r := by rw [splitS, if_pos rfl]
theorem split_no {c x : UInt8} (h : x ≠ c) {r : Bs} {a : Bs} {t : List Bs} (e : splitS c r = a :: t) : splitS c (x :: r) = (x :: a) :: t := by
  rw [splitS, if_neg h, e]
theorem split_cons (c : UInt8) (s : Bs) : ∃ a t, splitS c s = a :: t := by
  cases h : splitS c s with
  | nil => exact absurd h (split_ne c s)
  | cons a t => exact ⟨a, t, rfl⟩
theorem join_cons (c : UInt8) (x : Bs) {l : List Bs} (h : l ≠ []) : joinS c (x :: l) = x ++ c :: joinS c l := by
  cases l with
  | nil => exact absurd rfl h
  | cons y r => rfl
theorem join_split (c : UInt8) : ∀ s, joinS c (splitS c s) = s
  | [] => rfl
  | x :: r => by
    by_cases h : x = c
    · subst h
      rw [split_hit, join_cons _ _ (split_ne _ _), join_split x r]
      rfl
    · obtain ⟨a, t, e⟩ := split_cons c r
      have ih := join_split c r
      rw [split_no h e]
      rw [e] at ih
      cases t with
      | nil => rw [← ih]; rfl
      | cons y t => rw [← ih]; rfl
theorem split_app (c : UInt8) (b : Bs) : ∀ a, splitS c (a ++ c :: b) = splitS c a ++ splitS c b
  | [] => by rw [List.nil_append, split_hit]; rfl
  | x :: r => by
    have ih := split_app c b r
    by_cases h : x = c
    · subst h
      rw [List.cons_append, split_hit, split_hit, ih]
      rfl
    · obtain ⟨a, t, e⟩ := split_cons c r
      rw [e] at ih
      rw [List.cons_append, split_no h ih, split_no h e]
      rfl
theorem split_none {c : UInt8} : ∀ {s : Bs}, c ∉ s → splitS c s = [s]
  | [], _ => rfl
  | x :: r, h => by
    have h1 : x ≠ c := fun e => h (by rw [e]; exact List.mem_cons_self)
    rw [split_no h1 (split_none (fun h2 => h (List.mem_cons_of_mem _ h2)))]
theorem split_join {c : UInt8} : ∀ {l : List Bs}, l ≠ [] → (∀ x ∈ l, c ∉ x) → splitS c (joinS c l) = l
  | [], h, _ => absurd rfl h
  | [x], _, h => split_none (h x List.mem_cons_self)
  | x :: y :: r, _, h => by
    rw [joinS, split_app, split_none (h x List.mem_cons_self), split_join (by simp) (fun z hz => h z (List.mem_cons_of_mem _ hz))]
    rfl
theorem split_mem {c : UInt8} : ∀ {s : Bs} {x : Bs}, x ∈ splitS c s → c ∉ x
  | [], x, h => by
    rw [show splitS c [] = [[]] from rfl, List.mem_singleton] at h
    rw [h]
    simp
  | y :: r, x, h => by
    by_cases e : y = c
    · subst e
      rw [split_hit] at h
      rcases List.mem_cons.1 h with h | h
      · rw [h]
        simp
      · exact split_mem h
    · obtain ⟨a, t, e2⟩ := split_cons c r
      rw [split_no e e2] at h
      rcases List.mem_cons.1 h with h | h
      · rw [h]
        intro h3
        rcases List.mem_cons.1 h3 with h3 | h3
        · exact e h3.symm
        · exact split_mem (s := r) (by rw [e2]; exact List.mem_cons_self) h3
      · exact split_mem (s := r) (by rw [e2]; exact List.mem_cons_of_mem _ h)
def splitGo (c : UInt8) : List Bs → Bs → Bs → List Bs
  | acc, cur, [] => acc ++ [cur]
  | acc, cur, x :: r => if x = c then splitGo c (acc ++ [cur]) [] r else splitGo c acc (cur ++ [x]) r
theorem go_split (c : UInt8) : ∀ (s : Bs) (acc : List Bs) (cur : Bs), splitGo c acc cur s = acc ++ match splitS c s with
    | [] => [cur]
    | h :: t => (cur ++ h) :: t
  | [], acc, cur => by simp [splitGo, splitS]
  | x :: r, acc, cur => by
    obtain ⟨a, t, e⟩ := split_cons c r
    by_cases h : x = c
    · subst h
      rw [splitGo, if_pos rfl, go_split x r, split_hit, e]
      simp
    · rw [splitGo, if_neg h, go_split c r, split_no h e, e]
      simp
theorem split_go (c : UInt8) (s : Bs) : splitGo c [] [] s = splitS c s := by
  rw [go_split]
  obtain ⟨a, t, e⟩ := split_cons c s
  rw [e]
  rfl
def bsV (l : Bs) : ByteArray := ⟨l.toArray⟩
theorem bsV_size (l : Bs) : (bsV l).size = l.length := by simp [bsV, ByteArray.size]
theorem bsV_app (a b : Bs) : bsV a ++ bsV b = bsV (a ++ b) := by
  apply ByteArray.ext
  simp [bsV]
theorem bsV_inj {a b : Bs} (h : bsV a = bsV b) : a = b := by
  have := congrArg (fun x : ByteArray => x.data.toList) h
  simpa [bsV] using this
theorem bsV_list (l : Bs) : (bsV l).data.toList = l := by simp [bsV]
theorem dec_len : ∀ (k n : Nat), n < 10 ^ (k + 1) → (decN n).length ≤ k + 1
  | 0, n, h => by rw [decN_small (by simpa using h)]; exact Nat.le_refl _
  | k + 1, n, h => by
    by_cases h1 : n < 10
    · rw [decN_small h1]
      simp
    · rw [decN_big h1, List.length_append]
      have := dec_len k (n / 10) (by rw [Nat.pow_succ] at h; omega)
      simp
      omega
theorem dec_len20 {n : Nat} (h : n ≤ 9223372036854775808) : (decN n).length ≤ 19 := dec_len 18 n (Nat.lt_of_le_of_lt h (by decide))
def I64 (n : Int) : Prop := -9223372036854775808 ≤ n ∧ n ≤ 9223372036854775807
end Go.Proofs.YtgfljpchdiapeaaDoor
namespace Go.Proofs.YtgfljpchdiapeaaDoor
set_option linter.unusedVariables false
set_option linter.unusedSimpArgs false
open Go.RowKit Go.Proofs.YtgfljpchdiapeaaDoorW.PrintWords
attribute [local go_sem ↓] Go.wp_at_zero Go.wp_at_succ
def QS (w : World) (l : Bs) (e : Ending) (w' : World) : Prop := e = .returned (.string (bsV l)) ∧ Below w.heap.size w w'
theorem digit_at : ∀ k : Nat, k < 10 → (⟨#[48, 49, 50, 51, 52, 53, 54, 55, 56, 57]⟩ : ByteArray).extract k (k + 1) = bsV [dg k] := by
  intro k hk
  have : k = 0 ∨ k = 1 ∨ k = 2 ∨ k = 3 ∨ k = 4 ∨ k = 5 ∨ k = 6 ∨ k = 7 ∨ k = 8 ∨ k = 9 := by omega
  rcases this with rfl | rfl | rfl | rfl | rfl | rfl | rfl | rfl | rfl | rfl <;> rfl
theorem digit_slice : ∀ k : Nat, k < 10 → ∀ W : World, (Instr.slice 9 (.string ⟨#[48, 49, 50, 51, 52, 53, 54, 55, 56, 57]⟩) (some (.int .i64 (k : Int))) (some (.int .i64 ((k : Int) + 1))) none).run Tryd.prog W = .ok (.string (bsV [dg k])) W
  | 0, _ => fun W => by kernel_rfl
  | 1, _ => fun W => by kernel_rfl
  | 2, _ => fun W => by kernel_rfl
  | 3, _ => fun W => by kernel_rfl
  | 4, _ => fun W => by kernel_rfl
  | 5, _ => fun W => by kernel_rfl
  | 6, _ => fun W => by kernel_rfl
  | 7, _ => fun W => by kernel_rfl
  | 8, _ => fun W => by kernel_rfl
  | 9, _ => fun W => by kernel_rfl
  | n + 10, h => absurd h (by omega)
theorem dg_mod (m : Nat) : dg (m % 10) = dg m := by unfold dg; rw [Nat.mod_mod]
theorem add_run (a b : Bs) (h : a.length + b.length ≤ 1000000) (W : World) : (Op.stringOp .add (bsV a) (bsV b)).run Tryd.prog W = .ok (.string (bsV (a ++ b))) W := by
  have e := run_string_add_sum (P := Tryd.prog) (w := W) (bsV a) (bsV b) (by rw [bsV_size, bsV_size]; omega)
  rw [bsV_app] at e
  exact e
theorem neg_wrap (k : Int) (h0 : 0 ≤ k) (h1 : k ≤ 1000) : IntKind.i64.wrap (-(-k)) = k := by rw [IntKind.wrap_i64]; omega
theorem tmod_neg (m : Nat) : Int.tmod (-(m : Int)) 10 = -((m % 10 : Nat) : Int) := by rw [Int.neg_tmod, Int.tmod_eq_emod_of_nonneg (by omega)]; omega
theorem tdiv_neg (m : Nat) : Int.tdiv (-(m : Int)) 10 = -((m / 10 : Nat) : Int) := by rw [Int.neg_tdiv, Int.tdiv_eq_ediv_of_nonneg (by omega)]; omega
set_option maxHeartbeats 1000000 in
set_option maxRecDepth 100000 in
theorem tens_any (m : Nat) : ∀ (n : Int), n = -(m : Int) → Hid (m ≤ 9223372036854775808) → ∀ w, Calls Tryd.prog 56 #[.int .i64 n] w (QS w (decN m)) := by
  induction m using Nat.strongRecOn with
  | _ m ih =>
    intro n hn hm w
    subst hn
    have k0 : (0 : Int) ≤ ((m % 10 : Nat) : Int) := by omega
    have k1 : ((m % 10 : Nat) : Int) + 1 ≤ 10 := by omega
    have hmod := tmod_neg m
    have hdiv := tdiv_neg m
    have hw1 := neg_wrap ((m % 10 : Nat) : Int) k0 (by omega)
    by_cases h : m < 10
    · have hb : (m : Int) < 10 := by omega
      have HD := Lib.hid (decN_small h)
      have hsl := digit_slice (m % 10) (by omega)
      have HDM := Lib.hid (dg_mod m)
      clear ih hm hdiv
      generalize m % 10 = k at *
      go_enter Tryd.func56, Tryd.ntmps56
      go_wp2_with fail
      go_ret
      exact ⟨by rw [HD.out, HDM.out]; rfl, Below.refl _ _⟩
    · have hb : ¬ (m : Int) < 10 := by omega
      have HD := Lib.hid (decN_big h)
      have hsl := digit_slice (m % 10) (by omega)
      have HDM := Lib.hid (dg_mod m)
      have HIH := Lib.hid (fun W => ih (m / 10) (by omega) (-((m / 10 : Nat) : Int)) rfl (show Hid _ from Nat.le_trans (Nat.div_le_self _ _) hm) W)
      have HLN := Lib.hid (dec_len20 (n := m / 10) (Nat.le_trans (Nat.div_le_self _ _) hm))
      have hwq : IntKind.i64.wrap (-((m / 10 : Nat) : Int)) = -((m / 10 : Nat) : Int) := by rw [IntKind.wrap_i64]; have := hm.out; omega
      have hwk : IntKind.i64.wrap (((m % 10 : Nat) : Int) + 1) = ((m % 10 : Nat) : Int) + 1 := by rw [IntKind.wrap_i64]; omega
      clear ih hm
      generalize m % 10 = k at *
      generalize m / 10 = q at *
      go_enter Tryd.func56, Tryd.ntmps56
      have hadd := add_run (decN q) [dg k] (by have := HLN.out; simp; omega)
      go_wp2_with fail
      go_region_held3 (fun _ => True) (trivial)
        ((go_at_call 56; ((with_reducible refine (HIH.out _).mono ?_)); rintro e w1 ⟨rfl, hb⟩; have B1 := Lib.hid ((show Below w.heap.size w w.drew from Drawn0.below ⟨1, rfl⟩).trans hb); clear hb))
      all_goals
        go_wp2_with fail
        go_ret
        exact ⟨by rw [HD.out, ← HDM.out]; rfl, B1.out⟩
end Go.Proofs.YtgfljpchdiapeaaDoor
namespace Go.Proofs.YtgfljpchdiapeaaDoor
set_option linter.unusedVariables false
set_option linter.unusedSimpArgs false
open Go.RowKit Go.Proofs.YtgfljpchdiapeaaDoorW.PrintWords
attribute [local go_sem ↓] Go.wp_at_zero Go.wp_at_succ
theorem decS_neg (m : Nat) (h : 0 < m) : decS (-(m : Int)) = 45 :: decN m := by
  unfold decS
  rw [if_pos (by omega), Int.natAbs_neg, Int.natAbs_natCast]
theorem decS_pos (m : Nat) : decS (m : Int) = decN m := by
  unfold decS
  rw [if_neg (by omega), Int.natAbs_natCast]
theorem decS_len {n : Int} (h0 : -9223372036854775808 ≤ n) (h1 : n ≤ 9223372036854775807) : (decS n).length ≤ 20 := by
  have := dec_len20 (n := n.natAbs) (by omega)
  unfold decS
  split
  · simp
    omega
  · omega
set_option maxHeartbeats 1000000 in
set_option maxRecDepth 100000 in
theorem refDec_any (n : Int) (h : Hid (I64 n)) (w : World) : Calls Tryd.prog 37 #[.int .i64 n] w (QS w (decS n)) := by
  by_cases hn : n < 0
  · obtain ⟨m, hm⟩ : ∃ m : Nat, n = -(m : Int) := ⟨n.natAbs, by omega⟩
    subst hm
    have HT := Lib.hid (tens_any m (-(m : Int)) rfl (show Hid _ from by have := h.out.1; show m ≤ 9223372036854775808; omega) w)
    have HD := Lib.hid (decS_neg m (by omega))
    have hadd : ∀ W : World, (Op.stringOp .add (⟨#[45]⟩ : ByteArray) (bsV (decN m))).run Tryd.prog W = .ok (.string (bsV (45 :: decN m))) W := add_run [45] (decN m) (by have := dec_len20 (n := m) (by have := h.out.1; omega); simp; omega)
    have hb : (0 : Int) < (m : Int) := by omega
    go_enter Tryd.func37, Tryd.ntmps37
    go_wp2_with fail
    refine HT.out.mono ?_
    rintro e w1 ⟨rfl, hb⟩
    have HB := Lib.hid hb
    clear hb
    go_wp2_with fail
    go_ret
    exact ⟨by rw [HD.out]; rfl, HB.out⟩
  · obtain ⟨m, hm⟩ : ∃ m : Nat, n = (m : Int) := ⟨n.natAbs, by omega⟩
    subst hm
    have HT := Lib.hid (tens_any m (-(m : Int)) rfl (show Hid _ from by have := h.out.2; show m ≤ 9223372036854775808; omega) w)
    have HD := Lib.hid (decS_pos m)
    have hb : ¬ (m : Int) < 0 := by omega
    have hwq : IntKind.i64.wrap (-(m : Int)) = -(m : Int) := by rw [IntKind.wrap_i64]; have := h.out.2; omega
    go_enter Tryd.func37, Tryd.ntmps37
    go_wp2_with fail
    refine HT.out.mono ?_
    rintro e w1 ⟨rfl, hb⟩
    have HB := Lib.hid hb
    clear hb
    go_wp2_with fail
    go_ret
    exact ⟨by rw [HD.out]; rfl, HB.out⟩
theorem enc_dg : ∀ k : Nat, k < 10 → Utf8.encode (48 + (k : Int)) = bsV [dg k]
  | 0, _ => by rfl
  | 1, _ => by rfl
  | 2, _ => by rfl
  | 3, _ => by rfl
  | 4, _ => by rfl
  | 5, _ => by rfl
  | 6, _ => by rfl
  | 7, _ => by rfl
  | 8, _ => by rfl
  | 9, _ => by rfl
  | n + 10, h => absurd h (by omega)
theorem enc_mod (q : Nat) : Utf8.encode (48 + (q : Int) % 10) = bsV [dg q] := by
  rw [← dg_mod, ← enc_dg (q % 10) (by omega)]
  congr 1
theorem wrap_div {m q : Nat} (h1 : m ≤ 9223372036854775807) (h2 : q ≤ m) : wrap64 ((q : Int) / 10) = ((q / 10 : Nat) : Int) := by unfold wrap64; omega
theorem wrap_m {m : Nat} (h1 : m ≤ 9223372036854775807) : wrap64 (m : Int) = (m : Int) := by unfold wrap64; omega
theorem wrap_min : wrap64 9223372036854775808 = -9223372036854775808 := by unfold wrap64; omega
theorem decP_any (m : Nat) (hm : Hid (m ≤ 9223372036854775807)) (w : World) : Calls Tryd.prog 34 #[.int .i64 (m : Int)] w fun e w' => e = .returned (.string (bsV (decN m))) ∧ w' = w := by
  have hb : ¬ (m : Int) < 0 := by omega
  have HM := Lib.hid hm.out
  have HL := Lib.hid (dec_len20 (n := m) (Nat.le_trans hm.out (by decide)))
  clear hm
  go_enter Tryd.func34, Tryd.ntmps34
  go_wp2_with fail
  go_loop [0, 3] (fun n s => ∃ (q : Nat) (acc : Bs), n = .int .i64 (q : Int) ∧ s = .string (bsV acc) ∧ Hid (q ≤ m ∧ decN m = decN q ++ acc)) (fun n _ => (intOf n).toNat)
  case atStart => exact ⟨m, [], rfl, rfl, Nat.le_refl _, by simp⟩
  case round =>
    obtain ⟨q, acc, rfl, rfl, HI⟩ := hrel
    have HAL := Lib.hid (show acc.length ≤ 19 by have := HL.out; rw [HI.out.2, List.length_append] at this; omega)
    have hadd := add_run [dg q] acc (by have := HAL.out; simp; omega)
    by_cases h9 : 9 < q
    · have h9b : (9 : Int) < (q : Int) := by omega
      have HB := Lib.hid (decN_big (n := q) (by omega))
      have hen := enc_mod q
      go_wp2_with fail
      go_round
      case rel => exact ⟨q / 10, dg q :: acc, congrArg (Value.int .i64) (wrap_div HM.out HI.out.1), rfl, by have := HI.out.1; omega, by rw [HI.out.2, HB.out]; simp⟩
      case measure =>
        rw [wrap_div HM.out HI.out.1]
        simp [intOf]
        omega
    · have h9b : ¬ (9 : Int) < (q : Int) := by omega
      have HS := Lib.hid (decN_small (n := q) (by omega))
      have hen := enc_dg q (by omega)
      go_wp2_with fail
      go_ret
      exact ⟨by rw [HI.out.2, HS.out]; rfl, rfl⟩
set_option maxHeartbeats 1000000 in
set_option maxRecDepth 100000 in
theorem dec_any (n : Int) (h : Hid (I64 n)) (w : World) : Calls Tryd.prog 34 #[.int .i64 n] w fun e w' => e = .returned (.string (bsV (decS n))) ∧ w' = w := by
  by_cases hn : n < 0
  · by_cases hmin : n = -9223372036854775808
    · have HD := Lib.hid (show decS n = [45, 57, 50, 50, 51, 51, 55, 50, 48, 51, 54, 56, 53, 52, 55, 55, 53, 56, 48, 56] by rw [hmin]; decide +kernel)
      subst hmin
      have hwm := wrap_min
      clear h hn
      go_enter Tryd.func34, Tryd.ntmps34
      go_wp2_with fail
      go_ret
      exact ⟨by rw [HD.out]; rfl, rfl⟩
    · obtain ⟨m, hm⟩ : ∃ m : Nat, n = -(m : Int) := ⟨n.natAbs, by omega⟩
      subst hm
      have hmm : m ≤ 9223372036854775807 := by have := h.out.1; omega
      have HT := Lib.hid (decP_any m (show Hid _ from hmm) w)
      have HD := Lib.hid (decS_neg m (by omega))
      have hadd : ∀ W : World, (Op.stringOp .add (⟨#[45]⟩ : ByteArray) (bsV (decN m))).run Tryd.prog W = .ok (.string (bsV (45 :: decN m))) W := add_run [45] (decN m) (by have := dec_len20 (n := m) (by omega); simp; omega)
      have hb : (0 : Int) < (m : Int) := by omega
      have hwq := wrap_m hmm
      have hne : (-(m : Int) == (m : Int)) = false := by simp; omega
      have hbm : (0 : Nat) < m := by omega
      clear hn hmin h hmm
      go_enter Tryd.func34, Tryd.ntmps34
      go_wp2_with fail
      refine HT.out.mono ?_
      rintro e w1 ⟨rfl, rfl⟩
      go_wp2_with fail
      go_ret
      exact ⟨by rw [HD.out]; rfl, rfl⟩
  · obtain ⟨m, hm⟩ : ∃ m : Nat, n = (m : Int) := ⟨n.natAbs, by omega⟩
    subst hm
    rw [decS_pos]
    exact decP_any m (show Hid _ from by have := h.out.2; show m ≤ 9223372036854775807; omega) w
end Go.Proofs.YtgfljpchdiapeaaDoor
namespace Go.Proofs.YtgfljpchdiapeaaDoor
set_option linter.unusedVariables false
set_option linter.unusedSimpArgs false
open Go.RowKit Go.Proofs.YtgfljpchdiapeaaDoorW.PrintWords
theorem bs_of (s : ByteArray) : ∃ l : Bs, s = bsV l := ⟨s.data.toList, by apply ByteArray.ext; simp [bsV]⟩
theorem bsV_toList (l : Bs) : (bsV l).toList = l := by rw [ByteArray.toList_eq]; exact bsV_list l
theorem bt_bs (l : Bs) (i : Nat) (h : i < l.length) : bt (bsV l) (i : Int) = ((l[i].toNat : Nat) : Int) := by
  have h1 : (i : Int).toNat < (bsV l).size := by rw [bsV_size]; exact h
  rw [← bt_at (bsV l) i h1]
  rfl
def digQ (c : UInt8) : Prop := isDig c = true
theorem dig_iff (c : UInt8) : isDig c = true ↔ 48 ≤ c.toNat ∧ c.toNat ≤ 57 := decide_eq_true_iff
theorem val_mono (p q : Bs) : valN p ≤ valN (p ++ q) := by
  refine snocInd (P := fun q => valN p ≤ valN (p ++ q)) (by simp) (fun l a ih => ?_) q
  rw [← List.append_assoc, valN_snoc]
  omega
theorem wrapSub (c : UInt8) : wrap64 ((wrap64 ((c.toNat : Nat) : Int)) - 48) = ((c.toNat : Nat) : Int) - 48 := by
  have h := c.toNat_lt
  unfold wrap64
  omega
theorem wrap_up' (i : Nat) (h : i < 9000000000000000000) : wrap64 ((i : Int) + 1) = ((i + 1 : Nat) : Int) := by unfold wrap64; omega
def numEnd (x5 : Bool) (x6 : Int) : Int × Bool := if x5 = true then (x6, true) else if x6 = wrap64 (-x6) then (wrap64 (-x6), (x6 == 0)) else (wrap64 (-x6), true)
theorem num_lp (t : Bs) (x5 : Bool) (hl : t.length < 1000000000) : ∀ (m k i : Nat), i + m = t.length → m < k → (∀ c ∈ t.take i, isDig c = true) → valN (t.take i) ≤ 9223372036854775808 →
    PR.deeds_Number.l0 k (bsV t) x5 (-((valN (t.take i) : Nat) : Int)) t.length i = some (if (∀ c ∈ t, isDig c = true) ∧ valN t ≤ 9223372036854775808 then numEnd x5 (-((valN t : Nat) : Int)) else (0, false))
  | 0, k + 1, i, h1, h2, h3, h4 => by
    have e : t.take i = t := List.take_of_length_le (by omega)
    rw [e] at h3 h4 ⊢
    rw [PR.deeds_Number.l0, if_neg (by omega)]
    refine Eq.trans ?_ (congrArg some (if_pos (⟨h3, h4⟩ : (∀ c ∈ t, isDig c = true) ∧ valN t ≤ 9223372036854775808)).symm)
    unfold numEnd
    by_cases h5 : x5 = true
    · rw [if_pos h5, if_pos h5]
    · rw [if_neg h5, if_neg h5]
      split <;> rfl
  | m + 1, k + 1, i, h1, h2, h3, h4 => by
    have hi : i < t.length := by omega
    have ht : t.take (i + 1) = t.take i ++ [t[i]] := List.take_succ_eq_append_getElem hi
    have hlt := t[i].toNat_lt
    rw [PR.deeds_Number.l0, if_pos (by omega), if_pos (by omega), if_pos (by rw [bsV_size]; omega), bt_bs t i hi, wrapSub]
    by_cases hd : isDig t[i] = true
    · obtain ⟨d1, d2⟩ := dig_nat hd
      have hv : valN (t.take (i + 1)) = valN (t.take i) * 10 + (t[i].toNat - 48) := by rw [ht, valN_snoc]
      have hdiv : ∀ d : Int, 0 ≤ d → d ≤ 9 → Int.tdiv (-9223372036854775808 + d) 10 = -((9223372036854775808 - d) / 10) := fun d h5 h6 => by
        rw [show (-9223372036854775808 + d) = -(9223372036854775808 - d) by omega, Int.neg_tdiv, Int.tdiv_eq_ediv_of_nonneg (by omega)]
      have hw1 : wrap64 (-9223372036854775808 + (((t[i].toNat : Nat) : Int) - 48)) = -9223372036854775808 + (((t[i].toNat : Nat) : Int) - 48) := by unfold wrap64; omega
      rw [if_neg (by omega), if_neg (by omega), hw1, hdiv _ (by omega) (by omega)]
      generalize hV : valN (t.take i) = V at *
      generalize hc : t[i].toNat = c at *
      have hw2 : wrap64 (-((9223372036854775808 - ((c : Int) - 48)) / 10)) = -((9223372036854775808 - ((c : Int) - 48)) / 10) := by unfold wrap64; omega
      rw [hw2]
      by_cases ho : V * 10 + (c - 48) ≤ 9223372036854775808
      · have hw3 : wrap64 (wrap64 (-(V : Int) * 10) - ((c : Int) - 48)) = -((V * 10 + (c - 48) : Nat) : Int) := by
          have : wrap64 (-(V : Int) * 10) = -(V : Int) * 10 := by unfold wrap64; omega
          rw [this]
          unfold wrap64
          omega
        rw [if_neg (by omega), hw3, wrap_up' i (by omega), ← hv]
        exact num_lp t x5 hl m k (i + 1) (by omega) (by omega) (fun x hx => by
          rw [ht] at hx
          rcases List.mem_append.1 hx with h | h
          · exact h3 x h
          · rw [List.mem_singleton.1 h]
            exact hd) (by rw [hv]; exact ho)
      · have hmono := val_mono (t.take (i + 1)) (t.drop (i + 1))
        rw [List.take_append_drop, hv] at hmono
        rw [if_pos (by omega), if_neg (fun e => by omega)]
    · have hnd : ¬ (48 ≤ t[i].toNat ∧ t[i].toNat ≤ 57) := fun e => hd ((dig_iff _).2 e)
      have hno : ¬ ((∀ c ∈ t, isDig c = true) ∧ valN t ≤ 9223372036854775808) := fun e => hd (e.1 _ (List.getElem_mem hi))
      rw [if_neg hno]
      by_cases h5 : ((t[i].toNat : Nat) : Int) - 48 < 0
      · rw [if_pos h5]
      · rw [if_neg h5, if_pos (by omega)]
def numTail (s : Bs) : Bool × Bs := if s.head? = some 45 then (true, s.tail) else (false, s)
theorem tail_of (s : Bs) : (∃ t, s = 45 :: t ∧ numTail s = (true, t)) ∨ (s.head? ≠ some 45 ∧ numTail s = (false, s)) := by
  cases s with
  | nil => exact .inr ⟨by simp, rfl⟩
  | cons c r =>
    by_cases h : c = 45
    · subst h
      exact .inl ⟨r, rfl, rfl⟩
    · refine .inr ⟨by simpa using h, ?_⟩
      unfold numTail
      rw [if_neg (by simpa using h)]
theorem numS_minus {t : Bs} (h : Can t ∧ 0 < valN t ∧ valN t ≤ 9223372036854775808) : numS (45 :: t) = some (-((valN t : Nat) : Int)) :=
  numS_is (by omega) (by omega) (by rw [decS_neg _ h.2.1, dec_val t h.1])
theorem numS_minus_no {t : Bs} (h : ¬ (Can t ∧ 0 < valN t ∧ valN t ≤ 9223372036854775808)) : numS (45 :: t) = none := by
  refine numS_no fun n h0 h1 e => h ?_
  unfold decS at e
  split at e
  · rename_i hn
    have e2 := (List.cons.inj e).2
    rw [← e2]
    exact ⟨can_dec _, by rw [val_dec]; omega, by rw [val_dec]; omega⟩
  · exact absurd e (dec_minus _ _)
theorem numS_plus {s : Bs} (h : Can s ∧ valN s ≤ 9223372036854775807) : numS s = some ((valN s : Nat) : Int) :=
  numS_is (by omega) (by omega) (by rw [decS_pos, dec_val s h.1])
theorem numS_plus_no {s : Bs} (hh : s.head? ≠ some 45) (h : ¬ (Can s ∧ valN s ≤ 9223372036854775807)) : numS s = none := by
  refine numS_no fun n h0 h1 e => h ?_
  unfold decS at e
  split at e
  · exact absurd (by rw [← e]; rfl) hh
  · rename_i hn
    rw [← e]
    exact ⟨can_dec _, by rw [val_dec]; omega⟩
def NumIs (s : Bs) (x : Int) (ok : Bool) : Prop := numS s = if ok = true then some x else none
theorem val_zero : valN [48] = 0 := rfl
theorem can_val0 {t : Bs} (h : Can t) (h0 : valN t = 0) : t = [48] := by
  have := dec_val t h
  rw [h0] at this
  rw [← this, decN_small (by decide)]
  rfl
theorem num_fin_minus {t : Bs} (hne : t ≠ []) (hz : t ≠ [48]) (hl : ∀ r, t = 48 :: r → r = []) (r : Int × Bool) (hr : r = if (∀ c ∈ t, isDig c = true) ∧ valN t ≤ 9223372036854775808 then numEnd true (-((valN t : Nat) : Int)) else (0, false)) : NumIs (45 :: t) r.1 r.2 := by
  unfold NumIs
  by_cases h : (∀ c ∈ t, isDig c = true) ∧ valN t ≤ 9223372036854775808
  · rw [if_pos h] at hr
    rw [hr]
    have hc : Can t := ⟨hne, h.1, hl⟩
    have hp : 0 < valN t := by
      rcases Nat.eq_zero_or_pos (valN t) with h1 | h1
      · exact absurd (can_val0 hc h1) hz
      · exact h1
    rw [numS_minus ⟨hc, hp, h.2⟩]
    rfl
  · rw [if_neg h] at hr
    rw [hr]
    exact numS_minus_no (fun e => h ⟨e.1.2.1, e.2.2⟩)
theorem numEnd_false (x : Int) : numEnd false x = if x = wrap64 (-x) then (wrap64 (-x), (x == 0)) else (wrap64 (-x), true) := rfl
theorem num_fin_plus {t : Bs} (hh : t.head? ≠ some 45) (hne : t ≠ []) (hl : ∀ r, t = 48 :: r → r = []) (r : Int × Bool) (hr : r = if (∀ c ∈ t, isDig c = true) ∧ valN t ≤ 9223372036854775808 then numEnd false (-((valN t : Nat) : Int)) else (0, false)) : NumIs t r.1 r.2 := by
  unfold NumIs
  by_cases h : (∀ c ∈ t, isDig c = true) ∧ valN t ≤ 9223372036854775808
  · rw [if_pos h] at hr
    rw [hr]
    have hc : Can t := ⟨hne, h.1, hl⟩
    by_cases h1 : valN t ≤ 9223372036854775807
    · have hw : wrap64 (-(-((valN t : Nat) : Int))) = ((valN t : Nat) : Int) := by unfold wrap64; omega
      rw [numS_plus ⟨hc, h1⟩]
      by_cases h2 : valN t = 0
      · have hE : numEnd false (-((valN t : Nat) : Int)) = (0, true) := by rw [h2]; decide +kernel
        rw [hE, h2]
        rfl
      · have hE : numEnd false (-((valN t : Nat) : Int)) = (((valN t : Nat) : Int), true) := by rw [numEnd_false, hw, if_neg (by omega)]
        rw [hE]
        rfl
    · have hv : valN t = 9223372036854775808 := by omega
      have hE : numEnd false (-((valN t : Nat) : Int)) = (-9223372036854775808, false) := by rw [hv]; decide +kernel
      rw [numS_plus_no hh (fun e => h1 e.2), hE]
      rfl
  · rw [if_neg h] at hr
    rw [hr]
    exact numS_plus_no hh (fun e => h ⟨e.1.2.1, by have := e.2; omega⟩)
theorem bs_extract (l : Bs) (i j : Nat) : (bsV l).extract i j = bsV ((l.drop i).take (j - i)) := by
  apply ByteArray.ext
  simp [bsV]
theorem ext1 (c : UInt8) (t : Bs) : (bsV (c :: t)).extract 1 (bsV (c :: t)).size = bsV t := by
  rw [bs_extract, bsV_size]
  simp
theorem cut_minus (t : Bs) : PR.strings_CutPrefix.f (bsV (45 :: t)) (⟨#[45]⟩ : ByteArray) = some (bsV t, true) := by
  have hs : ((⟨#[45]⟩ : ByteArray).size : Int) = 1 := rfl
  have hp : PR.stringslite_HasPrefix.f (bsV (45 :: t)) (⟨#[45]⟩ : ByteArray) = some true := by
    unfold PR.stringslite_HasPrefix.f
    rw [hs, if_pos (by rw [bsV_size]; simp; omega), if_pos (by decide), if_pos (by rw [bsV_size]; simp; omega), show ((1 : Int)).toNat = 1 from rfl, bs_extract, bsV_toList, show (⟨#[45]⟩ : ByteArray).toList = [45] from bsV_toList [45]]
    rfl
  unfold PR.strings_CutPrefix.f PR.stringslite_CutPrefix.f
  rw [hp, Option.bind_some, if_pos rfl, hs, if_pos (by decide), if_pos (by rw [bsV_size]; simp; omega), show ((1 : Int)).toNat = 1 from rfl, ext1, Option.bind_some]
theorem cut_plain {s : Bs} (h : s.head? ≠ some 45) : PR.strings_CutPrefix.f (bsV s) (⟨#[45]⟩ : ByteArray) = some (bsV s, false) := by
  have hs : ((⟨#[45]⟩ : ByteArray).size : Int) = 1 := rfl
  have hp : PR.stringslite_HasPrefix.f (bsV s) (⟨#[45]⟩ : ByteArray) = some false := by
    unfold PR.stringslite_HasPrefix.f
    rw [hs]
    cases s with
    | nil => rw [if_neg (by rw [bsV_size]; simp)]
    | cons c r =>
      rw [if_pos (by rw [bsV_size]; simp; omega), if_pos (by decide), if_pos (by rw [bsV_size]; simp; omega), show ((1 : Int)).toNat = 1 from rfl, bs_extract, bsV_toList, show (⟨#[45]⟩ : ByteArray).toList = [45] from bsV_toList [45]]
      have hc : c ≠ 45 := by simpa using h
      congr 1
      simp [hc]
  unfold PR.strings_CutPrefix.f PR.stringslite_CutPrefix.f
  rw [hp, Option.bind_some, if_neg (by decide), Option.bind_some]
theorem number_f (s : Bs) (hl : s.length < 100000000) : ∃ x ok, PR.deeds_Number.f (s.length + 5) (bsV s) = some (x, ok) ∧ NumIs s x ok := by
  have hbody : ∀ (m5 : Bool) (t : Bs), t.length ≤ s.length → ((t = [] ∨ (∃ r, t = 48 :: r ∧ r ≠ []) ∨ (m5 = true ∧ t = [48])) → NumIs s 0 false) →
      (∀ r : Int × Bool, r = (if (∀ c ∈ t, isDig c = true) ∧ valN t ≤ 9223372036854775808 then numEnd m5 (-((valN t : Nat) : Int)) else (0, false)) → t ≠ [] → (∀ r, t = 48 :: r → r = []) → (m5 = true → t ≠ [48]) → NumIs s r.1 r.2) →
      ∃ x ok, (if (bsV t).toList = ([] : List UInt8) then (PR.deeds_Number.j0 (s.length + 5) (bsV t) m5 true) else (if ((bsV t).size : Int) > 1 then (if 0 < ((bsV t).size : Int) then (if (bt (bsV t) 0) = 48 then (PR.deeds_Number.j0 (s.length + 5) (bsV t) m5 true) else (if m5 = true then (PR.deeds_Number.j0 (s.length + 5) (bsV t) m5 ((bsV t).toList == ([48] : List UInt8))) else (PR.deeds_Number.j0 (s.length + 5) (bsV t) m5 false))) else (none)) else (if m5 = true then (PR.deeds_Number.j0 (s.length + 5) (bsV t) m5 ((bsV t).toList == ([48] : List UInt8))) else (PR.deeds_Number.j0 (s.length + 5) (bsV t) m5 false)))) = some (x, ok) ∧ NumIs s x ok := by
    intro m5 t htl hbad hgood
    have hj : ∀ c : Bool, (c = true → (t = [] ∨ (∃ r, t = 48 :: r ∧ r ≠ []) ∨ (m5 = true ∧ t = [48]))) → (c = false → t ≠ [] ∧ (∀ r, t = 48 :: r → r = []) ∧ (m5 = true → t ≠ [48])) → ∃ x ok, PR.deeds_Number.j0 (s.length + 5) (bsV t) m5 c = some (x, ok) ∧ NumIs s x ok := by
      intro c h1 h2
      cases c with
      | true =>
        rw [PR.deeds_Number.j0, if_pos rfl]
        exact ⟨0, false, rfl, hbad (h1 rfl)⟩
      | false =>
        obtain ⟨g1, g2, g3⟩ := h2 rfl
        rw [PR.deeds_Number.j0, if_neg (by decide), bsV_size]
        have h3 := num_lp t m5 (by omega) t.length (s.length + 4) 0 (by omega) (by omega) (by simp) (by simp [valN])
        rw [show (-((valN (t.take 0) : Nat) : Int)) = 0 by simp [valN], show ((0 : Nat) : Int) = 0 from rfl] at h3
        rw [h3]
        exact ⟨_, _, rfl, hgood _ rfl g1 g2 g3⟩
    rw [bsV_toList, bsV_size]
    cases t with
    | nil => rw [if_pos rfl]; exact hj true (fun _ => .inl rfl) (by simp)
    | cons c r =>
      rw [if_neg (by simp)]
      by_cases h1 : r = []
      · subst h1
        rw [if_neg (by simp)]
        by_cases h2 : m5 = true
        · rw [if_pos h2]
          by_cases h3 : c = 48
          · subst h3
            exact hj _ (fun _ => .inr (.inr ⟨h2, rfl⟩)) (fun e => by simp at e)
          · exact hj _ (fun e => by simp at e; exact absurd e h3) (fun _ => ⟨by simp, fun r hr => by simpa using (List.cons.inj hr).2.symm, fun _ e => h3 (List.cons.inj e).1⟩)
        · rw [if_neg h2]
          exact hj _ (by simp) (fun _ => ⟨by simp, fun r hr => by simpa using (List.cons.inj hr).2.symm, fun e => absurd e h2⟩)
      · have hrl : 0 < r.length := List.length_pos_iff.2 h1
        rw [if_pos (by simp; omega), if_pos (by simp)]
        have hb := bt_bs (c :: r) 0 (by simp)
        rw [show ((0 : Nat) : Int) = 0 from rfl] at hb
        rw [hb]
        by_cases h3 : c = 48
        · subst h3
          rw [if_pos (by rfl)]
          exact hj true (fun _ => .inr (.inl ⟨r, rfl, h1⟩)) (by simp)
        · have h4 : ¬ (((c :: r)[0].toNat : Nat) : Int) = 48 := fun e => h3 (UInt8.toNat_inj.1 (show c.toNat = 48 by
            have e2 : ((c.toNat : Nat) : Int) = 48 := e
            omega))
          rw [if_neg h4]
          have hg : (c :: r) ≠ [] ∧ (∀ x, c :: r = 48 :: x → x = []) ∧ (m5 = true → c :: r ≠ [48]) := ⟨by simp, fun x hx => absurd (List.cons.inj hx).1 h3, fun _ e => h3 (List.cons.inj e).1⟩
          by_cases h2 : m5 = true
          · rw [if_pos h2]
            exact hj _ (fun e => by simp at e; exact absurd e.1 h3) (fun _ => hg)
          · rw [if_neg h2]
            exact hj _ (by simp) (fun _ => hg)
  unfold PR.deeds_Number.f
  rcases tail_of s with ⟨t, hs, _⟩ | ⟨hh, _⟩
  · subst hs
    rw [cut_minus, Option.bind_some]
    refine hbody true t (by simp) (fun hb => ?_) (fun r hr g1 g2 g3 => num_fin_minus g1 (g3 rfl) g2 r hr)
    · refine numS_minus_no (fun e => ?_)
      rcases hb with h | ⟨r, h, h2⟩ | ⟨_, h⟩
      · exact e.1.1 h
      · exact h2 (e.1.2.2 r h)
      · rw [h] at e
        exact absurd e.2.1 (by decide)
  · rw [cut_plain hh, Option.bind_some]
    refine hbody false s (Nat.le_refl _) (fun hb => ?_) (fun r hr g1 g2 g3 => num_fin_plus hh g1 g2 r hr)
    · refine numS_plus_no hh (fun e => ?_)
      rcases hb with h | ⟨r, h, h2⟩ | ⟨h, _⟩
      · exact e.1.1 h
      · exact h2 (e.1.2.2 r h)
      · cases h
end Go.Proofs.YtgfljpchdiapeaaDoor
namespace Go.Proofs.YtgfljpchdiapeaaDoor
set_option linter.unusedVariables false
set_option linter.unusedSimpArgs false
open Go.RowKit Go.Proofs.YtgfljpchdiapeaaDoorW.PrintWords
attribute [local go_sem ↓] Go.wp_at_zero Go.wp_at_succ
theorem num_any (s : Bs) (hl : s.length < 100000000) (w : World) : Calls Tryd.prog 64 #[.string (bsV s)] w fun e w' => ∃ x ok, e = .returned (.tuple #[.int .i64 x, .bool ok]) ∧ NumIs s x ok ∧ Below w.heap.size w w' := by
  obtain ⟨x, ok, h1, h2⟩ := number_f s hl
  exact (PR.deeds_Number.calls _ (bsV s) x ok w h1).mono fun e w' ⟨he, n, hn⟩ => ⟨x, ok, he, h2, by rw [hn]; exact Drawn0.below ⟨n, rfl⟩⟩
theorem bsV_get (l : Bs) (i : Nat) (h : i < (bsV l).size) : (bsV l)[i]'h = l[i]'(by rw [bsV_size] at h; exact h) := rfl
attribute [local go_sem] bsV_get bsV_size bsV_toList
def NumPost (s : Bs) (w : World) (e : Ending) (w' : World) : Prop := ∃ x ok, e = .returned (.tuple #[.int .i64 x, .bool ok]) ∧ NumIs s x ok ∧ Below w.heap.size w w'
theorem num_try {s : Bs} {x : Int} (h0 : -9223372036854775808 ≤ x) (h1 : x ≤ 9223372036854775807) (hu : ∀ n : Int, decS n = s → n = x) : (decS x = s → NumIs s x true) ∧ (decS x ≠ s → NumIs s 0 false) :=
  ⟨fun h => numS_is h0 h1 h, fun h => numS_no fun n _ _ e => h (by rw [← hu n e]; exact e)⟩
set_option maxHeartbeats 2000000 in
set_option maxRecDepth 100000 in
theorem refNum_any (s : Bs) (hl : Hid (s.length < 100000000)) (w : World) : Calls Tryd.prog 84 #[.string (bsV s)] w (NumPost s w) := by
  have hcase : (∃ t, s = 45 :: t) ∨ s = [] ∨ ∃ c r, s = c :: r ∧ c ≠ 45 := by
    cases s with
    | nil => exact .inr (.inl rfl)
    | cons c r =>
      by_cases h : c = 45
      · exact .inl ⟨r, by rw [h]⟩
      · exact .inr (.inr ⟨c, r, rfl, h⟩)
  rcases hcase with ⟨t, hs⟩ | hs | ⟨c0, r0, hs, hc0⟩
  · subst hs
    have hext := ext1 45 t
    rw [bsV_size, List.length_cons] at hext
    have hq : (0 : Int) < (t.length : Int) + 1 := by omega
    by_cases hg : t.length = 0 ∨ 19 < t.length
    · have HN := Lib.hid (show NumIs (45 :: t) 0 false from numS_minus_no (fun e => by
        rcases hg with h | h
        · exact e.1.1 (List.length_eq_zero_iff.1 h)
        · have := dec_len20 e.2.2
          rw [dec_val t e.1] at this
          omega))
      have hg2 : ((t.length : Int) == 0) = true ∨ ((t.length : Int) == 0) = false ∧ decide ((19 : Int) < (t.length : Int)) = true := by
        by_cases h : t.length = 0
        · exact .inl (beq_iff_eq.2 (by omega))
        · exact .inr ⟨beq_eq_false_iff_ne.2 (by omega), decide_eq_true (by omega)⟩
      clear hg
      rcases hg2 with k1 | ⟨k1, k2⟩
      all_goals
        go_enter Tryd.func84, Tryd.ntmps84
        go_wp2_with fail
        go_ret2
        exact ⟨0, false, rfl, HN.out, Below.refl _ _⟩
    · have k1 : ((t.length : Int) == 0) = false := beq_eq_false_iff_ne.2 (by omega)
      have k2 : decide ((19 : Int) < (t.length : Int)) = false := decide_eq_false (by omega)
      have ht19 : t.length ≤ 19 := by omega
      clear hg
      go_enter Tryd.func84, Tryd.ntmps84
      go_wp2_with fail
      go_loop [6, 7] (fun n iv => ∃ (i V : Nat), i ≤ t.length ∧ iv = .int .i64 i ∧ n = .int .i64 (-(V : Int)) ∧ Hid (V = valN (t.take i) ∧ (∀ c ∈ t.take i, isDig c = true) ∧ V ≤ 9223372036854775808)) (fun _ iv => t.length - (intOf iv).toNat)
      case atStart => exact ⟨0, 0, Nat.zero_le _, rfl, rfl, by simp [valN], by simp, by decide⟩
      case round =>
        obtain ⟨i, V, hi, rfl, rfl, HI⟩ := hrel
        by_cases hlt : i < t.length
        · have i1 : (0 : Int) ≤ (i : Int) := by omega
          have i2 : (i : Int) < (t.length : Int) := by omega
          have htk : t.take (i + 1) = t.take i ++ [t[i]] := List.take_succ_eq_append_getElem hlt
          obtain ⟨ch, hch⟩ : ∃ ch, ch = t[i] := ⟨_, rfl⟩
          have HCH := Lib.hid hch
          rw [← hch] at htk
          have HTK := Lib.hid htk
          have hc8 := ch.toNat_lt
          have hgi : t[i] = ch := hch.symm
          clear hch htk
          have HBAD := Lib.hid (show ¬ (isDig ch = true ∧ V * 10 + (ch.toNat - 48) ≤ 9223372036854775808) → NumIs (45 :: t) 0 false from fun hn => numS_minus_no (fun e => hn ⟨e.1.2.1 ch (by rw [HCH.out]; exact List.getElem_mem hlt), by
            have hm := val_mono (t.take (i + 1)) (t.drop (i + 1))
            rw [List.take_append_drop, HTK.out, valN_snoc, ← HI.out.1] at hm
            have := e.2.2
            omega⟩))
          have HDI := Lib.hid (dig_iff ch)
          go_wp2_with fail
          all_goals first
          | (go_round
             case rel => exact ⟨i + 1, V * 10 + (ch.toNat - 48), by omega, by go_num, congrArg (Value.int .i64) (by omega), by rw [HTK.out, valN_snoc, ← HI.out.1], fun x hx => by
               rw [HTK.out] at hx
               rcases List.mem_append.1 hx with h | h
               · exact HI.out.2.1 x h
               · rw [List.mem_singleton.1 h]
                 exact HDI.out.2 (by omega), by omega⟩
             case measure => simp [intOf]; omega)
          | (go_ret2
             exact ⟨0, false, rfl, HBAD.out (fun e => by have := HDI.out.1 e.1; have := e.2; omega), Below.refl _ _⟩)
        · have hiL : i = t.length := by omega
          have hi3 : ¬ (i : Int) < (t.length : Int) := by omega
          have HV := Lib.hid (show V = valN t ∧ (∀ c ∈ t, isDig c = true) ∧ V ≤ 9223372036854775808 by
            have h := HI.out
            rw [hiL, List.take_length] at h
            exact h)
          clear hiL HI
          obtain ⟨T1, T2⟩ := num_try (s := 45 :: t) (x := -(V : Int)) (by have := HV.out.2.2; omega) (by omega) (fun n e => by
            unfold decS at e
            split at e
            · rename_i hn
              have e2 := congrArg valN (List.cons.inj e).2
              rw [val_dec, ← HV.out.1] at e2
              omega
            · exact absurd e (dec_minus _ _))
          have HT1 := Lib.hid T1
          have HT2 := Lib.hid T2
          have HRD := Lib.hid (refDec_any (-(V : Int)) (show Hid _ from ⟨by have := HV.out.2.2; omega, by omega⟩) w)
          clear T1 T2
          generalize decS (-(V : Int)) = ds at *
          by_cases heq : ds = 45 :: t
          · have hb : (ds == 45 :: t) = true := by simpa using heq
            have HF := Lib.hid (HT1.out heq)
            clear heq HT1 HT2
            go_wp2_with fail
            refine HRD.out.mono ?_
            rintro e w1 ⟨rfl, hb1⟩
            have HB1 := Lib.hid hb1
            clear hb1
            go_wp2_with fail
            go_ret2
            exact ⟨_, true, rfl, HF.out, HB1.out⟩
          · have hb : (ds == 45 :: t) = false := by simpa using heq
            have HF := Lib.hid (HT2.out heq)
            clear heq HT1 HT2
            go_wp2_with fail
            refine HRD.out.mono ?_
            rintro e w1 ⟨rfl, hb1⟩
            have HB1 := Lib.hid hb1
            clear hb1
            go_wp2_with fail
            go_ret2
            exact ⟨0, false, rfl, HF.out, HB1.out⟩
  · subst hs
    have HN := Lib.hid (show NumIs [] 0 false from numS_plus_no (by simp) (fun e => e.1.1 rfl))
    go_enter Tryd.func84, Tryd.ntmps84
    go_wp2_with fail
    go_ret2
    exact ⟨0, false, rfl, HN.out, Below.refl _ _⟩
  · obtain ⟨t, ht⟩ : ∃ t, t = s := ⟨_, rfl⟩
    have hpos : 0 < t.length := by rw [ht, hs]; simp
    have hhd : t.head? ≠ some 45 := by rw [ht, hs]; simpa using hc0
    have HH := Lib.hid hhd
    have hz0 : ((t[0].toNat : Nat) : Int) ≠ 45 := fun e => hc0 (UInt8.toNat_inj.1 (show c0.toNat = 45 by
      have e2 : t[0] = c0 := by
        subst ht
        subst hs
        rfl
      rw [e2] at e
      omega))
    have k0 : (((t[0].toNat : Nat) : Int) == 45) = false := beq_eq_false_iff_ne.2 hz0
    have hq : (0 : Int) < (t.length : Int) := by omega
    subst ht
    clear hs hhd hz0
    by_cases hg : t.length = 0 ∨ 19 < t.length
    · have HN := Lib.hid (show NumIs t 0 false from numS_plus_no HH.out (fun e => by
        rcases hg with h | h
        · exact e.1.1 (List.length_eq_zero_iff.1 h)
        · have := dec_len20 (n := valN t) (by have := e.2; omega)
          rw [dec_val t e.1] at this
          omega))
      have hg2 : ((t.length : Int) == 0) = true ∨ ((t.length : Int) == 0) = false ∧ decide ((19 : Int) < (t.length : Int)) = true := by
        by_cases h : t.length = 0
        · exact .inl (beq_iff_eq.2 (by omega))
        · exact .inr ⟨beq_eq_false_iff_ne.2 (by omega), decide_eq_true (by omega)⟩
      clear hg
      rcases hg2 with k1 | ⟨k1, k2⟩
      all_goals
        go_enter Tryd.func84, Tryd.ntmps84
        go_wp2_with fail
        go_ret2
        exact ⟨0, false, rfl, HN.out, Below.refl _ _⟩
    · have k1 : ((t.length : Int) == 0) = false := beq_eq_false_iff_ne.2 (by omega)
      have k2 : decide ((19 : Int) < (t.length : Int)) = false := decide_eq_false (by omega)
      have ht19 : t.length ≤ 19 := by omega
      clear hg
      go_enter Tryd.func84, Tryd.ntmps84
      go_wp2_with fail
      go_loop [6, 7] (fun n iv => ∃ (i V : Nat), i ≤ t.length ∧ iv = .int .i64 i ∧ n = .int .i64 (-(V : Int)) ∧ Hid (V = valN (t.take i) ∧ (∀ c ∈ t.take i, isDig c = true) ∧ V ≤ 9223372036854775808)) (fun _ iv => t.length - (intOf iv).toNat)
      case atStart => exact ⟨0, 0, Nat.zero_le _, rfl, rfl, by simp [valN], by simp, by decide⟩
      case round =>
        obtain ⟨i, V, hi, rfl, rfl, HI⟩ := hrel
        by_cases hlt : i < t.length
        · have i1 : (0 : Int) ≤ (i : Int) := by omega
          have i2 : (i : Int) < (t.length : Int) := by omega
          have htk : t.take (i + 1) = t.take i ++ [t[i]] := List.take_succ_eq_append_getElem hlt
          obtain ⟨ch, hch⟩ : ∃ ch, ch = t[i] := ⟨_, rfl⟩
          have HCH := Lib.hid hch
          rw [← hch] at htk
          have HTK := Lib.hid htk
          have hc8 := ch.toNat_lt
          have hgi : t[i] = ch := hch.symm
          clear hch htk
          have HBAD := Lib.hid (show ¬ (isDig ch = true ∧ V * 10 + (ch.toNat - 48) ≤ 9223372036854775808) → NumIs t 0 false from fun hn => numS_plus_no HH.out (fun e => hn ⟨e.1.2.1 ch (by rw [HCH.out]; exact List.getElem_mem hlt), by
            have hm := val_mono (t.take (i + 1)) (t.drop (i + 1))
            rw [List.take_append_drop, HTK.out, valN_snoc, ← HI.out.1] at hm
            have := e.2
            omega⟩))
          have HDI := Lib.hid (dig_iff ch)
          go_wp2_with fail
          all_goals first
          | (go_round
             case rel => exact ⟨i + 1, V * 10 + (ch.toNat - 48), by omega, by go_num, congrArg (Value.int .i64) (by omega), by rw [HTK.out, valN_snoc, ← HI.out.1], fun x hx => by
               rw [HTK.out] at hx
               rcases List.mem_append.1 hx with h | h
               · exact HI.out.2.1 x h
               · rw [List.mem_singleton.1 h]
                 exact HDI.out.2 (by omega), by omega⟩
             case measure => simp [intOf]; omega)
          | (go_ret2
             exact ⟨0, false, rfl, HBAD.out (fun e => by have := HDI.out.1 e.1; have := e.2; omega), Below.refl _ _⟩)
        · have hiL : i = t.length := by omega
          have hi3 : ¬ (i : Int) < (t.length : Int) := by omega
          have HV := Lib.hid (show V = valN t ∧ (∀ c ∈ t, isDig c = true) ∧ V ≤ 9223372036854775808 by
            have h := HI.out
            rw [hiL, List.take_length] at h
            exact h)
          clear hiL HI
          by_cases hmx : V ≤ 9223372036854775807
          · obtain ⟨T1, T2⟩ := num_try (s := t) (x := (V : Int)) (by omega) (by omega) (fun n e => by
              unfold decS at e
              split at e
              · exact absurd (by rw [← e]; rfl) HH.out
              · rename_i hn
                have e2 := congrArg valN e
                rw [val_dec, ← HV.out.1] at e2
                omega)
            have HT1 := Lib.hid T1
            have HT2 := Lib.hid T2
            have HRD := Lib.hid (refDec_any (V : Int) (show Hid _ from ⟨by omega, by omega⟩) w)
            have hnm : (V : Int) ≤ 9223372036854775807 := by omega
            have hwv := wrap_m hmx
            clear T1 T2 hmx
            generalize decS (V : Int) = ds at *
            by_cases heq : ds = t
            · have hb : (ds == t) = true := by simpa using heq
              have HF := Lib.hid (HT1.out heq)
              clear heq HT1 HT2
              go_wp2_with fail
              refine HRD.out.mono ?_
              rintro e w1 ⟨rfl, hb1⟩
              have HB1 := Lib.hid hb1
              clear hb1
              go_wp2_with fail
              go_ret2
              exact ⟨_, true, rfl, HF.out, HB1.out⟩
            · have hb : (ds == t) = false := by simpa using heq
              have HF := Lib.hid (HT2.out heq)
              clear heq HT1 HT2
              go_wp2_with fail
              refine HRD.out.mono ?_
              rintro e w1 ⟨rfl, hb1⟩
              have HB1 := Lib.hid hb1
              clear hb1
              go_wp2_with fail
              go_ret2
              exact ⟨0, false, rfl, HF.out, HB1.out⟩
          · have HF := Lib.hid (show NumIs t 0 false from numS_plus_no HH.out (fun e => hmx (by rw [HV.out.1]; exact e.2)))
            have hnm : ¬ (V : Int) ≤ 9223372036854775807 := by omega
            have hnm2 : (9223372036854775807 : Int) < (V : Int) := by omega
            clear hmx
            go_wp2_with fail
            go_ret2
            exact ⟨0, false, rfl, HF.out, Below.refl _ _⟩
end Go.Proofs.YtgfljpchdiapeaaDoor
namespace Go.Proofs.YtgfljpchdiapeaaDoor
set_option linter.unusedVariables false
set_option linter.unusedSimpArgs false
open Go.RowKit Go.Proofs.YtgfljpchdiapeaaDoorW.PrintWords
attribute [local go_sem ↓] Go.wp_at_zero Go.wp_at_succ
attribute [local go_sem] bsV_get bsV_size bsV_toList
def NumPost0 (s : Bs) (w : World) (e : Ending) (w' : World) : Prop := ∃ x ok, e = .returned (.tuple #[.int .i64 x, .bool ok]) ∧ (NumIs s x ok ∧ (ok = false → x = 0)) ∧ Below w.heap.size w w'
def numV (s : Bs) : Int × Bool := match numS s with
  | some x => (x, true)
  | none => (0, false)
theorem numV_is {s : Bs} {x : Int} {ok : Bool} (h : NumIs s x ok ∧ (ok = false → x = 0)) : (x, ok) = numV s := by
  obtain ⟨h1, h2⟩ := h
  unfold NumIs at h1
  unfold numV
  cases ok with
  | true => rw [h1]; rfl
  | false => rw [h1, h2 rfl]; rfl
set_option maxHeartbeats 2000000 in
set_option maxRecDepth 100000 in
theorem refNum0_any (s : Bs) (hl : Hid (s.length < 100000000)) (w : World) : Calls Tryd.prog 84 #[.string (bsV s)] w (NumPost0 s w) := by
  have hcase : (∃ t, s = 45 :: t) ∨ s = [] ∨ ∃ c r, s = c :: r ∧ c ≠ 45 := by
    cases s with
    | nil => exact .inr (.inl rfl)
    | cons c r =>
      by_cases h : c = 45
      · exact .inl ⟨r, by rw [h]⟩
      · exact .inr (.inr ⟨c, r, rfl, h⟩)
  rcases hcase with ⟨t, hs⟩ | hs | ⟨c0, r0, hs, hc0⟩
  · subst hs
    have hext := ext1 45 t
    rw [bsV_size, List.length_cons] at hext
    have hq : (0 : Int) < (t.length : Int) + 1 := by omega
    by_cases hg : t.length = 0 ∨ 19 < t.length
    · have HN := Lib.hid (show NumIs (45 :: t) 0 false from numS_minus_no (fun e => by
        rcases hg with h | h
        · exact e.1.1 (List.length_eq_zero_iff.1 h)
        · have := dec_len20 e.2.2
          rw [dec_val t e.1] at this
          omega))
      have hg2 : ((t.length : Int) == 0) = true ∨ ((t.length : Int) == 0) = false ∧ decide ((19 : Int) < (t.length : Int)) = true := by
        by_cases h : t.length = 0
        · exact .inl (beq_iff_eq.2 (by omega))
        · exact .inr ⟨beq_eq_false_iff_ne.2 (by omega), decide_eq_true (by omega)⟩
      clear hg
      rcases hg2 with k1 | ⟨k1, k2⟩
      all_goals
        go_enter Tryd.func84, Tryd.ntmps84
        go_wp2_with fail
        go_ret2
        exact ⟨0, false, rfl, ⟨HN.out, fun _ => rfl⟩, Below.refl _ _⟩
    · have k1 : ((t.length : Int) == 0) = false := beq_eq_false_iff_ne.2 (by omega)
      have k2 : decide ((19 : Int) < (t.length : Int)) = false := decide_eq_false (by omega)
      have ht19 : t.length ≤ 19 := by omega
      clear hg
      go_enter Tryd.func84, Tryd.ntmps84
      go_wp2_with fail
      go_loop [6, 7] (fun n iv => ∃ (i V : Nat), i ≤ t.length ∧ iv = .int .i64 i ∧ n = .int .i64 (-(V : Int)) ∧ Hid (V = valN (t.take i) ∧ (∀ c ∈ t.take i, isDig c = true) ∧ V ≤ 9223372036854775808)) (fun _ iv => t.length - (intOf iv).toNat)
      case atStart => exact ⟨0, 0, Nat.zero_le _, rfl, rfl, by simp [valN], by simp, by decide⟩
      case round =>
        obtain ⟨i, V, hi, rfl, rfl, HI⟩ := hrel
        by_cases hlt : i < t.length
        · have i1 : (0 : Int) ≤ (i : Int) := by omega
          have i2 : (i : Int) < (t.length : Int) := by omega
          have htk : t.take (i + 1) = t.take i ++ [t[i]] := List.take_succ_eq_append_getElem hlt
          obtain ⟨ch, hch⟩ : ∃ ch, ch = t[i] := ⟨_, rfl⟩
          have HCH := Lib.hid hch
          rw [← hch] at htk
          have HTK := Lib.hid htk
          have hc8 := ch.toNat_lt
          have hgi : t[i] = ch := hch.symm
          clear hch htk
          have HBAD := Lib.hid (show ¬ (isDig ch = true ∧ V * 10 + (ch.toNat - 48) ≤ 9223372036854775808) → NumIs (45 :: t) 0 false from fun hn => numS_minus_no (fun e => hn ⟨e.1.2.1 ch (by rw [HCH.out]; exact List.getElem_mem hlt), by
            have hm := val_mono (t.take (i + 1)) (t.drop (i + 1))
            rw [List.take_append_drop, HTK.out, valN_snoc, ← HI.out.1] at hm
            have := e.2.2
            omega⟩))
          have HDI := Lib.hid (dig_iff ch)
          go_wp2_with fail
          all_goals first
          | (go_round
             case rel => exact ⟨i + 1, V * 10 + (ch.toNat - 48), by omega, by go_num, congrArg (Value.int .i64) (by omega), by rw [HTK.out, valN_snoc, ← HI.out.1], fun x hx => by
               rw [HTK.out] at hx
               rcases List.mem_append.1 hx with h | h
               · exact HI.out.2.1 x h
               · rw [List.mem_singleton.1 h]
                 exact HDI.out.2 (by omega), by omega⟩
             case measure => simp [intOf]; omega)
          | (go_ret2
             exact ⟨0, false, rfl, ⟨HBAD.out (fun e => by have := HDI.out.1 e.1; have := e.2; omega), fun _ => rfl⟩, Below.refl _ _⟩)
        · have hiL : i = t.length := by omega
          have hi3 : ¬ (i : Int) < (t.length : Int) := by omega
          have HV := Lib.hid (show V = valN t ∧ (∀ c ∈ t, isDig c = true) ∧ V ≤ 9223372036854775808 by
            have h := HI.out
            rw [hiL, List.take_length] at h
            exact h)
          clear hiL HI
          obtain ⟨T1, T2⟩ := num_try (s := 45 :: t) (x := -(V : Int)) (by have := HV.out.2.2; omega) (by omega) (fun n e => by
            unfold decS at e
            split at e
            · rename_i hn
              have e2 := congrArg valN (List.cons.inj e).2
              rw [val_dec, ← HV.out.1] at e2
              omega
            · exact absurd e (dec_minus _ _))
          have HT1 := Lib.hid T1
          have HT2 := Lib.hid T2
          have HRD := Lib.hid (refDec_any (-(V : Int)) (show Hid _ from ⟨by have := HV.out.2.2; omega, by omega⟩) w)
          clear T1 T2
          generalize decS (-(V : Int)) = ds at *
          by_cases heq : ds = 45 :: t
          · have hb : (ds == 45 :: t) = true := by simpa using heq
            have HF := Lib.hid (HT1.out heq)
            clear heq HT1 HT2
            go_wp2_with fail
            refine HRD.out.mono ?_
            rintro e w1 ⟨rfl, hb1⟩
            have HB1 := Lib.hid hb1
            clear hb1
            go_wp2_with fail
            go_ret2
            exact ⟨_, true, rfl, ⟨HF.out, fun h => by cases h⟩, HB1.out⟩
          · have hb : (ds == 45 :: t) = false := by simpa using heq
            have HF := Lib.hid (HT2.out heq)
            clear heq HT1 HT2
            go_wp2_with fail
            refine HRD.out.mono ?_
            rintro e w1 ⟨rfl, hb1⟩
            have HB1 := Lib.hid hb1
            clear hb1
            go_wp2_with fail
            go_ret2
            exact ⟨0, false, rfl, ⟨HF.out, fun _ => rfl⟩, HB1.out⟩
  · subst hs
    have HN := Lib.hid (show NumIs [] 0 false from numS_plus_no (by simp) (fun e => e.1.1 rfl))
    go_enter Tryd.func84, Tryd.ntmps84
    go_wp2_with fail
    go_ret2
    exact ⟨0, false, rfl, ⟨HN.out, fun _ => rfl⟩, Below.refl _ _⟩
  · obtain ⟨t, ht⟩ : ∃ t, t = s := ⟨_, rfl⟩
    have hpos : 0 < t.length := by rw [ht, hs]; simp
    have hhd : t.head? ≠ some 45 := by rw [ht, hs]; simpa using hc0
    have HH := Lib.hid hhd
    have hz0 : ((t[0].toNat : Nat) : Int) ≠ 45 := fun e => hc0 (UInt8.toNat_inj.1 (show c0.toNat = 45 by
      have e2 : t[0] = c0 := by
        subst ht
        subst hs
        rfl
      rw [e2] at e
      omega))
    have k0 : (((t[0].toNat : Nat) : Int) == 45) = false := beq_eq_false_iff_ne.2 hz0
    have hq : (0 : Int) < (t.length : Int) := by omega
    subst ht
    clear hs hhd hz0
    by_cases hg : t.length = 0 ∨ 19 < t.length
    · have HN := Lib.hid (show NumIs t 0 false from numS_plus_no HH.out (fun e => by
        rcases hg with h | h
        · exact e.1.1 (List.length_eq_zero_iff.1 h)
        · have := dec_len20 (n := valN t) (by have := e.2; omega)
          rw [dec_val t e.1] at this
          omega))
      have hg2 : ((t.length : Int) == 0) = true ∨ ((t.length : Int) == 0) = false ∧ decide ((19 : Int) < (t.length : Int)) = true := by
        by_cases h : t.length = 0
        · exact .inl (beq_iff_eq.2 (by omega))
        · exact .inr ⟨beq_eq_false_iff_ne.2 (by omega), decide_eq_true (by omega)⟩
      clear hg
      rcases hg2 with k1 | ⟨k1, k2⟩
      all_goals
        go_enter Tryd.func84, Tryd.ntmps84
        go_wp2_with fail
        go_ret2
        exact ⟨0, false, rfl, ⟨HN.out, fun _ => rfl⟩, Below.refl _ _⟩
    · have k1 : ((t.length : Int) == 0) = false := beq_eq_false_iff_ne.2 (by omega)
      have k2 : decide ((19 : Int) < (t.length : Int)) = false := decide_eq_false (by omega)
      have ht19 : t.length ≤ 19 := by omega
      clear hg
      go_enter Tryd.func84, Tryd.ntmps84
      go_wp2_with fail
      go_loop [6, 7] (fun n iv => ∃ (i V : Nat), i ≤ t.length ∧ iv = .int .i64 i ∧ n = .int .i64 (-(V : Int)) ∧ Hid (V = valN (t.take i) ∧ (∀ c ∈ t.take i, isDig c = true) ∧ V ≤ 9223372036854775808)) (fun _ iv => t.length - (intOf iv).toNat)
      case atStart => exact ⟨0, 0, Nat.zero_le _, rfl, rfl, by simp [valN], by simp, by decide⟩
      case round =>
        obtain ⟨i, V, hi, rfl, rfl, HI⟩ := hrel
        by_cases hlt : i < t.length
        · have i1 : (0 : Int) ≤ (i : Int) := by omega
          have i2 : (i : Int) < (t.length : Int) := by omega
          have htk : t.take (i + 1) = t.take i ++ [t[i]] := List.take_succ_eq_append_getElem hlt
          obtain ⟨ch, hch⟩ : ∃ ch, ch = t[i] := ⟨_, rfl⟩
          have HCH := Lib.hid hch
          rw [← hch] at htk
          have HTK := Lib.hid htk
          have hc8 := ch.toNat_lt
          have hgi : t[i] = ch := hch.symm
          clear hch htk
          have HBAD := Lib.hid (show ¬ (isDig ch = true ∧ V * 10 + (ch.toNat - 48) ≤ 9223372036854775808) → NumIs t 0 false from fun hn => numS_plus_no HH.out (fun e => hn ⟨e.1.2.1 ch (by rw [HCH.out]; exact List.getElem_mem hlt), by
            have hm := val_mono (t.take (i + 1)) (t.drop (i + 1))
            rw [List.take_append_drop, HTK.out, valN_snoc, ← HI.out.1] at hm
            have := e.2
            omega⟩))
          have HDI := Lib.hid (dig_iff ch)
          go_wp2_with fail
          all_goals first
          | (go_round
             case rel => exact ⟨i + 1, V * 10 + (ch.toNat - 48), by omega, by go_num, congrArg (Value.int .i64) (by omega), by rw [HTK.out, valN_snoc, ← HI.out.1], fun x hx => by
               rw [HTK.out] at hx
               rcases List.mem_append.1 hx with h | h
               · exact HI.out.2.1 x h
               · rw [List.mem_singleton.1 h]
                 exact HDI.out.2 (by omega), by omega⟩
             case measure => simp [intOf]; omega)
          | (go_ret2
             exact ⟨0, false, rfl, ⟨HBAD.out (fun e => by have := HDI.out.1 e.1; have := e.2; omega), fun _ => rfl⟩, Below.refl _ _⟩)
        · have hiL : i = t.length := by omega
          have hi3 : ¬ (i : Int) < (t.length : Int) := by omega
          have HV := Lib.hid (show V = valN t ∧ (∀ c ∈ t, isDig c = true) ∧ V ≤ 9223372036854775808 by
            have h := HI.out
            rw [hiL, List.take_length] at h
            exact h)
          clear hiL HI
          by_cases hmx : V ≤ 9223372036854775807
          · obtain ⟨T1, T2⟩ := num_try (s := t) (x := (V : Int)) (by omega) (by omega) (fun n e => by
              unfold decS at e
              split at e
              · exact absurd (by rw [← e]; rfl) HH.out
              · rename_i hn
                have e2 := congrArg valN e
                rw [val_dec, ← HV.out.1] at e2
                omega)
            have HT1 := Lib.hid T1
            have HT2 := Lib.hid T2
            have HRD := Lib.hid (refDec_any (V : Int) (show Hid _ from ⟨by omega, by omega⟩) w)
            have hnm : (V : Int) ≤ 9223372036854775807 := by omega
            have hwv := wrap_m hmx
            clear T1 T2 hmx
            generalize decS (V : Int) = ds at *
            by_cases heq : ds = t
            · have hb : (ds == t) = true := by simpa using heq
              have HF := Lib.hid (HT1.out heq)
              clear heq HT1 HT2
              go_wp2_with fail
              refine HRD.out.mono ?_
              rintro e w1 ⟨rfl, hb1⟩
              have HB1 := Lib.hid hb1
              clear hb1
              go_wp2_with fail
              go_ret2
              exact ⟨_, true, rfl, ⟨HF.out, fun h => by cases h⟩, HB1.out⟩
            · have hb : (ds == t) = false := by simpa using heq
              have HF := Lib.hid (HT2.out heq)
              clear heq HT1 HT2
              go_wp2_with fail
              refine HRD.out.mono ?_
              rintro e w1 ⟨rfl, hb1⟩
              have HB1 := Lib.hid hb1
              clear hb1
              go_wp2_with fail
              go_ret2
              exact ⟨0, false, rfl, ⟨HF.out, fun _ => rfl⟩, HB1.out⟩
          · have HF := Lib.hid (show NumIs t 0 false from numS_plus_no HH.out (fun e => hmx (by rw [HV.out.1]; exact e.2)))
            have hnm : ¬ (V : Int) ≤ 9223372036854775807 := by omega
            have hnm2 : (9223372036854775807 : Int) < (V : Int) := by omega
            clear hmx
            go_wp2_with fail
            go_ret2
            exact ⟨0, false, rfl, ⟨HF.out, fun _ => rfl⟩, Below.refl _ _⟩
theorem refNumV (a : ByteArray) (hl : a.data.toList.length < 100000000) (w : World) : Calls Tryd.prog 84 #[.string a] w fun e w' => e = .returned (.tuple #[.int .i64 (numV a.data.toList).1, .bool (numV a.data.toList).2]) ∧ Below w.heap.size w w' := by
  have h := refNum0_any a.data.toList (Lib.hid hl) w
  rw [show bsV a.data.toList = a from by cases a; simp [bsV]] at h
  exact h.mono fun e w' ⟨x, ok, he, hn, hb⟩ => ⟨by rw [he, ← numV_is hn], hb⟩
end Go.Proofs.YtgfljpchdiapeaaDoor
