/- A deed in memory; the words of its line; strings.Join. A deed as a line: deeds.Line. A deed as a line, by the document: Line, list. Rows of deeds; deeds as a text: Text, both ways. -/
import Derived.Test.YtbckbpimabmacaaDoorG3
import Derived.Lib.OthersKept
namespace Go.Proofs.YtbckbpimabmacaaDoor
set_option linter.unusedVariables false
set_option linter.unusedSimpArgs false
open Go.RowKit Go.Proofs.YtbckbpimabmacaaDoorW.PrintWords

/-- The word that stands for a letter of a kind's parts. -/
def segS (d : Dd) (c : UInt8) : List Bs :=
  if c = 110 then [decS d.node] else if c = 107 then [quoS d.key] else if c = 118 then [quoS d.value] else if c = 105 then [decS d.n] else if c = 97 then [decS d.at_]
  else if c = 98 then [decS d.by_] else if c = 100 then [decS d.draw] else if c = 108 then d.keep.map decS else []
theorem tail_seg (d : Dd) : tailW d = (partsS d.kind).flatMap (segS d) := by
  unfold tailW partsS
  by_cases k1 : d.kind = 1
  · rw [if_pos k1, if_pos k1]; rfl
  rw [if_neg k1, if_neg k1]
  by_cases k2 : d.kind = 2
  · rw [if_pos k2, if_pos k2]; rfl
  rw [if_neg k2, if_neg k2]
  by_cases k3 : d.kind = 3
  · rw [if_pos k3, if_pos k3]; rfl
  rw [if_neg k3, if_neg k3]
  by_cases k4 : d.kind = 4 ∨ d.kind = 5 ∨ d.kind = 6
  · rw [if_pos k4, if_pos k4]; rfl
  rw [if_neg k4, if_neg k4]
  by_cases k7 : d.kind = 7
  · rw [if_pos k7, if_pos k7]; rfl
  rw [if_neg k7, if_neg k7]
  by_cases k8 : d.kind = 8
  · rw [if_pos k8, if_pos k8]; rfl
  rw [if_neg k8, if_neg k8]
  by_cases k10 : d.kind = 10
  · rw [if_pos k10, if_pos k10]; rfl
  rw [if_neg k10, if_neg k10]
  by_cases k15 : d.kind = 15
  · rw [if_pos k15, if_pos k15]; rfl
  rw [if_neg k15, if_neg k15]
  by_cases k16 : d.kind = 16
  · rw [if_pos k16, if_pos k16]
    show decS d.node :: d.keep.map decS = [decS d.node] ++ (d.keep.map decS ++ [])
    rw [List.append_nil]
    rfl
  rw [if_neg k16, if_neg k16]; rfl
def Letter (c : UInt8) : Prop := c = 110 ∨ c = 107 ∨ c = 118 ∨ c = 105 ∨ c = 97 ∨ c = 98 ∨ c = 100 ∨ c = 108
instance (c : UInt8) : Decidable (Letter c) := inferInstanceAs (Decidable (_ ∨ _))
theorem parts_letter (k : Int) : ∀ c ∈ partsS k, Letter c := by
  unfold partsS
  repeat (first | decide | split)
theorem parts_len (k : Int) : (partsS k).length ≤ 3 := by
  unfold partsS
  repeat (first | decide | split)
theorem letter_ascii {c : UInt8} (h : Letter c) : c.toNat < 128 := by
  rcases h with rfl | rfl | rfl | rfl | rfl | rfl | rfl | rfl <;> decide

/-- A deed's cells. -/
def dC (d : Dd) (A A' : Option Addr) (c c' : Nat) : Array Value := #[.int .i64 d.kind, .int .i64 d.node, .string (bsV d.key), .slice A d.value.length c, .int .i64 d.n, .int .i64 d.at_, .int .u8 d.by_, .int .u8 d.draw, .slice A' d.keep.length c']
/-- What they say of memory. -/
structure DM (W : World) (d : Dd) (A A' : Option Addr) (c c' : Nat) : Prop where
  capV : d.value.length ≤ c
  capK : d.keep.length ≤ c'
  val : (Kd.int .u8).C W A d.value.length (bI d.value)
  kp : (Kd.int .i64).C W A' d.keep.length d.keep
  ok : okD d
  key : d.key.length ≤ 10000
  vl : d.value.length ≤ 10000
  kl : d.keep.length ≤ 10000
theorem DM.later {W W' : World} {d : Dd} {A A' : Option Addr} {c c' : Nat} (h : DM W d A A' c c') (hb : Below W.heap.size W W') : DM W' d A A' c c' :=
  ⟨h.capV, h.capK, Kd.C_below h.val hb, Kd.C_below h.kp hb, h.ok, h.key, h.vl, h.kl⟩
theorem bytes_C (W : World) (l : Bs) (h : l.length ≤ 100000) : (Kd.int .u8).C (Lib.bytesWorld W 5 (bsV l)) (some ⟨W.heap.size, 0, none⟩) l.length (bI l) := by
  have h1 := bytes_reads W 5 (bsV l) (by rw [bsV_size]; omega)
  have h2 : bytesOf (bsV l) = bI l := by rw [bytesOf, bsV_list]; rfl
  rw [h2, bsV_size] at h1
  exact Kd.C_of_reads (d := (0 : Int)) h1

/-! ### Rows of words -/
def SLs (W : World) (B : Nat) (v : Value) (L : List Bs) : Prop := Kd.R Kd.string 9 W B (fun _ => True) v (L.map bsV)
theorem SLs.cells {W : World} {B : Nat} {v : Value} {L : List Bs} (h : SLs W B v L) : (v = .slice none 0 0 ∧ L = []) ∨ ∃ g c, v = .slice (some ⟨g, 0, none⟩) L.length c ∧ g < W.heap.size ∧ L.length ≤ c ∧ ∀ (j : Nat) x, (L.map bsV)[j]? = some x → W.cell? ⟨g, 0 + j, none⟩ = some (.string x) := by
  have ho := Kd.own_of_R h
  have hl := own_lt ho
  rcases ho.2 with ⟨h1, h2⟩ | ⟨g, cap, cur, h1, hb, hh, hn, _⟩
  · refine .inl ⟨h1, ?_⟩
    rw [List.length_map] at h2
    exact List.length_eq_zero_iff.1 h2
  · rw [List.length_map] at h1
    refine .inr ⟨g, cap, h1, hl g (by rw [h1]; rfl), by rw [List.length_map] at hn; exact hn, fun j x hj => ?_⟩
    have hc := ho.cells (g := g) (by rw [h1]; rfl) j (.string x) (by rw [encs, List.getElem?_map, hj]; rfl)
    rw [add_plain] at hc
    rw [Nat.zero_add]
    exact hc
theorem lib_join (L : List Bs) : Lib.join L [32] = joinS 32 L := by
  match L with
  | [] => rfl
  | [x] => rw [Lib.join_one]; rfl
  | x :: y :: r =>
    have ih := lib_join (y :: r)
    rw [joinS, ← ih]
    simp [Lib.join, List.intercalate, List.intersperse]
theorem map_data (L : List Bs) : (L.map bsV).map (·.data.toList) = L := by
  rw [List.map_map]
  have : (fun x : ByteArray => x.data.toList) ∘ bsV = id := funext bsV_list
  rw [this, List.map_id]
theorem join_len (L : List Bs) (n : Nat) (h : ∀ x ∈ L, x.length ≤ n) : (joinS 32 L).length ≤ L.length * (n + 1) := by
  match L with
  | [] => simp [joinS]
  | [x] =>
    have := h x (by simp)
    show x.length ≤ _
    simp
    omega
  | x :: y :: r =>
    have ih := join_len (y :: r) n (fun z hz => h z (List.mem_cons_of_mem _ hz))
    have := h x (by simp)
    rw [joinS, List.length_append, List.length_cons, List.length_cons, Nat.add_mul]
    omega
theorem join_any {W : World} {B : Nat} {A : Option Addr} {n c : Nat} {L : List Bs} (h : SLs W B (.slice A n c) L) (hl : L.length ≤ 1000000) (hj : (joinS 32 L).length ≤ 1000000000) : Calls Tryd.prog 57 #[.slice A n c, .string ⟨#[32]⟩] W (QS W (joinS 32 L)) := by
  rcases h.cells with ⟨h1, h2⟩ | ⟨g, cp, h1, h2, h3, h4⟩
  · cases h1
    subst h2
    exact (Any.strings_Join_none lyB lyX none 0 ⟨#[32]⟩ W).mono fun e w' ⟨he, hw⟩ => ⟨he, hw ▸ Below.refl _ _⟩
  · cases h1
    have hm : (L.map bsV).length = L.length := List.length_map ..
    have hjj : Lib.join ((L.map bsV).map (·.data.toList)) (⟨#[32]⟩ : ByteArray).data.toList = joinS 32 L := by rw [map_data]; exact lib_join L
    have := Any.strings_Join lyB lyX g 0 c (L.map bsV) ⟨#[32]⟩ W h4 h2 (by rw [hm]; omega) (by rw [hm]; exact h3) (by rw [hjj]; omega)
    rw [hm, hjj] at this
    exact this
end Go.Proofs.YtbckbpimabmacaaDoor
namespace Go.Proofs.YtbckbpimabmacaaDoor
set_option linter.unusedVariables false
set_option linter.unusedSimpArgs false
open Go.RowKit Go.Proofs.YtbckbpimabmacaaDoorW.PrintWords
attribute [local go_sem ↓] Go.wp_at_zero Go.wp_at_succ
attribute [local go_sem] bsV_get bsV_size bsV_toList

theorem bel_alloc (w : World) (o : Obj) : Below w.heap.size w (w.alloc o) := (Below.refl _ _).alloc (Nat.le_refl _) o
theorem R_ne_iter {α : Type} {k : Kd α} {e base g p : Nat} {ok : Nat → Prop} {w : World} {v : Value} {xs : List α} {s : ByteArray} (h : k.R e w base ok v xs) (hb : w.heap[g]? = some (.stringIter s p)) : some g ≠ v.ownBlock := by
  intro he
  obtain ⟨inner, ho⟩ := Kd.R_own h
  obtain ⟨cells, hc⟩ := own_typed ho g he.symm
  rw [hc] at hb
  cases hb
theorem R_iterAt {α : Type} {k : Kd α} {e base g p q : Nat} {ok : Nat → Prop} {w : World} {v : Value} {xs : List α} {s : ByteArray} (h : k.R e w base ok v xs) (hb : w.heap[g]? = some (.stringIter s p)) : k.R e (w.iterAt g s q) base ok v xs := by
  refine Kd.R_mono (Kd.R_move (Kd.R_bound h) (fun j hj => ?_)) (fun _ hj => hj.1)
  obtain ⟨_, _, _, t, _, cells, hc⟩ := hj
  refine Lib.iterAt_other w g j s q ?_
  rintro rfl
  rw [hc] at hb
  cases hb
theorem next_at {P : Program} (l : Bs) (wr : World) (it pos : Nat) (hit : wr.heap[it]? = some (.stringIter (bsV l) pos)) (h : pos < l.length) (ch : UInt8) (hch : l[pos] = ch) (ha : ch.toNat < 128) (n : Int) (hn : n = (ch.toNat : Int)) (ty : TypeId) :
    (Instr.next (.pointer (some ⟨it, 0, none⟩)) true ty).run P wr = .ok (.tuple #[.bool true, .int .i64 pos, .int .i32 n]) (wr.iterAt it (bsV l) (pos + 1)) := by
  subst hch
  subst hn
  exact Lib.run_next_ascii_at wr it (bsV l) pos ty hit (by rw [bsV_size]; exact h) ha
theorem next_end {P : Program} (l : Bs) (wr : World) (it pos : Nat) (hit : wr.heap[it]? = some (.stringIter (bsV l) pos)) (h : ¬ pos < l.length) (ty : TypeId) :
    (Instr.next (.pointer (some ⟨it, 0, none⟩)) true ty).run P wr = .ok (.tuple #[.bool false]) wr :=
  Lib.run_next_end_at wr it (bsV l) pos ty hit (by rw [bsV_size]; exact h)
/-- What holds of memory while a line is made. -/
structure LI (w : World) (d : Dd) (A1 A2 : Option Addr) (c1 c2 it : Nat) (s : Bs) (pos : Nat) (v : Value) (L : List Bs) (wr : World) : Prop where
  row : SLs wr w.heap.size v L
  box : wr.heap[w.heap.size]? = some (.cells (dC d A1 A2 c1 c2) 45 (0, 0))
  itb : wr.heap[it]? = some (.stringIter (bsV s) pos)
  lt : w.heap.size < it
  bel : Below w.heap.size w wr
section
variable {w wr W : World} {d : Dd} {A1 A2 : Option Addr} {c1 c2 it pos : Nat} {s : Bs} {v : Value} {L : List Bs}
theorem LI.later (h : LI w d A1 A2 c1 c2 it s pos v L wr) (hb : Below wr.heap.size wr W) : LI w d A1 A2 c1 c2 it s pos v L W :=
  ⟨Kd.R_below h.row hb, (hb.block _ (Array.getElem?_eq_some_iff.1 h.box).1).trans h.box, (hb.block _ (Array.getElem?_eq_some_iff.1 h.itb).1).trans h.itb, h.lt, h.bel.trans (hb.mono h.bel.size)⟩
theorem LI.next (h : LI w d A1 A2 c1 c2 it s pos v L wr) : LI w d A1 A2 c1 c2 it s (pos + 1) v L (wr.iterAt it (bsV s) (pos + 1)) :=
  ⟨R_iterAt h.row h.itb, (Lib.iterAt_other _ _ _ _ _ (by have := h.lt; omega)).trans h.box, Lib.iterAt_heap _ _ _ _ _ h.itb, h.lt, Lib.below_iterAt h.bel (by have := h.lt; omega) _ _⟩
theorem LI.app {w1 : World} {v1 : Value} {x : Bs} (h : LI w d A1 A2 c1 c2 it s pos v L W) (ho : Kd.R Kd.string 9 w1 w.heap.size (fun _ => True) v1 (L.map bsV ++ [bsV x])) (hb : Below w.heap.size w w1) (hg : W.grownBy w1 v.ownBlock) : LI w d A1 A2 c1 c2 it s pos v1 (L ++ [x]) w1 :=
  ⟨by unfold SLs; rw [List.map_append]; exact ho, (hg.block _ (Array.getElem?_eq_some_iff.1 h.box).1 (Kd.R_ne h.row h.box (by decide))).trans h.box, (hg.block _ (Array.getElem?_eq_some_iff.1 h.itb).1 (R_ne_iter h.row h.itb)).trans h.itb, h.lt, hb⟩
end
theorem flat_len (d : Dd) (h : d.keep.length ≤ 10000) : ∀ l : Bs, (l.flatMap (segS d)).length ≤ l.length * 10001
  | [] => by simp
  | c :: r => by
    have ih := flat_len d h r
    have h1 : (segS d c).length ≤ 10001 := by
      unfold segS
      repeat' (first | (simp; done) | split)
      rw [List.length_map]
      omega
    rw [List.flatMap_cons, List.length_append, List.length_cons]
    omega
theorem seg_word {d : Dd} (hk : okD d) (h1 : d.key.length ≤ 10000) (h2 : d.value.length ≤ 10000) (c : UInt8) : ∀ x ∈ segS d c, x.length ≤ 30001 := by
  have hq : ∀ b : Bs, b.length ≤ 10000 → (quoS b).length ≤ 30001 := fun b hb => by
    unfold quoS
    split
    · simp
    · have := q_len b
      omega
  obtain ⟨_, h3, h4, h5, h6, h7, h8⟩ := hk
  have hd : ∀ n : Int, I64 n → (decS n).length ≤ 30001 := fun n hn => Nat.le_trans (decS_len hn.1 hn.2) (by decide)
  unfold segS
  intro x hx
  repeat' (split at hx)
  all_goals first
  | (rw [List.mem_singleton.1 hx]; first | exact hq _ h1 | exact hq _ h2 | exact hd _ h3 | exact hd _ h4 | exact hd _ h5 | exact hd _ ⟨by omega, by omega⟩)
  | (obtain ⟨n, hn, rfl⟩ := List.mem_map.1 hx; exact hd n (h8 n hn))
  | exact absurd hx (by simp)
theorem word_short (k : Int) : (wordS k).length ≤ 10 := by
  unfold wordS
  split
  · simp
  · have : ∀ i : Nat, (wordsL.getD i []).length ≤ 10 := fun i => by
      rcases Nat.lt_or_ge i 19 with h | h
      · revert i; decide
      · rw [List.getD_eq_getElem?_getD, List.getElem?_eq_none h]; simp
    exact this _
theorem line_bound {d : Dd} (hk : okD d) (h1 : d.key.length ≤ 10000) (h2 : d.value.length ≤ 10000) (h3 : d.keep.length ≤ 10000) : (lineS d).length ≤ 1000000000 := by
  unfold lineS
  rw [tail_seg]
  have hf := flat_len d h3 (partsS d.kind)
  have hp := parts_len d.kind
  refine Nat.le_trans (join_len _ 30001 fun x hx => ?_) ?_
  · rcases List.mem_cons.1 hx with rfl | hx
    · exact Nat.le_trans (word_short _) (by decide)
    · obtain ⟨c, _, hc⟩ := List.mem_flatMap.1 hx
      exact seg_word hk h1 h2 c x hc
  · rw [List.length_cons]
    have : (partsS d.kind).length * 10001 ≤ 3 * 10001 := Nat.mul_le_mul_right _ hp
    have h4 : ((partsS d.kind).flatMap (segS d)).length + 1 ≤ 30004 := by omega
    exact Nat.le_trans (Nat.mul_le_mul_right _ h4) (by decide)
set_option maxHeartbeats 4000000 in
set_option maxRecDepth 100000 in
theorem line_any (d : Dd) (A1 A2 : Option Addr) (c1 c2 : Nat) (w : World) (hD : DM w d A1 A2 c1 c2) : Calls Tryd.prog 29 #[.agg (dC d A1 A2 c1 c2)] w (QS w (lineS d)) := by
  have HD := Lib.hid hD
  have HB0 := Lib.hid ((Below.refl w.heap.size w).alloc (Nat.le_refl _) (.cells (dC d A1 A2 c1 c2) 45))
  have HX0 := Lib.hid (show (w.alloc (.cells (dC d A1 A2 c1 c2) 45)).heap[w.heap.size]? = some (.cells (dC d A1 A2 c1 c2) 45 (0, 0)) from heap_alloc_new _ _)
  have by0 : 0 ≤ d.by_ := hD.ok.2.2.2.2.1.1
  have by1 : d.by_ ≤ 255 := hD.ok.2.2.2.2.1.2
  have dr0 : 0 ≤ d.draw := hD.ok.2.2.2.2.2.1.1
  have dr1 : d.draw ≤ 255 := hD.ok.2.2.2.2.2.1.2
  clear hD
  unfold dC at HB0 HX0 ⊢
  go_enter Tryd.func29, Tryd.ntmps29
  go_wp2_with fail
  refine (word_any _ _).mono ?_
  rintro e w1 ⟨rfl, hb⟩
  have HB1 := Lib.hid (HB0.out.trans (hb.mono HB0.out.size))
  have HX1 := Lib.hid ((hb.block w.heap.size (by simp)).trans HX0.out)
  have hz1 : w.heap.size < w1.heap.size := (Array.getElem?_eq_some_iff.1 HX1.out).1
  have hk1 : w1.cell? ⟨w.heap.size, 0, none⟩ = some (.int .i64 d.kind) := by rw [World.cell?, HX1.out]; rfl
  clear hb HB0 HX0
  go_wp2_with fail
  refine (parts_any _ _).mono ?_
  rintro e w2 ⟨rfl, hb⟩
  obtain ⟨s, hs⟩ : ∃ s, s = partsS d.kind := ⟨_, rfl⟩
  rw [← hs]
  have HS := Lib.hid hs
  have HR0 := Lib.hid (show SLs (w1.alloc (.cells #[.string (bsV (wordS d.kind))] 9)) w.heap.size (.slice (some ⟨w1.heap.size, 0, none⟩) 1 1) [wordS d.kind] from
    Kd.R_of_own (enc := Value.string) (h1 := fun _ => rfl) (by
      have := World.ownsRow_lit (base := w.heap.size) (e := 9) (size := 1) w1 #[.string (bsV (wordS d.kind))] 1 (by omega) (by simp [maxLen]) rfl
      exact this) (fun _ _ => trivial))
  have HI0 := Lib.hid (show LI w d A1 A2 c1 c2 w2.heap.size s 0 (.slice (some ⟨w1.heap.size, 0, none⟩) 1 1) [wordS d.kind] (w2.alloc (.stringIter (bsV s) 0)) from
    ⟨Kd.R_below (Kd.R_below HR0.out hb) (bel_alloc _ _),
     (Below.heap_alloc _ _ _ (by have := hb.size; simp at this; omega)).trans ((hb.block w.heap.size (by simp; omega)).trans ((Below.heap_alloc _ _ _ hz1).trans HX1.out)),
     heap_alloc_new _ _, by have := hb.size; simp at this; omega,
     (((HB1.out.alloc (by omega) _).trans (hb.mono (by simp; omega))).alloc (by have := hb.size; simp at this; omega) _)⟩)
  clear hs hb HR0 HB1 HX1 hk1
  generalize hit : w2.heap.size = it at HI0
  have hit' : w2.heap.size = it := hit
  go_wp2_with fail
  go_loopw [3] (fun lv wr => ∃ (i : Nat) (A : Option Addr) (n c : Nat) (L : List Bs), i ≤ s.length ∧ lv = .slice A n c ∧ Hid (LI w d A1 A2 c1 c2 w2.heap.size s i (.slice A n c) L wr ∧ L = wordS d.kind :: (s.take i).flatMap (segS d))) (fun _ wr => s.length - wr.iterPos w2.heap.size)
  case atStart => exact ⟨0, _, 1, 1, _, Nat.zero_le _, rfl, by rw [hit']; exact HI0.out, by simp⟩
  case round =>
    obtain ⟨i, A, n, c, L, hi, rfl, HI⟩ := hrel
    rw [hit'] at HI
    rw [hit']
    clear HI0 hit
    by_cases hlt : i < s.length
    · obtain ⟨ch, hch⟩ : ∃ ch, s[i] = ch := ⟨_, rfl⟩
      have HCH := Lib.hid hch
      have HLT := Lib.hid (parts_letter d.kind ch (by rw [← hch, ← HS.out]; exact List.getElem_mem hlt))
      have HTK := Lib.hid (show wordS d.kind :: (s.take (i + 1)).flatMap (segS d) = L ++ segS d ch by rw [List.take_succ_eq_append_getElem hlt, hch, HI.out.2, List.flatMap_append]; simp)
      have HLN := Lib.hid (show L.length ≤ 40000 by
        have h1 := flat_len d HD.out.kl (s.take i)
        have h2 := parts_len d.kind
        rw [← HS.out] at h2
        rw [List.length_take] at h1
        rw [HI.out.2, List.length_cons]
        have h3 : min i s.length * 10001 ≤ 3 * 10001 := Nat.mul_le_mul_right _ (by omega)
        omega)
      have HN := Lib.hid HI.out.1.next
      have HNX := Lib.hid (fun (n : Int) (hn : n = (ch.toNat : Int)) => next_at (P := Tryd.prog) s wr it i HI.out.1.itb hlt ch hch (letter_ascii HLT.out) n hn)
      have HME := Lib.hid (show wr.iterPos it = i by simp only [World.iterPos, HI.out.1.itb])
      clear hch HI
      obtain ⟨W0, hW0⟩ : ∃ W0, W0 = wr.iterAt it (bsV s) (i + 1) := ⟨_, rfl⟩
      rw [← hW0] at HN HNX
      clear hW0
      have hz0 : w.heap.size < W0.heap.size := (Array.getElem?_eq_some_iff.1 HN.out.box).1
      rcases HLT.out with rfl | rfl | rfl | rfl | rfl | rfl | rfl | rfl
      · have hnx := HNX.out 110 rfl
        have hc0 : W0.cell? ⟨w.heap.size, 1, none⟩ = some (.int .i64 d.node) := by rw [World.cell?, HN.out.box]; rfl
        have HC := Lib.hid (dec_any d.node (show Hid _ from HD.out.ok.2.1) W0)
        go_wp2_with (first | (go_at_call 15; refine HC.out.mono ?_; rintro e w3 ⟨rfl, rfl⟩) | (at_builtin; refine Kd.R_append Kd.string (w0 := w) (W := w3) w.heap.size rfl (.tmp 22) (.tmp 26) 50 9 (.string ⟨#[]⟩) 16 rfl Tryd.underlying50 info_str rfl (by decide) (by omega) (.slice A n c) (L.map bsV) (bsV (decS d.node)) [.string (bsV (decS d.node))] (fun _ => True) (fun _ => False) rfl rfl rfl (fun _ hk => hk.elim) (fun _ _ => trivial) HN.out.row HN.out.bel HN.out.bel.size (by rw [List.length_map]; have := HLN.out; omega) ?_; intro v9 w9 ho9 hb9 hg9 hat9; obtain ⟨A9, c9, hv9⟩ := Kd.R_slice ho9; rw [List.length_append, List.length_map, List.length_singleton] at hv9; have HA := Lib.hid (LI.app HN.out ho9 hb9 hg9); rw [hv9] at HA; subst hv9; clear ho9 hb9 hg9 hat9))
        go_wp2_with fail
        go_roundw
        case rel => exact ⟨i + 1, A9, _, c9, _, by omega, rfl, HA.out, HTK.out.symm⟩
        case measure => simp only [World.iterPos, HA.out.itb]; have := HME.out; simp only [World.iterPos] at this; omega
      · have hnx := HNX.out 107 rfl
        have hc0 : W0.cell? ⟨w.heap.size, 2, none⟩ = some (.string (bsV d.key)) := by rw [World.cell?, HN.out.box]; rfl
        have kb := fun W => print_bytes (P := Tryd.prog) 9 22 5 Tryd.underlying9 Tryd.underlying22 Tryd.underlying5 (bsV d.key) W
        rw [bsV_size] at kb
        have HBW := Lib.hid (bytes_below (Below.refl W0.heap.size W0) (Nat.le_refl _) 5 (bsV d.key))
        have HC := Lib.hid (fun k => quote_any d.key (some ⟨W0.heap.size, 0, none⟩) k (Lib.bytesWorld W0 5 (bsV d.key)) (bytes_C W0 d.key (by have := HD.out.key; omega)) (show Hid _ from (by have := HD.out.key; show d.key.length ≤ 100000000; omega)))
        go_wp2_with fail
        refine (HC.out _).mono ?_
        rintro e w3 ⟨rfl, hb3⟩
        have HN3 := Lib.hid (HN.out.later (HBW.out.trans (hb3.mono HBW.out.size)))
        clear hb3 HC
        go_wp2_with (at_builtin; refine Kd.R_append Kd.string (w0 := w) (W := w3) w.heap.size rfl (.tmp 30) (.tmp 35) 50 9 (.string ⟨#[]⟩) 16 rfl Tryd.underlying50 info_str rfl (by decide) (by omega) (.slice A n c) (L.map bsV) (bsV (quoS d.key)) [.string (bsV (quoS d.key))] (fun _ => True) (fun _ => False) rfl rfl rfl (fun _ hk => hk.elim) (fun _ _ => trivial) HN3.out.row HN3.out.bel HN3.out.bel.size (by rw [List.length_map]; have := HLN.out; omega) ?_; intro v9 w9 ho9 hb9 hg9 hat9; obtain ⟨A9, c9, hv9⟩ := Kd.R_slice ho9; rw [List.length_append, List.length_map, List.length_singleton] at hv9; have HA := Lib.hid (LI.app HN3.out ho9 hb9 hg9); rw [hv9] at HA; subst hv9; clear ho9 hb9 hg9 hat9)
        go_wp2_with fail
        go_roundw
        case rel => exact ⟨i + 1, A9, _, c9, _, by omega, rfl, HA.out, HTK.out.symm⟩
        case measure => simp only [World.iterPos, HA.out.itb]; have := HME.out; simp only [World.iterPos] at this; omega
      · have hnx := HNX.out 118 rfl
        have hc0 : W0.cell? ⟨w.heap.size, 3, none⟩ = some (.slice A1 d.value.length c1) := by rw [World.cell?, HN.out.box]; rfl
        have HC := Lib.hid (quote_any d.value A1 c1 W0 (Kd.C_below HD.out.val HN.out.bel) (show Hid _ from (by have := HD.out.vl; show d.value.length ≤ 100000000; omega)))
        go_wp2_with fail
        refine HC.out.mono ?_
        rintro e w3 ⟨rfl, hb3⟩
        have HN3 := Lib.hid (HN.out.later hb3)
        clear hb3 HC
        go_wp2_with (at_builtin; refine Kd.R_append Kd.string (w0 := w) (W := w3) w.heap.size rfl (.tmp 39) (.tmp 43) 50 9 (.string ⟨#[]⟩) 16 rfl Tryd.underlying50 info_str rfl (by decide) (by omega) (.slice A n c) (L.map bsV) (bsV (quoS d.value)) [.string (bsV (quoS d.value))] (fun _ => True) (fun _ => False) rfl rfl rfl (fun _ hk => hk.elim) (fun _ _ => trivial) HN3.out.row HN3.out.bel HN3.out.bel.size (by rw [List.length_map]; have := HLN.out; omega) ?_; intro v9 w9 ho9 hb9 hg9 hat9; obtain ⟨A9, c9, hv9⟩ := Kd.R_slice ho9; rw [List.length_append, List.length_map, List.length_singleton] at hv9; have HA := Lib.hid (LI.app HN3.out ho9 hb9 hg9); rw [hv9] at HA; subst hv9; clear ho9 hb9 hg9 hat9)
        go_wp2_with fail
        go_roundw
        case rel => exact ⟨i + 1, A9, _, c9, _, by omega, rfl, HA.out, HTK.out.symm⟩
        case measure => simp only [World.iterPos, HA.out.itb]; have := HME.out; simp only [World.iterPos] at this; omega
      · have hnx := HNX.out 105 rfl
        have hc0 : W0.cell? ⟨w.heap.size, 4, none⟩ = some (.int .i64 d.n) := by rw [World.cell?, HN.out.box]; rfl
        have HC := Lib.hid (dec_any d.n (show Hid _ from HD.out.ok.2.2.1) W0)
        go_wp2_with (first | (go_at_call 15; refine HC.out.mono ?_; rintro e w3 ⟨rfl, rfl⟩) | (at_builtin; refine Kd.R_append Kd.string (w0 := w) (W := w3) w.heap.size rfl (.tmp 47) (.tmp 51) 50 9 (.string ⟨#[]⟩) 16 rfl Tryd.underlying50 info_str rfl (by decide) (by omega) (.slice A n c) (L.map bsV) (bsV (decS d.n)) [.string (bsV (decS d.n))] (fun _ => True) (fun _ => False) rfl rfl rfl (fun _ hk => hk.elim) (fun _ _ => trivial) HN.out.row HN.out.bel HN.out.bel.size (by rw [List.length_map]; have := HLN.out; omega) ?_; intro v9 w9 ho9 hb9 hg9 hat9; obtain ⟨A9, c9, hv9⟩ := Kd.R_slice ho9; rw [List.length_append, List.length_map, List.length_singleton] at hv9; have HA := Lib.hid (LI.app HN.out ho9 hb9 hg9); rw [hv9] at HA; subst hv9; clear ho9 hb9 hg9 hat9))
        go_wp2_with fail
        go_roundw
        case rel => exact ⟨i + 1, A9, _, c9, _, by omega, rfl, HA.out, HTK.out.symm⟩
        case measure => simp only [World.iterPos, HA.out.itb]; have := HME.out; simp only [World.iterPos] at this; omega
      · have hnx := HNX.out 97 rfl
        have hc0 : W0.cell? ⟨w.heap.size, 5, none⟩ = some (.int .i64 d.at_) := by rw [World.cell?, HN.out.box]; rfl
        have HC := Lib.hid (dec_any d.at_ (show Hid _ from HD.out.ok.2.2.2.1) W0)
        go_wp2_with (first | (go_at_call 15; refine HC.out.mono ?_; rintro e w3 ⟨rfl, rfl⟩) | (at_builtin; refine Kd.R_append Kd.string (w0 := w) (W := w3) w.heap.size rfl (.tmp 55) (.tmp 59) 50 9 (.string ⟨#[]⟩) 16 rfl Tryd.underlying50 info_str rfl (by decide) (by omega) (.slice A n c) (L.map bsV) (bsV (decS d.at_)) [.string (bsV (decS d.at_))] (fun _ => True) (fun _ => False) rfl rfl rfl (fun _ hk => hk.elim) (fun _ _ => trivial) HN.out.row HN.out.bel HN.out.bel.size (by rw [List.length_map]; have := HLN.out; omega) ?_; intro v9 w9 ho9 hb9 hg9 hat9; obtain ⟨A9, c9, hv9⟩ := Kd.R_slice ho9; rw [List.length_append, List.length_map, List.length_singleton] at hv9; have HA := Lib.hid (LI.app HN.out ho9 hb9 hg9); rw [hv9] at HA; subst hv9; clear ho9 hb9 hg9 hat9))
        go_wp2_with fail
        go_roundw
        case rel => exact ⟨i + 1, A9, _, c9, _, by omega, rfl, HA.out, HTK.out.symm⟩
        case measure => simp only [World.iterPos, HA.out.itb]; have := HME.out; simp only [World.iterPos] at this; omega
      · have hnx := HNX.out 98 rfl
        have hc0 : W0.cell? ⟨w.heap.size, 6, none⟩ = some (.int .u8 d.by_) := by rw [World.cell?, HN.out.box]; rfl
        have HC := Lib.hid (dec_any d.by_ (show Hid _ from ⟨by omega, by omega⟩) W0)
        go_wp2_with (first | (go_at_call 15; refine HC.out.mono ?_; rintro e w3 ⟨rfl, rfl⟩) | (at_builtin; refine Kd.R_append Kd.string (w0 := w) (W := w3) w.heap.size rfl (.tmp 63) (.tmp 68) 50 9 (.string ⟨#[]⟩) 16 rfl Tryd.underlying50 info_str rfl (by decide) (by omega) (.slice A n c) (L.map bsV) (bsV (decS d.by_)) [.string (bsV (decS d.by_))] (fun _ => True) (fun _ => False) rfl rfl rfl (fun _ hk => hk.elim) (fun _ _ => trivial) HN.out.row HN.out.bel HN.out.bel.size (by rw [List.length_map]; have := HLN.out; omega) ?_; intro v9 w9 ho9 hb9 hg9 hat9; obtain ⟨A9, c9, hv9⟩ := Kd.R_slice ho9; rw [List.length_append, List.length_map, List.length_singleton] at hv9; have HA := Lib.hid (LI.app HN.out ho9 hb9 hg9); rw [hv9] at HA; subst hv9; clear ho9 hb9 hg9 hat9))
        go_wp2_with fail
        go_roundw
        case rel => exact ⟨i + 1, A9, _, c9, _, by omega, rfl, HA.out, HTK.out.symm⟩
        case measure => simp only [World.iterPos, HA.out.itb]; have := HME.out; simp only [World.iterPos] at this; omega
      · have hnx := HNX.out 100 rfl
        have hc0 : W0.cell? ⟨w.heap.size, 7, none⟩ = some (.int .u8 d.draw) := by rw [World.cell?, HN.out.box]; rfl
        have HC := Lib.hid (dec_any d.draw (show Hid _ from ⟨by omega, by omega⟩) W0)
        go_wp2_with (first | (go_at_call 15; refine HC.out.mono ?_; rintro e w3 ⟨rfl, rfl⟩) | (at_builtin; refine Kd.R_append Kd.string (w0 := w) (W := w3) w.heap.size rfl (.tmp 72) (.tmp 77) 50 9 (.string ⟨#[]⟩) 16 rfl Tryd.underlying50 info_str rfl (by decide) (by omega) (.slice A n c) (L.map bsV) (bsV (decS d.draw)) [.string (bsV (decS d.draw))] (fun _ => True) (fun _ => False) rfl rfl rfl (fun _ hk => hk.elim) (fun _ _ => trivial) HN.out.row HN.out.bel HN.out.bel.size (by rw [List.length_map]; have := HLN.out; omega) ?_; intro v9 w9 ho9 hb9 hg9 hat9; obtain ⟨A9, c9, hv9⟩ := Kd.R_slice ho9; rw [List.length_append, List.length_map, List.length_singleton] at hv9; have HA := Lib.hid (LI.app HN.out ho9 hb9 hg9); rw [hv9] at HA; subst hv9; clear ho9 hb9 hg9 hat9))
        go_wp2_with fail
        go_roundw
        case rel => exact ⟨i + 1, A9, _, c9, _, by omega, rfl, HA.out, HTK.out.symm⟩
        case measure => simp only [World.iterPos, HA.out.itb]; have := HME.out; simp only [World.iterPos] at this; omega
      · have hnx := HNX.out 108 rfl
        have hc0 : W0.cell? ⟨w.heap.size, 8, none⟩ = some (.slice A2 d.keep.length c2) := by rw [World.cell?, HN.out.box]; rfl
        have hkl := HD.out.kl
        have HLP := Lib.hid HLN.out
        obtain ⟨L0, hL0⟩ : ∃ L0, L0 = L := ⟨_, rfl⟩
        rw [← hL0] at HN HTK HLP
        clear hL0
        go_wp2_with fail
        go_loopw [3, 84] (fun lv jv wj => ∃ (j : Nat) (A : Option Addr) (n c : Nat) (L : List Bs), j ≤ d.keep.length ∧ jv = .int .i64 j ∧ lv = .slice A n c ∧ Hid (LI w d A1 A2 c1 c2 it s (i + 1) (.slice A n c) L wj ∧ L = L0 ++ (d.keep.take j).map decS)) (fun _ jv _ => d.keep.length - (intOf jv).toNat)
        case atStart => exact ⟨0, _, _, _, _, Nat.zero_le _, rfl, rfl, HN.out, by simp⟩
        case round =>
          clear HLN
          obtain ⟨j, A, n, c, L, hj, rfl, rfl, HJ⟩ := hrel
          by_cases hjl : j < d.keep.length
          · have HLN := Lib.hid (show L.length ≤ 60000 by
              rw [HJ.out.2, List.length_append, List.length_map, List.length_take]
              have := HLP.out
              omega)
            have j1 : (0 : Int) ≤ (j : Int) := by omega
            have j2 : (j : Int) < (d.keep.length : Int) := by omega
            have hwj : IntKind.i64.wrap ((j : Int) + 1) = (j : Int) + 1 := by rw [IntKind.wrap_i64]; omega
            obtain ⟨ad, hA2, hcj⟩ := at_num (Kd.C_below HD.out.kp HJ.out.1.bel) hjl
            subst hA2
            obtain ⟨x, hx⟩ : ∃ x, x = iget d.keep j := ⟨_, rfl⟩
            rw [← hx] at hcj
            have HTJ := Lib.hid (show L0 ++ (d.keep.take (j + 1)).map decS = L ++ [decS x] by rw [take_i hjl, hx, HJ.out.2]; simp)
            have HC := Lib.hid (dec_any x (show Hid _ from HD.out.ok.2.2.2.2.2.2 x (by rw [hx, iget_eq hjl]; exact List.getElem_mem hjl)) wr)
            have HN2 := Lib.hid HJ.out.1
            clear hx HJ
            go_wp2_with (first | (go_at_call 15; refine HC.out.mono ?_; rintro e w3 ⟨rfl, rfl⟩) | (at_builtin; refine Kd.R_append Kd.string (w0 := w) (W := w3) w.heap.size rfl (.tmp 88) (.tmp 91) 50 9 (.string ⟨#[]⟩) 16 rfl Tryd.underlying50 info_str rfl (by decide) (by omega) (.slice A n c) (L.map bsV) (bsV (decS x)) [.string (bsV (decS x))] (fun _ => True) (fun _ => False) rfl rfl rfl (fun _ hk => hk.elim) (fun _ _ => trivial) HN2.out.row HN2.out.bel HN2.out.bel.size (by rw [List.length_map]; have := HLN.out; omega) ?_; intro v9 w9 ho9 hb9 hg9 hat9; obtain ⟨A9, c9, hv9⟩ := Kd.R_slice ho9; rw [List.length_append, List.length_map, List.length_singleton] at hv9; have HA := Lib.hid (LI.app HN2.out ho9 hb9 hg9); rw [hv9] at HA; subst hv9; clear ho9 hb9 hg9 hat9))
            go_wp2_with fail
            go_roundw
            case rel => exact ⟨j + 1, A9, _, c9, _, by omega, by go_num, rfl, HA.out, HTJ.out.symm⟩
            case measure => simp [intOf]; omega
          · have j3 : ¬ (j : Int) < (d.keep.length : Int) := by omega
            have HE := Lib.hid (show L = L0 ++ d.keep.map decS by rw [HJ.out.2, List.take_of_length_le (by omega)])
            have HA := Lib.hid HJ.out.1
            clear HJ
            go_wp2_with fail
            go_roundw
            case rel => exact ⟨i + 1, A, n, c, L, by omega, rfl, HA.out, by rw [HE.out]; exact HTK.out.symm⟩
            case measure => simp only [World.iterPos, HA.out.itb]; have := HME.out; simp only [World.iterPos] at this; omega
    · have hnx := next_end (P := Tryd.prog) s wr it i HI.out.1.itb hlt
      have HL := Lib.hid (show joinS 32 L = lineS d by rw [HI.out.2, List.take_of_length_le (by omega), lineS, tail_seg, HS.out])
      have HJ := Lib.hid (join_any HI.out.1.row (by
        have h1 := flat_len d HD.out.kl (s.take i)
        have h2 := parts_len d.kind
        rw [← HS.out] at h2
        rw [List.length_take] at h1
        rw [HI.out.2, List.length_cons]
        have h3 : min i s.length * 10001 ≤ 3 * 10001 := Nat.mul_le_mul_right _ (by omega)
        omega) (by rw [HL.out]; exact line_bound HD.out.ok HD.out.key HD.out.vl HD.out.kl))
      have HBE := Lib.hid HI.out.1.bel
      clear HI
      go_wp2_with fail
      refine HJ.out.mono ?_
      rintro e w3 ⟨rfl, hb3⟩
      have HB3 := Lib.hid (HBE.out.trans (hb3.mono HBE.out.size))
      clear hb3
      go_wp2_with fail
      go_ret
      exact ⟨by rw [HL.out]; rfl, HB3.out⟩
end Go.Proofs.YtbckbpimabmacaaDoor
namespace Go.Proofs.YtbckbpimabmacaaDoor
set_option linter.unusedVariables false
set_option linter.unusedSimpArgs false
open Go.RowKit Go.Proofs.YtbckbpimabmacaaDoorW.PrintWords
attribute [local go_sem ↓] Go.wp_at_zero Go.wp_at_succ
attribute [local go_sem] bsV_get bsV_size bsV_toList

/-- A blank, then the word. -/
def bl (x : Bs) : Bs := 32 :: x
theorem join_flat (x : Bs) : ∀ l : List Bs, joinS 32 (x :: l) = x ++ l.flatMap bl
  | [] => by simp [joinS]
  | y :: r => by rw [joinS, join_flat y r]; simp [bl]
theorem line_flat (d : Dd) : lineS d = wordS d.kind ++ (tailW d).flatMap bl := join_flat _ _
def listS (l : List Int) : Bs := l.flatMap fun x => bl (decS x)
theorem list_map (l : List Int) : (l.map decS).flatMap bl = listS l := by simp [listS, List.flatMap_map]
theorem bl_dec_len {x : Int} (h : I64 x) : (bl (decS x)).length ≤ 21 := by
  have := decS_len h.1 h.2
  simp [bl]
  omega
theorem list_len : ∀ l : List Int, (∀ x ∈ l, I64 x) → (listS l).length ≤ 21 * l.length
  | [], _ => by simp [listS]
  | x :: r, h => by
    have ih := list_len r (fun y hy => h y (List.mem_cons_of_mem _ hy))
    have h1 := bl_dec_len (h x List.mem_cons_self)
    simp only [listS, List.flatMap_cons, List.length_append, List.length_cons] at ih ⊢
    omega
theorem list_snoc1 (l : List Int) (x : Int) : listS (l ++ [x]) = listS l ++ bl (decS x) := by simp [listS]
set_option maxHeartbeats 1000000 in
set_option maxRecDepth 100000 in
theorem list_any (l : List Int) (A : Option Addr) (c : Nat) (w : World) (hC : (Kd.int .i64).C w A l.length l) (hc : l.length ≤ c) (hl : l.length ≤ 10000) (hk : Hid (∀ x ∈ l, I64 x)) : Calls Tryd.prog 58 #[.slice A l.length c] w (QS w (listS l)) := by
  have HC := Lib.hid hC
  clear hC
  go_enter Tryd.func58, Tryd.ntmps58
  go_wp2_with fail
  go_loopw [3, 4] (fun sv iv wr => ∃ (i : Nat) (acc : Bs), i ≤ l.length ∧ iv = .int .i64 i ∧ sv = .string (bsV acc) ∧ Hid (acc = listS (l.take i) ∧ Below w.heap.size w wr)) (fun _ iv _ => l.length - (intOf iv).toNat)
  case atStart => exact ⟨0, [], Nat.zero_le _, rfl, rfl, by simp [listS], Below.refl _ _⟩
  case round =>
    obtain ⟨i, acc, hi, rfl, rfl, HI⟩ := hrel
    by_cases hlt : i < l.length
    · have i1 : (0 : Int) ≤ (i : Int) := by omega
      have i2 : (i : Int) < (l.length : Int) := by omega
      have i3 : i < c := by omega
      have hwi : IntKind.i64.wrap ((i : Int) + 1) = (i : Int) + 1 := by rw [IntKind.wrap_i64]; omega
      obtain ⟨ad, rfl, hcell⟩ := at_num (Kd.C_below HC.out HI.out.2) hlt
      obtain ⟨x, hx⟩ : ∃ x, x = iget l i := ⟨_, rfl⟩
      rw [← hx] at hcell
      have hxk : I64 x := hk.out x (by rw [hx, iget_eq hlt]; exact List.getElem_mem hlt)
      have HT := Lib.hid (show listS (l.take (i + 1)) = acc ++ [32] ++ decS x by rw [take_i hlt, ← hx, list_snoc1, ← HI.out.1]; simp [bl])
      have HLA := Lib.hid (show acc.length ≤ 210000 by
        rw [HI.out.1]
        have := list_len (l.take i) (fun y hy => hk.out y (List.mem_of_mem_take hy))
        rw [List.length_take] at this
        omega)
      have HLX := Lib.hid (decS_len hxk.1 hxk.2)
      have HD := Lib.hid (refDec_any x (show Hid _ from hxk) wr)
      have ha1 : ∀ W : World, (Op.stringOp .add (bsV acc) ⟨#[32]⟩).run Tryd.prog W = .ok (.string (bsV (acc ++ [32]))) W := add_run acc [32] (by have := HLA.out; simp; omega)
      have ha2 := add_run (acc ++ [32]) (decS x) (by have := HLA.out; have := HLX.out; simp; omega)
      have HB := Lib.hid HI.out.2
      generalize acc ++ [32] = s1 at *
      generalize hy : decS x = y at *
      clear hx hxk HI hy
      go_wp2_with fail
      refine HD.out.mono ?_
      rintro e w1 ⟨rfl, hb⟩
      have HB1 := Lib.hid (HB.out.trans (hb.mono HB.out.size))
      clear hb
      go_wp2_with fail
      go_roundw
      case rel => exact ⟨i + 1, s1 ++ y, by omega, by go_num, rfl, HT.out.symm, HB1.out⟩
      case measure => simp [intOf]; omega
    · have hi3 : ¬ (i : Int) < (l.length : Int) := by omega
      have HT := Lib.hid (show acc = listS l by rw [HI.out.1, List.take_of_length_le (by omega)])
      go_wp2_with fail
      go_ret
      exact ⟨by rw [← HT.out]; rfl, HI.out.2⟩
def kindsL : List Int := [1, 2, 3, 4, 5, 6, 7, 8, 10, 15, 16]
theorem kind_cases (k : Int) : k = 1 ∨ k = 2 ∨ k = 3 ∨ k = 4 ∨ k = 5 ∨ k = 6 ∨ k = 7 ∨ k = 8 ∨ k = 10 ∨ k = 15 ∨ k = 16 ∨ (¬ k = 1 ∧ ¬ k = 2 ∧ ¬ k = 3 ∧ ¬ k = 4 ∧ ¬ k = 5 ∧ ¬ k = 6 ∧ ¬ k = 7 ∧ ¬ k = 8 ∧ ¬ k = 10 ∧ ¬ k = 15 ∧ ¬ k = 16) := by omega
theorem add_to (a b : Bs) (h : a.length + b.length ≤ 1000000) : ∃ s : Bs, s = a ++ b ∧ s.length = a.length + b.length ∧ ∀ W : World, (Op.stringOp .add (bsV a) (bsV b)).run Tryd.prog W = .ok (.string (bsV s)) W := ⟨_, rfl, List.length_append, add_run a b h⟩
theorem add_sp (a : Bs) (h : a.length + 1 ≤ 1000000) : ∃ s : Bs, s = a ++ [32] ∧ s.length = a.length + 1 ∧ ∀ W : World, (Op.stringOp .add (bsV a) ⟨#[32]⟩).run Tryd.prog W = .ok (.string (bsV s)) W := ⟨_, rfl, by simp, add_run a [32] (by simpa using h)⟩
set_option maxHeartbeats 8000000 in
set_option maxRecDepth 100000 in
theorem refLine_any (d : Dd) (A1 A2 : Option Addr) (c1 c2 : Nat) (w : World) (hD : DM w d A1 A2 c1 c2) : Calls Tryd.prog 30 #[.agg (dC d A1 A2 c1 c2)] w (QS w (lineS d)) := by
  have HD := Lib.hid hD
  have HLF := Lib.hid (line_flat d)
  have HB0 := Lib.hid ((Below.refl w.heap.size w).alloc (Nat.le_refl _) (.cells (dC d A1 A2 c1 c2) 45))
  have HX0 := Lib.hid (show (w.alloc (.cells (dC d A1 A2 c1 c2) 45)).heap[w.heap.size]? = some (.cells (dC d A1 A2 c1 c2) 45 (0, 0)) from heap_alloc_new _ _)
  have by0 : 0 ≤ d.by_ := hD.ok.2.2.2.2.1.1
  have by1 : d.by_ ≤ 255 := hD.ok.2.2.2.2.1.2
  have dr0 : 0 ≤ d.draw := hD.ok.2.2.2.2.2.1.1
  have dr1 : d.draw ≤ 255 := hD.ok.2.2.2.2.2.1.2
  have HLW := Lib.hid (word_short d.kind)
  have hq : ∀ b : Bs, b.length ≤ 10000 → (quoS b).length ≤ 30001 := fun b hb => by
    unfold quoS
    split
    · simp
    · have := q_len b
      omega
  have HLK := Lib.hid (hq d.key hD.key)
  have HLV := Lib.hid (hq d.value hD.vl)
  have HL1 := Lib.hid (decS_len hD.ok.2.1.1 hD.ok.2.1.2)
  have HL2 := Lib.hid (decS_len hD.ok.2.2.1.1 hD.ok.2.2.1.2)
  have HL3 := Lib.hid (decS_len hD.ok.2.2.2.1.1 hD.ok.2.2.2.1.2)
  have HL4 := Lib.hid (decS_len (n := d.by_) (by omega) (by omega))
  have HL5 := Lib.hid (decS_len (n := d.draw) (by omega) (by omega))
  have HLL := Lib.hid (list_len d.keep hD.ok.2.2.2.2.2.2)
  have HKL := Lib.hid hD.kl
  clear hD hq
  obtain ⟨kd, hkd⟩ : ∃ kd, kd = d.kind := ⟨_, rfl⟩
  obtain ⟨wd, hwd⟩ : ∃ wd, wd = wordS d.kind := ⟨_, rfl⟩
  have HKD := Lib.hid hkd
  have HWD := Lib.hid hwd
  unfold dC at HB0 HX0 ⊢
  rw [← hkd] at HB0 HX0 ⊢
  rw [← hwd] at HLW
  clear hkd hwd
  have kb := fun W => print_bytes (P := Tryd.prog) 9 22 5 Tryd.underlying9 Tryd.underlying22 Tryd.underlying5 (bsV d.key) W
  rw [bsV_size] at kb
  have hb1 : ∀ (x : Bs) (W : World), x.length ≤ 40000 → (Op.stringOp .add (⟨#[32]⟩ : ByteArray) (bsV x)).run Tryd.prog W = .ok (.string (bsV (bl x))) W := fun x W hx => add_run [32] x (by simp; omega) W
  have HB1 := Lib.hid hb1
  clear hb1
  have ha1 := fun W => HB1.out (quoS d.key) W (by have := HLK.out; omega)
  have ha2 := fun W => HB1.out (decS d.n) W (by have := HL2.out; omega)
  have ha3 := fun W => HB1.out (decS d.node) W (by have := HL1.out; omega)
  go_enter Tryd.func30, Tryd.ntmps30
  have HWR := Lib.hid (fun W => refWord_any kd W)
  rw [HKD.out, ← HWD.out, ← HKD.out] at HWR
  go_wp2_with fail
  refine (HWR.out _).mono ?_
  rintro e w1 ⟨rfl, hb⟩
  have BB1 := Lib.hid (HB0.out.trans (hb.mono HB0.out.size))
  have HX1 := Lib.hid ((hb.block w.heap.size (by simp)).trans HX0.out)
  have hz1 : w.heap.size < w1.heap.size := (Array.getElem?_eq_some_iff.1 HX1.out).1
  have hk1 : w1.cell? ⟨w.heap.size, 2, none⟩ = some (.string (bsV d.key)) := by rw [World.cell?, HX1.out]; rfl
  have HBW := Lib.hid (bytes_below (Below.refl w1.heap.size w1) (Nat.le_refl _) 5 (bsV d.key))
  have HC := Lib.hid (fun k hk => refQuote_any d.key (some ⟨w1.heap.size, 0, none⟩) k (Lib.bytesWorld w1 5 (bsV d.key)) (bytes_C w1 d.key (by have := HD.out.key; omega)) hk (show Hid _ from (by have := HD.out.key; show d.key.length ≤ 100000; omega)))
  clear hb HB0 HX0
  go_wp2_with fail
  refine (HC.out _ (grownCap_ge _ _ _ _)).mono ?_
  rintro e w2 ⟨rfl, hb⟩
  have hb12 := HBW.out.trans (hb.mono HBW.out.size)
  have BB2 := Lib.hid (BB1.out.trans (hb12.mono BB1.out.size))
  have HX2 := Lib.hid ((hb12.block w.heap.size hz1).trans HX1.out)
  have hk2 : w2.cell? ⟨w.heap.size, 4, none⟩ = some (.int .i64 d.n) := by rw [World.cell?, HX2.out]; rfl
  clear hb hb12 BB1 HX1 hk1 HC HBW
  go_wp2_with fail
  refine (refDec_any d.n (show Hid _ from HD.out.ok.2.2.1) w2).mono ?_
  rintro e w3 ⟨rfl, hb⟩
  have BB3 := Lib.hid (BB2.out.trans (hb.mono BB2.out.size))
  have HX3 := Lib.hid ((hb.block w.heap.size (Array.getElem?_eq_some_iff.1 HX2.out).1).trans HX2.out)
  have hk3 : w3.cell? ⟨w.heap.size, 1, none⟩ = some (.int .i64 d.node) := by rw [World.cell?, HX3.out]; rfl
  clear hb BB2 HX2 hk2
  go_wp2_with fail
  refine (refDec_any d.node (show Hid _ from HD.out.ok.2.1) w3).mono ?_
  rintro e w4 ⟨rfl, hb⟩
  have BB4 := Lib.hid (BB3.out.trans (hb.mono BB3.out.size))
  have HX4 := Lib.hid ((hb.block w.heap.size (Array.getElem?_eq_some_iff.1 HX3.out).1).trans HX3.out)
  have HX := Lib.hid (And.intro HX4.out BB4.out)
  clear hb BB3 HX3 hk3
  obtain ⟨wc, hwc⟩ : ∃ wc : World, wc = w4 := ⟨_, rfl⟩
  subst hwc
  clear kb
  have hk0 : wc.cell? ⟨w.heap.size, 0, none⟩ = some (.int .i64 kd) := by rw [World.cell?, HX.out.1]; rfl
  have HAD := Lib.hid (fun (a b : Bs) (h : a.length ≤ 300000) (h2 : b.length ≤ 300000) => add_run a b (by omega))
  have HLB := Lib.hid (show ∀ x, (bl x).length = x.length + 1 from fun x => rfl)
  have L1 := HLB.out (decS d.node)
  have L2 := HLB.out (quoS d.key)
  have L3 := HLB.out (decS d.n)
  have HBN := Lib.hid (show (bl (decS d.node)).length ≤ 21 by have := HL1.out; rw [L1]; omega)
  have HBK := Lib.hid (show (bl (quoS d.key)).length ≤ 30002 by have := HLK.out; rw [L2]; omega)
  have HBI := Lib.hid (show (bl (decS d.n)).length ≤ 21 by have := HL2.out; rw [L3]; omega)
  clear L1 L2 L3
  rcases kind_cases kd with rfl | rfl | rfl | rfl | rfl | rfl | rfl | rfl | rfl | rfl | rfl | hno
  · have b1 := HLW.out
    have b2 := HBN.out
    have b3 := HBK.out
    have b4 := HBI.out
    have b5 := HLV.out
    have b6 := HL3.out
    have b7 := HL4.out
    have b8 := HL5.out
    have b9 := HLL.out
    have bA := HKL.out
    obtain ⟨s1, hs1, hl1, ha1⟩ := add_to wd (bl (decS d.node)) (by omega)
    obtain ⟨s2, hs2, hl2, ha2⟩ := add_to s1 (bl (quoS d.key)) (by omega)
    have HF := Lib.hid (show lineS d = s2 by rw [HLF.out, ← HWD.out, tailW, ← HKD.out]; simp [bl, hs1, hs2])
    clear b1 b2 b3 b4 b5 b6 b7 b8 b9 bA hs1 hl1 hs2 hl2
    go_wp2_with fail
    go_ret
    exact ⟨by rw [HF.out]; rfl, HX.out.2⟩
  · have b1 := HLW.out
    have b2 := HBN.out
    have b3 := HBK.out
    have b4 := HBI.out
    have b5 := HLV.out
    have b6 := HL3.out
    have b7 := HL4.out
    have b8 := HL5.out
    have b9 := HLL.out
    have bA := HKL.out
    obtain ⟨s1, hs1, hl1, ha1⟩ := add_to wd (bl (quoS d.key)) (by omega)
    obtain ⟨s2, hs2, hl2, ha2⟩ := add_sp s1 (by omega)
    obtain ⟨s3, hs3, hl3, ha3⟩ := add_to s2 (quoS d.value) (by omega)
    have HF := Lib.hid (show lineS d = s3 by rw [HLF.out, ← HWD.out, tailW, ← HKD.out]; simp [bl, hs1, hs2, hs3])
    clear b1 b2 b3 b4 b5 b6 b7 b8 b9 bA hs1 hl1 hs2 hl2 hs3 hl3
    have hk3 : wc.cell? ⟨w.heap.size, 3, none⟩ = some (.slice A1 d.value.length c1) := by rw [World.cell?, HX.out.1]; rfl
    have HC := Lib.hid (refQuote_any d.value A1 c1 wc (Kd.C_below HD.out.val HX.out.2) HD.out.capV (show Hid _ from (by have := HD.out.vl; show d.value.length ≤ 100000; omega)))
    go_wp2_with fail
    refine HC.out.mono ?_
    rintro e w3 ⟨rfl, hb3⟩
    have HB3 := Lib.hid (HX.out.2.trans (hb3.mono HX.out.2.size))
    clear hb3 HC
    go_wp2_with fail
    go_ret
    exact ⟨by rw [HF.out]; rfl, HB3.out⟩
  · have b1 := HLW.out
    have b2 := HBN.out
    have b3 := HBK.out
    have b4 := HBI.out
    have b5 := HLV.out
    have b6 := HL3.out
    have b7 := HL4.out
    have b8 := HL5.out
    have b9 := HLL.out
    have bA := HKL.out
    obtain ⟨s1, hs1, hl1, ha1⟩ := add_to wd (bl (quoS d.key)) (by omega)
    have HF := Lib.hid (show lineS d = s1 by rw [HLF.out, ← HWD.out, tailW, ← HKD.out]; simp [bl, hs1])
    clear b1 b2 b3 b4 b5 b6 b7 b8 b9 bA hs1 hl1
    go_wp2_with fail
    go_ret
    exact ⟨by rw [HF.out]; rfl, HX.out.2⟩
  · have b1 := HLW.out
    have b2 := HBN.out
    have b3 := HBK.out
    have b4 := HBI.out
    have b5 := HLV.out
    have b6 := HL3.out
    have b7 := HL4.out
    have b8 := HL5.out
    have b9 := HLL.out
    have bA := HKL.out
    obtain ⟨s1, hs1, hl1, ha1⟩ := add_to wd (bl (decS d.n)) (by omega)
    have HF := Lib.hid (show lineS d = s1 by rw [HLF.out, ← HWD.out, tailW, ← HKD.out]; simp [bl, hs1])
    clear b1 b2 b3 b4 b5 b6 b7 b8 b9 bA hs1 hl1
    go_wp2_with fail
    go_ret
    exact ⟨by rw [HF.out]; rfl, HX.out.2⟩
  · have b1 := HLW.out
    have b2 := HBN.out
    have b3 := HBK.out
    have b4 := HBI.out
    have b5 := HLV.out
    have b6 := HL3.out
    have b7 := HL4.out
    have b8 := HL5.out
    have b9 := HLL.out
    have bA := HKL.out
    obtain ⟨s1, hs1, hl1, ha1⟩ := add_to wd (bl (decS d.n)) (by omega)
    have HF := Lib.hid (show lineS d = s1 by rw [HLF.out, ← HWD.out, tailW, ← HKD.out]; simp [bl, hs1])
    clear b1 b2 b3 b4 b5 b6 b7 b8 b9 bA hs1 hl1
    go_wp2_with fail
    go_ret
    exact ⟨by rw [HF.out]; rfl, HX.out.2⟩
  · have b1 := HLW.out
    have b2 := HBN.out
    have b3 := HBK.out
    have b4 := HBI.out
    have b5 := HLV.out
    have b6 := HL3.out
    have b7 := HL4.out
    have b8 := HL5.out
    have b9 := HLL.out
    have bA := HKL.out
    obtain ⟨s1, hs1, hl1, ha1⟩ := add_to wd (bl (decS d.n)) (by omega)
    have HF := Lib.hid (show lineS d = s1 by rw [HLF.out, ← HWD.out, tailW, ← HKD.out]; simp [bl, hs1])
    clear b1 b2 b3 b4 b5 b6 b7 b8 b9 bA hs1 hl1
    go_wp2_with fail
    go_ret
    exact ⟨by rw [HF.out]; rfl, HX.out.2⟩
  · have b1 := HLW.out
    have b2 := HBN.out
    have b3 := HBK.out
    have b4 := HBI.out
    have b5 := HLV.out
    have b6 := HL3.out
    have b7 := HL4.out
    have b8 := HL5.out
    have b9 := HLL.out
    have bA := HKL.out
    obtain ⟨s1, hs1, hl1, ha1⟩ := add_to wd (bl (decS d.n)) (by omega)
    obtain ⟨s2, hs2, hl2, ha2⟩ := add_sp s1 (by omega)
    obtain ⟨s3, hs3, hl3, ha3⟩ := add_to s2 (decS d.at_) (by omega)
    obtain ⟨s4, hs4, hl4, ha4⟩ := add_sp s3 (by omega)
    obtain ⟨s5, hs5, hl5, ha5⟩ := add_to s4 (decS d.by_) (by omega)
    have HF := Lib.hid (show lineS d = s5 by rw [HLF.out, ← HWD.out, tailW, ← HKD.out]; simp [bl, hs1, hs2, hs3, hs4, hs5])
    clear b1 b2 b3 b4 b5 b6 b7 b8 b9 bA hs1 hl1 hs2 hl2 hs3 hl3 hs4 hl4 hs5 hl5
    have HXX := Lib.hid (show ∀ W, Below wc.heap.size wc W → W.cell? ⟨w.heap.size, 5, none⟩ = some (.int .i64 d.at_) ∧ W.cell? ⟨w.heap.size, 6, none⟩ = some (.int .u8 d.by_) from fun W hW => by
      have e1 := (hW.block _ (Array.getElem?_eq_some_iff.1 HX.out.1).1).trans HX.out.1
      constructor <;> (rw [World.cell?, e1]; rfl))
    have HDC := Lib.hid (show ∀ (n : Int) (W : World), I64 n → Below wc.heap.size wc W → Calls Tryd.prog 16 #[.int .i64 n] W fun e w' => e = .returned (.string (bsV (decS n))) ∧ Below wc.heap.size wc w' from fun n W hn hW => (refDec_any n (show Hid _ from hn) W).mono fun e w' ⟨he, hb⟩ => ⟨he, hW.trans (hb.mono hW.size)⟩)
    have HN5 := Lib.hid HD.out.ok.2.2.2.1
    have HN6 := Lib.hid (show I64 d.by_ from ⟨by omega, by omega⟩)
    have z0 : Hid (Below wc.heap.size wc wc.drew) := (Drawn0.below ⟨1, rfl⟩)
    obtain ⟨q5, q6⟩ := HXX.out wc (Below.refl _ _)
    have hwb : IntKind.i64.wrap d.by_ = d.by_ := by rw [IntKind.wrap_i64]; omega
    go_wp2_with fail
    go_region_held3 (fun w' => w'.cell? ⟨w.heap.size, 5, none⟩ = some (.int .i64 d.at_) ∧ w'.cell? ⟨w.heap.size, 6, none⟩ = some (.int .u8 d.by_))
      (first | exact ⟨q5, q6⟩ | exact HXX.out _ z0.out | exact HXX.out _ z1.out | exact HXX.out _ z2.out)
      (first
      | (go_at_call 16; ((with_reducible refine (HDC.out d.at_ _ HN5.out ?_).mono ?_)); (case refine_1 => first | exact z2.out | exact z0.out); rintro e y1 ⟨rfl, hb⟩; have z1 := Lib.hid hb; clear hb)
      | (go_at_call 16; ((with_reducible refine (HDC.out d.by_ _ HN6.out ?_).mono ?_)); (case refine_1 => first | exact z1.out | exact z0.out); rintro e y2 ⟨rfl, hb⟩; have z2 := Lib.hid hb; clear hb))
    all_goals
      go_wp2_with fail
      go_ret
      exact ⟨by rw [HF.out]; rfl, HX.out.2.trans ((by first | exact z2.out | exact z1.out : Below wc.heap.size wc _).mono HX.out.2.size)⟩
  · have b1 := HLW.out
    have b2 := HBN.out
    have b3 := HBK.out
    have b4 := HBI.out
    have b5 := HLV.out
    have b6 := HL3.out
    have b7 := HL4.out
    have b8 := HL5.out
    have b9 := HLL.out
    have bA := HKL.out
    have HF := Lib.hid (show lineS d = wd by rw [HLF.out, ← HWD.out, tailW, ← HKD.out]; simp [bl])
    clear b1 b2 b3 b4 b5 b6 b7 b8 b9 bA 
    go_wp2_with fail
    go_ret
    exact ⟨by rw [HF.out]; rfl, HX.out.2⟩
  · have b1 := HLW.out
    have b2 := HBN.out
    have b3 := HBK.out
    have b4 := HBI.out
    have b5 := HLV.out
    have b6 := HL3.out
    have b7 := HL4.out
    have b8 := HL5.out
    have b9 := HLL.out
    have bA := HKL.out
    obtain ⟨s1, hs1, hl1, ha1⟩ := add_to wd (bl (decS d.node)) (by omega)
    obtain ⟨s2, hs2, hl2, ha2⟩ := add_sp s1 (by omega)
    obtain ⟨s3, hs3, hl3, ha3⟩ := add_to s2 (decS d.draw) (by omega)
    have HF := Lib.hid (show lineS d = s3 by rw [HLF.out, ← HWD.out, tailW, ← HKD.out]; simp [bl, hs1, hs2, hs3])
    clear b1 b2 b3 b4 b5 b6 b7 b8 b9 bA hs1 hl1 hs2 hl2 hs3 hl3
    have hk3 : wc.cell? ⟨w.heap.size, 7, none⟩ = some (.int .u8 d.draw) := by rw [World.cell?, HX.out.1]; rfl
    have HC := Lib.hid (refDec_any d.draw (show Hid _ from ⟨by omega, by omega⟩) wc)
    go_wp2_with fail
    refine HC.out.mono ?_
    rintro e w3 ⟨rfl, hb3⟩
    have HB3 := Lib.hid (HX.out.2.trans (hb3.mono HX.out.2.size))
    clear hb3 HC
    go_wp2_with fail
    go_ret
    exact ⟨by rw [HF.out]; rfl, HB3.out⟩
  · have b1 := HLW.out
    have b2 := HBN.out
    have b3 := HBK.out
    have b4 := HBI.out
    have b5 := HLV.out
    have b6 := HL3.out
    have b7 := HL4.out
    have b8 := HL5.out
    have b9 := HLL.out
    have bA := HKL.out
    obtain ⟨s1, hs1, hl1, ha1⟩ := add_to wd (bl (decS d.node)) (by omega)
    obtain ⟨s2, hs2, hl2, ha2⟩ := add_to s1 (bl (decS d.n)) (by omega)
    have HF := Lib.hid (show lineS d = s2 by rw [HLF.out, ← HWD.out, tailW, ← HKD.out]; simp [bl, hs1, hs2])
    clear b1 b2 b3 b4 b5 b6 b7 b8 b9 bA hs1 hl1 hs2 hl2
    go_wp2_with fail
    go_ret
    exact ⟨by rw [HF.out]; rfl, HX.out.2⟩
  · have b1 := HLW.out
    have b2 := HBN.out
    have b3 := HBK.out
    have b4 := HBI.out
    have b5 := HLV.out
    have b6 := HL3.out
    have b7 := HL4.out
    have b8 := HL5.out
    have b9 := HLL.out
    have bA := HKL.out
    obtain ⟨s1, hs1, hl1, ha1⟩ := add_to wd (bl (decS d.node)) (by omega)
    obtain ⟨s2, hs2, hl2, ha2⟩ := add_to s1 (listS d.keep) (by omega)
    have HF := Lib.hid (show lineS d = s2 by rw [HLF.out, ← HWD.out, tailW, ← HKD.out]; simp [bl, hs1, hs2, ← list_map])
    clear b1 b2 b3 b4 b5 b6 b7 b8 b9 bA hs1 hl1 hs2 hl2
    have hk3 : wc.cell? ⟨w.heap.size, 8, none⟩ = some (.slice A2 d.keep.length c2) := by rw [World.cell?, HX.out.1]; rfl
    have HC := Lib.hid (list_any d.keep A2 c2 wc (Kd.C_below HD.out.kp HX.out.2) HD.out.capK HD.out.kl (show Hid _ from HD.out.ok.2.2.2.2.2.2))
    go_wp2_with fail
    refine HC.out.mono ?_
    rintro e w3 ⟨rfl, hb3⟩
    have HB3 := Lib.hid (HX.out.2.trans (hb3.mono HX.out.2.size))
    clear hb3 HC
    go_wp2_with fail
    go_ret
    exact ⟨by rw [HF.out]; rfl, HB3.out⟩
  · have b1 := HLW.out
    have b2 := HBN.out
    have b3 := HBK.out
    have b4 := HBI.out
    have b5 := HLV.out
    have b6 := HL3.out
    have b7 := HL4.out
    have b8 := HL5.out
    have b9 := HLL.out
    have bA := HKL.out
    obtain ⟨n1, n2, n3, n4, n5, n6, n7, n8, n9, nA, nB⟩ := hno
    obtain ⟨s1, hs1, hl1, ha1⟩ := add_to wd (bl (decS d.node)) (by omega)
    have HF := Lib.hid (show lineS d = s1 by rw [HLF.out, ← HWD.out, tailW, ← HKD.out]; simp [bl, hs1, n1, n2, n3, n4, n5, n6, n7, n8, n9, nA, nB])
    clear b1 b2 b3 b4 b5 b6 b7 b8 b9 bA hs1 hl1
    have m1 : (kd == 1) = false := by simpa using n1
    have m2 : (kd == 2) = false := by simpa using n2
    have m3 : (kd == 3) = false := by simpa using n3
    have m4 : (kd == 4) = false := by simpa using n4
    have m5 : (kd == 5) = false := by simpa using n5
    have m6 : (kd == 6) = false := by simpa using n6
    have m7 : (kd == 7) = false := by simpa using n7
    have m8 : (kd == 8) = false := by simpa using n8
    have m9 : (kd == 10) = false := by simpa using n9
    have mA : (kd == 15) = false := by simpa using nA
    have mB : (kd == 16) = false := by simpa using nB
    go_wp2_with fail
    go_ret
    exact ⟨by rw [HF.out]; rfl, HX.out.2⟩
end Go.Proofs.YtbckbpimabmacaaDoor
namespace Go.Proofs.YtbckbpimabmacaaDoor
set_option linter.unusedVariables false
set_option linter.unusedSimpArgs false
open Go.RowKit Go.Proofs.YtbckbpimabmacaaDoorW.PrintWords
attribute [local go_sem ↓] Go.wp_at_zero Go.wp_at_succ
attribute [local go_sem] bsV_get bsV_size bsV_toList

abbrev De : Type := PR.S45
def deOf (d : Dd) : De := ⟨d.kind, d.node, bsV d.key, bI d.value, d.n, d.at_, d.by_, d.draw, d.keep⟩
/-- Deeds by their lists. -/
def kD : Kd Dd := Kd.iso PR.k45 deOf
theorem kD_C {W : World} {A : Option Addr} {n : Nat} {L : List Dd} (h : kD.C W A n L) : PR.k45.C W A n (L.map deOf) := by
  refine ⟨by rw [List.length_map]; exact h.1, h.2.1, fun hn => ?_⟩
  obtain ⟨ad, e, hc⟩ := h.2.2 hn
  refine ⟨ad, e, fun j p hj => ?_⟩
  rw [List.getElem?_map] at hj
  obtain ⟨d, hd, rfl⟩ := Option.map_eq_some_iff.1 hj
  exact hc j d hd
/-- A deed that may be met: in range, and not too long. -/
def okS (d : Dd) : Prop := okD d ∧ d.key.length ≤ 10000 ∧ d.value.length ≤ 10000 ∧ d.keep.length ≤ 10000
theorem DM.mk' {W : World} {d : Dd} {A A' : Option Addr} {c c' : Nat} (h1 : d.value.length ≤ c) (h2 : (Kd.int .u8).C W A d.value.length (bI d.value)) (h3 : d.keep.length ≤ c') (h4 : (Kd.int .i64).C W A' d.keep.length d.keep) (h : okS d) : DM W d A A' c c' := ⟨h1, h3, h2, h4, h.1, h.2.1, h.2.2.1, h.2.2.2⟩
theorem deed_at {W : World} {A : Option Addr} {n : Nat} {L : List Dd} (h : kD.C W A n L) {i : Nat} (hi : i < L.length) {d : Dd} (hd : L[i] = d) (hk : okS d) : ∃ ad A1 c1 A2 c2, A = some ad ∧ DM W d A1 A2 c1 c2 ∧
    W.cell? (ad.add (i * 9)) = some (.int .i64 d.kind) ∧ W.cell? ⟨(ad.add (i * 9)).block, (ad.add (i * 9)).off + 1, none⟩ = some (.int .i64 d.node) ∧ W.cell? ⟨(ad.add (i * 9)).block, (ad.add (i * 9)).off + 2, none⟩ = some (.string (bsV d.key)) ∧
    W.cell? ⟨(ad.add (i * 9)).block, (ad.add (i * 9)).off + 3, none⟩ = some (.slice A1 d.value.length c1) ∧ W.cell? ⟨(ad.add (i * 9)).block, (ad.add (i * 9)).off + 4, none⟩ = some (.int .i64 d.n) ∧ W.cell? ⟨(ad.add (i * 9)).block, (ad.add (i * 9)).off + 5, none⟩ = some (.int .i64 d.at_) ∧
    W.cell? ⟨(ad.add (i * 9)).block, (ad.add (i * 9)).off + 6, none⟩ = some (.int .u8 d.by_) ∧ W.cell? ⟨(ad.add (i * 9)).block, (ad.add (i * 9)).off + 7, none⟩ = some (.int .u8 d.draw) ∧ W.cell? ⟨(ad.add (i * 9)).block, (ad.add (i * 9)).off + 8, none⟩ = some (.slice A2 d.keep.length c2) := by
  have hl : L.length = n := h.1
  obtain ⟨ad, A1, c1, A2, c2, e, k0, k1, k2, k3, k4, k5, k6, k7, k8, l3, g3, l8, g8⟩ := PR.at_T45 (kD_C h) (i : Int) (by omega) (by omega)
  have hr : PR.rd_T45 (L.map deOf) (i : Int) = deOf d := by
    unfold PR.rd_T45
    rw [Int.toNat_natCast, List.getD_eq_getElem?_getD, List.getElem?_map, List.getElem?_eq_getElem hi, hd]
    rfl
  rw [hr] at k0 k1 k2 k3 k4 k5 k6 k7 k8 l3 g3 l8 g8
  rw [Int.toNat_natCast] at k0 k1 k2 k3 k4 k5 k6 k7 k8
  have hv : (deOf d).f3.length = d.value.length := bI_len d.value
  rw [hv] at k3 l3 g3
  exact ⟨ad, A1, c1, A2, c2, e, DM.mk' l3 g3 l8 g8 hk, k0, k1, k2, k3, k4, k5, k6, k7, k8⟩
def textS (L : List Dd) : Bs := L.flatMap fun d => lineS d ++ [10]
theorem text_snoc (L : List Dd) (d : Dd) : textS (L ++ [d]) = textS L ++ (lineS d ++ [10]) := by simp [textS]
theorem text_take {L : List Dd} {i : Nat} (h : i < L.length) : textS (L.take (i + 1)) = textS (L.take i) ++ (lineS L[i] ++ [10]) := by rw [List.take_succ_eq_append_getElem h, text_snoc]
theorem text_take_le (L : List Dd) (i : Nat) : (textS (L.take i)).length ≤ (textS L).length := by
  have h : textS L = textS (L.take i) ++ textS (L.drop i) := by rw [textS, textS, textS, ← List.flatMap_append, List.take_append_drop]
  rw [h, List.length_append]
  omega
def wsP (B b : Nat) (s : Bs) (l : Bs) (w : World) (e : Ending) (w' : World) : Prop := e = .returned (.tuple #[.int .i64 s.length, .nilIface]) ∧ Lib.IsBuilder 67 5 B b (Lib.byteCells (l ++ s)) w' ∧ Below B w w'
theorem wsb {B b : Nat} {l : Bs} {w : World} (h : Lib.IsBuilder 67 5 B b (Lib.byteCells l) w) (s : Bs) (hl : l.length + s.length ≤ 140737488355328) (hB : B ≤ w.heap.size) :
    Calls Tryd.prog 59 #[.pointer (some ⟨b, 0, none⟩), .string (bsV s)] w (wsP B b s l w) := by
  refine (ws_any B b _ (bsV s) w h (by rw [bc_len, bsV_size]; omega) hB).mono fun e w' ⟨h1, h2, h3⟩ => ⟨by rw [h1, bsV_size], ?_, h3⟩
  have e1 : Lib.byteCells l ++ Lib.strCells (bsV s) = Lib.byteCells (l ++ s) := by rw [Lib.strCells_eq, bsV_list, ← Lib.byteCells_append]
  rw [e1] at h2
  exact .inr h2
set_option maxHeartbeats 4000000 in
set_option maxRecDepth 100000 in
theorem text_any (L : List Dd) (A : Option Addr) (c : Nat) (w : World) (hC : kD.C w A L.length L) (hc : L.length ≤ c) (hk : ∀ d ∈ L, okS d) (hl : (textS L).length ≤ 100000000) (hn : L.length ≤ 100000000) : Calls Tryd.prog 31 #[.slice A L.length c] w (QS w (textS L)) := by
  have HC := Lib.hid hC
  have HK := Lib.hid hk
  have HTL := Lib.hid hl
  clear hC hk hl
  go_enter Tryd.func31, Tryd.ntmps31
  go_wp2_with fail
  go_loopw [8] (fun iv wr => ∃ i : Nat, i ≤ L.length ∧ iv = .int .i64 i ∧ Hid (Lib.IsBuilder 67 5 w.heap.size w.heap.size (Lib.byteCells (textS (L.take i))) wr ∧ Below w.heap.size w wr)) (fun iv _ => L.length - (intOf iv).toNat)
  case atStart => exact ⟨0, Nat.zero_le _, rfl, Lib.fresh_isBuilder _ _ w, (Below.refl _ w).alloc (Nat.le_refl _) _⟩
  case round =>
    obtain ⟨i, hi, rfl, HI⟩ := hrel
    by_cases hlt : i < L.length
    · have i1 : (0 : Int) ≤ (i : Int) := by omega
      have i2 : (i : Int) < (L.length : Int) := by omega
      have hwi : IntKind.i64.wrap ((i : Int) + 1) = (i : Int) + 1 := by rw [IntKind.wrap_i64]; omega
      obtain ⟨d, hd⟩ : ∃ d, L[i] = d := ⟨_, rfl⟩
      obtain ⟨ad, A1, c1, A2, c2, rfl, hDM, k0, k1, k2, k3, k4, k5, k6, k7, k8⟩ := deed_at (Kd.C_below HC.out HI.out.2) hlt hd (HK.out d (by rw [← hd]; exact List.getElem_mem hlt))
      have HTK := Lib.hid (show textS (L.take (i + 1)) = textS (L.take i) ++ lineS d ++ [10] by rw [text_take hlt, hd, List.append_assoc])
      have HLN := Lib.hid (show (textS (L.take i)).length + (lineS d).length + 1 ≤ 100000000 by
        have h1 := text_take_le L (i + 1)
        rw [HTK.out, List.length_append, List.length_append] at h1
        have := HTL.out
        simp at h1
        omega)
      have HDM := Lib.hid hDM
      have HBA := Lib.hid (bel_alloc wr (.cells (dC d A1 A2 c1 c2) 45))
      have HB := Lib.hid (is_below HI.out.1 HBA.out)
      have HBW := Lib.hid (HI.out.2.trans (HBA.out.mono HI.out.2.size))
      have HLC := Lib.hid (line_any d A1 A2 c1 c2 _ (hDM.later HBA.out))
      clear hDM hd HI
      unfold dC at HBA HB HBW HLC
      generalize textS (L.take i) = acc at *
      go_wp2_with fail
      refine HLC.out.mono ?_
      rintro e w1 ⟨rfl, hb1⟩
      have HB1 := Lib.hid (is_below HB.out hb1)
      have BW1 := Lib.hid (HBW.out.trans (hb1.mono HBW.out.size))
      clear hb1 HB HBW
      go_wp2_with fail
      refine (wsb HB1.out (lineS d) (by have := HLN.out; omega) BW1.out.size).mono ?_
      rintro e w2 ⟨rfl, h1, h2⟩
      have HB2 := Lib.hid h1
      have BW2 := Lib.hid (BW1.out.trans h2)
      clear h1 h2 HB1 BW1
      go_wp2_with fail
      refine (wbb HB2.out (by have := HLN.out; rw [List.length_append]; omega) BW2.out.size 10 _ rfl).mono ?_
      rintro e w3 ⟨rfl, h1, h2⟩
      have HB3 := Lib.hid h1
      have BW3 := Lib.hid (BW2.out.trans h2)
      clear h1 h2 HB2 BW2
      go_wp2_with fail
      go_roundw
      case rel => exact ⟨i + 1, by omega, by go_num, by rw [HTK.out]; exact HB3.out, BW3.out⟩
      case measure => simp [intOf]; omega
    · have hi3 : ¬ (i : Int) < (L.length : Int) := by omega
      have HT := Lib.hid (show textS (L.take i) = textS L by rw [List.take_of_length_le (by omega)])
      have HBS := Lib.hid (bstr_any _ _ _ _ HI.out.1 HI.out.2.size)
      go_wp2_with fail
      refine HBS.out.mono ?_
      rintro e w1 ⟨rfl, hb⟩
      have B1 := Lib.hid (HI.out.2.trans hb)
      clear hb
      go_wp2_with fail
      go_ret
      exact ⟨by rw [HT.out]; rfl, B1.out⟩
set_option maxHeartbeats 4000000 in
set_option maxRecDepth 100000 in
theorem refText_any (L : List Dd) (A : Option Addr) (c : Nat) (w : World) (hC : kD.C w A L.length L) (hc : L.length ≤ c) (hk : ∀ d ∈ L, okS d) (hl : (textS L).length ≤ 900000) (hn : L.length ≤ 100000000) : Calls Tryd.prog 32 #[.slice A L.length c] w (QS w (textS L)) := by
  have HC := Lib.hid hC
  have HK := Lib.hid hk
  have HTL := Lib.hid hl
  clear hC hk hl
  go_enter Tryd.func32, Tryd.ntmps32
  go_wp2_with fail
  go_loopw [3, 4] (fun sv iv wr => ∃ (i : Nat) (acc : Bs), i ≤ L.length ∧ iv = .int .i64 i ∧ sv = .string (bsV acc) ∧ Hid (acc = textS (L.take i) ∧ Below w.heap.size w wr)) (fun _ iv _ => L.length - (intOf iv).toNat)
  case atStart => exact ⟨0, [], Nat.zero_le _, rfl, rfl, rfl, Below.refl _ w⟩
  case round =>
    obtain ⟨i, acc, hi, rfl, rfl, HI⟩ := hrel
    by_cases hlt : i < L.length
    · have i1 : (0 : Int) ≤ (i : Int) := by omega
      have i2 : (i : Int) < (L.length : Int) := by omega
      have hwi : IntKind.i64.wrap ((i : Int) + 1) = (i : Int) + 1 := by rw [IntKind.wrap_i64]; omega
      obtain ⟨d, hd⟩ : ∃ d, L[i] = d := ⟨_, rfl⟩
      obtain ⟨ad, A1, c1, A2, c2, rfl, hDM, k0, k1, k2, k3, k4, k5, k6, k7, k8⟩ := deed_at (Kd.C_below HC.out HI.out.2) hlt hd (HK.out d (by rw [← hd]; exact List.getElem_mem hlt))
      have HTK := Lib.hid (show textS (L.take (i + 1)) = acc ++ lineS d ++ [10] by rw [text_take hlt, hd, HI.out.1, List.append_assoc])
      have HLN := Lib.hid (show acc.length + (lineS d).length + 1 ≤ 900000 by
        have h1 := text_take_le L (i + 1)
        rw [HTK.out, List.length_append, List.length_append] at h1
        have := HTL.out
        simp at h1
        omega)
      have HBW := Lib.hid HI.out.2
      have HLC := Lib.hid (refLine_any d A1 A2 c1 c2 wr hDM)
      obtain ⟨s1, hs1, hl1, ha1⟩ := add_to acc (lineS d) (by have := HLN.out; omega)
      obtain ⟨s2, hs2, hl2, ha2⟩ : ∃ s : Bs, s = s1 ++ [10] ∧ s.length = s1.length + 1 ∧ ∀ W : World, (Op.stringOp .add (bsV s1) ⟨#[10]⟩).run Tryd.prog W = .ok (.string (bsV s)) W := ⟨_, rfl, by simp, add_run s1 [10] (by have := HLN.out; simp; omega)⟩
      have HS := Lib.hid (show textS (L.take (i + 1)) = s2 by rw [HTK.out, hs2, hs1])
      clear hDM hd HI hs1 hl1 hs2 hl2 HTK
      unfold dC at HLC
      go_wp2_with fail
      refine HLC.out.mono ?_
      rintro e w1 ⟨rfl, hb1⟩
      have BW1 := Lib.hid (HBW.out.trans (hb1.mono HBW.out.size))
      clear hb1 HBW
      go_wp2_with fail
      go_roundw
      case rel => exact ⟨i + 1, s2, by omega, by go_num, rfl, HS.out.symm, BW1.out⟩
      case measure => simp [intOf]; omega
    · have hi3 : ¬ (i : Int) < (L.length : Int) := by omega
      have HT := Lib.hid (show acc = textS L by rw [HI.out.1, List.take_of_length_le (by omega)])
      go_wp2_with fail
      go_ret
      exact ⟨by rw [← HT.out]; rfl, HI.out.2⟩
end Go.Proofs.YtbckbpimabmacaaDoor
