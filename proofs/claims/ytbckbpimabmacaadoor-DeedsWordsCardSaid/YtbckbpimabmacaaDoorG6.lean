/- The deed of a line: deeds.Deed. -/
import Derived.Test.YtbckbpimabmacaaDoorG5
namespace Go.Proofs.YtbckbpimabmacaaDoor
set_option linter.unusedVariables false
set_option linter.unusedSimpArgs false
open Go.RowKit Go.Proofs.YtbckbpimabmacaaDoorW.PrintWords
attribute [local go_sem ↓] Go.wp_at_zero Go.wp_at_succ
attribute [local go_sem] bsV_get bsV_size bsV_toList

def z9 : Array Value := #[.int .i64 0, .int .i64 0, .string ⟨#[]⟩, .slice none 0 0, .int .i64 0, .int .i64 0, .int .u8 0, .int .u8 0, .slice none 0 0]
theorem RD.move {W W' : World} {b c : Nat} {A : Option Addr} {ws : List Bs} {ok : Bool} (h : RD W b A c ws ok) (hb : W'.heap[b]? = W.heap[b]?) (hm : ∀ g, g < b → (∃ cs, W.heap[g]? = some (.cells cs 9 (0, 0))) → W'.heap[g]? = W.heap[g]?) : RD W' b A c ws ok :=
  ⟨hb.trans h.blk, h.cap, h.row.move hm⟩
/-- What holds of memory while a deed is read. -/
structure DI (w : World) (br bd it : Nat) (s : Bs) (pos : Nat) (d : Dd) (A1 A2 : Option Addr) (c1 c2 : Nat) (A : Option Addr) (c : Nat) (ws : List Bs) (ok : Bool) (W : World) : Prop where
  res : W.heap[w.heap.size]? = some (.cells z9 45 (0, 0))
  box : W.heap[bd]? = some (.cells (dC d A1 A2 c1 c2) 45 (0, 0))
  rd : RD W br A c ws ok
  val : Kd.R (Kd.int .u8) 5 W w.heap.size (fun _ => True) (.slice A1 d.value.length c1) (bI d.value)
  kp : Kd.R (Kd.int .i64) 3 W w.heap.size (fun _ => True) (.slice A2 d.keep.length c2) d.keep
  itb : W.heap[it]? = some (.stringIter (bsV s) pos)
  l1 : w.heap.size < br
  l2 : br < bd
  l3 : bd < it
  bel : Below w.heap.size w W
section
variable {w W W' : World} {br bd it pos : Nat} {s : Bs} {d : Dd} {A1 A2 A : Option Addr} {c1 c2 c : Nat} {ws : List Bs} {ok : Bool}
theorem DI.next (h : DI w br bd it s pos d A1 A2 c1 c2 A c ws ok W) : DI w br bd it s (pos + 1) d A1 A2 c1 c2 A c ws ok (W.iterAt it (bsV s) (pos + 1)) := by
  have hne : ∀ k, k ≠ it → (W.iterAt it (bsV s) (pos + 1)).heap[k]? = W.heap[k]? := fun k hk => Lib.iterAt_other _ _ _ _ _ hk
  have l1 := h.l1; have l2 := h.l2; have l3 := h.l3
  exact ⟨(hne _ (by omega)).trans h.res, (hne _ (by omega)).trans h.box, h.rd.move (hne _ (by omega)) (fun g hg _ => hne _ (by omega)), R_iterAt h.val h.itb, R_iterAt h.kp h.itb, Lib.iterAt_heap _ _ _ _ _ h.itb, h.l1, h.l2, h.l3, Lib.below_iterAt h.bel (by omega) _ _⟩
theorem DI.num {A' : Option Addr} {c' : Nat} {ws' : List Bs} {ok' : Bool} (h : DI w br bd it s pos d A1 A2 c1 c2 A c ws ok W) (hg : W.grownBy W' (some br)) (hr : RD W' br A' c' ws' ok') : DI w br bd it s pos d A1 A2 c1 c2 A' c' ws' ok' W' := by
  have l1 := h.l1; have l2 := h.l2; have l3 := h.l3
  have hne : ∀ k o, W.heap[k]? = some o → k ≠ br → W'.heap[k]? = some o := fun k o hk hn => (hg.block k (Array.getElem?_eq_some_iff.1 hk).1 (fun e => hn (by injection e))).trans hk
  exact ⟨hne _ _ h.res (by omega), hne _ _ h.box (by omega), hr,
    Kd.R_mono (Kd.R_grown (Kd.R_types h.val h.rd.blk (by decide)) hg (fun k hk e => hk.2 (by injection e))) (fun _ hk => hk.1),
    Kd.R_mono (Kd.R_grown (Kd.R_types h.kp h.rd.blk (by decide)) hg (fun k hk e => hk.2 (by injection e))) (fun _ hk => hk.1),
    hne _ _ h.itb (by omega), h.l1, h.l2, h.l3, ⟨hg.os.trans h.bel.os, hg.tape.trans h.bel.tape, hg.output.trans h.bel.output, Nat.le_trans h.bel.size hg.size, fun i hi => (hg.block i (Nat.lt_of_lt_of_le hi h.bel.size) (fun e => by injection e with e; omega)).trans (h.bel.block i hi)⟩⟩
theorem DI.set {d' : Dd} {A1' A2' : Option Addr} {c1' c2' : Nat} (j : Nat) (v : Value) (h : DI w br bd it s pos d A1 A2 c1 c2 A c ws ok W) (he : (dC d A1 A2 c1 c2).setIfInBounds j v = dC d' A1' A2' c1' c2')
    (hv : Kd.R (Kd.int .u8) 5 W w.heap.size (fun _ => True) (.slice A1' d'.value.length c1') (bI d'.value)) (hk : Kd.R (Kd.int .i64) 3 W w.heap.size (fun _ => True) (.slice A2' d'.keep.length c2') d'.keep) : DI w br bd it s pos d' A1' A2' c1' c2' A c ws ok (W.setCell ⟨bd, j, none⟩ v) := by
  have l1 := h.l1; have l2 := h.l2; have l3 := h.l3
  have hne : ∀ k, k ≠ bd → (W.setCell ⟨bd, j, none⟩ v).heap[k]? = W.heap[k]? := fun k hk => heap_setCell_other W ⟨bd, j, none⟩ k v hk
  exact ⟨(hne _ (by omega)).trans h.res, by rw [← he]; exact heap_setCell_same W bd j _ _ v h.box, h.rd.move (hne _ (by omega)) (fun g hg _ => hne _ (by omega)), Kd.R_set hv h.box (by decide) j v, Kd.R_set hk h.box (by decide) j v, (hne _ (by omega)).trans h.itb, h.l1, h.l2, h.l3, h.bel.setCell (by show w.heap.size ≤ bd; omega) v⟩
theorem DI.app {W1 : World} {x : Int} {A2' : Option Addr} {c2' : Nat} (h : DI w br bd it s pos d A1 A2 c1 c2 A c ws ok W) (hg : W.grownBy W1 (Value.slice A2 d.keep.length c2).ownBlock) (ho : Kd.R (Kd.int .i64) 3 W1 w.heap.size (fun _ => True) (.slice A2' (d.keep.length + 1) c2') (d.keep ++ [x])) :
    DI w br bd it s pos { d with keep := d.keep ++ [x] } A1 A2' c1 c2' A c ws ok (W1.setCell ⟨bd, 8, none⟩ (.slice A2' (d.keep.length + 1) c2')) ∧ W1.heap[bd]? = some (.cells (dC d A1 A2 c1 c2) 45 (0, 0)) := by
  have l1 := h.l1; have l2 := h.l2; have l3 := h.l3
  have hb : ∀ {k cs t}, W.heap[k]? = some (Obj.cells cs t (0, 0)) → 3 ≠ t → W1.heap[k]? = some (Obj.cells cs t (0, 0)) := fun hk ht => (hg.block _ (Array.getElem?_eq_some_iff.1 hk).1 (Kd.R_ne h.kp hk ht)).trans hk
  have hbx := hb h.box (by decide)
  have hit := (hg.block _ (Array.getElem?_eq_some_iff.1 h.itb).1 (R_ne_iter h.kp h.itb)).trans h.itb
  have hrd : RD W1 br A c ws ok := h.rd.move ((hb h.rd.blk (by decide)).trans h.rd.blk.symm) (fun g _ ⟨cs, hc⟩ => (hb hc (by decide)).trans hc.symm)
  have hv : Kd.R (Kd.int .u8) 5 W1 w.heap.size (fun _ => True) (.slice A1 d.value.length c1) (bI d.value) := Kd.R_mono (Kd.R_grown (Kd.R_apartR h.val h.kp (by decide)) hg (fun k hk => hk.2)) (fun _ hk => hk.1)
  have hbel : Below w.heap.size w W1 := h.bel.grown hg h.bel.size (own_base (Kd.own_of_R h.kp))
  have hne : ∀ k, k ≠ bd → (W1.setCell ⟨bd, 8, none⟩ (.slice A2' (d.keep.length + 1) c2')).heap[k]? = W1.heap[k]? := fun k hk => heap_setCell_other W1 ⟨bd, 8, none⟩ k _ hk
  have hl : (d.keep ++ [x]).length = d.keep.length + 1 := by simp
  refine ⟨⟨(hne _ (by omega)).trans (hb h.res (by decide)), ?_, hrd.move (hne _ (by omega)) (fun g hg _ => hne _ (by omega)), Kd.R_set hv hbx (by decide) 8 _, ?_, (hne _ (by omega)).trans hit, h.l1, h.l2, h.l3, hbel.setCell (by show w.heap.size ≤ bd; omega) _⟩, hbx⟩
  · have := heap_setCell_same W1 bd 8 _ _ (.slice A2' (d.keep.length + 1) c2') hbx
    rw [this]
    simp [dC, hl]
  · show Kd.R (Kd.int .i64) 3 _ w.heap.size (fun _ => True) (.slice A2' (d.keep ++ [x]).length c2') (d.keep ++ [x])
    rw [hl]
    exact Kd.R_set ho hbx (by decide) 8 _
theorem DI.cell (h : DI w br bd it s pos d A1 A2 c1 c2 A c ws ok W) (j : Nat) : W.cell? ⟨bd, j, none⟩ = (dC d A1 A2 c1 c2)[j]? := cell_of_row W bd j _ _ (0, 0) h.box
theorem DI.frz (h : DI w br bd it s pos d A1 A2 c1 c2 A c ws ok W) (j : Nat) : W.frozen? ⟨bd, j, none⟩ = false := by simp [World.frozen?, h.box]
theorem DI.rcell (h : DI w br bd it s pos d A1 A2 c1 c2 A c ws ok W) : W.cell? ⟨br, 0, none⟩ = some (.slice A ws.length c) ∧ W.cell? ⟨br, 1, none⟩ = some (.bool ok) := ⟨cell_of_row W _ 0 _ _ (0, 0) h.rd.blk, cell_of_row W _ 1 _ _ (0, 0) h.rd.blk⟩
end
/-- Words that are not too many, nor too long. -/
structure WB (d : Dd) (ws : List Bs) : Prop where
  kl : d.keep.length + ws.length ≤ 5000000
  wl : ∀ x ∈ ws, x.length ≤ 5000000
theorem WB.tail {d d' : Dd} {ws : List Bs} (h : WB d ws) (hk : d'.keep = d.keep) : WB d' ws.tail := ⟨by have := h.kl; rw [hk, List.length_tail]; omega, fun x hx => h.wl x (List.mem_of_mem_tail hx)⟩
theorem WB.head {d : Dd} {ws : List Bs} (h : WB d ws) : (ws.headD []).length < 100000000 := by
  cases ws with
  | nil => simp
  | cons a r =>
    have := h.wl a (by simp)
    rw [List.headD_cons]
    omega
theorem c108 (ps : Bs) (d : Dd) (ws : List Bs) : contS (108 :: ps) d ws = (numsS ws).bind fun l => contS ps { d with keep := d.keep ++ l } [] := if_pos rfl
theorem c110_0 (ps : Bs) (d : Dd) : contS (110 :: ps) d [] = none := by simp [contS]
theorem c110_1 (ps : Bs) (d : Dd) (a : Bs) (r : List Bs) : contS (110 :: ps) d (a :: r) = (numS a).bind fun x => contS ps { d with node := x } r := by simp [contS]
theorem c107_0 (ps : Bs) (d : Dd) : contS (107 :: ps) d [] = none := by simp [contS]
theorem c107_1 (ps : Bs) (d : Dd) (a : Bs) (r : List Bs) : contS (107 :: ps) d (a :: r) = (unqS a).bind fun x => contS ps { d with key := x } r := by simp [contS]
theorem c118_0 (ps : Bs) (d : Dd) : contS (118 :: ps) d [] = none := by simp [contS]
theorem c118_1 (ps : Bs) (d : Dd) (a : Bs) (r : List Bs) : contS (118 :: ps) d (a :: r) = (unqS a).bind fun x => contS ps { d with value := x } r := by simp [contS]
theorem c105_0 (ps : Bs) (d : Dd) : contS (105 :: ps) d [] = none := by simp [contS]
theorem c105_1 (ps : Bs) (d : Dd) (a : Bs) (r : List Bs) : contS (105 :: ps) d (a :: r) = (numS a).bind fun x => contS ps { d with n := x } r := by simp [contS]
theorem c97_0 (ps : Bs) (d : Dd) : contS (97 :: ps) d [] = none := by simp [contS]
theorem c97_1 (ps : Bs) (d : Dd) (a : Bs) (r : List Bs) : contS (97 :: ps) d (a :: r) = (numS a).bind fun x => contS ps { d with at_ := x } r := by simp [contS]
theorem c98_0 (ps : Bs) (d : Dd) : contS (98 :: ps) d [] = none := by simp [contS]
theorem c98_1 (ps : Bs) (d : Dd) (a : Bs) (r : List Bs) : contS (98 :: ps) d (a :: r) = ((numS a).bind small).bind fun x => contS ps { d with by_ := x } r := by simp [contS]
theorem c100_0 (ps : Bs) (d : Dd) : contS (100 :: ps) d [] = none := by simp [contS]
theorem c100_1 (ps : Bs) (d : Dd) (a : Bs) (r : List Bs) : contS (100 :: ps) d (a :: r) = ((numS a).bind small).bind fun x => contS ps { d with draw := x } r := by simp [contS]
theorem set9 {w : World} {b : Nat} {t : TypeId} {y0 y1 y2 y3 y4 y5 y6 y7 y8 : Value} (h : w.heap[b]? = some (.cells #[y0, y1, y2, y3, y4, y5, y6, y7, y8] t (0, 0))) (x0 x1 x2 x3 x4 x5 x6 x7 x8 : Value) :
    (((((((((w.setCell ⟨b, 0, none⟩ x0).setCell ⟨b, 1, none⟩ x1).setCell ⟨b, 2, none⟩ x2).setCell ⟨b, 3, none⟩ x3).setCell ⟨b, 4, none⟩ x4).setCell ⟨b, 5, none⟩ x5).setCell ⟨b, 6, none⟩ x6).setCell ⟨b, 7, none⟩ x7).setCell ⟨b, 8, none⟩ x8).heap[b]? = some (.cells #[x0, x1, x2, x3, x4, x5, x6, x7, x8] t (0, 0)) ∧
    (∀ k, k ≠ b → (((((((((w.setCell ⟨b, 0, none⟩ x0).setCell ⟨b, 1, none⟩ x1).setCell ⟨b, 2, none⟩ x2).setCell ⟨b, 3, none⟩ x3).setCell ⟨b, 4, none⟩ x4).setCell ⟨b, 5, none⟩ x5).setCell ⟨b, 6, none⟩ x6).setCell ⟨b, 7, none⟩ x7).setCell ⟨b, 8, none⟩ x8).heap[k]? = w.heap[k]?) ∧
    (∀ {B : Nat} {a : World}, Below B a w → B ≤ b → Below B a (((((((((w.setCell ⟨b, 0, none⟩ x0).setCell ⟨b, 1, none⟩ x1).setCell ⟨b, 2, none⟩ x2).setCell ⟨b, 3, none⟩ x3).setCell ⟨b, 4, none⟩ x4).setCell ⟨b, 5, none⟩ x5).setCell ⟨b, 6, none⟩ x6).setCell ⟨b, 7, none⟩ x7).setCell ⟨b, 8, none⟩ x8)) := by
  have h0 := blk_set h 0 x0
  have h1 := blk_set h0 1 x1
  have h2 := blk_set h1 2 x2
  have h3 := blk_set h2 3 x3
  have h4 := blk_set h3 4 x4
  have h5 := blk_set h4 5 x5
  have h6 := blk_set h5 6 x6
  have h7 := blk_set h6 7 x7
  have h8 := blk_set h7 8 x8
  refine ⟨by simpa using h8, fun k hk => ?_, fun hB hb => ?_⟩
  · rw [Below.heap_setCell _ _ _ _ hk, Below.heap_setCell _ _ _ _ hk, Below.heap_setCell _ _ _ _ hk, Below.heap_setCell _ _ _ _ hk, Below.heap_setCell _ _ _ _ hk, Below.heap_setCell _ _ _ _ hk, Below.heap_setCell _ _ _ _ hk, Below.heap_setCell _ _ _ _ hk, Below.heap_setCell _ _ _ _ hk]
  · exact (((((((((hB.setCell (p := ⟨b, 0, none⟩) hb x0).setCell (p := ⟨b, 1, none⟩) hb x1).setCell (p := ⟨b, 2, none⟩) hb x2).setCell (p := ⟨b, 3, none⟩) hb x3).setCell (p := ⟨b, 4, none⟩) hb x4).setCell (p := ⟨b, 5, none⟩) hb x5).setCell (p := ⟨b, 6, none⟩) hb x6).setCell (p := ⟨b, 7, none⟩) hb x7).setCell (p := ⟨b, 8, none⟩) hb x8)
theorem R_off {α : Type} {k : Kd α} {e base b t : Nat} {w W : World} {v : Value} {xs : List α} {cs : Array Value} (h : k.R e w base (fun _ => True) v xs) (hb : w.heap[b]? = some (.cells cs t (0, 0))) (ht : ∀ q, q ∈ e :: k.E → q ≠ t) (hm : ∀ j, j ≠ b → W.heap[j]? = w.heap[j]?) : k.R e W base (fun _ => True) v xs :=
  Kd.R_mono (Kd.R_step (Kd.R_types h hb ht) (fun j hj _ => hm j hj.2)) (fun _ _ => trivial)
theorem z9_facts {W : World} {b : Nat} (h : W.heap[b]? = some (.cells z9 45 (0, 0))) : W.cell? ⟨b, 0, none⟩ = some (.int .i64 0) ∧ W.cell? ⟨b, 1, none⟩ = some (.int .i64 0) ∧ W.cell? ⟨b, 2, none⟩ = some (.string ⟨#[]⟩) ∧ W.cell? ⟨b, 3, none⟩ = some (.slice none 0 0) ∧ W.cell? ⟨b, 4, none⟩ = some (.int .i64 0) ∧ W.cell? ⟨b, 5, none⟩ = some (.int .i64 0) ∧ W.cell? ⟨b, 6, none⟩ = some (.int .u8 0) ∧ W.cell? ⟨b, 7, none⟩ = some (.int .u8 0) ∧ W.cell? ⟨b, 8, none⟩ = some (.slice none 0 0) ∧ W.frozen? ⟨b, 0, none⟩ = false ∧ W.frozen? ⟨b, 1, none⟩ = false ∧ W.frozen? ⟨b, 2, none⟩ = false ∧ W.frozen? ⟨b, 3, none⟩ = false ∧ W.frozen? ⟨b, 4, none⟩ = false ∧ W.frozen? ⟨b, 5, none⟩ = false ∧ W.frozen? ⟨b, 6, none⟩ = false ∧ W.frozen? ⟨b, 7, none⟩ = false ∧ W.frozen? ⟨b, 8, none⟩ = false := by
  refine ⟨(cell_of_row W b 0 _ _ (0, 0) h), (cell_of_row W b 1 _ _ (0, 0) h), (cell_of_row W b 2 _ _ (0, 0) h), (cell_of_row W b 3 _ _ (0, 0) h), (cell_of_row W b 4 _ _ (0, 0) h), (cell_of_row W b 5 _ _ (0, 0) h), (cell_of_row W b 6 _ _ (0, 0) h), (cell_of_row W b 7 _ _ (0, 0) h), (cell_of_row W b 8 _ _ (0, 0) h), ?_, ?_, ?_, ?_, ?_, ?_, ?_, ?_, ?_⟩
  all_goals simp [World.frozen?, h]
def deedD (s : Bs) : Dd := (deedS s).getD zD
def deedB (s : Bs) : Bool := (deedS s).isSome
theorem deedS_eq {s wd : Bs} {ws : List Bs} (h : splitS 32 s = wd :: ws) : deedS s = if findS wd = 0 then none else readD (findS wd) ws := by rw [deedS, h]
def DeedPost (s : Bs) (w : World) (e : Ending) (w' : World) : Prop := ∃ A1 A2 c1 c2, e = .returned (.tuple #[.agg (dC (deedD s) A1 A2 c1 c2), .bool (deedB s)]) ∧ kD.M w' w.heap.size (fun _ => True) (deedD s) (dC (deedD s) A1 A2 c1 c2).toList ∧ Below w.heap.size w w'
theorem kD_mkM {W : World} {base : Nat} {d : Dd} {A1 A2 : Option Addr} {c1 c2 : Nat} (hv : Kd.R (Kd.int .u8) 5 W base (fun _ => True) (.slice A1 d.value.length c1) (bI d.value)) (hk : Kd.R (Kd.int .i64) 3 W base (fun _ => True) (.slice A2 d.keep.length c2) d.keep) : kD.M W base (fun _ => True) d (dC d A1 A2 c1 c2).toList :=
  PR.k45_mkM W base (fun _ => True) (deOf d) hv hk
theorem deed_none {s : Bs} (h : deedS s = none) : deedD s = zD ∧ deedB s = false := by rw [deedD, deedB, h]; exact ⟨rfl, rfl⟩
theorem deed_some {s : Bs} {d : Dd} (h : deedS s = some d) : deedD s = d ∧ deedB s = true := by rw [deedD, deedB, h]; exact ⟨rfl, rfl⟩
theorem post_none {s : Bs} {w w' : World} {e : Ending} (h : deedS s = none) (he : e = .returned (.tuple #[.agg z9, .bool false])) (hb : Below w.heap.size w w') : DeedPost s w e w' := by
  obtain ⟨h1, h2⟩ := deed_none h
  refine ⟨none, none, 0, 0, ?_, ?_, hb⟩
  · rw [h1, h2, he]; rfl
  · rw [h1]; exact kD_mkM (Kd.R_nil _ _ _ _ _) (Kd.R_nil _ _ _ _ _)
theorem post_some {s : Bs} {w w' : World} {e : Ending} {d : Dd} {A1 A2 : Option Addr} {c1 c2 : Nat} (h : deedS s = some d) (he : e = .returned (.tuple #[.agg (dC d A1 A2 c1 c2), .bool true])) (hv : Kd.R (Kd.int .u8) 5 w' w.heap.size (fun _ => True) (.slice A1 d.value.length c1) (bI d.value)) (hk : Kd.R (Kd.int .i64) 3 w' w.heap.size (fun _ => True) (.slice A2 d.keep.length c2) d.keep) (hb : Below w.heap.size w w') : DeedPost s w e w' := by
  obtain ⟨h1, h2⟩ := deed_some h
  refine ⟨A1, A2, c1, c2, ?_, ?_, hb⟩
  · rw [h1, h2, he]
  · rw [h1]; exact kD_mkM hv hk
theorem mem_split_len {c : UInt8} : ∀ {s x : Bs}, x ∈ splitS c s → x.length ≤ s.length
  | [], x, h => by
    rw [show splitS c [] = [[]] from rfl, List.mem_singleton] at h
    rw [h]
    exact Nat.le_refl _
  | y :: r, x, h => by
    by_cases e : y = c
    · subst e
      rw [split_hit] at h
      rcases List.mem_cons.1 h with h | h
      · rw [h]
        simp
      · have := mem_split_len h
        simp
        omega
    · obtain ⟨a, t, e2⟩ := split_cons c r
      rw [split_no e e2] at h
      rcases List.mem_cons.1 h with h | h
      · rw [h]
        have := mem_split_len (s := r) (x := a) (by rw [e2]; exact List.mem_cons_self)
        simp
        omega
      · have := mem_split_len (s := r) (x := x) (by rw [e2]; exact List.mem_cons_of_mem _ h)
        simp
        omega
theorem split_len (c : UInt8) : ∀ s : Bs, (splitS c s).length ≤ s.length + 1
  | [] => by simp [splitS]
  | y :: r => by
    have ih := split_len c r
    by_cases e : y = c
    · subst e
      rw [split_hit]
      simp
      omega
    · obtain ⟨a, t, e2⟩ := split_cons c r
      rw [split_no e e2]
      rw [e2] at ih
      simp at ih ⊢
      omega
set_option maxHeartbeats 2000000 in
set_option maxRecDepth 100000 in
theorem deed_any (s : Bs) (w : World) (hl : s.length ≤ 1000000) (hm : MX w) : Calls Tryd.prog 24 #[.string (bsV s)] w (DeedPost s w) := by
  obtain ⟨wd, ws0, hsp⟩ := split_cons 32 s
  have HDS := Lib.hid (deedS_eq hsp)
  have HW0 := Lib.hid (show ∀ x ∈ wd :: ws0, x.length ≤ s.length from fun x hx => mem_split_len (by rw [hsp]; exact hx))
  have HWL := Lib.hid (show (wd :: ws0).length ≤ s.length + 1 by rw [← hsp]; exact split_len 32 s)
  have HB0 := Lib.hid (bel_alloc w (.cells z9 45))
  have HR0 := Lib.hid (heap_alloc_new w (.cells z9 45))
  have hsz0 : (w.alloc (.cells z9 45)).heap.size = w.heap.size + 1 := by simp
  have hSP := split_any 32 s (w.alloc (.cells z9 45)) (by omega) (hm.later HB0.out)
  rw [hsp] at hSP
  have HSP := Lib.hid (show Calls Tryd.prog 43 #[.string (bsV s), .string ⟨#[32]⟩] (w.alloc (.cells z9 45)) _ from hSP)
  have HL := Lib.hid hl
  clear hSP hsp hm hl
  unfold z9 at HSP HB0 HR0 hsz0
  go_enter Tryd.func24, Tryd.ntmps24
  go_wp2_with fail
  refine HSP.out.mono ?_
  rintro e w1 ⟨rfl, hw1⟩
  have HRW := Lib.hid (show w1.heap[(w.alloc (.cells #[.int .i64 0, .int .i64 0, .string ⟨#[]⟩, .slice none 0 0, .int .i64 0, .int .i64 0, .int .u8 0, .int .u8 0, .slice none 0 0] 45)).heap.size]? = some (.cells (((wd :: ws0).map bsV).map Value.string).toArray 9 (0, 0)) by rw [hw1]; exact heap_alloc_new _ _)
  have HB1 := Lib.hid (show Below _ _ w1 by rw [hw1]; exact bel_alloc (w.alloc (.cells #[.int .i64 0, .int .i64 0, .string ⟨#[]⟩, .slice none 0 0, .int .i64 0, .int .i64 0, .int .u8 0, .int .u8 0, .slice none 0 0] 45)) (.cells (((wd :: ws0).map bsV).map Value.string).toArray 9))
  have hs1 : w1.heap.size = w.heap.size + 2 := by rw [hw1]; simp
  have HR1 := Lib.hid ((HB1.out.block w.heap.size (by rw [hsz0]; omega)).trans HR0.out)
  have HBB := Lib.hid (HB0.out.trans (HB1.out.mono HB0.out.size))
  rw [hsz0] at HRW ⊢
  have HRD := Lib.hid (show RD (w1.alloc (.cells #[.slice (some ⟨w.heap.size + 1, 0, none⟩) (wd :: ws0).length (wd :: ws0).length, .bool true] 83)) w1.heap.size (some ⟨w.heap.size + 1, 0, none⟩) (wd :: ws0).length (wd :: ws0) true from
    ⟨heap_alloc_new _ _, Nat.le_refl _, .inr ⟨w.heap.size + 1, 0, rfl, by rw [hs1]; omega, ⟨_, (Below.heap_alloc _ _ _ (by rw [hs1]; omega)).trans HRW.out⟩, fun i hi => by
      rw [World.cell?, Below.heap_alloc _ _ _ (by show w.heap.size + 1 < _; rw [hs1]; omega), HRW.out]
      show ((((wd :: ws0).map bsV).map Value.string).toArray)[0 + i]? = _
      rw [Nat.zero_add, List.getElem?_toArray, List.getElem?_map, List.getElem?_map, List.getElem?_eq_getElem hi]
      rfl⟩⟩)
  have HBN := Lib.hid (bel_alloc w1 (.cells #[.slice (some ⟨w.heap.size + 1, 0, none⟩) (wd :: ws0).length (wd :: ws0).length, .bool true] 83))
  have HNX := Lib.hid (next_any _ _ _ _ _ _ HRD.out (show Hid _ from (by have := HWL.out; have := HL.out; show (wd :: ws0).length < 1000000000; omega)))
  have hbr : w.heap.size + 1 < w1.heap.size := by omega
  clear hs1
  clear hw1 HB0 HB1 HR0 HSP hsz0 HRW
  obtain ⟨br, hbrd⟩ : ∃ br, br = w1.heap.size := ⟨_, rfl⟩
  rw [List.length_cons] at HNX HRD HBN
  have hl1 : (wd :: ws0).length = ws0.length + 1 := rfl
  have hk0 : (↑(wd :: ws0).length : Int) = (ws0.length : Int) + 1 := by simp
  clear hk0 hl1
  go_wp2_with fail
  refine HNX.out.mono ?_
  rintro e w2 ⟨rfl, ⟨A, c, hrd⟩, hg2⟩
  rw [← hbrd] at hrd hg2 ⊢
  have HR2 := Lib.hid ((hg2.block w.heap.size (by simp; omega) (fun e => by injection e with e; omega)).trans ((Below.heap_alloc _ _ _ (by omega)).trans HR1.out))
  have HRD2 := Lib.hid hrd
  have HBW2 := Lib.hid (show Below w.heap.size w w2 from (HBB.out.trans (HBN.out.mono (by omega))).trans ⟨hg2.os, hg2.tape, hg2.output, hg2.size, fun i hi => hg2.block i (by simp; omega) (fun e => by injection e with e; omega)⟩)
  have hz2 : br < w2.heap.size := (Array.getElem?_eq_some_iff.1 hrd.blk).1
  have hbr2 : w.heap.size < br := by omega
  clear hrd hg2 HRD HR1 HBB HBN HNX hbr hbrd
  have HFI := Lib.hid (find_any wd w2)
  have hd1 : (wd :: ws0).headD [] = wd := rfl
  simp only [List.headD_cons, List.tail_cons, List.isEmpty_cons, Bool.not_false, Bool.and_self] at HRD2 ⊢
  clear hd1
  go_wp2_with fail
  refine HFI.out.mono ?_
  rintro e w3 ⟨rfl, hb3⟩
  have HR3 := Lib.hid ((hb3.block w.heap.size (by omega)).trans HR2.out)
  have HRD3 := Lib.hid (HRD2.out.later hb3)
  have HBW3 := Lib.hid (HBW2.out.trans (hb3.mono HBW2.out.size))
  have hz3 : br < w3.heap.size := Nat.lt_of_lt_of_le hz2 hb3.size
  clear hb3 HR2 HRD2 HBW2 hz2 HFI
  obtain ⟨kd, hkd⟩ : ∃ kd, kd = findS wd := ⟨_, rfl⟩
  rw [← hkd]
  rw [← hkd] at HDS
  have HKD := Lib.hid hkd
  clear hkd
  by_cases h0 : kd = 0
  · have HN := Lib.hid (show deedS s = none by rw [HDS.out, if_pos h0])
    subst h0
    have HR4 := Lib.hid ((Below.heap_alloc w3 (.cells #[.int .i64 0, .int .i64 0, .string ⟨#[]⟩, .slice none 0 0, .int .i64 0, .int .i64 0, .int .u8 0, .int .u8 0, .slice none 0 0] 45) _ (by omega)).trans HR3.out)
    have HB4 := Lib.hid (HBW3.out.trans ((bel_alloc w3 (.cells #[.int .i64 0, .int .i64 0, .string ⟨#[]⟩, .slice none 0 0, .int .i64 0, .int .i64 0, .int .u8 0, .int .u8 0, .slice none 0 0] 45)).mono HBW3.out.size))
    have hz : w.heap.size < w3.heap.size := by omega
    obtain ⟨y0, y1, y2, y3, y4, y5, y6, y7, y8, x0, x1, x2, x3, x4, x5, x6, x7, x8⟩ := z9_facts HR3.out
    go_wp2_with fail
    obtain ⟨q1, q2, q3⟩ := set9 HR3.out (.int .i64 0) (.int .i64 0) (.string ⟨#[]⟩) (.slice none 0 0) (.int .i64 0) (.int .i64 0) (.int .u8 0) (.int .u8 0) (.slice none 0 0)
    refine bodyPost_ret (results_ct rfl _ _ w.heap.size 45 #[.int .i64 0, .int .i64 0, .string ⟨#[]⟩, .slice none 0 0, .int .i64 0, .int .i64 0, .int .u8 0, .int .u8 0, .slice none 0 0] (0, 0) _ rfl ?_ Tryd.underlying45 rfl (by kernel_rfl)) rfl ?_
    · have q4 := (q3 (Below.refl w.heap.size w3) (Nat.le_refl _)).size
      exact (Below.heap_alloc _ _ _ (by omega)).trans q1
    · have q4 := (q3 (Below.refl w.heap.size w3) (Nat.le_refl _)).size
      exact post_none HN.out rfl ((q3 HBW3.out (Nat.le_refl _)).alloc (by omega) _)
  · have hk0 : (kd == 0) = false := by simpa using h0
    have HDS2 := Lib.hid (show deedS s = readD kd ws0 by rw [HDS.out, if_neg h0])
    clear h0 HDS
    have HR4 := Lib.hid ((Below.heap_alloc w3 (.cells #[.int .i64 kd, .int .i64 0, .string ⟨#[]⟩, .slice none 0 0, .int .i64 0, .int .i64 0, .int .u8 0, .int .u8 0, .slice none 0 0] 45) _ (by omega)).trans HR3.out)
    have HB4 := Lib.hid (bel_alloc w3 (.cells #[.int .i64 kd, .int .i64 0, .string ⟨#[]⟩, .slice none 0 0, .int .i64 0, .int .i64 0, .int .u8 0, .int .u8 0, .slice none 0 0] 45))
    have HX4 := Lib.hid (heap_alloc_new w3 (.cells #[.int .i64 kd, .int .i64 0, .string ⟨#[]⟩, .slice none 0 0, .int .i64 0, .int .i64 0, .int .u8 0, .int .u8 0, .slice none 0 0] 45))
    have HPA := Lib.hid (parts_any kd (w3.alloc (.cells #[.int .i64 kd, .int .i64 0, .string ⟨#[]⟩, .slice none 0 0, .int .i64 0, .int .i64 0, .int .u8 0, .int .u8 0, .slice none 0 0] 45)))
    have hsz4 : (w3.alloc (.cells #[.int .i64 kd, .int .i64 0, .string ⟨#[]⟩, .slice none 0 0, .int .i64 0, .int .i64 0, .int .u8 0, .int .u8 0, .slice none 0 0] 45)).heap.size = w3.heap.size + 1 := by simp
    go_wp2_with fail
    refine HPA.out.mono ?_
    rintro e w5 ⟨rfl, hb5⟩
    have hb35 := HB4.out.trans (hb5.mono HB4.out.size)
    obtain ⟨ps, hps⟩ : ∃ ps, ps = partsS kd := ⟨_, rfl⟩
    rw [← hps]
    have hsz5 : w3.heap.size < w5.heap.size := by have := hb5.size; omega
    have HI0 := Lib.hid (show DI w br w3.heap.size w5.heap.size ps 0 { zD with kind := kd } none none 0 0 A c ws0 true (w5.alloc (.stringIter (bsV ps) 0)) from
      ⟨(Below.heap_alloc _ _ _ (by omega)).trans ((hb35.block w.heap.size (by omega)).trans HR3.out), (Below.heap_alloc _ _ _ hsz5).trans ((hb5.block _ (by omega)).trans HX4.out),
       (HRD3.out.later hb35).later (bel_alloc _ _), Kd.R_nil _ _ _ _ _, Kd.R_nil _ _ _ _ _, heap_alloc_new _ _, hbr2, hz3, hsz5, (HBW3.out.trans (hb35.mono HBW3.out.size)).trans ((bel_alloc _ _).mono (by omega))⟩)
    have HS0 := Lib.hid (show ST kd ws0 ps { zD with kind := kd } ws0 true by rw [hps]; exact st_start kd ws0)
    have HWB := Lib.hid (show WB { zD with kind := kd } ws0 from ⟨by have h1 := HWL.out; have h2 := HL.out; rw [List.length_cons] at h1; show 0 + _ ≤ _; omega, fun x hx => by have h1 := HW0.out x (List.mem_cons_of_mem _ hx); have h2 := HL.out; omega⟩)
    have HPS := Lib.hid (show ∀ ch ∈ ps, Letter ch by rw [hps]; exact parts_letter kd)
    clear hps hb5 hb35 HR3 HR4 HB4 HX4 HPA hsz4 HRD3 HBW3 HW0 HWL hz3 hbr2
    obtain ⟨bd, hbd⟩ : ∃ bd, bd = w3.heap.size := ⟨_, rfl⟩
    obtain ⟨it, hit⟩ : ∃ it, it = w5.heap.size := ⟨_, rfl⟩
    rw [← hbd, ← hit] at HI0
    go_wp2_with fail
    rw [← hbd, ← hit]
    clear hbd hit hsz5
    go_loopw [] (fun wr => ∃ (i : Nat) (d : Dd) (A1 A2 : Option Addr) (c1 c2 : Nat) (A : Option Addr) (c : Nat) (ws : List Bs) (ok : Bool), i ≤ ps.length ∧ Hid (DI w br bd it ps i d A1 A2 c1 c2 A c ws ok wr ∧ ST kd ws0 (ps.drop i) d ws ok ∧ WB d ws)) (fun wr => ps.length - wr.iterPos it)
    case atStart => exact ⟨0, _, none, none, 0, 0, A, c, ws0, true, Nat.zero_le _, HI0.out, by rw [List.drop_zero]; exact HS0.out, HWB.out⟩
    case round =>
      clear HI0 HS0 HWB
      obtain ⟨i, d, A1, A2, c1, c2, A, c, ws, ok, hi, HI⟩ := hrel
      by_cases hlt : i < ps.length
      · obtain ⟨ch, hch⟩ : ∃ ch, ps[i] = ch := ⟨_, rfl⟩
        have HLT := Lib.hid (HPS.out ch (by rw [← hch]; exact List.getElem_mem hlt))
        have HST := Lib.hid (show ST kd ws0 (ch :: ps.drop (i + 1)) d ws ok by have := HI.out.2.1; rwa [List.drop_eq_getElem_cons hlt, hch] at this)
        have HWB := Lib.hid HI.out.2.2
        have HN := Lib.hid HI.out.1.next
        have HNX := Lib.hid (fun (n : Int) (hn : n = (ch.toNat : Int)) => next_at (P := Tryd.prog) ps wr it i HI.out.1.itb hlt ch hch (letter_ascii HLT.out) n hn)
        have HME := Lib.hid (show wr.iterPos it = i by simp only [World.iterPos, HI.out.1.itb])
        clear hch HI
        obtain ⟨W0, hW0⟩ : ∃ W0, W0 = wr.iterAt it (bsV ps) (i + 1) := ⟨_, rfl⟩
        rw [← hW0] at HN HNX
        clear hW0
        have HHL := Lib.hid (show Hid (ws.length < 1000000000) from (by have := HWB.out.kl; show _ < _; omega))
        have HHD := Lib.hid (show Hid ((ws.headD []).length < 100000000) from HWB.out.head)
        rcases HLT.out with rfl | rfl | rfl | rfl | rfl | rfl | rfl | rfl
        · have hnx := HNX.out 110 rfl
          have HC := Lib.hid (number_any W0 br A c ws ok HN.out.rd HHL.out HHD.out)
          go_wp2_with fail
          refine HC.out.mono ?_
          rintro e w3 ⟨x, nok, rfl, hn, ⟨A3, c3, hr⟩, hg⟩
          have HN3 := Lib.hid (HN.out.num hg hr)
          have HST3 := Lib.hid (st_num (fun d x => { d with node := x }) HST.out (c110_0 _ _) (c110_1 _ _) hn)
          have hc1 : w3.cell? ⟨bd, 1, none⟩ = some (.int .i64 d.node) := HN3.out.cell 1
          have hf1 := HN3.out.frz 1
          have HA := Lib.hid (HN3.out.set 1 (.int .i64 x) (d' := { d with node := x }) rfl HN3.out.val HN3.out.kp)
          clear hn hr hg HC
          go_wp2_with fail
          go_roundw
          case rel => exact ⟨i + 1, { d with node := x }, A1, A2, c1, c2, A3, c3, ws.tail, _, by omega, HA.out, HST3.out, HWB.out.tail rfl⟩
          case measure => simp only [World.iterPos, HA.out.itb]; have := HME.out; simp only [World.iterPos] at this; omega
        · have hnx := HNX.out 107 rfl
          have HC := Lib.hid (bytes_any W0 br A c ws ok HN.out.rd HHL.out HHD.out)
          go_wp2_with fail
          refine HC.out.mono ?_
          rintro e w3 ⟨B, n, cb, bs, nok, rfl, hu, hR, ⟨A3, c3, hr⟩, hg⟩
          obtain ⟨hnl, hcap, hC⟩ := Kd.R_reads' hR
          rw [bI_len] at hnl hC
          subst hnl
          have HN3 := Lib.hid (HN.out.num hg hr)
          have HST3 := Lib.hid (st_bytes (fun d x => { d with key := x }) HST.out (c107_0 _ _) (c107_1 _ _) hu)
          have HRV := Lib.hid (Kd.R_lower hR HN.out.bel.size)
          have hcv := conv_bs (W := w3) cb hC
          have hc1 : w3.cell? ⟨bd, 2, none⟩ = some (.string (bsV d.key)) := HN3.out.cell 2
          have hf1 := HN3.out.frz 2
          have HA := Lib.hid (HN3.out.set 2 (.string (bsV bs)) (d' := { d with key := bs }) rfl HN3.out.val HN3.out.kp)
          clear hu hR hr hg HC hC hcap
          go_wp2_with fail
          go_roundw
          case rel => exact ⟨i + 1, { d with key := bs }, A1, A2, c1, c2, A3, c3, ws.tail, _, by omega, HA.out, HST3.out, HWB.out.tail rfl⟩
          case measure => simp only [World.iterPos, HA.out.itb]; have := HME.out; simp only [World.iterPos] at this; omega
        · have hnx := HNX.out 118 rfl
          have HC := Lib.hid (bytes_any W0 br A c ws ok HN.out.rd HHL.out HHD.out)
          go_wp2_with fail
          refine HC.out.mono ?_
          rintro e w3 ⟨B, n, cb, bs, nok, rfl, hu, hR, ⟨A3, c3, hr⟩, hg⟩
          obtain ⟨hnl, hcap, hC⟩ := Kd.R_reads' hR
          rw [bI_len] at hnl hC
          subst hnl
          have HN3 := Lib.hid (HN.out.num hg hr)
          have HST3 := Lib.hid (st_bytes (fun d x => { d with value := x }) HST.out (c118_0 _ _) (c118_1 _ _) hu)
          have HRV := Lib.hid (Kd.R_lower hR HN.out.bel.size)
          have hc1 : w3.cell? ⟨bd, 3, none⟩ = some (.slice A1 d.value.length c1) := HN3.out.cell 3
          have hf1 := HN3.out.frz 3
          have HA := Lib.hid (HN3.out.set 3 (.slice B bs.length cb) (d' := { d with value := bs }) (A1' := B) (c1' := cb) rfl HRV.out HN3.out.kp)
          clear hu hR hr hg HC hC hcap
          go_wp2_with fail
          go_roundw
          case rel => exact ⟨i + 1, { d with value := bs }, B, A2, cb, c2, A3, c3, ws.tail, _, by omega, HA.out, HST3.out, HWB.out.tail rfl⟩
          case measure => simp only [World.iterPos, HA.out.itb]; have := HME.out; simp only [World.iterPos] at this; omega
        · have hnx := HNX.out 105 rfl
          have HC := Lib.hid (number_any W0 br A c ws ok HN.out.rd HHL.out HHD.out)
          go_wp2_with fail
          refine HC.out.mono ?_
          rintro e w3 ⟨x, nok, rfl, hn, ⟨A3, c3, hr⟩, hg⟩
          have HN3 := Lib.hid (HN.out.num hg hr)
          have HST3 := Lib.hid (st_num (fun d x => { d with n := x }) HST.out (c105_0 _ _) (c105_1 _ _) hn)
          have hc1 : w3.cell? ⟨bd, 4, none⟩ = some (.int .i64 d.n) := HN3.out.cell 4
          have hf1 := HN3.out.frz 4
          have HA := Lib.hid (HN3.out.set 4 (.int .i64 x) (d' := { d with n := x }) rfl HN3.out.val HN3.out.kp)
          clear hn hr hg HC
          go_wp2_with fail
          go_roundw
          case rel => exact ⟨i + 1, { d with n := x }, A1, A2, c1, c2, A3, c3, ws.tail, _, by omega, HA.out, HST3.out, HWB.out.tail rfl⟩
          case measure => simp only [World.iterPos, HA.out.itb]; have := HME.out; simp only [World.iterPos] at this; omega
        · have hnx := HNX.out 97 rfl
          have HC := Lib.hid (number_any W0 br A c ws ok HN.out.rd HHL.out HHD.out)
          go_wp2_with fail
          refine HC.out.mono ?_
          rintro e w3 ⟨x, nok, rfl, hn, ⟨A3, c3, hr⟩, hg⟩
          have HN3 := Lib.hid (HN.out.num hg hr)
          have HST3 := Lib.hid (st_num (fun d x => { d with at_ := x }) HST.out (c97_0 _ _) (c97_1 _ _) hn)
          have hc1 : w3.cell? ⟨bd, 5, none⟩ = some (.int .i64 d.at_) := HN3.out.cell 5
          have hf1 := HN3.out.frz 5
          have HA := Lib.hid (HN3.out.set 5 (.int .i64 x) (d' := { d with at_ := x }) rfl HN3.out.val HN3.out.kp)
          clear hn hr hg HC
          go_wp2_with fail
          go_roundw
          case rel => exact ⟨i + 1, { d with at_ := x }, A1, A2, c1, c2, A3, c3, ws.tail, _, by omega, HA.out, HST3.out, HWB.out.tail rfl⟩
          case measure => simp only [World.iterPos, HA.out.itb]; have := HME.out; simp only [World.iterPos] at this; omega
        · have hnx := HNX.out 98 rfl
          have HC := Lib.hid (small_any W0 br A c ws ok HN.out.rd HHL.out HHD.out)
          go_wp2_with fail
          refine HC.out.mono ?_
          rintro e w3 ⟨v, x, nok, rfl, hv, hn, ⟨A3, c3, hr⟩, hg⟩
          have HN3 := Lib.hid (HN.out.num hg hr)
          have HST3 := Lib.hid (st_small (fun d x => { d with by_ := x }) HST.out (c98_0 _ _) (c98_1 _ _) hn hv)
          have hc1 : w3.cell? ⟨bd, 6, none⟩ = some (.int .u8 d.by_) := HN3.out.cell 6
          have hf1 := HN3.out.frz 6
          have HA := Lib.hid (HN3.out.set 6 (.int .u8 v) (d' := { d with by_ := v }) rfl HN3.out.val HN3.out.kp)
          clear hv hn hr hg HC
          go_wp2_with fail
          go_roundw
          case rel => exact ⟨i + 1, { d with by_ := v }, A1, A2, c1, c2, A3, c3, ws.tail, _, by omega, HA.out, HST3.out, HWB.out.tail rfl⟩
          case measure => simp only [World.iterPos, HA.out.itb]; have := HME.out; simp only [World.iterPos] at this; omega
        · have hnx := HNX.out 100 rfl
          have HC := Lib.hid (small_any W0 br A c ws ok HN.out.rd HHL.out HHD.out)
          go_wp2_with fail
          refine HC.out.mono ?_
          rintro e w3 ⟨v, x, nok, rfl, hv, hn, ⟨A3, c3, hr⟩, hg⟩
          have HN3 := Lib.hid (HN.out.num hg hr)
          have HST3 := Lib.hid (st_small (fun d x => { d with draw := x }) HST.out (c100_0 _ _) (c100_1 _ _) hn hv)
          have hc1 : w3.cell? ⟨bd, 7, none⟩ = some (.int .u8 d.draw) := HN3.out.cell 7
          have hf1 := HN3.out.frz 7
          have HA := Lib.hid (HN3.out.set 7 (.int .u8 v) (d' := { d with draw := v }) rfl HN3.out.val HN3.out.kp)
          clear hv hn hr hg HC
          go_wp2_with fail
          go_roundw
          case rel => exact ⟨i + 1, { d with draw := v }, A1, A2, c1, c2, A3, c3, ws.tail, _, by omega, HA.out, HST3.out, HWB.out.tail rfl⟩
          case measure => simp only [World.iterPos, HA.out.itb]; have := HME.out; simp only [World.iterPos] at this; omega
        · have hnx := HNX.out 108 rfl
          have HK0 := Lib.hid (sk_start HST.out)
          clear HHL HHD
          go_wp2_with fail
          go_loopg [] (ws.length + 1) (fun r wj => ∃ (d : Dd) (A1 A2 : Option Addr) (c1 c2 : Nat) (A : Option Addr) (c : Nat) (ws : List Bs) (ok : Bool), ws.length < r ∧ Hid (DI w br bd it ps (i + 1) d A1 A2 c1 c2 A c ws ok wj ∧ SK kd ws0 (ps.drop (i + 1)) d ws ok ∧ WB d ws))
          case atStart => exact ⟨d, A1, A2, c1, c2, A, c, ws, ok, Nat.lt_succ_self _, HN.out, HK0.out, HWB.out⟩
          case round =>
            obtain ⟨d, A1, A2, c1, c2, A, c, ws, ok, hr0, HJ⟩ := hrel
            obtain ⟨hq0, hq1⟩ := HJ.out.1.rcell
            cases ws with
            | nil =>
              have HA := Lib.hid HJ.out.1
              have HST3 := Lib.hid (sk_end HJ.out.2.1 (.inl rfl))
              have HWB3 := Lib.hid HJ.out.2.2
              clear HJ HWB HST HN
              have hq2 : ¬ (0 : Int) < ((([] : List Bs).length : Nat) : Int) := by simp
              go_wp2_with fail
              go_roundw
              case rel => exact ⟨i + 1, d, A1, A2, c1, c2, A, c, [], ok, by omega, HA.out, HST3.out, HWB3.out⟩
              case measure => simp only [World.iterPos, HA.out.itb]; have := HME.out; simp only [World.iterPos] at this; omega
            | cons a r =>
              have hq2 : (0 : Int) < (((a :: r).length : Nat) : Int) := by rw [List.length_cons]; omega
              cases ok with
              | false =>
                have HA := Lib.hid HJ.out.1
                have HST3 := Lib.hid (sk_end HJ.out.2.1 (.inr rfl))
                have HWB3 := Lib.hid HJ.out.2.2
                clear HJ HWB HST HN
                go_wp2_with fail
                go_roundw
                case rel => exact ⟨i + 1, d, A1, A2, c1, c2, A, c, a :: r, false, by omega, HA.out, HST3.out, HWB3.out⟩
                case measure => simp only [World.iterPos, HA.out.itb]; have := HME.out; simp only [World.iterPos] at this; omega
              | true =>
                have HD1 := Lib.hid HJ.out.1
                have HSK := Lib.hid HJ.out.2.1
                have HWB3 := Lib.hid HJ.out.2.2
                have HCN := Lib.hid (show ∀ W, W = wr.drew → Calls Tryd.prog 50 #[.pointer (some ⟨br, 0, none⟩)] W fun e w' => ∃ x nok, e = .returned (.int .i64 x) ∧ NumIs a x nok ∧ (∃ A c, RD w' br A c r nok) ∧ wr.grownBy w' (some br) from fun W hW => by
                  subst hW
                  refine (number_any wr.drew br A c (a :: r) true (HD1.out.rd.later (Drawn0.below ⟨1, rfl⟩)) (show Hid _ from (by have := HWB3.out.kl; show (a :: r).length < _; omega)) (show Hid _ from HWB3.out.head)).mono ?_
                  rintro e w' ⟨x, nok, he, hn, ⟨A, c, hr⟩, hg⟩
                  exact ⟨x, nok, he, hn, ⟨A, c, by simpa using hr⟩, ⟨hg.os, hg.tape, hg.output, hg.size, hg.block⟩⟩)
                clear HJ HWB HST HN
                have hc8 : wr.cell? ⟨bd, 8, none⟩ = some (.slice A2 d.keep.length c2) := HD1.out.cell 8
                have hkl : d.keep.length + 1 ≤ 5000000 := by have := HWB3.out.kl; simp at this; omega
                go_wp2_with fail
                go_region_law
                  (first
                    | (go_simp; go_at_call 50; ((with_reducible refine (HCN.out _ rfl).mono ?_)); rintro e w6 ⟨x, nok, rfl, hn, ⟨A6, c6, hr6⟩, hg6⟩; have F6 := Lib.hid (HD1.out.num hg6 hr6); have HNI := Lib.hid hn; have q6 : w6.cell? ⟨bd, 8, none⟩ = some (.slice A2 d.keep.length c2) := F6.out.cell 8; have q6a : (w6.alloc (.cells #[.int .i64 x] 3)).cell? ⟨bd, 8, none⟩ = some (.slice A2 d.keep.length c2) := ((bel_alloc w6 _).cell (p := ⟨bd, 8, none⟩) (World.block_lt_of_cell? w6 _ q6)).trans q6; clear hr6 hg6 hn; dsimp only)
                    | (refine Kd.R_append_step (Kd.int .i64) (w0 := w6) (W := w6) w.heap.size (by simp [Region.wanted]) (.tmp 79) (.tmp 82) 43 3 (.int .i64 0) 8 rfl Tryd.underlying43 info_int rfl (by decide) (by omega) (.slice A2 d.keep.length c2) d.keep x [.int .i64 x] (fun _ => True) (fun _ => False) (by simp [Act.eval, Act.put]) (by simp [Act.eval, Act.put]) rfl (fun _ hk => hk.elim) (fun _ _ => trivial) F6.out.kp (Below.refl _ _) F6.out.bel.size (by omega) ?_; intro v1 w7 ho hb hg hat; obtain ⟨A7, c7, hv1⟩ := Kd.R_slice ho; rw [List.length_append, List.length_singleton] at hv1; subst hv1; have F7 := Lib.hid (F6.out.app hg ho); have k1 : w7.cell? ⟨bd, 8, none⟩ = some (.slice A2 d.keep.length c2) := cell_of_row w7 bd 8 _ _ (0, 0) F7.out.2; have kf : w7.frozen? ⟨bd, 8, none⟩ = false := (by simp [World.frozen?, F7.out.2]); clear ho hb hg hat))
                all_goals
                  have HS7 := Lib.hid (sk_step HSK.out HNI.out)
                  go_wp2_with fail
                  go_roundg (r.length + 1)
                  case measure => simp at hr0; omega
                  case rel => exact ⟨{ d with keep := d.keep ++ [x] }, A1, A7, c1, c7, A6, c6, r, _, by omega, F7.out.1, HS7.out, ⟨by have := HWB3.out.kl; simp at this ⊢; omega, fun y hy => HWB3.out.wl y (List.mem_cons_of_mem _ hy)⟩⟩
      · have hnx := next_end (P := Tryd.prog) ps wr it i HI.out.1.itb hlt
        have HEN := Lib.hid (st_end (by have := HI.out.2.1; rwa [List.drop_of_length_le (by omega)] at this))
        have HD1 := Lib.hid HI.out.1
        obtain ⟨hq0, hq1⟩ := HI.out.1.rcell
        have hres := HI.out.1.res
        have HRES := Lib.hid hres
        have HKD := Lib.hid (show deedS s = readD kd ws0 from HDS2.out)
        obtain ⟨y0, y1, y2, y3, y4, y5, y6, y7, y8, x0, x1, x2, x3, x4, x5, x6, x7, x8⟩ := z9_facts hres
        clear HI hres
        cases ok with
        | false =>
          go_wp2_with fail
          obtain ⟨q1, q2, q3⟩ := set9 HRES.out (.int .i64 0) (.int .i64 0) (.string ⟨#[]⟩) (.slice none 0 0) (.int .i64 0) (.int .i64 0) (.int .u8 0) (.int .u8 0) (.slice none 0 0)
          refine bodyPost_ret (results_ct rfl _ _ w.heap.size 45 #[.int .i64 0, .int .i64 0, .string ⟨#[]⟩, .slice none 0 0, .int .i64 0, .int .i64 0, .int .u8 0, .int .u8 0, .slice none 0 0] (0, 0) _ rfl ?_ Tryd.underlying45 rfl (by kernel_rfl)) rfl ?_
          · exact q1
          · exact post_none (HDS2.out.trans (HEN.out.2 (fun e => by cases e.1))) rfl (q3 HD1.out.bel (Nat.le_refl _))
        | true =>
          cases ws with
          | cons a r =>
            have hq2 : (0 : Int) < (((a :: r).length : Nat) : Int) := by rw [List.length_cons]; omega
            go_wp2_with fail
            obtain ⟨q1, q2, q3⟩ := set9 HRES.out (.int .i64 0) (.int .i64 0) (.string ⟨#[]⟩) (.slice none 0 0) (.int .i64 0) (.int .i64 0) (.int .u8 0) (.int .u8 0) (.slice none 0 0)
            refine bodyPost_ret (results_ct rfl _ _ w.heap.size 45 #[.int .i64 0, .int .i64 0, .string ⟨#[]⟩, .slice none 0 0, .int .i64 0, .int .i64 0, .int .u8 0, .int .u8 0, .slice none 0 0] (0, 0) _ rfl ?_ Tryd.underlying45 rfl (by kernel_rfl)) rfl ?_
            · exact q1
            · exact post_none (HDS2.out.trans (HEN.out.2 (fun e => by cases e.2))) rfl (q3 HD1.out.bel (Nat.le_refl _))
          | nil =>
            have hq2 : ¬ (0 : Int) < ((([] : List Bs).length : Nat) : Int) := by simp
            have k0 : wr.cell? ⟨bd, 0, none⟩ = some (.int .i64 d.kind) := HD1.out.cell 0
            have k1 : wr.cell? ⟨bd, 1, none⟩ = some (.int .i64 d.node) := HD1.out.cell 1
            have k2 : wr.cell? ⟨bd, 2, none⟩ = some (.string (bsV d.key)) := HD1.out.cell 2
            have k3 : wr.cell? ⟨bd, 3, none⟩ = some (.slice A1 d.value.length c1) := HD1.out.cell 3
            have k4 : wr.cell? ⟨bd, 4, none⟩ = some (.int .i64 d.n) := HD1.out.cell 4
            have k5 : wr.cell? ⟨bd, 5, none⟩ = some (.int .i64 d.at_) := HD1.out.cell 5
            have k6 : wr.cell? ⟨bd, 6, none⟩ = some (.int .u8 d.by_) := HD1.out.cell 6
            have k7 : wr.cell? ⟨bd, 7, none⟩ = some (.int .u8 d.draw) := HD1.out.cell 7
            have k8 : wr.cell? ⟨bd, 8, none⟩ = some (.slice A2 d.keep.length c2) := HD1.out.cell 8
            go_wp2_with fail
            obtain ⟨q1, q2, q3⟩ := set9 HRES.out (.int .i64 d.kind) (.int .i64 d.node) (.string (bsV d.key)) (.slice A1 d.value.length c1) (.int .i64 d.n) (.int .i64 d.at_) (.int .u8 d.by_) (.int .u8 d.draw) (.slice A2 d.keep.length c2)
            refine bodyPost_ret (results_ct rfl _ _ w.heap.size 45 #[.int .i64 d.kind, .int .i64 d.node, .string (bsV d.key), .slice A1 d.value.length c1, .int .i64 d.n, .int .i64 d.at_, .int .u8 d.by_, .int .u8 d.draw, .slice A2 d.keep.length c2] (0, 0) _ rfl ?_ Tryd.underlying45 rfl (by kernel_rfl)) rfl ?_
            · exact q1
            · exact post_some (HDS2.out.trans (HEN.out.1 (by simp))) rfl (R_off HD1.out.val HRES.out (by decide) q2) (R_off HD1.out.kp HRES.out (by decide) q2) (q3 HD1.out.bel (Nat.le_refl _))
end Go.Proofs.YtbckbpimabmacaaDoor
