/- slices.Insert of one element, at a row whose elements have any number of cells: the copies. No function of the program here. -/
import Derived.Test.YtndgjhhhggkdmaaDoorWWords
import Derived.Test.YtndgjhhhggkdmaaDoorChg
import Derived.Lib.Hide
import Derived.Lib.AppendZerosOnto
import Derived.Lib.Overlaps
import Derived.Shelf.RegionOpenPlain
import Derived.WalkKit
import Derived.Lib.Walk
import Derived.Laws.Externs
import Derived.Laws.IdiomCopy
namespace Go.Proofs.YtndgjhhhggkdmaaDoor
set_option linter.unusedVariables false
open Go.RowKit Go.Proofs.YtndgjhhhggkdmaaDoorW.PrintWords

/-- copy, where an element has k cells. -/
theorem run_copy_rowN {P : Program} (w : World) (dT sT ty elem : TypeId) (k : Nat) (g o dLen dCap : Nat) (a : Addr) (sLen sCap : Nat) (cur : Array Value) (t : TypeId) (cs : List Value)
    (hu : P.underlying dT = some (.slice elem)) (hs : (P.info? elem).map (·.size) = some k)
    (hg : w.heap[g]? = some (.cells cur t (0, 0))) (m : Nat) (hm : Nat.min sLen dLen = m) (hn : cs.length = m * k)
    (hsrc : ∀ j v, cs[j]? = some v → w.cell? (a.add j) = some v) (hfit : o + cs.length ≤ cur.size) (h1 : ∀ v ∈ cs, v.oneCell' = true) :
    (Builtin.copy_ #[dT, sT] ty #[.slice (some ⟨g, o, none⟩) dLen dCap, .slice (some a) sLen sCap]).run P w =
      .ok (goInt m) (w.setRow g (cur.toList.take o ++ cs ++ cur.toList.drop (o + cs.length)).toArray) := by
  have hl := run_loadCells_list (P := P) w a cs hsrc
  have hst := run_storeCells_at P g o t cs 0 cur w hg (by simpa using hfit) h1
  cases hq : P.info? elem with
  | none => simp [hq] at hs
  | some i =>
    have hi : i.size = k := by simpa [hq] using hs
    simp [Builtin.copy_, run_underlying hu, Builtin.lenOf, Builtin.firstCells, sizeOf, typeInfo, hq, hi, hm, ← hn, hl, hst]

/-- The operation copy, in a region of one order and in one that draws. -/
theorem wp_copy_at {P : Program} (w : World) {o : Oper} {a : Act} {K : Act → World → Prop} {Q : Exit → Act → World → Prop} (d s : Operand) (t t' : TypeId)
    (ho : o.op = .call { callee := .builtin .copy, args := #[d, s], argTypes := #[t, t'] }) (v u : Value) (hd : a.eval d = v) (hs : a.eval s = u) {v' : Value} {w' : World}
    (hr : (Builtin.copy_ #[t, t'] o.type #[v, u]).run P w = .ok v' w') (h : K (a.put o.dst v') w') : o.wp P a w K Q := by
  unfold Oper.wp execOp
  simp only [ho, resolve, invoke, builtin, Sem.run_bind, Sem.run_pure, Result.andThen_ok, List.map_toArray, List.map_cons, List.map_nil, hd, hs, hr]
  exact h
theorem wpList_copy_at {P : Program} (w : World) {ops : Array Oper} {rest : List Oper} {o : Oper} {a : Act} {Q : Exit → Act → World → Prop} (hgd : o.guard = none) (d s : Operand) (t t' : TypeId)
    (ho : o.op = .call { callee := .builtin .copy, args := #[d, s], argTypes := #[t, t'] }) (v u : Value) (hd : a.eval d = v) (hs : a.eval s = u) {v' : Value} {w' : World}
    (hr : (Builtin.copy_ #[t, t'] o.type #[v, u]).run P w = .ok v' w') (h : wpList P ops Q rest (a.put o.dst v') w') : wpList P ops Q (o :: rest) a w :=
  wpList_plain hgd fun _ hK => wp_copy_at w d s t t' ho v u hd hs hr (hK _ _ h)
theorem step_copy_at {P : Program} {ops : Array Oper} {o : Oper} {a : Act} {w : World} {K : Act → World → Prop} {Q : Exit → Act → World → Prop} {E : Prop}
    (hg : o.guard = none) (d x : Operand) (dT sT : TypeId) (hop : o.op = Op.call { callee := Callee.builtin Builtin.copy, args := #[d, x], argTypes := #[dT, sT] })
    (v u : Value) (hd : a.eval d = v) (hx : a.eval x = u) {v' : Value} {w' : World} (hr : (Builtin.copy_ #[dT, sT] o.type #[v, u]).run P w = .ok v' w') (hK : K (a.put o.dst v') w') :
    if Region.wanted o (yielded ops a.tmps) = true then Oper.wp P o a w K Q else E := by
  have hw : Region.wanted o (yielded ops a.tmps) = true := by simp [Region.wanted, hg]
  rw [if_pos hw]
  exact wp_copy_at w d x dT sT hop v u hd hx hr hK

/-- A row of cells, its block and its elements. -/
structure RowAt (w : World) (g : Nat) (e : TypeId) (k n cap : Nat) (cur : Array Value) (xs : List Value) : Prop where
  heap : w.heap[g]? = some (.cells cur e (0, 0))
  hnc : n ≤ cap
  hcap : cap ≤ maxLen
  size : cur.size = cap * k
  take : cur.toList.take (n * k) = xs

theorem setRow_ne (w : World) (g k : Nat) (cs : Array Value) (h : k ≠ g) : (w.setRow g cs).heap[k]? = w.heap[k]? := by
  simp only [World.setRow]
  rw [Array.getElem?_modify, if_neg (fun e => h e.symm)]
theorem alloc_setRow (w : World) (a b : Array Value) (t : TypeId) (fr : Nat × Nat) : (w.alloc (.cells a t fr)).setRow w.heap.size b = w.alloc (.cells b t fr) := by
  unfold World.setRow World.alloc
  congr 1
  apply Array.ext
  · simp
  · intro k h1 h2
    simp only [Array.getElem_modify]
    split
    · rename_i hk
      subst hk
      simp
    · rename_i hk
      have : k < w.heap.size := by simp at h2; omega
      simp [Array.getElem_push, this]
theorem grow_world (w : World) (a b c : Array Value) (t : TypeId) : (((w.alloc (.cells a t)).drew.setRow w.heap.size b).drew.setRow w.heap.size c) = (w.alloc (.cells c t (0, 0))).drewN 2 := by
  have h : (((w.alloc (.cells a t)).drew.setRow w.heap.size b).drew.setRow w.heap.size c) = (((w.alloc (.cells a t)).setRow w.heap.size b).setRow w.heap.size c).drewN 2 := rfl
  rw [h, setRow_setRow, alloc_setRow]
theorem cell_row {w : World} {g : Nat} {cur : Array Value} {e : TypeId} {fr : Nat × Nat} (h : w.heap[g]? = some (.cells cur e fr)) (j : Nat) : w.cell? ⟨g, j, none⟩ = cur[j]? := cell_of_row w g j cur e fr h
theorem addr_add (g o j : Nat) : (⟨g, o, none⟩ : Addr).add j = ⟨g, o + j, none⟩ := by unfold Addr.add; split <;> simp_all
/-- The two copies in place: what stands from a on goes c further, y goes where it stood. -/
theorem two_copies (L B y : List Value) (a c : Nat) (hy : y.length = c) (hl : a + c + B.length ≤ L.length) :
    (L.take (a + c) ++ B ++ L.drop (a + c + B.length)).take a ++ y ++ (L.take (a + c) ++ B ++ L.drop (a + c + B.length)).drop (a + c) = L.take a ++ (y ++ (B ++ L.drop (a + c + B.length))) := by
  have h1 : (L.take (a + c)).length = a + c := by rw [List.length_take]; omega
  rw [List.append_assoc (L.take (a + c)), List.take_append_of_le_length (by omega), List.take_take, List.drop_left' h1, show min a (a + c) = a by omega, List.append_assoc]
theorem ins_take (A y B D : List Value) (n : Nat) (h : A.length + y.length + B.length = n) : (A ++ (y ++ (B ++ D))).take n = A ++ (y ++ B) := by
  rw [← List.append_assoc, ← List.append_assoc, List.take_left' (by simp; omega), List.append_assoc]

/-- Elements as cells. -/
theorem flat_len {α : Type} {enc : α → List Value} {k : Nat} (h : ∀ x, (enc x).length = k) (xs : List α) : (xs.flatMap enc).length = xs.length * k := by
  induction xs with
  | nil => simp
  | cons x r ih => rw [List.flatMap_cons, List.length_append, ih, h, List.length_cons, Nat.add_mul, Nat.one_mul, Nat.add_comm]
theorem flat_take {α : Type} {enc : α → List Value} {k : Nat} (h : ∀ x, (enc x).length = k) : ∀ (xs : List α) (i : Nat), (xs.flatMap enc).take (i * k) = (xs.take i).flatMap enc
  | _, 0 => by simp
  | [], i + 1 => by simp
  | x :: r, i + 1 => by
    rw [List.flatMap_cons, List.take_succ_cons, List.flatMap_cons, Nat.add_mul, Nat.one_mul, Nat.add_comm, ← h x, List.take_append, List.take_of_length_le (by omega), show (enc x).length + i * (enc x).length - (enc x).length = i * k by rw [h]; omega, flat_take h r i]
theorem flat_drop {α : Type} {enc : α → List Value} {k : Nat} (h : ∀ x, (enc x).length = k) : ∀ (xs : List α) (i : Nat), (xs.flatMap enc).drop (i * k) = (xs.drop i).flatMap enc
  | _, 0 => by simp
  | [], i + 1 => by simp
  | x :: r, i + 1 => by
    rw [List.flatMap_cons, List.drop_succ_cons, Nat.add_mul, Nat.one_mul, Nat.add_comm, ← h x, List.drop_append, List.drop_of_length_le (by omega), show (enc x).length + i * (enc x).length - (enc x).length = i * k by rw [h]; omega, flat_drop h r i, List.nil_append]
/-- A kind whose cells say all, in any world. -/
theorem own_flat {α : Type} {d : Kd α} {enc : α → List Value} (hM : ∀ w base ok x cs, d.M w base ok x cs → cs = enc x) {e : Nat} {w : World} {base : Nat} {ok : Nat → Prop} {v : Value} {xs : List α} (h : d.R e w base ok v xs) : w.ownsRow base e d.sz v xs.length (xs.flatMap enc) := by
  obtain ⟨_, inner, ho, hr⟩ := h
  suffices inner = xs.flatMap enc by rw [← this]; exact ho
  have hlen : ∀ cs ps, Reps (d.M w base (fun k => ok k ∧ some k ≠ v.ownBlock)) d.sz ps cs → cs = ps.flatMap enc := by
    intro cs ps
    induction ps generalizing cs with
    | nil =>
      intro h
      have := h.1
      simp at this
      simpa using this
    | cons p r ih =>
      intro h
      have h0 := hM _ _ _ _ _ (h.2 0 p rfl)
      rw [Nat.zero_mul, List.drop_zero] at h0
      have h1 := ih (cs.drop d.sz) ⟨by rw [List.length_drop, h.1, List.length_cons, Nat.add_mul, Nat.one_mul, Nat.add_sub_cancel], fun j q hq => by
        have := h.2 (j + 1) q (by simpa using hq)
        rwa [List.drop_drop, show d.sz + j * d.sz = (j + 1) * d.sz by rw [Nat.add_mul, Nat.one_mul, Nat.add_comm]]⟩
      rw [List.flatMap_cons, ← h0, ← h1, List.take_append_drop]
  exact hlen _ _ hr
theorem flat_own {α : Type} {d : Kd α} {enc : α → List Value} (hM : ∀ w base ok x, d.M w base ok x (enc x)) {e : Nat} {w : World} {base : Nat} {v : Value} {xs : List α} (h : w.ownsRow base e d.sz v xs.length (xs.flatMap enc)) : d.R e w base (fun _ => True) v xs := by
  have hk : ∀ x, (enc x).length = d.sz := fun x => d.K_len (d.K_of_M (hM w base (fun _ => True) x))
  refine ⟨fun _ _ => trivial, _, h, flat_len hk xs, fun j p hp => ?_⟩
  obtain ⟨hj, rfl⟩ := List.getElem?_eq_some_iff.1 hp
  rw [flat_drop hk, List.drop_eq_getElem_cons hj, List.flatMap_cons, List.take_left' (hk _)]
  exact hM _ _ _ _
/-- The new element stands at i. -/
def ins {α : Type} (xs : List α) (i : Nat) (y : α) : List α := xs.take i ++ y :: xs.drop i
theorem ins_len {α : Type} (xs : List α) (i : Nat) (y : α) (h : i ≤ xs.length) : (ins xs i y).length = xs.length + 1 := by
  simp [ins]
  omega
theorem ins_flat {α : Type} {enc : α → List Value} {k : Nat} (h : ∀ x, (enc x).length = k) (xs : List α) (i : Nat) (y : α) : (ins xs i y).flatMap enc = (xs.flatMap enc).take (i * k) ++ (enc y ++ (xs.flatMap enc).drop (i * k)) := by
  rw [flat_take h, flat_drop h, ins, List.flatMap_append, List.flatMap_cons]
end Go.Proofs.YtndgjhhhggkdmaaDoor
