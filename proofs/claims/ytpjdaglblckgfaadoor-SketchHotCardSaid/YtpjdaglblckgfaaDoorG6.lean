/- slices.Insert of one element, at a row whose elements have any number of cells: the copies. No function of the program here. slices.Insert at []string, one element. Rows of strings: is one there (slices.Contains, the document's has); are two the same (the document's Texts). Keys by how often they were counted: put among the others one by one, or picked one by one: the same. Plain lists, no program. The contract of the program's Hot. The contract of the document's Hot. The law SketchHot: what its call comes to. -/
import Derived.Test.YtpjdaglblckgfaaDoorWWords
import Derived.Test.YtpjdaglblckgfaaDoorChg
import Derived.Lib.Hide
import Derived.Lib.AppendZerosOnto
import Derived.Lib.Overlaps
import Derived.Shelf.RegionOpenPlain
import Derived.WalkKit
import Derived.Lib.Walk
import Derived.Laws.Externs
import Derived.Laws.IdiomCopy
import Derived.Shelf.Spec.SlicesInsert
import Derived.Shelf.Spec.SlicesInsertGrow
import Derived.Lib.LazyBuf
import Derived.Test.YtpjdaglblckgfaaDoorBase
import Derived.Test.YtpjdaglblckgfaaDoorPRall
import Derived.Test.YtpjdaglblckgfaaDoorG3
import Derived.Deep.DeepCutAuto
import Derived.Lib.MinMax
import Derived.Test.YtpjdaglblckgfaaDoorG1
import Derived.Deep.RegionHeld3
import Derived.Deep.DrawnRows
import Derived.Deep.RegionWith
import Derived.Test.YtpjdaglblckgfaaDoorG2
namespace Go.Proofs.YtpjdaglblckgfaaDoor
set_option linter.unusedVariables false
open Go.RowKit Go.Proofs.YtpjdaglblckgfaaDoorW.PrintWords

/-- copy, where an element has k cells. -/
theorem run_copy_rowN {P : Program} (w : World) (dT sT ty elem : TypeId) (k : Nat) (g o dLen dCap : Nat) (a : Addr) (sLen sCap : Nat) (cur : Array Value) (t : TypeId) (cs : List Value)
    (hu : P.underlying dT = some (.slice elem)) (hs : (P.info? elem).map (·.size) = some k)
    (hg : w.heap[g]? = some (.cells cur t (0, 0))) (m : Nat) (hm : Nat.min sLen dLen = m) (hn : cs.length = m * k)
    (hsrc : ∀ j v, cs[j]? = some v → w.cell? (a.add j) = some v) (hfit : o + cs.length ≤ cur.size) (h1 : ∀ v ∈ cs, v.oneCell' = true) :
    (Builtin.copy_ #[dT, sT] ty #[.slice (some ⟨g, o, none⟩) dLen dCap, .slice (some a) sLen sCap]).run P w =
      .ok (goInt m) (w.setRow g (cur.toList.take o ++ cs ++ cur.toList.drop (o + cs.length)).toArray) := by
  have hl := run_loadCells_list (P := P) w a cs hsrc
  have hst := run_storeCells_at P g o t cs 0 cur w hg (by simpa using hfit) h1
  cases hq : P.info? elem with
  | none => simp [hq] at hs
  | some i =>
    have hi : i.size = k := by simpa [hq] using hs
    simp [Builtin.copy_, run_underlying hu, Builtin.lenOf, Builtin.firstCells, sizeOf, typeInfo, hq, hi, hm, ← hn, hl, hst]

/-- The operation copy, in a region of one order and in one that draws. -/
theorem wp_copy_at {P : Program} (w : World) {o : Oper} {a : Act} {K : Act → World → Prop} {Q : Exit → Act → World → Prop} (d s : Operand) (t t' : TypeId)
    (ho : o.op = .call { callee := .builtin .copy, args := #[d, s], argTypes := #[t, t'] }) (v u : Value) (hd : a.eval d = v) (hs : a.eval s = u) {v' : Value} {w' : World}
    (hr : (Builtin.copy_ #[t, t'] o.type #[v, u]).run P w = .ok v' w') (h : K (a.put o.dst v') w') : o.wp P a w K Q := by
  unfold Oper.wp execOp
  simp only [ho, resolve, invoke, builtin, Sem.run_bind, Sem.run_pure, Result.andThen_ok, List.map_toArray, List.map_cons, List.map_nil, hd, hs, hr]
  exact h
theorem wpList_copy_at {P : Program} (w : World) {ops : Array Oper} {rest : List Oper} {o : Oper} {a : Act} {Q : Exit → Act → World → Prop} (hgd : o.guard = none) (d s : Operand) (t t' : TypeId)
    (ho : o.op = .call { callee := .builtin .copy, args := #[d, s], argTypes := #[t, t'] }) (v u : Value) (hd : a.eval d = v) (hs : a.eval s = u) {v' : Value} {w' : World}
    (hr : (Builtin.copy_ #[t, t'] o.type #[v, u]).run P w = .ok v' w') (h : wpList P ops Q rest (a.put o.dst v') w') : wpList P ops Q (o :: rest) a w :=
  wpList_plain hgd fun _ hK => wp_copy_at w d s t t' ho v u hd hs hr (hK _ _ h)
theorem step_copy_at {P : Program} {ops : Array Oper} {o : Oper} {a : Act} {w : World} {K : Act → World → Prop} {Q : Exit → Act → World → Prop} {E : Prop}
    (hg : o.guard = none) (d x : Operand) (dT sT : TypeId) (hop : o.op = Op.call { callee := Callee.builtin Builtin.copy, args := #[d, x], argTypes := #[dT, sT] })
    (v u : Value) (hd : a.eval d = v) (hx : a.eval x = u) {v' : Value} {w' : World} (hr : (Builtin.copy_ #[dT, sT] o.type #[v, u]).run P w = .ok v' w') (hK : K (a.put o.dst v') w') :
    if Region.wanted o (yielded ops a.tmps) = true then Oper.wp P o a w K Q else E := by
  have hw : Region.wanted o (yielded ops a.tmps) = true := by simp [Region.wanted, hg]
  rw [if_pos hw]
  exact wp_copy_at w d x dT sT hop v u hd hx hr hK

/-- A row of cells, its block and its elements. -/
structure RowAt (w : World) (g : Nat) (e : TypeId) (k n cap : Nat) (cur : Array Value) (xs : List Value) : Prop where
  heap : w.heap[g]? = some (.cells cur e (0, 0))
  hnc : n ≤ cap
  hcap : cap ≤ maxLen
  size : cur.size = cap * k
  take : cur.toList.take (n * k) = xs

theorem setRow_ne (w : World) (g k : Nat) (cs : Array Value) (h : k ≠ g) : (w.setRow g cs).heap[k]? = w.heap[k]? := by
  simp only [World.setRow]
  rw [Array.getElem?_modify, if_neg (fun e => h e.symm)]
theorem alloc_setRow (w : World) (a b : Array Value) (t : TypeId) (fr : Nat × Nat) : (w.alloc (.cells a t fr)).setRow w.heap.size b = w.alloc (.cells b t fr) := by
  unfold World.setRow World.alloc
  congr 1
  apply Array.ext
  · simp
  · intro k h1 h2
    simp only [Array.getElem_modify]
    split
    · rename_i hk
      subst hk
      simp
    · rename_i hk
      have : k < w.heap.size := by simp at h2; omega
      simp [Array.getElem_push, this]
theorem grow_world (w : World) (a b c : Array Value) (t : TypeId) : (((w.alloc (.cells a t)).drew.setRow w.heap.size b).drew.setRow w.heap.size c) = (w.alloc (.cells c t (0, 0))).drewN 2 := by
  have h : (((w.alloc (.cells a t)).drew.setRow w.heap.size b).drew.setRow w.heap.size c) = (((w.alloc (.cells a t)).setRow w.heap.size b).setRow w.heap.size c).drewN 2 := rfl
  rw [h, setRow_setRow, alloc_setRow]
theorem cell_row {w : World} {g : Nat} {cur : Array Value} {e : TypeId} {fr : Nat × Nat} (h : w.heap[g]? = some (.cells cur e fr)) (j : Nat) : w.cell? ⟨g, j, none⟩ = cur[j]? := cell_of_row w g j cur e fr h
theorem addr_add (g o j : Nat) : (⟨g, o, none⟩ : Addr).add j = ⟨g, o + j, none⟩ := by unfold Addr.add; split <;> simp_all
/-- The two copies in place: what stands from a on goes c further, y goes where it stood. -/
theorem two_copies (L B y : List Value) (a c : Nat) (hy : y.length = c) (hl : a + c + B.length ≤ L.length) :
    (L.take (a + c) ++ B ++ L.drop (a + c + B.length)).take a ++ y ++ (L.take (a + c) ++ B ++ L.drop (a + c + B.length)).drop (a + c) = L.take a ++ (y ++ (B ++ L.drop (a + c + B.length))) := by
  have h1 : (L.take (a + c)).length = a + c := by rw [List.length_take]; omega
  rw [List.append_assoc (L.take (a + c)), List.take_append_of_le_length (by omega), List.take_take, List.drop_left' h1, show min a (a + c) = a by omega, List.append_assoc]
theorem ins_take (A y B D : List Value) (n : Nat) (h : A.length + y.length + B.length = n) : (A ++ (y ++ (B ++ D))).take n = A ++ (y ++ B) := by
  rw [← List.append_assoc, ← List.append_assoc, List.take_left' (by simp; omega), List.append_assoc]

/-- Elements as cells. -/
theorem flat_len {α : Type} {enc : α → List Value} {k : Nat} (h : ∀ x, (enc x).length = k) (xs : List α) : (xs.flatMap enc).length = xs.length * k := by
  induction xs with
  | nil => simp
  | cons x r ih => rw [List.flatMap_cons, List.length_append, ih, h, List.length_cons, Nat.add_mul, Nat.one_mul, Nat.add_comm]
theorem flat_take {α : Type} {enc : α → List Value} {k : Nat} (h : ∀ x, (enc x).length = k) : ∀ (xs : List α) (i : Nat), (xs.flatMap enc).take (i * k) = (xs.take i).flatMap enc
  | _, 0 => by simp
  | [], i + 1 => by simp
  | x :: r, i + 1 => by
    rw [List.flatMap_cons, List.take_succ_cons, List.flatMap_cons, Nat.add_mul, Nat.one_mul, Nat.add_comm, ← h x, List.take_append, List.take_of_length_le (by omega), show (enc x).length + i * (enc x).length - (enc x).length = i * k by rw [h]; omega, flat_take h r i]
theorem flat_drop {α : Type} {enc : α → List Value} {k : Nat} (h : ∀ x, (enc x).length = k) : ∀ (xs : List α) (i : Nat), (xs.flatMap enc).drop (i * k) = (xs.drop i).flatMap enc
  | _, 0 => by simp
  | [], i + 1 => by simp
  | x :: r, i + 1 => by
    rw [List.flatMap_cons, List.drop_succ_cons, Nat.add_mul, Nat.one_mul, Nat.add_comm, ← h x, List.drop_append, List.drop_of_length_le (by omega), show (enc x).length + i * (enc x).length - (enc x).length = i * k by rw [h]; omega, flat_drop h r i, List.nil_append]
/-- A kind whose cells say all, in any world. -/
theorem own_flat {α : Type} {d : Kd α} {enc : α → List Value} (hM : ∀ w base ok x cs, d.M w base ok x cs → cs = enc x) {e : Nat} {w : World} {base : Nat} {ok : Nat → Prop} {v : Value} {xs : List α} (h : d.R e w base ok v xs) : w.ownsRow base e d.sz v xs.length (xs.flatMap enc) := by
  obtain ⟨_, inner, ho, hr⟩ := h
  suffices inner = xs.flatMap enc by rw [← this]; exact ho
  have hlen : ∀ cs ps, Reps (d.M w base (fun k => ok k ∧ some k ≠ v.ownBlock)) d.sz ps cs → cs = ps.flatMap enc := by
    intro cs ps
    induction ps generalizing cs with
    | nil =>
      intro h
      have := h.1
      simp at this
      simpa using this
    | cons p r ih =>
      intro h
      have h0 := hM _ _ _ _ _ (h.2 0 p rfl)
      rw [Nat.zero_mul, List.drop_zero] at h0
      have h1 := ih (cs.drop d.sz) ⟨by rw [List.length_drop, h.1, List.length_cons, Nat.add_mul, Nat.one_mul, Nat.add_sub_cancel], fun j q hq => by
        have := h.2 (j + 1) q (by simpa using hq)
        rwa [List.drop_drop, show d.sz + j * d.sz = (j + 1) * d.sz by rw [Nat.add_mul, Nat.one_mul, Nat.add_comm]]⟩
      rw [List.flatMap_cons, ← h0, ← h1, List.take_append_drop]
  exact hlen _ _ hr
theorem flat_own {α : Type} {d : Kd α} {enc : α → List Value} (hM : ∀ w base ok x, d.M w base ok x (enc x)) {e : Nat} {w : World} {base : Nat} {v : Value} {xs : List α} (h : w.ownsRow base e d.sz v xs.length (xs.flatMap enc)) : d.R e w base (fun _ => True) v xs := by
  have hk : ∀ x, (enc x).length = d.sz := fun x => d.K_len (d.K_of_M (hM w base (fun _ => True) x))
  refine ⟨fun _ _ => trivial, _, h, flat_len hk xs, fun j p hp => ?_⟩
  obtain ⟨hj, rfl⟩ := List.getElem?_eq_some_iff.1 hp
  rw [flat_drop hk, List.drop_eq_getElem_cons hj, List.flatMap_cons, List.take_left' (hk _)]
  exact hM _ _ _ _
/-- The new element stands at i. -/
def ins {α : Type} (xs : List α) (i : Nat) (y : α) : List α := xs.take i ++ y :: xs.drop i
theorem ins_len {α : Type} (xs : List α) (i : Nat) (y : α) (h : i ≤ xs.length) : (ins xs i y).length = xs.length + 1 := by
  simp [ins]
  omega
theorem ins_flat {α : Type} {enc : α → List Value} {k : Nat} (h : ∀ x, (enc x).length = k) (xs : List α) (i : Nat) (y : α) : (ins xs i y).flatMap enc = (xs.flatMap enc).take (i * k) ++ (enc y ++ (xs.flatMap enc).drop (i * k)) := by
  rw [flat_take h, flat_drop h, ins, List.flatMap_append, List.flatMap_cons]
end Go.Proofs.YtpjdaglblckgfaaDoor
namespace Go.Proofs.YtpjdaglblckgfaaDoor
set_option linter.unusedVariables false
open Go.RowKit Go.Shelf Go.Lib Go.Proofs.YtpjdaglblckgfaaDoorW.PrintWords

def ly2n22_ren : Go.Shelf.Ren := ⟨fun | 22 => 41 | 29 => 53 | 30 => 54 | 36 => 59 | 17 => 60 | n => n, fun | 24 => 23 | 9 => 9 | 3 => 3 | 4 => 4 | 0 => 0 | n => n, fun | n => n⟩
theorem ly2n22 : Lays2.n22 Tryd.prog ly2n22_ren := { mixed := by kernel_rfl, f17 := Tryd.func60.trans (congrArg some (by kernel_rfl)), f22 := Tryd.func41.trans (congrArg some (by kernel_rfl)), f29 := Tryd.func53.trans (congrArg some (by kernel_rfl)), f30 := Tryd.func54.trans (congrArg some (by kernel_rfl)), f36 := Tryd.func59.trans (congrArg some (by kernel_rfl)), t0 := Tryd.underlying0, a0 := Tryd.isAgg0, z0 := Tryd.sizeOf0, v0 := Tryd.zeroValue0, t3 := Tryd.underlying3, a3 := Tryd.isAgg3, z3 := Tryd.sizeOf3, v3 := Tryd.zeroValue3, t4 := Tryd.underlying4, a4 := Tryd.isAgg4, z4 := Tryd.sizeOf4, v4 := Tryd.zeroValue4, t9 := Tryd.underlying9, a9 := Tryd.isAgg9, z9 := Tryd.sizeOf9, v9 := Tryd.zeroValue9, t24 := Tryd.underlying23, a24 := Tryd.isAgg23, z24 := Tryd.sizeOf23, v24 := Tryd.zeroValue23, i9 := by kernel_rfl }

def encS (s : ByteArray) : List Value := [.string s]
theorem encS_len (x : ByteArray) : (encS x).length = 1 := rfl
theorem kS_M (w : World) (base : Nat) (ok : Nat → Prop) (x : ByteArray) (cs : List Value) (h : Kd.string.M w base ok x cs) : cs = encS x := h
theorem kS_mk (w : World) (base : Nat) (ok : Nat → Prop) (x : ByteArray) : Kd.string.M w base ok x (encS x) := rfl
theorem flatS (xs : List ByteArray) : xs.flatMap encS = xs.map Value.string := by
  induction xs with
  | nil => rfl
  | cons x r ih => rw [List.flatMap_cons, ih]; rfl
theorem map_str_get {xs : List ByteArray} {j : Nat} (h : j < xs.length) : (xs.map Value.string)[j]? = some (.string (sget xs j)) := by rw [List.getElem?_map, List.getElem?_eq_getElem h, sget_eq h]; rfl
theorem sget_ins {xs : List ByteArray} {i : Nat} {y : ByteArray} (hi : i ≤ xs.length) {j : Nat} (hj : j < xs.length + 1) : sget (ins xs i y) j = if j < i then sget xs j else if j = i then y else sget xs (j - 1) := by
  unfold sget ins
  simp only [List.getD_eq_getElem?_getD]
  by_cases h1 : j < i
  · rw [if_pos h1, List.getElem?_append_left (by rw [List.length_take]; omega), List.getElem?_take, if_pos h1]
  · rw [if_neg h1, List.getElem?_append_right (by rw [List.length_take]; omega), List.length_take, Nat.min_eq_left hi]
    by_cases h2 : j = i
    · rw [if_pos h2, h2, Nat.sub_self]
      rfl
    · rw [if_neg h2, show j - i = (j - i - 1) + 1 by omega, List.getElem?_cons_succ, List.getElem?_drop, show i + (j - i - 1) = j - 1 by omega]

theorem own_of_rowS {w : World} {g cap n base : Nat} {f : Nat → Value} {xs : List ByteArray} (h : w.rowIs g 9 cap f) (hb : base ≤ g) (hn : xs.length = n) (hc : n ≤ cap) (hm : cap ≤ maxLen) (hf : ∀ j, j < n → f j = .string (sget xs j)) :
    Kd.string.R 9 w base (fun _ => True) (.slice (some ⟨g, 0, none⟩) n cap) xs := by
  obtain ⟨c, h1, h2, h3⟩ := h
  refine flat_own (enc := encS) kS_mk ?_
  subst hn
  refine ⟨by rw [flatS]; simp [Kd.string, Kd.scalar], .inr ⟨g, cap, c, rfl, hb, h1, hc, hm, by rw [h2]; simp [Kd.string, Kd.scalar], ?_⟩⟩
  show c.toList.take (xs.length * 1) = _
  rw [flatS, Nat.mul_one]
  refine List.ext_getElem? fun j => ?_
  rw [List.getElem?_take]
  by_cases hj : j < xs.length
  · rw [if_pos hj, map_str_get hj, Array.getElem?_toList, h3 j (by omega), hf j hj]
  · rw [if_neg hj, List.getElem?_eq_none (by simp; omega)]
theorem row_of_ownS {w : World} {base : Nat} {v : Value} {xs : List ByteArray} (h : Kd.string.R 9 w base (fun _ => True) v xs) :
    (v = .slice none 0 0 ∧ xs = []) ∨ ∃ g cap f, v = .slice (some ⟨g, 0, none⟩) xs.length cap ∧ base ≤ g ∧ xs.length ≤ cap ∧ cap ≤ maxLen ∧ w.rowIs g 9 cap f ∧ ∀ j, j < xs.length → f j = .string (sget xs j) := by
  obtain ⟨_, ⟨hv, h0⟩ | ⟨g, cap, cur, hv, hb, hh, hnc, hcm, hsz, htk⟩⟩ := own_flat kS_M h
  · exact .inl ⟨hv, List.length_eq_zero_iff.1 h0⟩
  · have hsz' : cur.size = cap := by rw [hsz]; exact Nat.mul_one _
    have htk' : cur.toList.take xs.length = xs.map Value.string := by rw [← flatS, ← htk]; exact congrArg (cur.toList.take ·) (Nat.mul_one _).symm
    refine .inr ⟨g, cap, fun i => (cur[i]?).getD undef, hv, hb, hnc, hcm, ⟨cur, hh, hsz', fun i hi => ?_⟩, fun j hj => ?_⟩
    · have hi' : i < cur.size := by omega
      simp [hi']
    · have := map_str_get hj
      rw [← htk', List.getElem?_take, if_pos hj, Array.getElem?_toList] at this
      dsimp only
      rw [this]
      rfl
theorem heap_setCells_ne {b k : Nat} (hk : k ≠ b) : ∀ (vs : List Value) (o : Nat) (w : World), (w.setCells b o vs).heap[k]? = w.heap[k]?
  | [], _, _ => rfl
  | v :: r, o, w => (heap_setCells_ne hk r (o + 1) _).trans (Below.heap_setCell _ _ _ _ hk)
theorem grown_setCells {W : World} {b : Nat} : ∀ (vs : List Value) (o : Nat) (w : World), W.grownBy w (some b) → W.grownBy (w.setCells b o vs) (some b)
  | [], _, _, h => h
  | v :: r, o, w, h => grown_setCells r (o + 1) _ ⟨h.os, h.tape, h.output, Nat.le_trans h.size (by simp [World.setCell]), fun k hk hn => (Below.heap_setCell _ _ _ _ (fun e => hn (by rw [e]))).trans (h.block k hk hn)⟩

theorem newRow (w : World) (A : Array Value) (t : TypeId) : (w.alloc (.cells A t)).rowIs w.heap.size t A.size (fun j => (A[j]?).getD undef) :=
  ⟨A, heap_alloc_new _ _, rfl, fun i hi => by simp [hi]⟩
theorem rowIs_drew {w : World} {g : Nat} {t : TypeId} {n : Nat} {f : Nat → Value} (h : w.rowIs g t n f) : w.drew.rowIs g t n f := h
theorem sget_end {xs : List ByteArray} {y : ByteArray} {j : Nat} (hj : j < xs.length + 1) : (xs.map Value.string ++ [Value.string y])[j]? = some (.string (sget (ins xs xs.length y) j)) := by
  rw [sget_ins (Nat.le_refl _) hj]
  by_cases h : j < xs.length
  · rw [if_pos h, List.getElem?_append_left (by simpa using h), map_str_get h]
  · obtain rfl : j = xs.length := by omega
    rw [if_neg h, if_pos rfl, List.getElem?_append_right (by simp), List.length_map, Nat.sub_self]
    rfl
/-- A fresh row: the elements, the new one, zeros. -/
theorem end_rowS (w : World) (xs : List ByteArray) (y : ByteArray) (base C : Nat) (hb : base ≤ w.heap.size) (hC : xs.length + 1 ≤ C) (hm : C ≤ maxLen) :
    Kd.string.R 9 (w.alloc (.cells ((xs.map Value.string ++ [Value.string y]).toArray ++ Builtin.zeroCells (Value.string ⟨#[]⟩).cells (C - (xs.length + 1))) 9)) base (fun _ => True) (.slice (some ⟨w.heap.size, 0, none⟩) (xs.length + 1) C) (ins xs xs.length y) := by
  have h := newRow w ((xs.map Value.string ++ [Value.string y]).toArray ++ Builtin.zeroCells (Value.string ⟨#[]⟩).cells (C - (xs.length + 1))) 9
  have hsz : ((xs.map Value.string ++ [Value.string y]).toArray ++ Builtin.zeroCells (Value.string ⟨#[]⟩).cells (C - (xs.length + 1))).size = C := by
    simp [Builtin.zeroCells, Value.cells]
    omega
  rw [hsz] at h
  refine own_of_rowS h hb (ins_len _ _ _ (Nat.le_refl _)) hC hm fun j hj => ?_
  rw [Array.getElem?_append_left (by simpa using hj)]
  simp only [List.getElem?_toArray]
  rw [sget_end hj]
  rfl

theorem grown_new {W w : World} {b : Nat} {row : Option Nat} (h : W.grownBy w (some b)) (hb : W.heap.size ≤ b) : W.grownBy w row :=
  ⟨h.os, h.tape, h.output, h.size, fun k hk _ => h.block k hk (fun e => by injection e; omega)⟩
theorem grown_drew {W w : World} {row : Option Nat} (h : W.grownBy w row) : W.grownBy w.drew row := ⟨h.os, h.tape, h.output, h.size, h.block⟩

set_option maxHeartbeats 1000000 in
/-- slices.Insert of one string: in place, in a new row, or at the end; what it may have changed is the row's own block. -/
theorem InsS_any (base : Nat) (v : Value) (xs : List ByteArray) (i : Nat) (y : ByteArray) (W : World) (hi : i ≤ xs.length) (hR : Kd.string.R 9 W base (fun _ => True) v xs) (hb : base ≤ W.heap.size) (hl : xs.length ≤ 1000000) :
    Calls Tryd.prog 41 #[v, .int .i64 i, .slice (some ⟨W.heap.size, 0, none⟩) 1 1] (W.alloc (.cells #[.string y] 9)) fun e w' =>
      ∃ v', e = .returned v' ∧ Kd.string.R 9 w' base (fun _ => True) v' (ins xs i y) ∧ W.grownBy w' v.ownBlock := by
  have hv0 : ∀ j u, ([Value.string y] : List Value)[j]? = some u → (W.alloc (.cells #[.string y] 9)).cell? ⟨W.heap.size, 0 + j, none⟩ = some u := fun j u hj => by
    rcases j with _ | j
    · have : Value.string y = u := by simpa using hj
      subst this
      simp
    · simp at hj
  have h1v : ∀ u ∈ ([Value.string y] : List Value), u.oneCell' = true := fun u hu => by
    rw [List.mem_singleton.1 hu]; rfl
  have gW : ∀ row, W.grownBy (W.alloc (.cells #[.string y] 9)) row := fun row => ⟨rfl, rfl, rfl, by simp, fun k hk _ => Below.heap_alloc W _ k hk⟩
  have hbv : (W.alloc (.cells #[.string y] 9)).heap[W.heap.size]? = some (.cells #[.string y] 9 (0, 0)) := heap_alloc_new _ _
  rcases row_of_ownS hR with ⟨rfl, rfl⟩ | ⟨g, cap, f, rfl, hbg, hnc, hcap, hrow, hf⟩
  · obtain rfl : i = 0 := by simpa using hi
    have hg1 := grownCap_ge (W.alloc (.cells #[.string y] 9)) (0 + 1) 0 9
    have hg2 := grownCap_le_maxLen (W.alloc (.cells #[.string y] 9)) (0 + 1) 0 9 (by unfold maxLen; omega)
    refine (Any2.slices_Insert_string_end_grow ly2n22 none 0 0 W.heap.size 0 1 1 [] [.string y] _ (by omega) (by omega) (by omega) (by decide) rfl rfl (fun _ => rfl) (fun a ha => by cases ha) hv0 h1v).mono fun e w' ⟨he, hw⟩ => ⟨_, he, ?_, ?_⟩
    · rw [hw]
      exact end_rowS (W.alloc (.cells #[.string y] 9)).drew [] y base _ (by simp; omega) hg1 hg2
    · rw [hw]
      exact ⟨rfl, rfl, rfl, by simp; omega, fun k hk _ => (Below.heap_alloc _ _ k (by simp; omega)).trans (Below.heap_alloc W _ k hk)⟩
  · have hgl : g < W.heap.size := hrow.lt
    have hrow1 : (W.alloc (.cells #[.string y] 9)).rowIs g 9 cap f := hrow.alloc _
    have hcs : ∀ j u, (xs.map Value.string)[j]? = some u → (W.alloc (.cells #[.string y] 9)).cell? ⟨g, 0 + j, none⟩ = some u := fun j u hj => by
      obtain ⟨h1, h2⟩ := List.getElem?_eq_some_iff.1 hj
      have h1' : j < xs.length := by simpa using h1
      rw [Nat.zero_add, hrow1.cell (by omega), hf j h1', ← h2, List.getElem_map, sget_eq h1']
    have h1c : ∀ u ∈ xs.map Value.string, u.oneCell' = true := fun u hu => by
      obtain ⟨x, _, rfl⟩ := List.mem_map.1 hu
      rfl
    have hg1 := grownCap_ge (W.alloc (.cells #[.string y] 9)) (xs.length + 1) cap 9
    have hg2 := grownCap_le_maxLen (W.alloc (.cells #[.string y] 9)) (xs.length + 1) cap 9 (by unfold maxLen; omega)
    rcases Nat.lt_or_ge i xs.length with hlt | hge
    · rcases Nat.lt_or_ge cap (xs.length + 1) with hr | hr
      · refine (Any2.slices_Insert_string_grow ly2n22 g 0 xs.length cap i W.heap.size 0 1 1 (xs.map Value.string) [.string y] _ hlt (by omega) hnc hr (by omega) (by simp) rfl hcs hv0 h1c h1v).mono fun e w' ⟨he, hw⟩ => ⟨_, he, ?_, ?_⟩
        · rw [hw]
          have h0 := newRow (W.alloc (.cells #[.string y] 9)) (((xs.map Value.string).take i).toArray ++ Builtin.zeroCells (Value.string ⟨#[]⟩).cells (xs.length + 1 - i) ++ Builtin.zeroCells (Value.string ⟨#[]⟩).cells (grownCap (W.alloc (.cells #[.string y] 9)) (xs.length + 1) cap 9 - (xs.length + 1))) 9
          have hsz : (((xs.map Value.string).take i).toArray ++ Builtin.zeroCells (Value.string ⟨#[]⟩).cells (xs.length + 1 - i) ++ Builtin.zeroCells (Value.string ⟨#[]⟩).cells (grownCap (W.alloc (.cells #[.string y] 9)) (xs.length + 1) cap 9 - (xs.length + 1))).size = grownCap (W.alloc (.cells #[.string y] 9)) (xs.length + 1) cap 9 := by
            simp [Builtin.zeroCells, Value.cells]
            omega
          rw [hsz] at h0
          have h2 := rowIs_setCells ((xs.map Value.string).drop i) (i + 1) _ _ (rowIs_drew (rowIs_setCells [.string y] i _ _ (rowIs_drew h0)))
          refine own_of_rowS h2 (by simp; omega) (ins_len _ _ _ hi) hg1 hg2 fun j hj => ?_
          rw [sget_ins hi hj, List.length_drop, List.length_map]
          by_cases h3 : i + 1 ≤ j
          · rw [if_pos ⟨h3, by omega⟩, if_neg (by omega), if_neg (by omega), List.getElem?_drop, show i + (j - (i + 1)) = j - 1 by omega, map_str_get (by omega)]
            rfl
          · rw [if_neg (fun h => h3 h.1)]
            by_cases h4 : j = i
            · subst h4
              rw [if_pos ⟨Nat.le_refl _, by simp⟩, if_neg (by omega), if_pos rfl, Nat.sub_self]
              rfl
            · rw [if_neg (by simp; omega), if_pos (by omega), Array.append_assoc, Array.getElem?_append_left (by simp; omega)]
              simp only [List.getElem?_toArray]
              rw [List.getElem?_take, if_pos (by omega), map_str_get (by omega)]
              rfl
        · rw [hw]
          refine grown_new (grown_setCells _ _ _ (grown_drew (grown_setCells _ _ _ (grown_drew ?_)))) (by simp)
          exact ⟨rfl, rfl, rfl, by simp; omega, fun k hk _ => (Below.heap_alloc _ _ k (by simp; omega)).trans (Below.heap_alloc W _ k hk)⟩
      · obtain ⟨cur, hcur, hcsz, _⟩ := hrow1
        refine (Any2.slices_Insert_string_shift ly2n22 g 0 xs.length cap i W.heap.size 0 1 1 (xs.map Value.string) [.string y] _ hlt (by omega) hr (by unfold maxLen at hcap; omega) (by omega) (by simp) rfl hcs
          (fun j hj => by rw [Nat.zero_add, (hrow.alloc _).cell (by omega)]; rfl) (fun j hj => by rw [Nat.zero_add]; exact (hrow.alloc _).frozen j) hv0 h1c h1v 9 9 1 cap (by unfold World.shape?; rw [hbv]; rfl) (by unfold World.shape?; rw [hcur]; simp [hcsz]) (by omega) (by unfold World.frozen?; rw [hbv]; rfl) (by unfold World.frozen?; rw [hbv]; rfl)).mono fun e w' ⟨he, hw⟩ => ⟨_, he, ?_, ?_⟩
        · rw [hw]
          have h2 := rowIs_setCells [.string y] (0 + i) _ _ (rowIs_setCells ((xs.map Value.string).drop i) (0 + (i + 1)) _ _ (rowIs_drew (hrow.alloc (.cells #[.string y] 9))))
          refine own_of_rowS h2 hbg (ins_len _ _ _ hi) hr hcap fun j hj => ?_
          rw [sget_ins hi hj, List.length_drop, List.length_map]
          simp only [Nat.zero_add]
          by_cases h4 : j = i
          · subst h4
            rw [if_pos ⟨Nat.le_refl _, by simp⟩, if_neg (by omega), if_pos rfl, Nat.sub_self]
            rfl
          · rw [if_neg (by simp; omega)]
            by_cases h3 : i + 1 ≤ j
            · rw [if_pos ⟨h3, by omega⟩, if_neg (by omega), if_neg h4, List.getElem?_drop, show i + (j - (i + 1)) = j - 1 by omega, map_str_get (by omega)]
              rfl
            · rw [if_neg (fun h => h3 h.1), if_pos (by omega), hf j (by omega)]
        · rw [hw]
          have h5 := gW (some g)
          exact grown_setCells _ _ _ (grown_setCells _ _ _ ⟨h5.os, h5.tape, h5.output, h5.size, h5.block⟩)
    · obtain rfl : i = xs.length := by omega
      rcases Nat.lt_or_ge cap (xs.length + 1) with hr | hr
      · refine (Any2.slices_Insert_string_end_grow ly2n22 (some ⟨g, 0, none⟩) xs.length cap W.heap.size 0 1 1 (xs.map Value.string) [.string y] _ (by omega) hnc hr (by omega) (by simp) rfl (fun h => by cases h) (fun a ha j u hj => by cases ha; rw [addr_add]; exact hcs j u hj) hv0 h1v).mono fun e w' ⟨he, hw⟩ => ⟨_, he, ?_, ?_⟩
        · rw [hw]
          exact end_rowS (W.alloc (.cells #[.string y] 9)).drew xs y base _ (by simp; omega) hg1 hg2
        · rw [hw]
          exact ⟨rfl, rfl, rfl, by simp; omega, fun k hk _ => (Below.heap_alloc _ _ k (by simp; omega)).trans (Below.heap_alloc W _ k hk)⟩
      · refine (Any2.slices_Insert_string_end_room ly2n22 g 0 xs.length cap W.heap.size 0 1 1 [.string y] _ (by omega) hr (by unfold maxLen at hcap; omega) rfl (fun j hj => by rw [Nat.zero_add, hrow1.cell (by omega)]; rfl) (fun j hj => hrow1.frozen _) hv0 h1v).mono fun e w' ⟨he, hw⟩ => ⟨_, he, ?_, ?_⟩
        · rw [hw]
          have h2 := rowIs_setCells [.string y] (0 + xs.length) _ _ hrow1
          refine own_of_rowS h2 hbg (ins_len _ _ _ hi) hr hcap fun j hj => ?_
          rw [sget_ins hi hj]
          simp only [Nat.zero_add]
          by_cases h4 : j = xs.length
          · subst h4
            rw [if_pos ⟨Nat.le_refl _, by simp⟩, if_neg (by omega), if_pos rfl, Nat.sub_self]
            rfl
          · rw [if_neg (by simp; omega), if_pos (by omega), hf j (by omega)]
        · rw [hw]
          exact grown_setCells _ _ _ (gW (some g))
end Go.Proofs.YtpjdaglblckgfaaDoor
namespace Go.Proofs.YtpjdaglblckgfaaDoor
set_option linter.unusedVariables false
open Go.RowKit Go.Proofs.YtpjdaglblckgfaaDoorW.PrintWords

theorem toList_eq {a b : ByteArray} : a.toList = b.toList ↔ a = b := by
  have := bytes_beq a b
  rw [beq_iff_eq] at this
  exact this
instance decBA : DecidableEq ByteArray := fun a b => decidable_of_iff (a.toList = b.toList) toList_eq
instance decMemBA (a : ByteArray) (l : List ByteArray) : Decidable (a ∈ l) := letI : BEq ByteArray := @instBEqOfDecidableEq _ decBA; @List.instDecidableMemOfLawfulBEq ByteArray (@instBEqOfDecidableEq _ decBA) inferInstance a l
theorem rdOf_s {xs : List ByteArray} {i : Nat} (h : i < xs.length) : rdOf ByteArray.empty xs (i : Int) = xs[i] := by simp [rdOf, h]
theorem idxS_f (l : List ByteArray) (a : ByteArray) (hl : l.length < 9223372036854775807) : ∀ (n k i : Nat), i + n = l.length → n < k → ∃ r, PR.slices_Index_string_string.l0 k l a l.length i = some r ∧ (0 ≤ r ↔ a ∈ l.drop i)
  | 0, k + 1, i, h1, h2 => by
    rw [PR.slices_Index_string_string.l0, if_neg (by omega), List.drop_of_length_le (by omega)]
    exact ⟨-1, rfl, by simp⟩
  | n + 1, k + 1, i, h1, h2 => by
    have hi : i < l.length := by omega
    have hw : wrap64 ((i : Int) + 1) = ((i + 1 : Nat) : Int) := by unfold wrap64; omega
    rw [PR.slices_Index_string_string.l0, if_pos (by omega), if_pos (by omega), if_pos (by omega), rdOf_s hi, hw, List.drop_eq_getElem_cons hi]
    by_cases he : a = l[i]
    · rw [if_pos (by rw [he])]
      exact ⟨i, rfl, ⟨fun _ => by rw [he]; exact List.mem_cons_self .., fun _ => by omega⟩⟩
    · rw [if_neg (fun e => he (toList_eq.1 e))]
      obtain ⟨r, h3, h4⟩ := idxS_f l a hl n k (i + 1) (by omega) (by omega)
      exact ⟨r, h3, by rw [h4, List.mem_cons]; simp [he]⟩
theorem contS_any (A : Option Addr) (c : Nat) (l : List ByteArray) (a : ByteArray) (w : World) (hC : Kd.string.C w A l.length l) (hc : l.length ≤ c) (hl : l.length < 1000000) :
    Calls Tryd.prog 40 #[.slice A l.length c, .string a] w fun e w' => e = .returned (.bool (decide (a ∈ l))) ∧ ∃ n, w' = w.drewN n := by
  refine (PR.slices_Contains_string_string.calls (l.length + 2) A c l a (decide (a ∈ l)) w hC hc ?_).mono fun e w' ⟨he, hdr⟩ => ⟨he, hdr.out⟩
  obtain ⟨r, h1, h2⟩ := idxS_f l a (by omega) l.length (l.length + 2) 0 (by omega) (by omega)
  unfold PR.slices_Contains_string_string.f PR.slices_Index_string_string.f
  rw [show ((0 : Nat) : Int) = 0 from rfl] at h1
  rw [h1]
  rw [List.drop_zero] at h2
  exact congrArg some (decide_eq_decide.2 h2)
theorem hasS_f (l : List ByteArray) (a : ByteArray) (hl : l.length < 9223372036854775807) : ∀ (n k i : Nat), i + n = l.length → n < k → PR.butteryref37_has.l0 k l a i = some (decide (a ∈ l.drop i))
  | 0, k + 1, i, h1, h2 => by
    rw [PR.butteryref37_has.l0, if_neg (by omega), List.drop_of_length_le (by omega)]
    simp
  | n + 1, k + 1, i, h1, h2 => by
    have hi : i < l.length := by omega
    have hw : wrap64 ((i : Int) + 1) = ((i + 1 : Nat) : Int) := by unfold wrap64; omega
    rw [PR.butteryref37_has.l0, if_pos (by omega), if_pos (by omega), rdOf_s hi, hw, List.drop_eq_getElem_cons hi]
    by_cases he : l[i] = a
    · rw [if_pos (by rw [he])]
      simp [he]
    · rw [if_neg (fun e => he (toList_eq.1 e)), hasS_f l a hl n k (i + 1) (by omega) (by omega)]
      exact congrArg some (decide_eq_decide.2 (by rw [List.mem_cons]; constructor; exact .inr; rintro (h | h); exact absurd h.symm he; exact h))
theorem hasS_any (A : Option Addr) (c : Nat) (l : List ByteArray) (a : ByteArray) (w : World) (hC : Kd.string.C w A l.length l) (hc : l.length ≤ c) (hl : l.length < 1000000) :
    Calls Tryd.prog 42 #[.slice A l.length c, .string a] w fun e w' => e = .returned (.bool (decide (a ∈ l))) ∧ ∃ n, w' = w.drewN n := by
  refine (PR.butteryref37_has.calls (l.length + 2) A c l a (decide (a ∈ l)) w hC hc ?_).mono fun e w' ⟨he, hdr⟩ => ⟨he, hdr.out⟩
  have := hasS_f l a (by omega) l.length (l.length + 2) 0 (by omega) (by omega)
  unfold PR.butteryref37_has.f
  simpa using this
theorem textsS_f (l m : List ByteArray) (hlm : l.length = m.length) (hl : l.length < 9223372036854775807) : ∀ (n k i : Nat), i + n = l.length → n < k → PR.butteryref19_Texts.l0 k l m i = some (decide (l.drop i = m.drop i))
  | 0, k + 1, i, h1, h2 => by
    rw [PR.butteryref19_Texts.l0, if_neg (by omega), List.drop_of_length_le (by omega), List.drop_of_length_le (by omega)]
    simp
  | n + 1, k + 1, i, h1, h2 => by
    have hi : i < l.length := by omega
    have hi2 : i < m.length := by omega
    have hw : wrap64 ((i : Int) + 1) = ((i + 1 : Nat) : Int) := by unfold wrap64; omega
    rw [PR.butteryref19_Texts.l0, if_pos (by omega), if_pos (by omega), if_pos (by omega), rdOf_s hi, rdOf_s hi2, hw, List.drop_eq_getElem_cons hi, List.drop_eq_getElem_cons hi2]
    by_cases he : l[i] = m[i]
    · rw [if_pos (by rw [he]), textsS_f l m hlm hl n k (i + 1) (by omega) (by omega)]
      exact congrArg some (decide_eq_decide.2 ⟨fun e => by rw [e, he], fun e => (List.cons.inj e).2⟩)
    · rw [if_neg (fun e => he (toList_eq.1 e))]
      exact congrArg some (decide_eq_false (fun e => he (List.cons.inj e).1)).symm
theorem textsS_any (A B : Option Addr) (c d : Nat) (l m : List ByteArray) (w : World) (hC : Kd.string.C w A l.length l) (hc : l.length ≤ c) (hD : Kd.string.C w B m.length m) (hd : m.length ≤ d) (hl : l.length < 1000000) :
    Calls Tryd.prog 29 #[.slice A l.length c, .slice B m.length d] w fun e w' => e = .returned (.bool (decide (l = m))) ∧ ∃ n, w' = w.drewN n := by
  refine (PR.butteryref19_Texts.calls (l.length + 2) A c l B d m (decide (l = m)) w hC hc hD hd ?_).mono fun e w' ⟨he, hdr⟩ => ⟨he, hdr.out⟩
  unfold PR.butteryref19_Texts.f
  by_cases hlm : l.length = m.length
  · rw [if_pos (by omega)]
    have := textsS_f l m hlm (by omega) l.length (l.length + 2) 0 (by omega) (by omega)
    simpa using this
  · rw [if_neg (by omega)]
    have : ¬ l = m := fun e => hlm (by rw [e])
    simp [this]
end Go.Proofs.YtpjdaglblckgfaaDoor
namespace Go.Proofs.YtpjdaglblckgfaaDoor
namespace HotP
section
variable {α : Type}
theorem snoc_ind {P : List α → Prop} (h0 : P []) (h1 : ∀ l a, P l → P (l ++ [a])) (l : List α) : P l := by
  have h : ∀ l : List α, P l.reverse := fun l => by
    induction l with
    | nil => exact h0
    | cons a l ih => rw [List.reverse_cons]; exact h1 _ _ ih
  simpa using h l.reverse
theorem mem_tw (p : α → Bool) : ∀ (l : List α) {x : α}, x ∈ l.takeWhile p → p x = true
  | [], x, h => by simp at h
  | a :: l, x, h => by
    rw [List.takeWhile_cons] at h
    by_cases ha : p a = true
    · rw [if_pos ha] at h
      rcases List.mem_cons.1 h with rfl | h
      · exact ha
      · exact mem_tw p l h
    · rw [if_neg ha] at h
      simp at h
theorem mem_dropWhile {p : α → Bool} {l : List α} {R : α → α → Prop} (hR : l.Pairwise R) (hp : ∀ x y, R x y → p x = false → p y = false) : ∀ x ∈ l.dropWhile p, p x = false := by
  induction l with
  | nil => simp
  | cons a l ih =>
    intro x hx
    rw [List.dropWhile_cons] at hx
    obtain ⟨h1, h2⟩ := List.pairwise_cons.1 hR
    by_cases ha : p a = true
    · rw [if_pos ha] at hx
      exact ih h2 x hx
    · rw [if_neg ha] at hx
      have ha' : p a = false := by simpa using ha
      rcases List.mem_cons.1 hx with rfl | hx
      · exact ha'
      · exact hp a x (h1 x hx) ha'
end
section
variable {α : Type} [DecidableEq α] (cnt : α → Int)
/-- One key more among those that were met, the most counted ahead. -/
def ins1 (out : List α) (k : α) : List α := if k ∈ out then out else out.takeWhile (fun x => decide (cnt k ≤ cnt x)) ++ k :: out.dropWhile (fun x => decide (cnt k ≤ cnt x))
def hotT (keys : List α) : List α := keys.foldl (ins1 cnt) []
theorem hotT_snoc (l : List α) (k : α) : hotT cnt (l ++ [k]) = ins1 cnt (hotT cnt l) k := by simp [hotT]
theorem mem_ins1 {out : List α} {k x : α} : x ∈ ins1 cnt out k ↔ x = k ∨ x ∈ out := by
  unfold ins1
  by_cases h : k ∈ out
  · rw [if_pos h]
    constructor
    · exact .inr
    · rintro (rfl | h') <;> assumption
  · rw [if_neg h]
    conv => rhs; rw [← List.takeWhile_append_dropWhile (p := fun x => decide (cnt k ≤ cnt x)) (l := out)]
    simp only [List.mem_append, List.mem_cons]
    constructor
    · rintro (h1 | h1 | h1)
      · exact .inr (.inl h1)
      · exact .inl h1
      · exact .inr (.inr h1)
    · rintro (h1 | h1 | h1)
      · exact .inr (.inl h1)
      · exact .inl h1
      · exact .inr (.inr h1)
theorem mem_hotT (l : List α) (x : α) : x ∈ hotT cnt l ↔ x ∈ l := by
  induction l using snoc_ind with
  | h0 => simp [hotT]
  | h1 l a ih =>
    rw [hotT_snoc, mem_ins1, ih]
    simp [or_comm]
def ord (keys : List α) (x y : α) : Prop := cnt y < cnt x ∨ (cnt x = cnt y ∧ keys.idxOf x < keys.idxOf y)
theorem hotT_ord (keys : List α) : ∀ j, j ≤ keys.length → (hotT cnt (keys.take j)).Pairwise (ord cnt keys)
  | 0, _ => by simp [hotT]
  | j + 1, hj => by
    have ih := hotT_ord keys j (by omega)
    have ht : keys.take (j + 1) = keys.take j ++ [keys[j]] := List.take_succ_eq_append_getElem (by omega)
    rw [ht, hotT_snoc]
    unfold ins1
    by_cases hk : keys[j] ∈ hotT cnt (keys.take j)
    · rw [if_pos hk]; exact ih
    · rw [if_neg hk]
      have hk2 : keys[j] ∉ keys.take j := fun e => hk ((mem_hotT cnt _ _).2 e)
      have hidx : keys.idxOf keys[j] = j := by
        have hd : keys = keys.take j ++ keys[j] :: keys.drop (j + 1) := by
          conv => lhs; rw [← List.take_append_drop j keys, List.drop_eq_getElem_cons (by omega : j < keys.length)]
        have h2 : (keys.take j ++ keys[j] :: keys.drop (j + 1)).idxOf keys[j] = j := by
          rw [List.idxOf_append, if_neg hk2, List.idxOf_cons_self, List.length_take]
          omega
        rw [← hd] at h2
        exact h2
      have hlt : ∀ x ∈ hotT cnt (keys.take j), keys.idxOf x < j := fun x hx => by
        have h1 := (mem_hotT cnt _ _).1 hx
        have h2 : (keys.take j).idxOf x < (keys.take j).length := List.idxOf_lt_length_of_mem h1
        have h3 : keys.idxOf x = (keys.take j).idxOf x := by
          conv => lhs; rw [← List.take_append_drop j keys, List.idxOf_append, if_pos h1]
        rw [h3]
        rw [List.length_take] at h2
        omega
      generalize keys[j] = k at *
      have hdw : ∀ x ∈ (hotT cnt (keys.take j)).dropWhile (fun x => decide (cnt k ≤ cnt x)), decide (cnt k ≤ cnt x) = false :=
        mem_dropWhile ih (fun x y hxy hx => by
          have hx' : ¬ cnt k ≤ cnt x := of_decide_eq_false hx
          rcases hxy with h | h
          · exact decide_eq_false (by omega)
          · exact decide_eq_false (by omega))
      rw [List.pairwise_append]
      refine ⟨ih.sublist (List.takeWhile_sublist _), List.pairwise_cons.2 ⟨fun y hy => ?_, ih.sublist (List.dropWhile_sublist _)⟩, fun x hx y hy => ?_⟩
      · have := of_decide_eq_false (hdw y hy)
        exact .inl (by omega)
      · have h1 : cnt k ≤ cnt x := of_decide_eq_true (mem_tw (fun x => decide (cnt k ≤ cnt x)) _ hx)
        have hxm : x ∈ hotT cnt (keys.take j) := (List.takeWhile_sublist _).subset hx
        rcases List.mem_cons.1 hy with rfl | hy
        · by_cases he : cnt y = cnt x
          · exact .inr ⟨he.symm, by rw [hidx]; exact hlt x hxm⟩
          · exact .inl (by omega)
        · have := of_decide_eq_false (hdw y hy)
          exact .inl (by omega)
theorem hot_ord (keys : List α) : (hotT cnt keys).Pairwise (ord cnt keys) := by
  have := hotT_ord cnt keys keys.length (Nat.le_refl _)
  rwa [List.take_length] at this
/-- The first key that was counted most, of those that are not there yet. -/
def pick (keys out : List α) (d : α) : Nat → Option Nat
  | 0 => none
  | i + 1 => match pick keys out d i with
    | none => if keys.getD i d ∈ out then none else some i
    | some b => if keys.getD i d ∈ out then some b else if cnt (keys.getD b d) < cnt (keys.getD i d) then some i else some b
theorem pick_none (keys out : List α) (d : α) : ∀ i, pick cnt keys out d i = none ↔ ∀ j, j < i → keys.getD j d ∈ out
  | 0 => by simp [pick]
  | i + 1 => by
    have ih := pick_none keys out d i
    rw [pick]
    cases hp : pick cnt keys out d i with
    | none =>
      have h := ih.1 hp
      dsimp only
      by_cases hi : keys.getD i d ∈ out
      · rw [if_pos hi]
        refine ⟨fun _ j hj => ?_, fun _ => rfl⟩
        rcases Nat.lt_or_ge j i with h1 | h1
        · exact h j h1
        · obtain rfl : j = i := by omega
          exact hi
      · rw [if_neg hi]
        exact ⟨(fun h => by cases h), fun h => absurd (h i (by omega)) hi⟩
    | some b =>
      dsimp only
      have : ¬ ∀ j, j < i + 1 → keys.getD j d ∈ out := fun h => by
        have := ih.2 (fun j hj => h j (by omega))
        rw [hp] at this
        cases this
      constructor
      · intro h
        split at h
        · cases h
        · split at h <;> cases h
      · intro h; exact absurd h this
theorem pick_some (keys out : List α) (d : α) : ∀ i b, pick cnt keys out d i = some b → b < i ∧ keys.getD b d ∉ out ∧ ∀ j, j < i → keys.getD j d ∉ out → cnt (keys.getD j d) < cnt (keys.getD b d) ∨ (cnt (keys.getD j d) = cnt (keys.getD b d) ∧ b ≤ j)
  | 0, b, h => by simp [pick] at h
  | i + 1, b, h => by
    rw [pick] at h
    cases hp : pick cnt keys out d i with
    | none =>
      rw [hp] at h
      dsimp only at h
      have hn := (pick_none cnt keys out d i).1 hp
      by_cases hi : keys.getD i d ∈ out
      · rw [if_pos hi] at h; cases h
      · rw [if_neg hi] at h
        injection h with h
        subst h
        refine ⟨by omega, hi, fun j hj hjo => ?_⟩
        rcases Nat.lt_or_ge j i with h1 | h1
        · exact absurd (hn j h1) hjo
        · obtain rfl : j = i := by omega
          exact .inr ⟨rfl, Nat.le_refl _⟩
    | some c =>
      rw [hp] at h
      dsimp only at h
      obtain ⟨h1, h2, h3⟩ := pick_some keys out d i c hp
      by_cases hi : keys.getD i d ∈ out
      · rw [if_pos hi] at h
        injection h with h
        subst h
        refine ⟨by omega, h2, fun j hj hjo => ?_⟩
        rcases Nat.lt_or_ge j i with h4 | h4
        · exact h3 j h4 hjo
        · obtain rfl : j = i := by omega
          exact absurd hi hjo
      · rw [if_neg hi] at h
        by_cases hc : cnt (keys.getD c d) < cnt (keys.getD i d)
        · rw [if_pos hc] at h
          injection h with h
          subst h
          refine ⟨by omega, hi, fun j hj hjo => ?_⟩
          rcases Nat.lt_or_ge j i with h4 | h4
          · rcases h3 j h4 hjo with h5 | ⟨h5, _⟩
            · exact .inl (by omega)
            · exact .inl (by omega)
          · obtain rfl : j = i := by omega
            exact .inr ⟨rfl, Nat.le_refl _⟩
        · rw [if_neg hc] at h
          injection h with h
          subst h
          refine ⟨by omega, h2, fun j hj hjo => ?_⟩
          rcases Nat.lt_or_ge j i with h4 | h4
          · exact h3 j h4 hjo
          · obtain rfl : j = i := by omega
            by_cases he : cnt (keys.getD j d) = cnt (keys.getD c d)
            · exact .inr ⟨he, by omega⟩
            · exact .inl (by omega)
theorem nodup_hotT (keys : List α) : (hotT cnt keys).Nodup := (hot_ord cnt keys).imp (fun {x y} h e => by
  subst e
  rcases h with h | ⟨_, h⟩ <;> omega)
theorem idx_of_pick {keys : List α} {d : α} {b : Nat} (hb : b < keys.length) (h : ∀ j, j < keys.length → keys.getD j d = keys.getD b d → b ≤ j) : keys.idxOf (keys.getD b d) = b := by
  have hg : ∀ j (hj : j < keys.length), keys.getD j d = keys[j] := fun j hj => by simp [List.getD_eq_getElem?_getD, hj]
  have hm : keys.getD b d ∈ keys := by rw [hg b hb]; exact List.getElem_mem hb
  have h1 : keys.idxOf (keys.getD b d) < keys.length := List.idxOf_lt_length_of_mem hm
  have h2 : keys[keys.idxOf (keys.getD b d)] = keys.getD b d := List.getElem_idxOf h1
  have h3 := h _ h1 (by rw [hg _ h1]; exact h2)
  have h4 : keys.idxOf (keys.getD b d) ≤ b := by
    rcases Nat.lt_or_ge b (keys.idxOf (keys.getD b d)) with h5 | h5
    · have := List.not_of_lt_findIdx (p := fun x => x == keys.getD b d) (xs := keys) (i := b) (by simpa [List.idxOf] using h5)
      simp [(hg b hb).symm] at this
    · exact h5
  omega
/-- The picks, one behind the other, are the keys in their order. -/
theorem pick_eq (keys : List α) (d : α) (i : Nat) (hi : i < (hotT cnt keys).length) : ∃ b, pick cnt keys ((hotT cnt keys).take i) d keys.length = some b ∧ b < keys.length ∧ keys.getD b d = (hotT cnt keys)[i] := by
  have hord := hot_ord cnt keys
  have hnd := nodup_hotT cnt keys
  have hmem := mem_hotT cnt keys
  generalize hT : hotT cnt keys = T at *
  have hg : ∀ j (hj : j < keys.length), keys.getD j d = keys[j] := fun j hj => by simp [List.getD_eq_getElem?_getD, hj]
  have hti : T[i] ∉ T.take i := fun e => by
    obtain ⟨m, hm, he⟩ := List.getElem_of_mem e
    have hm2 : m < i := by simp at hm; omega
    rw [List.getElem_take] at he
    have := (List.getElem_inj hnd).1 he
    omega
  have hik : T[i] ∈ keys := (hmem _).1 (List.getElem_mem hi)
  have hix : keys.idxOf T[i] < keys.length := List.idxOf_lt_length_of_mem hik
  have hixv : keys.getD (keys.idxOf T[i]) d = T[i] := by rw [hg _ hix]; exact List.getElem_idxOf hix
  cases hp : pick cnt keys (T.take i) d keys.length with
  | none =>
    have := (pick_none cnt keys (T.take i) d keys.length).1 hp _ hix
    rw [hixv] at this
    exact absurd this hti
  | some b =>
    obtain ⟨h1, h2, h3⟩ := pick_some cnt keys (T.take i) d keys.length b hp
    refine ⟨b, rfl, h1, ?_⟩
    have hidx : keys.idxOf (keys.getD b d) = b := idx_of_pick h1 (fun j hj he => by
      rcases h3 j hj (by rw [he]; exact h2) with h | ⟨_, h⟩
      · rw [he] at h; omega
      · exact h)
    have hbT : keys.getD b d ∈ T := (hmem _).2 (by rw [hg b h1]; exact List.getElem_mem h1)
    obtain ⟨m, hm, he⟩ := List.getElem_of_mem hbT
    have hmi : i ≤ m := by
      rcases Nat.lt_or_ge m i with h | h
      · exact absurd (by rw [← he, ← List.getElem_take (h := by simp; omega) (j := i)]; exact List.getElem_mem _) h2
      · exact h
    rcases Nat.lt_or_ge i m with h | h
    · exfalso
      have ho := List.pairwise_iff_getElem.1 hord i m hi hm h
      rw [he] at ho
      have hj := h3 _ hix (by rw [hixv]; exact hti)
      rw [hixv] at hj
      rcases ho with ho | ⟨ho1, ho2⟩
      · rcases hj with hj | ⟨hj, _⟩ <;> omega
      · rw [hidx] at ho2
        rcases hj with hj | ⟨_, hj⟩ <;> omega
    · obtain rfl : m = i := by omega
      exact he.symm
theorem pick_end (keys : List α) (d : α) : pick cnt keys (hotT cnt keys) d keys.length = none :=
  (pick_none cnt keys _ d _).2 fun j hj => (mem_hotT cnt keys _).2 (by simp [List.getD_eq_getElem?_getD, hj])
end
end HotP
end Go.Proofs.YtpjdaglblckgfaaDoor
namespace Go.Proofs.YtpjdaglblckgfaaDoor
set_option linter.unusedVariables false
open Go.RowKit Go.Proofs.YtpjdaglblckgfaaDoorW.PrintWords

def hotS (S : Sk) (keys : List ByteArray) : List ByteArray := HotP.hotT (fun k => ofI S k) keys
theorem ins1_len (cnt : ByteArray → Int) (out : List ByteArray) (k : ByteArray) : (HotP.ins1 cnt out k).length ≤ out.length + 1 := by
  unfold HotP.ins1
  split
  · omega
  · have := congrArg List.length (List.takeWhile_append_dropWhile (p := fun x => decide (cnt k ≤ cnt x)) (l := out))
    simp only [List.length_append, List.length_cons] at *
    omega
theorem hotS_len (S : Sk) (keys : List ByteArray) : (hotS S keys).length ≤ keys.length := by
  refine list_snoc (P := fun l => (hotS S l).length ≤ l.length) (by simp [hotS, HotP.hotT]) (fun l a ih => ?_) keys
  unfold hotS at *
  rw [HotP.hotT_snoc]
  have := ins1_len (fun k => ofI S k) (HotP.hotT (fun k => ofI S k) l) a
  simp
  omega
/-- How far the new key goes. -/
def hotAt (cnt : ByteArray → Int) (out : List ByteArray) (k : ByteArray) : Nat := (out.takeWhile (fun x => decide (cnt k ≤ cnt x))).length
theorem hotAt_le (cnt : ByteArray → Int) (out : List ByteArray) (k : ByteArray) : hotAt cnt out k ≤ out.length := (List.takeWhile_prefix _).length_le
theorem ins_hotAt (cnt : ByteArray → Int) (out : List ByteArray) (k : ByteArray) (hk : k ∉ out) : ins out (hotAt cnt out k) k = HotP.ins1 cnt out k := by
  unfold HotP.ins1
  rw [if_neg hk]
  unfold ins hotAt
  have h := List.takeWhile_append_dropWhile (p := fun x => decide (cnt k ≤ cnt x)) (l := out)
  have h1 : out.take (out.takeWhile (fun x => decide (cnt k ≤ cnt x))).length = out.takeWhile (fun x => decide (cnt k ≤ cnt x)) := by
    conv => lhs; arg 2; rw [← h]
    exact List.take_left' rfl
  have h2 : out.drop (out.takeWhile (fun x => decide (cnt k ≤ cnt x))).length = out.dropWhile (fun x => decide (cnt k ≤ cnt x)) := by
    conv => lhs; arg 2; rw [← h]
    exact List.drop_left' rfl
  rw [h1, h2]
theorem hotAt_yes (cnt : ByteArray → Int) (out : List ByteArray) (k : ByteArray) : ∀ m, m < hotAt cnt out k → cnt k ≤ cnt (sget out m) := by
  intro m hm
  have hlt : m < out.length := Nat.lt_of_lt_of_le hm (hotAt_le cnt out k)
  have h1 : (out.takeWhile (fun x => decide (cnt k ≤ cnt x)))[m]'hm ∈ out.takeWhile (fun x => decide (cnt k ≤ cnt x)) := List.getElem_mem _
  have h2 := HotP.mem_tw _ _ h1
  have h3 : (out.takeWhile (fun x => decide (cnt k ≤ cnt x)))[m]'hm = out[m] := (List.takeWhile_prefix (fun x => decide (cnt k ≤ cnt x)) (l := out)).getElem hm
  rw [h3] at h2
  rw [sget_eq hlt]
  exact of_decide_eq_true h2
theorem hotAt_no (cnt : ByteArray → Int) (out : List ByteArray) (k : ByteArray) (h : hotAt cnt out k < out.length) : ¬ cnt k ≤ cnt (sget out (hotAt cnt out k)) := by
  induction out with
  | nil => simp at h
  | cons x r ih =>
    by_cases hx : cnt k ≤ cnt x
    · have e : hotAt cnt (x :: r) k = hotAt cnt r k + 1 := by unfold hotAt; rw [List.takeWhile_cons, if_pos (by simpa using hx)]; rfl
      rw [e] at h ⊢
      have := ih (by simpa using h)
      have e2 : sget (x :: r) (hotAt cnt r k + 1) = sget r (hotAt cnt r k) := by simp [sget]
      rw [e2]
      exact this
    · have e : hotAt cnt (x :: r) k = 0 := by unfold hotAt; rw [List.takeWhile_cons, if_neg (by simpa using hx)]; rfl
      rw [e]
      simpa [sget] using hx
theorem C_take {w : World} {A : Option Addr} {n : Nat} {xs : List ByteArray} (h : Kd.string.C w A xs.length xs) (hn : n ≤ xs.length) : Kd.string.C w A n (xs.take n) := by
  obtain ⟨h1, h2, h3⟩ := h
  refine ⟨by rw [List.length_take]; omega, by omega, fun h0 => ?_⟩
  obtain ⟨ad, e, hc⟩ := h3 (by omega)
  refine ⟨ad, e, fun j q hj => hc j q ?_⟩
  rw [List.getElem?_take] at hj
  split at hj
  · exact hj
  · cases hj

theorem below_grown {w0 W w' : World} {base : Nat} {row : Option Nat} (h : Below base w0 W) (hb : base ≤ W.heap.size) (hg : W.grownBy w' row) (hr : ∀ k, row = some k → base ≤ k) : Below base w0 w' :=
  h.trans ⟨hg.os, hg.tape, hg.output, Nat.le_trans hb hg.size |> fun _ => hg.size, fun k hk => hg.block k (Nat.lt_of_lt_of_le hk hb) (fun e => by have := hr k e.symm; omega)⟩
def HotPost (w : World) (T : List ByteArray) (most : Int) (e : Ending) (w' : World) : Prop := ∃ A' n c', e = .returned (.slice A' n c') ∧ n = (min (max most 0) (T.length : Int)).toNat ∧ n ≤ c' ∧ Kd.string.C w' A' n (T.take n) ∧ Below w.heap.size w w'
set_option maxHeartbeats 2000000 in
set_option maxRecDepth 100000 in
theorem Hot_any (p : Nat) (B : Nat → Nat) (S : Sk) (most : Int) (A : Option Addr) (c : Nat) (keys : List ByteArray) (w : World) (hS : IsSk w p B S) (hk : Kd.string.C w A keys.length keys) (hs : ∀ i, i < keys.length → (sget keys i).size ≤ maxLen) (hl : keys.length ≤ 30) :
    Calls Tryd.prog 30 #[.pointer (some ⟨p, 0, none⟩), .int .i64 most, .slice A keys.length c] w (HotPost w (hotS S keys) most) := by
  have HS := Lib.hid hS
  have HK := Lib.hid hk
  have HSZ := Lib.hid hs
  clear hS hk hs
  obtain ⟨cnt, hcnt⟩ : ∃ cnt : ByteArray → Int, cnt = fun k => ofI S k := ⟨_, rfl⟩
  have HCNT := Lib.hid hcnt
  have hhot : ∀ l, hotS S l = HotP.hotT cnt l := fun l => by rw [hcnt]; rfl
  have HHOT := Lib.hid hhot
  have HOF := Lib.hid (show ∀ W s, Below w.heap.size w W → s.size ≤ maxLen → Calls Tryd.prog 13 #[.pointer (some ⟨p, 0, none⟩), .string s] W fun e w' => e = .returned (.int .i64 (cnt s)) ∧ ∃ n, w' = W.drewN n from fun W s hW hz => by rw [hcnt]; exact Of_any p B S s W (HS.out.later hW) hz)
  clear hcnt hhot
  go_enter Tryd.func30, Tryd.ntmps30
  go_wp2_with fail
  go_loopw [7, 13] (fun v i wr => ∃ j : Nat, j ≤ keys.length ∧ i = .int .i64 j ∧ Hid (Kd.string.R 9 wr w.heap.size (fun _ => True) v (HotP.hotT cnt (keys.take j)) ∧ Below w.heap.size w wr)) (fun _ i _ => keys.length - (intOf i).toNat)
  case atStart => exact ⟨0, Nat.zero_le _, rfl, Kd.R_nil _ _ _ _ _, Below.refl _ _⟩
  case round =>
    obtain ⟨j, hj, rfl, HD⟩ := hrel
    obtain ⟨wo, rfl⟩ : ∃ wo : World, wo = wr := ⟨_, rfl⟩
    obtain ⟨A1, c1, hv, hc1, hC1⟩ := Kd.R_reads HD.out.1
    subst hv
    have hTl : (HotP.hotT cnt (keys.take j)).length ≤ 30 := by
      have h1 := hotS_len S (keys.take j)
      rw [HHOT.out] at h1
      have h2 : (keys.take j).length ≤ j := List.length_take_le _ _
      omega
    by_cases hlt : j < keys.length
    · obtain ⟨ad, hA, hc⟩ := at_str HK.out hlt
      subst hA
      have hcw : wo.cell? (ad.add j) = some (.string (sget keys j)) := (HD.out.2.cell (World.block_lt_of_cell? w _ hc)).trans hc
      have HT := Lib.hid (show HotP.hotT cnt (keys.take (j + 1)) = HotP.ins1 cnt (HotP.hotT cnt (keys.take j)) (sget keys j) by rw [take_s hlt, HotP.hotT_snoc])
      have hsz := HSZ.out j hlt
      have HSZT := Lib.hid (show ∀ m, m < (HotP.hotT cnt (keys.take j)).length → (sget (HotP.hotT cnt (keys.take j)) m).size ≤ maxLen from fun m hm => by
        rw [sget_eq hm]
        have h1 := (HotP.mem_hotT cnt (keys.take j) _).1 (List.getElem_mem hm)
        obtain ⟨i, hi, he⟩ := List.getElem_of_mem (List.mem_of_mem_take h1)
        rw [← he, ← sget_eq hi]
        exact HSZ.out i hi)
      generalize HotP.hotT cnt (keys.take j) = T at *
      generalize sget keys j = key at *
      have HC1 := Lib.hid hC1
      clear hC1
      go_wp2_with fail
      refine (contS_any A1 c1 T key wo HC1.out hc1 (by omega)).mono ?_
      rintro e w2 ⟨rfl, n2, hn2⟩
      have b2 := Lib.hid (show Below wo.heap.size wo w2 by rw [hn2]; exact Drawn0.below ⟨n2, rfl⟩)
      clear hn2
      by_cases hm : key ∈ T
      · rw [decide_eq_true hm]
        have HM := Lib.hid hm
        clear hm
        go_wp2_with fail
        go_roundw
        case rel => exact ⟨j + 1, by omega, by go_num, by rw [HT.out, HotP.ins1, if_pos HM.out]; exact ⟨Kd.R_below HD.out.1 b2.out, HD.out.2.trans (b2.out.mono HD.out.2.size)⟩⟩
        case measure => simp [intOf]; omega
      · rw [decide_eq_false hm]
        have HM := Lib.hid hm
        clear hm
        go_wp2_with fail
        have hal := hotAt_le cnt T key
        have HYES := Lib.hid (hotAt_yes cnt T key)
        have HNO := Lib.hid (hotAt_no cnt T key)
        have HINS := Lib.hid (ins_hotAt cnt T key HM.out)
        generalize hotAt cnt T key = at_ at *
        go_loopw [10] (fun i wy => ∃ m : Nat, m ≤ at_ ∧ i = .int .i64 m ∧ Hid (Below wo.heap.size wo wy)) (fun i _ => at_ - (intOf i).toNat)
        case atStart => exact ⟨0, Nat.zero_le _, rfl, b2.out⟩
        case round =>
          obtain ⟨m, hm, rfl, HE⟩ := hrel
          have HBW := Lib.hid (HD.out.2.trans (HE.out.mono HD.out.2.size))
          have hC2 : Kd.string.C wr A1 T.length T := Kd.C_below HC1.out HE.out
          by_cases hma : m < at_
          · obtain ⟨ad2, hA2, hc2⟩ := at_str hC2 (show m < T.length by omega)
            subst hA2
            have hcm := Lib.hid (HYES.out m hma)
            have hml : m < T.length := by omega
            have hszm := HSZT.out m hml
            have hge : decide (cnt key ≤ cnt (sget T m)) = true := decide_eq_true hcm.out
            go_wp2_with fail
            refine (HOF.out _ _ HBW.out hszm).mono ?_
            rintro e w3 ⟨rfl, n3, hn3⟩
            have b3 := Lib.hid (show Below wo.heap.size wo w3 by rw [hn3]; exact HE.out.trans ((Drawn0.below ⟨n3, rfl⟩).mono HE.out.size))
            clear hn3
            go_wp2_with fail
            refine (HOF.out _ _ (HD.out.2.trans (b3.out.mono HD.out.2.size)) hsz).mono ?_
            rintro e w4 ⟨rfl, n4, hn4⟩
            have b4 := Lib.hid (show Below wo.heap.size wo w4 by rw [hn4]; exact b3.out.trans ((Drawn0.below ⟨n4, rfl⟩).mono b3.out.size))
            clear hn4
            go_wp2_with fail
            go_roundw
            case rel => exact ⟨m + 1, by omega, by go_num, b4.out⟩
            case measure => simp [intOf]; omega
          · obtain rfl : m = at_ := by omega
            by_cases hml : m < T.length
            · obtain ⟨ad2, hA2, hc2⟩ := at_str hC2 hml
              subst hA2
              have hszm := HSZT.out m hml
              have hge : decide (cnt key ≤ cnt (sget T m)) = false := decide_eq_false (HNO.out hml)
              go_wp2_with fail
              refine (HOF.out _ _ HBW.out hszm).mono ?_
              rintro e w3 ⟨rfl, n3, hn3⟩
              have b3 := Lib.hid (show Below wo.heap.size wo w3 by rw [hn3]; exact HE.out.trans ((Drawn0.below ⟨n3, rfl⟩).mono HE.out.size))
              clear hn3
              go_wp2_with fail
              refine (HOF.out _ _ (HD.out.2.trans (b3.out.mono HD.out.2.size)) hsz).mono ?_
              rintro e w4 ⟨rfl, n4, hn4⟩
              have b4 := Lib.hid (show Below wo.heap.size wo w4 by rw [hn4]; exact b3.out.trans ((Drawn0.below ⟨n4, rfl⟩).mono b3.out.size))
              clear hn4
              go_wp2_with fail
              refine (InsS_any w.heap.size _ T m key w4 hal (Kd.R_below HD.out.1 b4.out) (HD.out.2.trans (b4.out.mono HD.out.2.size)).size (by omega)).mono ?_
              rintro e w5 ⟨v5, rfl, r5, g5⟩
              have R5 := Lib.hid (show Kd.string.R 9 w5 w.heap.size (fun _ => True) v5 (HotP.hotT cnt (keys.take (j + 1))) by rw [HT.out, ← HINS.out]; exact r5)
              have B5 := Lib.hid (below_grown (HD.out.2.trans (b4.out.mono HD.out.2.size)) (HD.out.2.trans (b4.out.mono HD.out.2.size)).size g5 (fun k hk => own_base (own_flat kS_M HD.out.1) k hk))
              obtain ⟨A5, c5, hv5, _, _⟩ := Kd.R_reads R5.out
              subst hv5
              clear r5 g5
              go_wp2_with fail
              go_roundw
              case rel => exact ⟨j + 1, by omega, by go_num, R5.out, B5.out⟩
              case measure => simp [intOf]; omega
            · go_wp2_with fail
              refine (InsS_any w.heap.size _ T m key wr hal (Kd.R_below HD.out.1 HE.out) (HD.out.2.trans (HE.out.mono HD.out.2.size)).size (by omega)).mono ?_
              rintro e w5 ⟨v5, rfl, r5, g5⟩
              have R5 := Lib.hid (show Kd.string.R 9 w5 w.heap.size (fun _ => True) v5 (HotP.hotT cnt (keys.take (j + 1))) by rw [HT.out, ← HINS.out]; exact r5)
              have B5 := Lib.hid (below_grown (HD.out.2.trans (HE.out.mono HD.out.2.size)) (HD.out.2.trans (HE.out.mono HD.out.2.size)).size g5 (fun k hk => own_base (own_flat kS_M HD.out.1) k hk))
              obtain ⟨A5, c5, hv5, _, _⟩ := Kd.R_reads R5.out
              subst hv5
              clear r5 g5
              go_wp2_with fail
              go_roundw
              case rel => exact ⟨j + 1, by omega, by go_num, R5.out, B5.out⟩
              case measure => simp [intOf]; omega
    · obtain rfl : j = keys.length := by omega
      have hTk : HotP.hotT cnt (keys.take keys.length) = hotS S keys := by rw [List.take_length, HHOT.out]
      rw [hTk] at HD hC1 hc1 hTl ⊢
      have HC1 := Lib.hid hC1
      clear hTk hC1
      generalize hotS S keys = T at *
      obtain ⟨n, hn⟩ : ∃ n : Nat, min (max most 0) (T.length : Int) = n := Int.eq_ofNat_of_zero_le (by omega)
      have HN := Lib.hid (show n = (min (max most 0) (T.length : Int)).toNat by omega)
      have hnT : n ≤ T.length := by omega
      cases A1 with
      | none =>
        obtain ⟨e1, e2⟩ : T.length = 0 ∧ c1 = 0 := by
          rcases row_of_ownS HD.out.1 with ⟨h1, h2⟩ | ⟨g, cap, f, h1, _⟩
          · injection h1 with _ h3 h4
            exact ⟨h3, h4⟩
          · injection h1 with h2
            cases h2
        have hn0 : n = 0 := by omega
        go_wp2_with fail
        go_ret
        exact ⟨none, _, _, rfl, by rw [e1]; rfl, by rw [← e1]; omega, by rw [show (min (max most 0) 0).toNat = 0 by omega]; exact C_take HC1.out (Nat.zero_le _), HD.out.2⟩
      | some ad =>
        go_wp2_with fail
        go_ret
        exact ⟨some ad, n, c1, rfl, HN.out, by omega, C_take HC1.out hnT, HD.out.2⟩
end Go.Proofs.YtpjdaglblckgfaaDoor
namespace Go.Proofs.YtpjdaglblckgfaaDoor
set_option linter.unusedVariables false
open Go.RowKit Go.Proofs.YtpjdaglblckgfaaDoorW.PrintWords
attribute [local go_sem ↓] Go.wp_at_zero Go.wp_at_succ

def bestI : Option Nat → Int
  | none => -1
  | some b => b
theorem sget_getD (l : List ByteArray) (k : Nat) : l.getD k ByteArray.empty = sget l k := rfl
def RHotPost (w : World) (T : List ByteArray) (most : Int) (e : Ending) (w' : World) : Prop := ∃ v, e = .returned v ∧ Kd.string.R 9 w' w.heap.size (fun _ => True) v (T.take (min (max most 0) (T.length : Int)).toNat) ∧ Below w.heap.size w w'

set_option maxHeartbeats 4000000 in
set_option maxRecDepth 100000 in
theorem refHot_any (LA nL : Nat) (R cp : Nat → Nat) (S : Sk) (most : Int) (A : Option Addr) (c : Nat) (keys : List ByteArray) (w : World) (hS : IsRf w LA nL R cp S) (hk : Kd.string.C w A keys.length keys) (hs : ∀ i, i < keys.length → (sget keys i).size ≤ maxLen) (hl : keys.length ≤ 30) :
    Calls Tryd.prog 31 #[.agg (rfCells LA nL S), .int .i64 most, .slice A keys.length c] w (RHotPost w (hotS S keys) most) := by
  have HS := Lib.hid hS
  have HK := Lib.hid hk
  have HSZ := Lib.hid hs
  have hTl := hotS_len S keys
  obtain ⟨cnt, hcnt⟩ : ∃ cnt : ByteArray → Int, cnt = fun k => ofI S k := ⟨_, rfl⟩
  have hhot : hotS S keys = HotP.hotT cnt keys := by rw [hcnt]; rfl
  have hOF : ∀ W s, Below w.heap.size w W → s.size ≤ maxLen → Calls Tryd.prog 23 #[.agg (rfCells LA nL S), .string s] W fun e w' => e = .returned (.int .i64 (cnt s)) ∧ Below W.heap.size W w' := fun W s hW hz => by rw [hcnt]; exact refOf_any LA nL R cp S s hz W (HS.out.later hW)
  have PK := Lib.hid (HotP.pick_eq cnt keys ByteArray.empty)
  have PE := Lib.hid (HotP.pick_end cnt keys ByteArray.empty)
  rw [hhot] at hTl ⊢
  generalize HotP.hotT cnt keys = T at *
  have hrf : rfCells LA nL S = #[.int .i64 S.width, .slice (some ⟨LA, 0, none⟩) 4 nL, .int .i64 S.total, .int .i64 S.limit, .int .i64 S.aged] := rfl
  rw [hrf] at hOF ⊢
  have HOF := Lib.hid hOF
  clear hrf hS hk hs hcnt hhot hOF
  go_enter Tryd.func31, Tryd.ntmps31
  go_wp2_with fail
  have hbox := heap_alloc_new w (.cells #[.int .i64 S.width, .slice (some ⟨LA, 0, none⟩) 4 nL, .int .i64 S.total, .int .i64 S.limit, .int .i64 S.aged] 38)
  have B0 := Lib.hid (bel_alloc w (.cells #[.int .i64 S.width, .slice (some ⟨LA, 0, none⟩) 4 nL, .int .i64 S.total, .int .i64 S.limit, .int .i64 S.aged] 38))
  have hq1 : w.heap.size < (w.alloc (.cells #[.int .i64 S.width, .slice (some ⟨LA, 0, none⟩) 4 nL, .int .i64 S.total, .int .i64 S.limit, .int .i64 S.aged] 38)).heap.size := by simp
  have HBOX := Lib.hid hbox
  have HQ1 := Lib.hid hq1
  clear hbox hq1
  generalize w.alloc (.cells #[.int .i64 S.width, .slice (some ⟨LA, 0, none⟩) 4 nL, .int .i64 S.total, .int .i64 S.limit, .int .i64 S.aged] 38) = wb at *
  have HCEL := Lib.hid (show ∀ W, Below wb.heap.size wb W → W.cell? ⟨w.heap.size, 0, none⟩ = some (.int .i64 S.width) ∧ W.cell? ⟨w.heap.size, 1, none⟩ = some (.slice (some ⟨LA, 0, none⟩) 4 nL) ∧ W.cell? ⟨w.heap.size, 2, none⟩ = some (.int .i64 S.total) ∧ W.cell? ⟨w.heap.size, 3, none⟩ = some (.int .i64 S.limit) ∧ W.cell? ⟨w.heap.size, 4, none⟩ = some (.int .i64 S.aged) from fun W hW => by
    have h2 := (hW.block w.heap.size HQ1.out).trans HBOX.out
    exact ⟨cell_of_row W _ 0 _ _ (0, 0) h2, cell_of_row W _ 1 _ _ (0, 0) h2, cell_of_row W _ 2 _ _ (0, 0) h2, cell_of_row W _ 3 _ _ (0, 0) h2, cell_of_row W _ 4 _ _ (0, 0) h2⟩)
  go_loopg [7] T.length (fun r v wr => ∃ i : Nat, i + r = T.length ∧ (i = 0 ∨ (i : Int) ≤ most) ∧ Hid (Kd.string.R 9 wr wb.heap.size (fun _ => True) v (T.take i) ∧ Below wb.heap.size wb wr))
  case atStart => exact ⟨0, Nat.zero_add _, .inl rfl, by rw [List.take_zero]; exact Kd.R_nil _ _ _ _ _, Below.refl _ _⟩
  case round =>
    obtain ⟨i, hi, hmi, HD⟩ := hrel
    obtain ⟨wo, rfl⟩ : ∃ wo : World, wo = wr := ⟨_, rfl⟩
    have htl : (T.take i).length = i := by rw [List.length_take]; omega
    obtain ⟨A1, c1, hv, hc1, hC1⟩ := Kd.R_reads HD.out.1
    rw [htl] at hv hc1 hC1
    subst hv
    have HC1 := Lib.hid (show Kd.string.C wo A1 (T.take i).length (T.take i) by rw [htl]; exact hC1)
    have HTL := Lib.hid htl
    clear hC1 htl
    by_cases hlt : (i : Int) < most
    · go_wp2_with fail
      go_loopw [8, 9] (fun b k wr => ∃ m : Nat, m ≤ keys.length ∧ k = .int .i64 m ∧ b = .int .i64 (bestI (HotP.pick cnt keys (T.take i) ByteArray.empty m)) ∧ Hid (Below wo.heap.size wo wr)) (fun _ k _ => keys.length - (intOf k).toNat)
      case atStart => exact ⟨0, Nat.zero_le _, rfl, rfl, Below.refl _ _⟩
      case round =>
        obtain ⟨m, hm, rfl, rfl, HE⟩ := hrel
        have HBW := Lib.hid (HD.out.2.trans (HE.out.mono HD.out.2.size))
        have HBV := Lib.hid (B0.out.trans (HBW.out.mono B0.out.size))
        by_cases hml : m < keys.length
        · have hKr : Kd.string.C wr A keys.length keys := Kd.C_below HK.out HBV.out
          obtain ⟨ad, hA, hcm⟩ := at_str hKr hml
          subst hA
          have hsz := HSZ.out m hml
          have hpk : HotP.pick cnt keys (T.take i) ByteArray.empty (m + 1) = match HotP.pick cnt keys (T.take i) ByteArray.empty m with
            | none => if sget keys m ∈ T.take i then none else some m
            | some b => if sget keys m ∈ T.take i then some b else if cnt (sget keys b) < cnt (sget keys m) then some m else some b := rfl
          have hhas : ∀ n, Calls Tryd.prog 42 #[.slice A1 i c1, .string (sget keys m)] (wr.drewN n) fun e w' => e = .returned (.bool (decide (sget keys m ∈ T.take i))) ∧ ∃ k, w' = (wr.drewN n).drewN k := fun n => by
            have := hasS_any A1 c1 (T.take i) (sget keys m) (wr.drewN n) (Kd.C_below HC1.out (HE.out.trans ((Drawn0.below ⟨n, rfl⟩).mono HE.out.size))) (by rw [HTL.out]; exact hc1) (by rw [HTL.out]; omega)
            rwa [HTL.out] at this
          by_cases hmem : sget keys m ∈ T.take i
          · have hpk2 : HotP.pick cnt keys (T.take i) ByteArray.empty (m + 1) = HotP.pick cnt keys (T.take i) ByteArray.empty m := by
              rw [hpk]
              cases HotP.pick cnt keys (T.take i) ByteArray.empty m <;> simp only [if_pos hmem]
            rw [decide_eq_true hmem] at hhas
            have HPK := Lib.hid hpk2
            have HHAS := Lib.hid hhas
            clear hpk hpk2 hhas hmem
            generalize sget keys m = key at *
            go_wp2_with fail
            go_quiet ((go_at_call 42; exact Calls.quiet_of (HHAS.out _)))
            go_wp2_with fail
            go_roundw
            case rel => exact ⟨m + 1, by omega, by go_num, by rw [HPK.out], HE.out.trans ((Drawn0.below ⟨nq, rfl⟩).mono HE.out.size)⟩
            case measure => simp [intOf]; omega
          · rw [decide_eq_false hmem] at hhas
            have HHAS := Lib.hid hhas
            clear hhas
            cases hp : HotP.pick cnt keys (T.take i) ByteArray.empty m with
            | none =>
              have hpk2 : HotP.pick cnt keys (T.take i) ByteArray.empty (m + 1) = some m := by
                rw [hpk, hp]
                simp only [if_neg hmem]
              have HPK := Lib.hid hpk2
              clear hpk hpk2 hmem hp
              rw [show bestI none = -1 from rfl]
              generalize sget keys m = key at *
              go_wp2_with fail
              go_quiet ((go_at_call 42; exact Calls.quiet_of (HHAS.out _)))
              go_wp2_with fail
              go_roundw
              case rel => exact ⟨m + 1, by omega, by go_num, by rw [HPK.out]; rfl, HE.out.trans ((Drawn0.below ⟨nq, rfl⟩).mono HE.out.size)⟩
              case measure => simp [intOf]; omega
            | some b =>
              have hbm : b < m := (HotP.pick_some cnt keys (T.take i) ByteArray.empty m b hp).1
              obtain ⟨ad2, hA2, hcb⟩ := at_str hKr (show b < keys.length by omega)
              have hszb := HSZ.out b (by omega)
              have hpk2 : HotP.pick cnt keys (T.take i) ByteArray.empty (m + 1) = if cnt (sget keys b) < cnt (sget keys m) then some m else some b := by
                rw [hpk, hp]
                simp only [if_neg hmem]
              injection hA2 with hA2
              subst hA2
              have HPK := Lib.hid hpk2
              have hmem2 := hmem
              clear hpk hpk2 hmem hp
              rw [show bestI (some b) = (b : Int) from rfl]
              have hS : ∀ W, Below wr.heap.size wr W → (W.cell? (ad.add m) = some (.string (sget keys m)) ∧ W.cell? (ad.add b) = some (.string (sget keys b)) ∧ W.cell? ⟨w.heap.size, 0, none⟩ = some (.int .i64 S.width) ∧ W.cell? ⟨w.heap.size, 1, none⟩ = some (.slice (some ⟨LA, 0, none⟩) 4 nL) ∧ W.cell? ⟨w.heap.size, 2, none⟩ = some (.int .i64 S.total) ∧ W.cell? ⟨w.heap.size, 3, none⟩ = some (.int .i64 S.limit) ∧ W.cell? ⟨w.heap.size, 4, none⟩ = some (.int .i64 S.aged)) := fun W hW =>
                ⟨(hW.cell (World.block_lt_of_cell? wr _ hcm)).trans hcm, (hW.cell (World.block_lt_of_cell? wr _ hcb)).trans hcb, HCEL.out W (HBW.out.trans (hW.mono HBW.out.size))⟩
              have hC1 : ∀ W, Below wr.heap.size wr W → Calls Tryd.prog 42 #[.slice A1 i c1, .string (sget keys m)] W fun e w' => e = .returned (.bool false) ∧ Below wr.heap.size wr w' := fun W hW => by
                have := hasS_any A1 c1 (T.take i) (sget keys m) W (Kd.C_below HC1.out (HE.out.trans (hW.mono HE.out.size))) (by rw [HTL.out]; exact hc1) (by rw [HTL.out]; omega)
                rw [HTL.out, decide_eq_false hmem2] at this
                exact this.mono fun e w' ⟨he, k, hk⟩ => ⟨he, by rw [hk]; exact hW.trans ((Drawn0.below ⟨k, rfl⟩).mono hW.size)⟩
              have hC2 : ∀ W, Below wr.heap.size wr W → Calls Tryd.prog 23 #[.agg #[.int .i64 S.width, .slice (some ⟨LA, 0, none⟩) 4 nL, .int .i64 S.total, .int .i64 S.limit, .int .i64 S.aged], .string (sget keys m)] W fun e w' => e = .returned (.int .i64 (cnt (sget keys m))) ∧ Below wr.heap.size wr w' := fun W hW =>
                (HOF.out W _ (HBV.out.trans (hW.mono HBV.out.size)) hsz).mono fun e w' ⟨he, hb⟩ => ⟨he, hW.trans (hb.mono hW.size)⟩
              have hC3 : ∀ W, Below wr.heap.size wr W → Calls Tryd.prog 23 #[.agg #[.int .i64 S.width, .slice (some ⟨LA, 0, none⟩) 4 nL, .int .i64 S.total, .int .i64 S.limit, .int .i64 S.aged], .string (sget keys b)] W fun e w' => e = .returned (.int .i64 (cnt (sget keys b))) ∧ Below wr.heap.size wr w' := fun W hW =>
                (HOF.out W _ (HBV.out.trans (hW.mono HBV.out.size)) hszb).mono fun e w' ⟨he, hb⟩ => ⟨he, hW.trans (hb.mono hW.size)⟩
              have hbk : b < keys.length := by omega
              have i1 : (0 : Int) ≤ (b : Int) := by omega
              have i2 : (b : Int) < (keys.length : Int) := by omega
              have i3 : (0 : Int) ≤ (m : Int) := by omega
              have i4 : (m : Int) < (keys.length : Int) := by omega
              have i5 : decide ((b : Int) < 0) = false := decide_eq_false (by omega)
              obtain ⟨s0, s1, s2, s3, s4, s5, s6⟩ := hS wr (Below.refl _ _)
              have hgt : (decide (cnt (sget keys b) < cnt (sget keys m)) = true ∧ HotP.pick cnt keys (T.take i) ByteArray.empty (m + 1) = some m) ∨ (decide (cnt (sget keys b) < cnt (sget keys m)) = false ∧ HotP.pick cnt keys (T.take i) ByteArray.empty (m + 1) = some b) := by
                by_cases h : cnt (sget keys b) < cnt (sget keys m)
                · exact .inl ⟨decide_eq_true h, by rw [HPK.out, if_pos h]⟩
                · exact .inr ⟨decide_eq_false h, by rw [HPK.out, if_neg h]⟩
              have HSS := Lib.hid hS
              have HC2 := Lib.hid hC1
              have HC3 := Lib.hid hC2
              have HC4 := Lib.hid hC3
              clear hS hC1 hC2 hC3 HHAS HPK hmem2 hcm hcb
              generalize sget keys m = km at *
              generalize sget keys b = kb at *
              have b0 : Hid (Below wr.heap.size wr wr.drew) := Drawn0.below ⟨1, rfl⟩
              rcases hgt with ⟨d1, hpk⟩ | ⟨d1, hpk⟩
              all_goals
                have HPK := Lib.hid hpk
                clear hpk
                go_wp2_with fail
                go_region_held3 (fun w' => w'.cell? (ad.add m) = some (.string km) ∧ w'.cell? (ad.add b) = some (.string kb) ∧ w'.cell? ⟨w.heap.size, 0, none⟩ = some (.int .i64 S.width) ∧ w'.cell? ⟨w.heap.size, 1, none⟩ = some (.slice (some ⟨LA, 0, none⟩) 4 nL) ∧ w'.cell? ⟨w.heap.size, 2, none⟩ = some (.int .i64 S.total) ∧ w'.cell? ⟨w.heap.size, 3, none⟩ = some (.int .i64 S.limit) ∧ w'.cell? ⟨w.heap.size, 4, none⟩ = some (.int .i64 S.aged))
                  (first | exact ⟨s0, s1, s2, s3, s4, s5, s6⟩ | exact HSS.out _ b0.out | exact HSS.out _ b5.out | exact HSS.out _ b6.out | exact HSS.out _ b7.out)
                  (first
                  | (go_at_call 42; ((with_reducible refine (HC2.out _ ?_).mono ?_)); (case refine_1 => exact b0.out); rintro e w5 ⟨rfl, hb⟩; have b5 := Lib.hid hb; clear hb)
                  | (go_at_call_of 23 (Value.string km); ((with_reducible refine (HC3.out _ ?_).mono ?_)); (case refine_1 => first | exact b7.out | exact b5.out | exact b0.out); rintro e w6 ⟨rfl, hb⟩; have b6 := Lib.hid hb; clear hb)
                  | (go_at_call_of 23 (Value.string kb); ((with_reducible refine (HC4.out _ ?_).mono ?_)); (case refine_1 => first | exact b6.out | exact b5.out | exact b0.out); rintro e w7 ⟨rfl, hb⟩; have b7 := Lib.hid hb; clear hb))
                all_goals
                  go_wp2_with fail
                  go_roundw
                  case rel => exact ⟨m + 1, by omega, by go_num, by rw [HPK.out]; rfl, by first | exact HE.out.trans (b7.out.mono HE.out.size) | exact HE.out.trans (b6.out.mono HE.out.size)⟩
                  case measure => simp [intOf]; omega
        · obtain rfl : m = keys.length := by omega
          by_cases hiT : i < T.length
          · obtain ⟨b, hp, hbk, hbT⟩ := PK.out i hiT
            rw [hp, show bestI (some b) = (b : Int) from rfl]
            have hKr : Kd.string.C wr A keys.length keys := Kd.C_below HK.out HBV.out
            obtain ⟨ad, hA, hcb⟩ := at_str hKr hbk
            subst hA
            have HTK := Lib.hid (show T.take (i + 1) = T.take i ++ [sget keys b] by rw [List.take_succ_eq_append_getElem hiT, ← hbT]; rfl)
            have HR := Lib.hid (Kd.R_below HD.out.1 HE.out)
            have hil : (T.take i).length ≤ 30 := by rw [HTL.out]; omega
            have i5 : decide ((b : Int) < 0) = false := decide_eq_false (by omega)
            clear hp hbT
            generalize sget keys b = kb at *
            go_wp2_with (at_builtin; refine Kd.R_append Kd.string (w0 := wb) wb.heap.size rfl (.tmp 50) (.tmp 55) 23 9 (.string ⟨#[]⟩) 16 rfl Tryd.underlying23 info_str rfl (by decide) (by omega) _ (T.take i) kb [.string kb] (fun _ => True) (fun _ => False) rfl rfl rfl (fun _ hk => hk.elim) (fun _ _ => trivial) HR.out HBW.out HBW.out.size ?aL ?_; (case aL => omega); intro v1 w1 ho hb hg hat; have HO := Lib.hid ho; have HB := Lib.hid hb; clear ho hb hg hat)
            go_roundg (T.length - (i + 1))
            case measure => omega
            case rel => exact ⟨i + 1, by omega, .inr (by omega), by rw [HTK.out]; exact HO.out, HB.out⟩
          · have hiT2 : i = T.length := by omega
            have hTk : T.take i = T := List.take_of_length_le (by omega)
            rw [hTk, PE.out, show bestI none = -1 from rfl]
            rw [hTk] at HD
            have HIT := Lib.hid hiT2
            clear hTk hiT2
            go_wp2_with fail
            go_ret
            refine ⟨_, rfl, ?_, B0.out.trans (HBW.out.mono B0.out.size)⟩
            rw [List.take_of_length_le (by omega)]
            exact Kd.R_lower (Kd.R_below HD.out.1 HE.out) B0.out.size
    · have hin : (min (max most 0) (T.length : Int)).toNat = i := by omega
      have HIN := Lib.hid hin
      clear hin
      go_wp2_with fail
      go_ret
      refine ⟨_, rfl, ?_, B0.out.trans (HD.out.2.mono B0.out.size)⟩
      rw [HIN.out]
      exact Kd.R_lower HD.out.1 B0.out.size
end Go.Proofs.YtpjdaglblckgfaaDoor
namespace Go.Proofs.YtpjdaglblckgfaaDoor
set_option linter.unusedVariables false
open Go.RowKit Go.Proofs.YtpjdaglblckgfaaDoorW.PrintWords
attribute [local go_sem ↓] Go.wp_at_zero Go.wp_at_succ

def TW (w0 w : World) (p q : Nat) (S : Sk) : Prop := ∃ LA nL R cp, SkTwo w0 w w0.heap.size p (fun r => p + (1 + r)) S q LA nL R cp S
theorem refNew_w (n : Nat) (z : Int) (hz : z = n) (w : World) (h1 : 1 ≤ n) (h2 : n ≤ 4096) :
    Calls Tryd.prog 17 #[.int .i64 z, .int .i64 0] w (RfPostN w (Sk.new n 0)) := by
  subst hz
  exact refNew_ok n 0 w h1 h2 (by omega) (by omega)

set_option maxHeartbeats 4000000 in
set_option maxRecDepth 100000 in
theorem hot_out (A KA : Option Addr) (c kc a : Nat) (l keys : List ByteArray) (most : Int) (w : World) (hl : Kd.string.C w A l.length l) (hk : Kd.string.C w KA keys.length keys) (hg : HG w)
    (hout : 60 < l.length ∨ 30 < keys.length ∨ shortB l = false ∨ shortB keys = false) :
    Calls Tryd.prog 8 #[.int .u16 a, .slice A l.length c, .slice KA keys.length kc, .int .i64 most] w fun e w' => e = .returned (.bool true) ∧ Below w.heap.size w w' := by
  have HL := Lib.hid hl
  have HK := Lib.hid hk
  have HH := Lib.hid hg
  have h0 := Lib.hid (hg_pos hg)
  clear hl hk hg
  have hc : decide (60 < (l.length : Int)) = true ∨ (decide (60 < (l.length : Int)) = false ∧ (decide (30 < (keys.length : Int)) = true ∨ (decide (30 < (keys.length : Int)) = false ∧ (shortB l = false ∨ (shortB l = true ∧ shortB keys = false))))) := by
    by_cases h1 : 60 < l.length
    · exact .inl (decide_eq_true (by omega))
    · refine .inr ⟨decide_eq_false (by omega), ?_⟩
      by_cases h2 : 30 < keys.length
      · exact .inl (decide_eq_true (by omega))
      · refine .inr ⟨decide_eq_false (by omega), ?_⟩
        cases h3 : shortB l
        · exact .inl rfl
        · refine .inr ⟨rfl, ?_⟩
          rcases hout with h | h | h | h
          · omega
          · omega
          · rw [h3] at h; cases h
          · exact h
  clear hout
  go_enter Tryd.func8, Tryd.ntmps8
  rcases hc with d1 | ⟨d1, d2 | ⟨d2, hs1 | ⟨hs1, hs2⟩⟩⟩
  · go_wp2_with fail
    refine (works_below HH.out h0.out (Below.refl _ _) (Nat.le_refl _)).mono ?_
    rintro e w6 ⟨rfl, b6⟩
    have B6 := Lib.hid b6
    clear b6
    go_wp2_with fail
    go_ret
    exact ⟨rfl, B6.out⟩
  · go_wp2_with fail
    refine (works_below HH.out h0.out (Below.refl _ _) (Nat.le_refl _)).mono ?_
    rintro e w6 ⟨rfl, b6⟩
    have B6 := Lib.hid b6
    clear b6
    go_wp2_with fail
    go_ret
    exact ⟨rfl, B6.out⟩
  · go_wp2_with fail
    refine (short_any A c l _ HL.out).mono ?_
    rintro e w' ⟨rfl, rfl⟩
    go_wp2_with fail
    refine (works_below HH.out h0.out (Below.refl _ _) (Nat.le_refl _)).mono ?_
    rintro e w6 ⟨rfl, b6⟩
    have B6 := Lib.hid b6
    clear b6
    go_wp2_with fail
    go_ret
    exact ⟨rfl, B6.out⟩
  · go_wp2_with fail
    refine (short_any A c l _ HL.out).mono ?_
    rintro e w' ⟨rfl, rfl⟩
    go_wp2_with fail
    refine (short_any KA kc keys _ HK.out).mono ?_
    rintro e w' ⟨rfl, rfl⟩
    go_wp2_with fail
    refine (works_below HH.out h0.out (Below.refl _ _) (Nat.le_refl _)).mono ?_
    rintro e w6 ⟨rfl, b6⟩
    have B6 := Lib.hid b6
    clear b6
    go_wp2_with fail
    go_ret
    exact ⟨rfl, B6.out⟩

set_option maxHeartbeats 8000000 in
set_option maxRecDepth 100000 in
theorem hot_good (A KA : Option Addr) (c kc a : Nat) (l keys : List ByteArray) (most : Int) (w : World) (hl : Kd.string.C w A l.length l) (hk : Kd.string.C w KA keys.length keys) (hg : HG w)
    (ha : a ≤ 65535) (hl6 : l.length ≤ 60) (hk3 : keys.length ≤ 30) (hs1 : shortB l = true) (hs2 : shortB keys = true) :
    Calls Tryd.prog 8 #[.int .u16 a, .slice A l.length c, .slice KA keys.length kc, .int .i64 most] w fun e w' => e = .returned (.bool true) ∧ Below w.heap.size w w' := by
  have HL := Lib.hid hl
  have HK := Lib.hid hk
  have HH := Lib.hid hg
  have h0 := Lib.hid (hg_pos hg)
  clear hl hk hg
  have d1 : decide (60 < (l.length : Int)) = false := decide_eq_false (by omega)
  have d2 : decide (30 < (keys.length : Int)) = false := decide_eq_false (by omega)
  obtain ⟨n, HN, n1, n2⟩ : ∃ n : Nat, Hid (1 + (a : Int) % 40 = n) ∧ 1 ≤ n ∧ n ≤ 40 := ⟨1 + a % 40, by show 1 + (a : Int) % 40 = (((1 + a % 40) : Nat) : Int); omega, by omega, by omega⟩
  go_enter Tryd.func8, Tryd.ntmps8
  go_wp2_with fail
  refine (short_any A c l _ HL.out).mono ?_
  rintro e w' ⟨rfl, rfl⟩
  go_wp2_with fail
  refine (short_any KA kc keys _ HK.out).mono ?_
  rintro e w' ⟨rfl, rfl⟩
  go_wp2_with fail
  refine (New_st (Below.refl _ _) (Nat.le_refl _) n _ HN.out n1 (by omega)).mono ?_
  rintro e w2 ⟨rfl, i2⟩
  have I2 := Lib.hid i2
  clear i2
  go_wp2_with fail
  refine (refNew_w n _ HN.out w2 n1 (by omega)).mono ?_
  rintro e w4 ⟨LA, nL, R, cp, rfl, h4, ow4, b4⟩
  have hrf : rfCells LA nL (Sk.new n 0) = #[.int .i64 n, .slice (some ⟨LA, 0, none⟩) 4 nL, .int .i64 0, .int .i64 0, .int .i64 0] := rfl
  rw [hrf]
  clear hrf
  have P0 := Lib.hid (show TW w (w4.alloc (.cells #[.int .i64 n, .slice (some ⟨LA, 0, none⟩) 4 nL, .int .i64 0, .int .i64 0, .int .i64 0] 38)) w.heap.size w4.heap.size (Sk.new n 0) from
    ⟨LA, nL, R, cp, (I2.out.later b4).later (bel_alloc _ _), h4.later (bel_alloc _ _), heap_alloc_new _ _, Nat.le_trans I2.out.hb b4.size⟩)
  clear h4 ow4 b4 I2
  go_upto_region 8 with (fail)
  generalize w4.alloc (.cells #[.int .i64 n, .slice (some ⟨LA, 0, none⟩) 4 nL, .int .i64 0, .int .i64 0, .int .i64 0] 38) = w5 at *
  generalize w4.heap.size = q at *
  go_wp2_with fail
  go_loopw [14] (fun i wr => ∃ k : Nat, k ≤ l.length ∧ i = .int .i64 k ∧ Hid (TW w wr w.heap.size q ((Sk.new n 0).adds (l.take k)))) (fun i _ => l.length - (intOf i).toNat)
  case atStart => exact ⟨0, Nat.zero_le _, rfl, P0.out⟩
  case round =>
    obtain ⟨k, hk, rfl, HD⟩ := hrel
    by_cases hlt : k < l.length
    · obtain ⟨LA, nL, R, cp, HD⟩ : ∃ LA nL R cp, Hid (SkTwo w wr w.heap.size w.heap.size (fun r => w.heap.size + (1 + r)) ((Sk.new n 0).adds (l.take k)) q LA nL R cp ((Sk.new n 0).adds (l.take k))) := HD.out
      obtain ⟨ad, hA, hc⟩ := at_str HL.out hlt
      subst hA
      have hc1 : wr.cell? (ad.add k) = some (.string (sget l k)) := (HD.out.st.bel.cell (World.block_lt_of_cell? w _ hc)).trans hc
      have hf := adds_fields (Sk.new n 0) rfl (l.take k)
      have htk : (l.take k).length ≤ k := List.length_take_le _ _
      have HF := Lib.hid (show ((Sk.new n 0).adds (l.take k)).total ≤ 60 ∧ ((Sk.new n 0).adds (l.take k)).aged = 0 ∧ ((Sk.new n 0).adds (l.take k)).limit = 0 from ⟨by rw [hf.2.2.2]; simp [Sk.new]; omega, hf.2.2.1, hf.1⟩)
      have hAdd := Lib.hid (Add_stL HD.out.st (sget l k) (short_mem hs1 hlt) (by have := HF.out.1; omega) (by rw [HF.out.2.1]; decide))
      have HT := Lib.hid (take_s hlt)
      have HSN := Lib.hid (adds_snoc (Sk.new n 0) (l.take k) (sget l k))
      clear hf htk
      go_wp2_with fail
      refine hAdd.out.mono ?_
      rintro e w8 ⟨rfl, h8, c8⟩
      have T6 := Lib.hid (HD.out.chg h8 c8)
      clear h8 c8 hAdd
      rw [← HSN.out] at T6
      have hc6 : w8.cell? (ad.add k) = some (.string (sget l k)) := (T6.out.st.bel.cell (World.block_lt_of_cell? w _ hc)).trans hc
      generalize hS : (Sk.new n 0).adds (l.take k) = S at *
      have HS := Lib.hid hS
      clear hS
      have v0 : w8.cell? ⟨q, 0, none⟩ = some (.int .i64 S.width) := T6.out.cell 0
      have v1 : w8.cell? ⟨q, 1, none⟩ = some (.slice (some ⟨LA, 0, none⟩) 4 nL) := T6.out.cell 1
      have v2 : w8.cell? ⟨q, 2, none⟩ = some (.int .i64 S.total) := T6.out.cell 2
      have v3 : w8.cell? ⟨q, 3, none⟩ = some (.int .i64 S.limit) := T6.out.cell 3
      have v4 : w8.cell? ⟨q, 4, none⟩ = some (.int .i64 S.aged) := T6.out.cell 4
      go_wp2_with fail
      go_still_tail 5, (by kernel_rfl)
      go_wp2_with fail
      refine (refAdd_any LA nL R cp S (sget l k) (short_mem hs1 hlt) _ (by first | exact T6.out.rf | exact T6.out.rf.later (Drawn0.below ⟨_, rfl⟩)) HD.out.st.t0 (by have := HF.out.1; omega) HD.out.st.a0 (by rw [HF.out.2.1]; decide)).mono ?_
      rintro e w9 ⟨LA2, nL2, R2, cp2, rfl, h9, o9, b9⟩
      have hadd : S.add (sget l k) = (Sk.new n 0).adds (l.take k ++ [sget l k]) := HSN.out.symm
      rw [hadd] at h9
      rw [hadd]
      clear hadd
      generalize hSa : (Sk.new n 0).adds (l.take k ++ [sget l k]) = Sa at *
      have HSa := Lib.hid hSa
      clear hSa
      have T6d := Lib.hid (T6.out.later (Drawn0.below ⟨1, rfl⟩ : Below w8.heap.size w8 w8.drew))
      have T7 := Lib.hid (T6d.out.put h9 o9 b9)
      have T7b := Lib.hid (T6d.out.later b9)
      have hrf : rfCells LA2 nL2 Sa = #[.int .i64 Sa.width, .slice (some ⟨LA2, 0, none⟩) 4 nL2, .int .i64 Sa.total, .int .i64 Sa.limit, .int .i64 Sa.aged] := rfl
      rw [hrf]
      clear hrf h9 o9 b9 T6 v0 v1 v2 v3 v4 T6d hc6 hc1
      have v0 : w9.cell? ⟨q, 0, none⟩ = some (.int .i64 S.width) := T7b.out.cell 0
      have v1 : w9.cell? ⟨q, 1, none⟩ = some (.slice (some ⟨LA, 0, none⟩) 4 nL) := T7b.out.cell 1
      have v2 : w9.cell? ⟨q, 2, none⟩ = some (.int .i64 S.total) := T7b.out.cell 2
      have v3 : w9.cell? ⟨q, 3, none⟩ = some (.int .i64 S.limit) := T7b.out.cell 3
      have v4 : w9.cell? ⟨q, 4, none⟩ = some (.int .i64 S.aged) := T7b.out.cell 4
      obtain ⟨f0, f1, f2, f3, f4⟩ : w9.frozen? ⟨q, 0, none⟩ = false ∧ w9.frozen? ⟨q, 1, none⟩ = false ∧ w9.frozen? ⟨q, 2, none⟩ = false ∧ w9.frozen? ⟨q, 3, none⟩ = false ∧ w9.frozen? ⟨q, 4, none⟩ = false := ⟨T7b.out.fro 0, T7b.out.fro 1, T7b.out.fro 2, T7b.out.fro 3, T7b.out.fro 4⟩
      clear T7b
      go_upto_region 10 with (fail)
      generalize (((((w9.setCell ⟨q, 0, none⟩ (.int .i64 Sa.width)).setCell ⟨q, 1, none⟩ (.slice (some ⟨LA2, 0, none⟩) 4 nL2)).setCell ⟨q, 2, none⟩ (.int .i64 Sa.total)).setCell ⟨q, 3, none⟩ (.int .i64 Sa.limit)).setCell ⟨q, 4, none⟩ (.int .i64 Sa.aged)) = wA at *
      clear v0 v1 v2 v3 v4 f0 f1 f2 f3 f4
      rw [← HSa.out, ← HT.out] at T7
      go_wp2_with fail
      go_roundw
      case rel => exact ⟨k + 1, by omega, by go_num, _, _, _, _, T7.out⟩
      case measure => simp [intOf]; omega
    · have hT : l.take k = l := List.take_of_length_le (by omega)
      rw [hT] at HD
      clear hT
      obtain ⟨LA, nL, R, cp, HP⟩ : ∃ LA nL R cp, Hid (SkTwo w wr w.heap.size w.heap.size (fun r => w.heap.size + (1 + r)) ((Sk.new n 0).adds l) q LA nL R cp ((Sk.new n 0).adds l)) := HD.out
      clear HD
      generalize (Sk.new n 0).adds l = S at *
      obtain ⟨N, hN⟩ : ∃ N, N = (min (max most 0) ((hotS S keys).length : Int)).toNat := ⟨_, rfl⟩
      obtain ⟨T, hT⟩ : ∃ T, T = (hotS S keys).take N := ⟨_, rfl⟩
      have hTN : T.length = N := by rw [hT, List.length_take]; omega
      have hNN : N ≤ 30 := by have := hotS_len S keys; omega
      have hKW : ∀ W, Below wr.heap.size wr W → Kd.string.C W KA keys.length keys := fun W hW => Kd.C_below HK.out (HP.out.st.bel.trans (hW.mono HP.out.st.hb))
      have hC1 : ∀ W, Below wr.heap.size wr W → Calls Tryd.prog 30 #[.pointer (some ⟨w.heap.size, 0, none⟩), .int .i64 most, .slice KA keys.length kc] W fun e w' => ∃ A' c', e = .returned (.slice A' N c') ∧ N ≤ c' ∧ Kd.string.C w' A' N T ∧ Below wr.heap.size wr w' := fun W hW =>
        (Hot_any w.heap.size _ S most KA kc keys W (HP.out.later hW).st.sk (hKW W hW) (fun i hi => short_mem hs2 hi) hk3).mono fun e w' ⟨A', n', c', he, hn', hc', hC, hb⟩ => by
          obtain rfl : n' = N := by rw [hn', hN]
          exact ⟨A', c', he, hc', by rw [hT]; exact hC, hW.trans (hb.mono hW.size)⟩
      have hC2 : ∀ W, Below wr.heap.size wr W → Calls Tryd.prog 31 #[.agg #[.int .i64 S.width, .slice (some ⟨LA, 0, none⟩) 4 nL, .int .i64 S.total, .int .i64 S.limit, .int .i64 S.aged], .int .i64 most, .slice KA keys.length kc] W fun e w' => ∃ A' c', e = .returned (.slice A' N c') ∧ N ≤ c' ∧ Kd.string.C w' A' N T ∧ Below wr.heap.size wr w' ∧ Below W.heap.size W w' := fun W hW =>
        (refHot_any LA nL R cp S most KA kc keys W (HP.out.later hW).rf (hKW W hW) (fun i hi => short_mem hs2 hi) hk3).mono fun e w' ⟨v, he, hR, hb⟩ => by
          rw [← hN, ← hT] at hR
          obtain ⟨A', c', hv, hc', hC⟩ := Kd.R_reads hR
          rw [hTN] at hv hc' hC
          exact ⟨A', c', by rw [he, hv], hc', hC, hW.trans (hb.mono hW.size), hb⟩
      have hC3 : ∀ A1 c1 A2 c2 W, Kd.string.C W A1 N T → N ≤ c1 → Kd.string.C W A2 N T → N ≤ c2 → Below wr.heap.size wr W → Calls Tryd.prog 29 #[.slice A1 N c1, .slice A2 N c2] W fun e w' => e = .returned (.bool true) ∧ Below wr.heap.size wr w' := fun A1 c1 A2 c2 W h1 h2 h3 h4 hW => by
        have := textsS_any A1 A2 c1 c2 T T W (by rw [hTN]; exact h1) (by rw [hTN]; exact h2) (by rw [hTN]; exact h3) (by rw [hTN]; exact h4) (by omega)
        rw [hTN, decide_eq_true rfl] at this
        exact this.mono fun e w' ⟨he, m, hm⟩ => ⟨he, by subst hm; exact hW.trans ((Drawn0.below ⟨m, rfl⟩).mono hW.size)⟩
      have hC4 : ∀ W, Below wr.heap.size wr W → Calls Tryd.prog 10 #[] W fun e w' => e = .returned (.bool true) ∧ Below wr.heap.size wr w' := fun W hW =>
        (works_any W (HH.out.below' (HP.out.later hW).st.bel h0.out)).mono fun e w' ⟨he, hb⟩ => ⟨he, hW.trans (hb.mono hW.size)⟩
      have hS : ∀ W, Below wr.heap.size wr W → (W.cell? ⟨q, 0, none⟩ = some (.int .i64 S.width) ∧ W.cell? ⟨q, 1, none⟩ = some (.slice (some ⟨LA, 0, none⟩) 4 nL) ∧ W.cell? ⟨q, 2, none⟩ = some (.int .i64 S.total) ∧ W.cell? ⟨q, 3, none⟩ = some (.int .i64 S.limit) ∧ W.cell? ⟨q, 4, none⟩ = some (.int .i64 S.aged)) := fun W hW =>
        ⟨(HP.out.later hW).cell 0, (HP.out.later hW).cell 1, (HP.out.later hW).cell 2, (HP.out.later hW).cell 3, (HP.out.later hW).cell 4⟩
      obtain ⟨s0, s1, s2, s3, s4⟩ := hS wr (Below.refl _ _)
      have HSS := Lib.hid hS
      have HC1 := Lib.hid hC1
      have HC2 := Lib.hid hC2
      have HC3 := Lib.hid hC3
      have HC4 := Lib.hid hC4
      clear hS hC1 hC2 hC3 hC4 hN hT hTN hKW
      have b0 : Hid (Below wr.heap.size wr wr.drew) := Drawn0.below ⟨1, rfl⟩
      go_wp2_with fail
      go_region_held3 (fun w' => w'.cell? ⟨q, 0, none⟩ = some (.int .i64 S.width) ∧ w'.cell? ⟨q, 1, none⟩ = some (.slice (some ⟨LA, 0, none⟩) 4 nL) ∧ w'.cell? ⟨q, 2, none⟩ = some (.int .i64 S.total) ∧ w'.cell? ⟨q, 3, none⟩ = some (.int .i64 S.limit) ∧ w'.cell? ⟨q, 4, none⟩ = some (.int .i64 S.aged))
        (first | exact ⟨s0, s1, s2, s3, s4⟩ | exact HSS.out _ b0.out | exact HSS.out _ b5.out | exact HSS.out _ b6.out | exact HSS.out _ b7.out | exact HSS.out _ b8.out)
        (first
        | (go_at_call 30; ((with_reducible refine (HC1.out _ ?_).mono ?_)); (case refine_1 => exact b0.out); rintro e w5 ⟨A5, c5, rfl, hc, hC, hb⟩; have b5 := Lib.hid hb; have C5 := Lib.hid hC; have D5 := Lib.hid hc; clear hb hC hc)
        | (go_at_call 31; ((with_reducible refine (HC2.out _ ?_).mono ?_)); (case refine_1 => exact b5.out); rintro e w6 ⟨A6, c6, rfl, hc, hC, hb, hbb⟩; have b6 := Lib.hid hb; have C6 := Lib.hid hC; have D6 := Lib.hid hc; have C56 := Lib.hid (Kd.C_below C5.out hbb); clear hb hbb hC hc)
        | (go_at_call 29; ((with_reducible refine (HC3.out _ _ _ _ _ C56.out D5.out C6.out D6.out b6.out).mono ?_)); rintro e w7 ⟨rfl, hb⟩; have b7 := Lib.hid hb; clear hb)
        | (go_at_call 10; ((with_reducible refine (HC4.out _ ?_).mono ?_)); (case refine_1 => exact b7.out); rintro e w8 ⟨rfl, hb⟩; have b8 := Lib.hid hb; clear hb))
      all_goals
        go_wp2_with fail
        go_ret
        exact ⟨rfl, HP.out.st.bel.trans (b8.out.mono HP.out.st.hb)⟩

theorem hot_law (A KA : Option Addr) (c kc a : Nat) (l keys : List ByteArray) (most : Int) (w : World) (hl : Kd.string.C w A l.length l) (hk : Kd.string.C w KA keys.length keys) (hg : HG w) (ha : a ≤ 65535) :
    Calls Tryd.prog 8 #[.int .u16 a, .slice A l.length c, .slice KA keys.length kc, .int .i64 most] w fun e w' => e = .returned (.bool true) ∧ Below w.heap.size w w' := by
  by_cases hout : 60 < l.length ∨ 30 < keys.length ∨ shortB l = false ∨ shortB keys = false
  · exact hot_out A KA c kc a l keys most w hl hk hg hout
  · have t : ∀ {x : Bool}, ¬ x = false → x = true := fun {x} h => by cases x <;> simp_all
    refine hot_good A KA c kc a l keys most w hl hk hg ha ?_ ?_ (t fun h => hout (.inr (.inr (.inl h)))) (t fun h => hout (.inr (.inr (.inr h))))
    · by_cases h : 60 < l.length
      · exact absurd (Or.inl h) hout
      · omega
    · by_cases h : 30 < keys.length
      · exact absurd (Or.inr (Or.inl h)) hout
      · omega
end Go.Proofs.YtpjdaglblckgfaaDoor
