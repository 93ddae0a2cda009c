/- slices.Insert of one element, at a row whose elements have any number of cells: the copies. No function of the program here. The contract of slices.Insert at []report.Tally, one element; what a tally is. -/
import Derived.Test.YtgfljpchdiapeaaDoorWWords
import Derived.Test.YtgfljpchdiapeaaDoorChg
import Derived.Lib.Hide
import Derived.Lib.AppendZerosOnto
import Derived.Lib.Overlaps
import Derived.Shelf.RegionOpenPlain
import Derived.WalkKit
import Derived.Lib.Walk
import Derived.Laws.Externs
import Derived.Laws.IdiomCopy
import Derived.Test.YtgfljpchdiapeaaDoorPRx0
namespace Go.Proofs.YtgfljpchdiapeaaDoor
set_option linter.unusedVariables false
open Go.RowKit Go.Proofs.YtgfljpchdiapeaaDoorW.PrintWords
theorem run_copy_rowN {P : Program} (w : World) (dT sT ty elem : TypeId) (k : Nat) (g o dLen dCap : Nat) (a : Addr) (sLen sCap : Nat) (cur : Array Value) (t : TypeId) (cs : List Value)
    (hu : P.underlying dT = some (.slice elem)) (hs : (P.info? elem).map (·.size) = some k)
    (hg : w.heap[g]? = some (.cells cur t (0, 0))) (m : Nat) (hm : Nat.min sLen dLen = m) (hn : cs.length = m * k)
    (hsrc : ∀ j v, cs[j]? = some v → w.cell? (a.add j) = some v) (hfit : o + cs.length ≤ cur.size) (h1 : ∀ v ∈ cs, v.oneCell' = true) :
    (Builtin.copy_ #[dT, sT] ty #[.slice (some ⟨g, o, none⟩) dLen dCap, .slice (some a) sLen sCap]).run P w =
      .ok (goInt m) (w.setRow g (cur.toList.take o ++ cs ++ cur.toList.drop (o + cs.length)).toArray) := by
  have hl := run_loadCells_list (P := P) w a cs hsrc
  have hst := run_storeCells_at P g o t cs 0 cur w hg (by simpa using hfit) h1
  cases hq : P.info? elem with
  | none => simp [hq] at hs
  | some i =>
    have hi : i.size = k := by simpa [hq] using hs
    simp [Builtin.copy_, run_underlying hu, Builtin.lenOf, Builtin.firstCells, sizeOf, typeInfo, hq, hi, hm, ← hn, hl, hst]
theorem wp_copy_at {P : Program} (w : World) {o : Oper} {a : Act} {K : Act → World → Prop} {Q : Exit → Act → World → Prop} (d s : Operand) (t t' : TypeId)
    (ho : o.op = .call { callee := .builtin .copy, args := #[d, s], argTypes := #[t, t'] }) (v u : Value) (hd : a.eval d = v) (hs : a.eval s = u) {v' : Value} {w' : World}
    (hr : (Builtin.copy_ #[t, t'] o.type #[v, u]).run P w = .ok v' w') (h : K (a.put o.dst v') w') : o.wp P a w K Q := by
  unfold Oper.wp execOp
  simp only [ho, resolve, invoke, builtin, Sem.run_bind, Sem.run_pure, Result.andThen_ok, List.map_toArray, List.map_cons, List.map_nil, hd, hs, hr]
  exact h
theorem wpList_copy_at {P : Program} (w : World) {ops : Array Oper} {rest : List Oper} {o : Oper} {a : Act} {Q : Exit → Act → World → Prop} (hgd : o.guard = none) (d s : Operand) (t t' : TypeId)
    (ho : o.op = .call { callee := .builtin .copy, args := #[d, s], argTypes := #[t, t'] }) (v u : Value) (hd : a.eval d = v) (hs : a.eval s = u) {v' : Value} {w' : World}
    (hr : (Builtin.copy_ #[t, t'] o.type #[v, u]).run P w = .ok v' w') (h : wpList P ops Q rest (a.put o.dst v') w') : wpList P ops Q (o :: rest) a w :=
  wpList_plain hgd fun _ hK => wp_copy_at w d s t t' ho v u hd hs hr (hK _ _ h)
theorem step_copy_at {P : Program} {ops : Array Oper} {o : Oper} {a : Act} {w : World} {K : Act → World → Prop} {Q : Exit → Act → World → Prop} {E : Prop}
    (hg : o.guard = none) (d x : Operand) (dT sT : TypeId) (hop : o.op = Op.call { callee := Callee.builtin Builtin.copy, args := #[d, x], argTypes := #[dT, sT] })
    (v u : Value) (hd : a.eval d = v) (hx : a.eval x = u) {v' : Value} {w' : World} (hr : (Builtin.copy_ #[dT, sT] o.type #[v, u]).run P w = .ok v' w') (hK : K (a.put o.dst v') w') :
    if Region.wanted o (yielded ops a.tmps) = true then Oper.wp P o a w K Q else E := by
  have hw : Region.wanted o (yielded ops a.tmps) = true := by simp [Region.wanted, hg]
  rw [if_pos hw]
  exact wp_copy_at w d x dT sT hop v u hd hx hr hK
structure RowAt (w : World) (g : Nat) (e : TypeId) (k n cap : Nat) (cur : Array Value) (xs : List Value) : Prop where
  heap : w.heap[g]? = some (.cells cur e (0, 0))
  hnc : n ≤ cap
  hcap : cap ≤ maxLen
  size : cur.size = cap * k
  take : cur.toList.take (n * k) = xs
theorem setRow_ne (w : World) (g k : Nat) (cs : Array Value) (h : k ≠ g) : (w.setRow g cs).heap[k]? = w.heap[k]? := by
  simp only [World.setRow]
  rw [Array.getElem?_modify, if_neg (fun e => h e.symm)]
theorem alloc_setRow (w : World) (a b : Array Value) (t : TypeId) (fr : Nat × Nat) : (w.alloc (.cells a t fr)).setRow w.heap.size b = w.alloc (.cells b t fr) := by
  unfold World.setRow World.alloc
  congr 1
  apply Array.ext
  · simp
  · intro k h1 h2
    simp only [Array.getElem_modify]
    split
    · rename_i hk
      subst hk
      simp
    · rename_i hk
      have : k < w.heap.size := by simp at h2; omega
      simp [Array.getElem_push, this]
theorem grow_world (w : World) (a b c : Array Value) (t : TypeId) : (((w.alloc (.cells a t)).drew.setRow w.heap.size b).drew.setRow w.heap.size c) = (w.alloc (.cells c t (0, 0))).drewN 2 := by
  have h : (((w.alloc (.cells a t)).drew.setRow w.heap.size b).drew.setRow w.heap.size c) = (((w.alloc (.cells a t)).setRow w.heap.size b).setRow w.heap.size c).drewN 2 := rfl
  rw [h, setRow_setRow, alloc_setRow]
theorem cell_row {w : World} {g : Nat} {cur : Array Value} {e : TypeId} {fr : Nat × Nat} (h : w.heap[g]? = some (.cells cur e fr)) (j : Nat) : w.cell? ⟨g, j, none⟩ = cur[j]? := cell_of_row w g j cur e fr h
theorem addr_add (g o j : Nat) : (⟨g, o, none⟩ : Addr).add j = ⟨g, o + j, none⟩ := by unfold Addr.add; split <;> simp_all
theorem two_copies (L B y : List Value) (a c : Nat) (hy : y.length = c) (hl : a + c + B.length ≤ L.length) :
    (L.take (a + c) ++ B ++ L.drop (a + c + B.length)).take a ++ y ++ (L.take (a + c) ++ B ++ L.drop (a + c + B.length)).drop (a + c) = L.take a ++ (y ++ (B ++ L.drop (a + c + B.length))) := by
  have h1 : (L.take (a + c)).length = a + c := by rw [List.length_take]; omega
  rw [List.append_assoc (L.take (a + c)), List.take_append_of_le_length (by omega), List.take_take, List.drop_left' h1, show min a (a + c) = a by omega, List.append_assoc]
theorem ins_take (A y B D : List Value) (n : Nat) (h : A.length + y.length + B.length = n) : (A ++ (y ++ (B ++ D))).take n = A ++ (y ++ B) := by
  rw [← List.append_assoc, ← List.append_assoc, List.take_left' (by simp; omega), List.append_assoc]
theorem flat_len {α : Type} {enc : α → List Value} {k : Nat} (h : ∀ x, (enc x).length = k) (xs : List α) : (xs.flatMap enc).length = xs.length * k := by
  induction xs with
  | nil => simp
  | cons x r ih => rw [List.flatMap_cons, List.length_append, ih, h, List.length_cons, Nat.add_mul, Nat.one_mul, Nat.add_comm]
theorem flat_take {α : Type} {enc : α → List Value} {k : Nat} (h : ∀ x, (enc x).length = k) : ∀ (xs : List α) (i : Nat), (xs.flatMap enc).take (i * k) = (xs.take i).flatMap enc
  | _, 0 => by simp
  | [], i + 1 => by simp
  | x :: r, i + 1 => by
    rw [List.flatMap_cons, List.take_succ_cons, List.flatMap_cons, Nat.add_mul, Nat.one_mul, Nat.add_comm, ← h x, List.take_append, List.take_of_length_le (by omega), show (enc x).length + i * (enc x).length - (enc x).length = i * k by rw [h]; omega, flat_take h r i]
theorem flat_drop {α : Type} {enc : α → List Value} {k : Nat} (h : ∀ x, (enc x).length = k) : ∀ (xs : List α) (i : Nat), (xs.flatMap enc).drop (i * k) = (xs.drop i).flatMap enc
  | _, 0 => by simp
  | [], i + 1 => by simp
  | x :: r, i + 1 => by
    rw [List.flatMap_cons, List.drop_succ_cons, Nat.add_mul, Nat.one_mul, Nat.add_comm, ← h x, List.drop_append, List.drop_of_length_le (by omega), show (enc x).length + i * (enc x).length - (enc x).length = i * k by rw [h]; omega, flat_drop h r i, List.nil_append]
theorem own_flat {α : Type} {d : Kd α} {enc : α → List Value} (hM : ∀ w base ok x cs, d.M w base ok x cs → cs = enc x) {e : Nat} {w : World} {base : Nat} {ok : Nat → Prop} {v : Value} {xs : List α} (h : d.R e w base ok v xs) : w.ownsRow base e d.sz v xs.length (xs.flatMap enc) := by
  obtain ⟨_, inner, ho, hr⟩ := h
  suffices inner = xs.flatMap enc by rw [← this]; exact ho
  have hlen : ∀ cs ps, Reps (d.M w base (fun k => ok k ∧ some k ≠ v.ownBlock)) d.sz ps cs → cs = ps.flatMap enc := by
    intro cs ps
    induction ps generalizing cs with
    | nil =>
      intro h
      have := h.1
      simp at this
      simpa using this
    | cons p r ih =>
      intro h
      have h0 := hM _ _ _ _ _ (h.2 0 p rfl)
      rw [Nat.zero_mul, List.drop_zero] at h0
      have h1 := ih (cs.drop d.sz) ⟨by rw [List.length_drop, h.1, List.length_cons, Nat.add_mul, Nat.one_mul, Nat.add_sub_cancel], fun j q hq => by
        have := h.2 (j + 1) q (by simpa using hq)
        rwa [List.drop_drop, show d.sz + j * d.sz = (j + 1) * d.sz by rw [Nat.add_mul, Nat.one_mul, Nat.add_comm]]⟩
      rw [List.flatMap_cons, ← h0, ← h1, List.take_append_drop]
  exact hlen _ _ hr
theorem flat_own {α : Type} {d : Kd α} {enc : α → List Value} (hM : ∀ w base ok x, d.M w base ok x (enc x)) {e : Nat} {w : World} {base : Nat} {v : Value} {xs : List α} (h : w.ownsRow base e d.sz v xs.length (xs.flatMap enc)) : d.R e w base (fun _ => True) v xs := by
  have hk : ∀ x, (enc x).length = d.sz := fun x => d.K_len (d.K_of_M (hM w base (fun _ => True) x))
  refine ⟨fun _ _ => trivial, _, h, flat_len hk xs, fun j p hp => ?_⟩
  obtain ⟨hj, rfl⟩ := List.getElem?_eq_some_iff.1 hp
  rw [flat_drop hk, List.drop_eq_getElem_cons hj, List.flatMap_cons, List.take_left' (hk _)]
  exact hM _ _ _ _
def ins {α : Type} (xs : List α) (i : Nat) (y : α) : List α := xs.take i ++ y :: xs.drop i
theorem ins_len {α : Type} (xs : List α) (i : Nat) (y : α) (h : i ≤ xs.length) : (ins xs i y).length = xs.length + 1 := by
  simp [ins]
  omega
theorem ins_flat {α : Type} {enc : α → List Value} {k : Nat} (h : ∀ x, (enc x).length = k) (xs : List α) (i : Nat) (y : α) : (ins xs i y).flatMap enc = (xs.flatMap enc).take (i * k) ++ (enc y ++ (xs.flatMap enc).drop (i * k)) := by
  rw [flat_take h, flat_drop h, ins, List.flatMap_append, List.flatMap_cons]
end Go.Proofs.YtgfljpchdiapeaaDoor
namespace Go.Proofs.YtgfljpchdiapeaaDoor
set_option linter.unusedVariables false
set_option linter.unusedSimpArgs false
open Go.RowKit Go.Proofs.YtgfljpchdiapeaaDoorW.PrintWords
structure Tl where
  node : Int
  hits : Int
  miss : Int
def kT : Kd Tl := Kd.iso (Kd.pair (Kd.int .i64) (Kd.pair (Kd.int .i64) (Kd.int .i64))) (fun x : Tl => (x.node, x.hits, x.miss))
def encT (x : Tl) : List Value := [.int .i64 x.node, .int .i64 x.hits, .int .i64 x.miss]
theorem kT_sz : kT.sz = 3 := rfl
theorem kT_M (w : World) (base : Nat) (ok : Nat → Prop) (x : Tl) (cs : List Value) (h : kT.M w base ok x cs) : cs = (encT x) := by
  obtain ⟨_, _, rfl, rfl, ⟨_, _, rfl, rfl, rfl⟩⟩ := h
  rfl
theorem kT_K (w : World) (x : Tl) (cs : List Value) (h : kT.K w x cs) : cs = (encT x) := by
  obtain ⟨_, _, rfl, rfl, ⟨_, _, rfl, rfl, rfl⟩⟩ := h
  rfl
theorem kT_mk (w : World) (base : Nat) (ok : Nat → Prop) (x : Tl) : kT.M w base ok x (encT x) := ⟨[.int .i64 x.node], [.int .i64 x.hits, .int .i64 x.miss], rfl, rfl, ⟨[.int .i64 x.hits], [.int .i64 x.miss], rfl, rfl, rfl⟩⟩
theorem enc_len (x : Tl) : (encT x).length = 3 := rfl
theorem enc_one (xs : List Tl) : ∀ v ∈ xs.flatMap encT, v.oneCell' = true := by
  intro v hv
  obtain ⟨x, _, hx⟩ := List.mem_flatMap.1 hv
  simp [encT] at hx
  rcases hx with rfl | rfl | rfl <;> rfl
def OwnTl (w : World) (base : Nat) (v : Value) (xs : List Tl) : Prop := w.ownsRow base 56 3 v xs.length (xs.flatMap encT)
theorem OwnTl.of_R {w : World} {base : Nat} {ok : Nat → Prop} {v : Value} {xs : List Tl} (h : kT.R 56 w base ok v xs) : OwnTl w base v xs := own_flat kT_M h
theorem OwnTl.to_R {w : World} {base : Nat} {v : Value} {xs : List Tl} (h : OwnTl w base v xs) : kT.R 56 w base (fun _ => True) v xs := flat_own (enc := encT) kT_mk h
theorem info_tl : (Tryd.prog.info? 56).map (fun i => (i.zero, i.size, i.bytes)) = some (some (.agg #[.int .i64 0, .int .i64 0, .int .i64 0]), 3, 24) := by kernel_rfl
theorem size_tl : (Tryd.prog.info? 56).map (·.size) = some 3 := by kernel_rfl
theorem sizeOf_tl (w : World) : (Go.sizeOf 56).run Tryd.prog w = .ok 3 w := by kernel_rfl
theorem overlaps_tl (vb g o lb cb : Nat) (w : World) (y : Tl) (cur : Array Value) (hne : vb ≠ g) (hv : w.heap[vb]? = some (.cells (encT y).toArray 56 (0, 0))) (hg : w.heap[g]? = some (.cells cur 56 (0, 0))) (hc : cur.size ≠ 0) :
    (callFunc 72 #[.slice (some ⟨vb, 0, none⟩) 1 1, .slice (some ⟨g, o, none⟩) lb cb]).run Tryd.prog w = .ok (.value (.bool false)) w := by
  rw [run_callFunc_extern Tryd.func72 (by kernel_rfl) (by kernel_rfl) (by kernel_rfl) (e := Extern.SlicesOverlaps.overlaps #[50, 50] #[4]) (by kernel_rfl),
    Lib.run_overlaps_apart w 50 4 56 Tryd.underlying50 3 sizeOf_tl ⟨vb, 0, none⟩ ⟨g, o, none⟩ 1 1 lb cb hne 56 56 3 cur.size (by simp [World.shape?, hv, encT]) (by simp [World.shape?, hg]) hc (by simp [World.frozen?, hv]) (by simp [World.frozen?, hv])]
  rfl
set_option maxHeartbeats 4000000 in
set_option maxRecDepth 100000 in
theorem InsT_shift (g n cap i vb : Nat) (cur : Array Value) (xs : List Tl) (y : Tl) (w : World) (hn : xs.length = n) (hi : i < n) (hroom : n + 1 ≤ cap) (hcap : cap ≤ maxLen) (hsz : cur.size = cap * 3) (htake : cur.toList.take (n * 3) = xs.flatMap encT)
    (hne : vb ≠ g) (hv : w.heap[vb]? = some (.cells (encT y).toArray 56 (0, 0))) (hg : w.heap[g]? = some (.cells cur 56 (0, 0))) :
    Calls Tryd.prog 52 #[.slice (some ⟨g, 0, none⟩) n cap, .int .i64 i, .slice (some ⟨vb, 0, none⟩) 1 1] w fun e w' =>
      e = .returned (.slice (some ⟨g, 0, none⟩) (n + 1) cap) ∧ ∃ row m, w' = (w.setRow g row).drewN m ∧ row.size = cap * 3 ∧ row.toList.take ((n + 1) * 3) = (ins xs i y).flatMap encT := by
  have hl := flat_len enc_len xs
  rw [hn] at hl
  have hz2 : ¬ ((i : Int) = (n : Int)) := by omega
  have hcap63 : cap ≤ 9223372036854775807 := hcap
  have hsz0 : cur.size ≠ 0 := by omega
  have hov := fun o lb cb => overlaps_tl vb g o lb cb w y cur hne hv hg hsz0
  have mixed : Tryd.prog.follows Departure.mixedOrders = true := by kernel_rfl
  have hw1 : IntKind.i64.wrap ((i : Int) + 1) = (i : Int) + 1 := by rw [IntKind.wrap_i64]; omega
  have hw2 : IntKind.i64.wrap ((n : Int) + 1) = (n : Int) + 1 := by rw [IntKind.wrap_i64]; omega
  have hin : i ≤ n := by omega
  have u56 := run_underlying (P := Tryd.prog) Tryd.underlying50
  have htn : ((i : Int) + 1).toNat = i + 1 := by omega
  have hb1 : (0 : Int) ≤ (i : Int) + 1 := by omega
  have hb3 : (i : Int) ≤ (n : Int) + 1 := by omega
  have hb4 : ¬ (cap = i) := by omega
  have hb2 : ¬ (cap = i + 1) := by omega
  obtain ⟨B, hB⟩ : ∃ B, B = (xs.flatMap encT).drop (i * 3) := ⟨_, rfl⟩
  have hBl : B.length = (n - i) * 3 := by rw [hB, List.length_drop, hl]; omega
  have hcl : cur.toList.length = cap * 3 := by rw [Array.length_toList, hsz]
  obtain ⟨r1, hr1⟩ : ∃ r1 : List Value, r1 = cur.toList.take (i * 3 + 3) ++ B ++ cur.toList.drop (i * 3 + 3 + B.length) := ⟨_, rfl⟩
  have hr1l : r1.length = cap * 3 := by rw [hr1]; simp only [List.length_append, List.length_take, List.length_drop, hBl, hcl]; omega
  have hsrc : ∀ (W : World), W.heap[g]? = some (.cells cur 56 (0, 0)) → ∀ j v, B[j]? = some v → W.cell? ((⟨g, i * 3, none⟩ : Addr).add j) = some v := fun W hW j v hj => by
    rw [addr_add, cell_row hW]
    rw [hB, List.getElem?_drop, ← htake, List.getElem?_take] at hj
    split at hj
    · simpa using hj
    · cases hj
  have hB1 : ∀ v ∈ B, v.oneCell' = true := fun v hv => enc_one xs v (by rw [hB] at hv; exact List.mem_of_mem_drop hv)
  have hcp1 : ∀ (W : World), W.heap[g]? = some (.cells cur 56 (0, 0)) → ∀ ty, (Builtin.copy_ #[50, 50] ty #[.slice (some ⟨g, (i + 1) * 3, none⟩) (n - i) (cap - (i + 1)), .slice (some ⟨g, i * 3, none⟩) (n + 1 - i) (cap - i)]).run Tryd.prog W = .ok (goInt (n - i : Nat)) (W.setRow g r1.toArray) := fun W hW ty => by
    rw [hr1, show i * 3 + 3 = (i + 1) * 3 by omega]
    exact run_copy_rowN W _ _ ty _ 3 g _ _ _ _ _ _ cur _ B Tryd.underlying50 size_tl hW (n - i) (by simp only [Nat.min_def]; split <;> omega) hBl (hsrc W hW) (by rw [hBl, hsz]; omega) hB1
  obtain ⟨r2, hr2⟩ : ∃ r2 : List Value, r2 = r1.take (i * 3) ++ (encT y) ++ r1.drop (i * 3 + 3) := ⟨_, rfl⟩
  have hcp2 : ∀ (W : World), W.heap[g]? = some (.cells r1.toArray 56 (0, 0)) → W.heap[vb]? = some (.cells (encT y).toArray 56 (0, 0)) → ∀ ty, (Builtin.copy_ #[50, 50] ty #[.slice (some ⟨g, i * 3, none⟩) (n + 1 - i) (cap - i), .slice (some ⟨vb, 0, none⟩) 1 1]).run Tryd.prog W = .ok (goInt (1 : Nat)) (W.setRow g r2.toArray) := fun W hW hV ty => by
    have := run_copy_rowN W 50 50 ty _ 3 g (i * 3) (n + 1 - i) (cap - i) ⟨vb, 0, none⟩ 1 1 r1.toArray _ (encT y) Tryd.underlying50 size_tl hW 1 (by simp only [Nat.min_def]; split <;> omega) rfl (fun j v hj => by rw [addr_add, cell_row hV]; simpa using hj) (by rw [enc_len, List.size_toArray, hr1l]; omega) (by simp [encT, Value.oneCell'])
    rw [hr2]
    exact this
  have hW1 : (w.drew.setRow g r1.toArray).heap[g]? = some (.cells r1.toArray 56 (0, 0)) := setRow_heap w.drew g cur _ _ _ hg
  have hV1 : (w.drew.setRow g r1.toArray).heap[vb]? = some (.cells (encT y).toArray 56 (0, 0)) := (setRow_ne w.drew g vb _ hne).trans hv
  have hcp3 := hcp2 _ hW1 hV1 3
  clear hcp2 hW1 hV1
  have hfin : r2.length = cap * 3 ∧ r2.take ((n + 1) * 3) = (ins xs i y).flatMap encT := by
    have h2 := two_copies cur.toList B (encT y) (i * 3) 3 (enc_len y) (by rw [hBl, hcl]; omega)
    rw [← hr1, ← hr2] at h2
    have hA : cur.toList.take (i * 3) = (xs.flatMap encT).take (i * 3) := by rw [← htake, List.take_take, show min (i * 3) (n * 3) = i * 3 by omega]
    refine ⟨by rw [hr2]; simp only [List.length_append, List.length_take, List.length_drop, hr1l, enc_len]; omega, ?_⟩
    rw [h2, ins_take _ _ _ _ _ (by rw [List.length_take, hcl, enc_len, hBl]; omega), ins_flat enc_len, hA, hB]
  have H := Lib.hid (And.intro htake (And.intro hv (And.intro hg (And.intro hsz hl))))
  clear htake hv hg hsz hl hsz0 hB hBl hcl hr1 hr1l hsrc hB1 hr2
  go_enter Tryd.func52, Tryd.ntmps52
  go_wp2_with (simp only [hov])
  go_region_law_o (refine step_copy_at rfl _ _ 50 50 rfl (.slice (some ⟨g, (i + 1) * 3, none⟩) (n - i) (cap - (i + 1))) (.slice (some ⟨g, i * 3, none⟩) (n + 1 - i) (cap - i)) (by simp [Act.eval, Act.put]) (by simp [Act.eval, Act.put]) (hcp1 w.drew H.out.2.2.1 3) ?_)
  go_wp2_with (at_builtin; refine wpList_copy_at _ rfl _ _ 50 50 rfl _ _ rfl rfl hcp3 ?_)
  go_ret
  exact ⟨rfl, r2.toArray, 1, by rw [setRow_setRow]; rfl, by simpa using hfin.1, by simpa using hfin.2⟩
set_option maxHeartbeats 4000000 in
set_option maxRecDepth 100000 in
theorem InsT_grow (g n cap i vb : Nat) (cur : Array Value) (xs : List Tl) (y : Tl) (w : World) (hn : xs.length = n) (hi : i < n) (hnc : n ≤ cap) (hroom : cap < n + 1) (hbig : (n + 1) * 24 ≤ 140737488355328) (htake : cur.toList.take (n * 3) = xs.flatMap encT)
    (hv : w.heap[vb]? = some (.cells (encT y).toArray 56 (0, 0))) (hg : w.heap[g]? = some (.cells cur 56 (0, 0))) :
    Calls Tryd.prog 52 #[.slice (some ⟨g, 0, none⟩) n cap, .int .i64 i, .slice (some ⟨vb, 0, none⟩) 1 1] w fun e w' =>
      ∃ C row m, e = .returned (.slice (some ⟨w.heap.size, 0, none⟩) (n + 1) C) ∧ w' = (w.alloc (.cells row 56 (0, 0))).drewN m ∧ n + 1 ≤ C ∧ C ≤ maxLen ∧ row.size = C * 3 ∧ row.toList.take ((n + 1) * 3) = (ins xs i y).flatMap encT := by
  have hl := flat_len enc_len xs
  rw [hn] at hl
  have mixed : Tryd.prog.follows Departure.mixedOrders = true := by kernel_rfl
  have hz2 : ¬ ((i : Int) = (n : Int)) := by omega
  have hz3 : (cap : Int) < (n : Int) + 1 := by omega
  have hcap63 : cap ≤ 9223372036854775807 := by omega
  have hw1 : IntKind.i64.wrap ((i : Int) + 1) = (i : Int) + 1 := by rw [IntKind.wrap_i64]; omega
  have hw2 : IntKind.i64.wrap ((n : Int) + 1) = (n : Int) + 1 := by rw [IntKind.wrap_i64]; omega
  have hin : i ≤ n := by omega
  have u56 := run_underlying (P := Tryd.prog) Tryd.underlying50
  have htn : ((i : Int) + 1).toNat = i + 1 := by omega
  have hb1 : (0 : Int) ≤ (i : Int) + 1 := by omega
  have hb3 : (i : Int) ≤ (n : Int) := by omega
  have hkk : (n : Int) + 1 - (i : Int) = ((n + 1 - i : Nat) : Int) := by omega
  have hik : i + (n + 1 - i) = n + 1 := by omega
  obtain ⟨i0, hi0, hz0, hzs, hzb⟩ : ∃ i0, Tryd.prog.info? 56 = some i0 ∧ i0.zero = some (.agg #[.int .i64 0, .int .i64 0, .int .i64 0]) ∧ i0.size = 3 ∧ i0.bytes = 24 := by
    have h := info_tl
    cases hq : Tryd.prog.info? 56 with
    | none => simp [hq] at h
    | some j => simp [hq] at h; exact ⟨j, rfl, h.1, h.2.1, h.2.2⟩
  have hcl : n * 3 ≤ cur.toList.length := by
    have := congrArg List.length htake
    rw [List.length_take, hl] at this
    omega
  have hgw : g < w.heap.size := (Array.getElem?_eq_some_iff.1 hg).1
  have hvw : vb < w.heap.size := (Array.getElem?_eq_some_iff.1 hv).1
  have hA : cur.toList.take (i * 3) = (xs.flatMap encT).take (i * 3) := by rw [← htake, List.take_take, show min (i * 3) (n * 3) = i * 3 by omega]
  have hold : (Builtin.firstCells i0.size i (.slice (some ⟨g, 0, none⟩) i cap)).run Tryd.prog w.drew = .ok ((xs.flatMap encT).take (i * 3)).toArray w.drew := by
    rw [hzs]
    exact run_firstCells_some w.drew 3 i ⟨g, 0, none⟩ i cap ((xs.flatMap encT).take (i * 3)) (by rw [List.length_take, hl]; omega) (fun j v hj => by
      rw [addr_add, cell_row (w := w.drew) hg]
      rw [← hA, List.getElem?_take] at hj
      split at hj
      all_goals (first | (simp at hj; done) | (simpa using hj)))
  obtain ⟨C, hC⟩ : ∃ C, C = grownCap w (n + 1) cap 56 := ⟨_, rfl⟩
  have hCn : n + 1 ≤ C := by rw [hC]; exact grownCap_ge w _ _ _
  have hC63 : C ≤ maxLen := by rw [hC]; exact grownCap_le_maxLen w (n + 1) cap 56 (by unfold maxLen; omega)
  have hC64 : C ≤ 9223372036854775807 := hC63
  obtain ⟨ROW, hROW⟩ : ∃ ROW : Array Value, ROW = ((xs.flatMap encT).take (i * 3)).toArray ++ Builtin.zeroCells (Value.agg #[.int .i64 0, .int .i64 0, .int .i64 0]).cells (n + 1 - i) ++ Builtin.zeroCells (Value.agg #[.int .i64 0, .int .i64 0, .int .i64 0]).cells (C - (n + 1)) := ⟨_, rfl⟩
  have hrz : ∀ ty, (Builtin.append_ #[50, 3] ty #[.slice (some ⟨g, 0, none⟩) i cap, .int .i64 ((n : Int) + 1 - (i : Int))]).run Tryd.prog w = .ok (.slice (some ⟨w.heap.size, 0, none⟩) (n + 1) C) (w.drew.alloc (.cells ROW 56)) := fun ty => by
    have h := Lib.run_append_grow_zeros w 50 3 ty 56 i0 _ .i64 .i64 Tryd.underlying50 Tryd.underlying3 hi0 hz0 (some ⟨g, 0, none⟩) i cap _ hold (n + 1 - i) (by omega) (by omega) (by omega) (by omega) (by rw [hzb]; omega) (by rw [hzb, hik]; exact growslice_fits hroom hbig)
    rw [hik] at h
    rw [hkk, hROW, hC]
    exact h
  have hRl : ROW.size = C * 3 := by
    rw [hROW]
    simp [Builtin.zeroCells, Value.cells, hl]
    omega
  have hRA : ROW.toList.take (i * 3) = (xs.flatMap encT).take (i * 3) := by
    rw [hROW, Array.append_assoc, Array.toList_append, List.take_append_of_le_length (by simp [hl]; omega), List.toList_toArray, List.take_take, Nat.min_self]
  obtain ⟨r1, hr1⟩ : ∃ r1 : List Value, r1 = ROW.toList.take (i * 3) ++ (encT y) ++ ROW.toList.drop (i * 3 + 3) := ⟨_, rfl⟩
  have hRl2 : ROW.toList.length = C * 3 := by rw [Array.length_toList, hRl]
  have hr1l : r1.length = C * 3 := by rw [hr1]; simp only [List.length_append, List.length_take, List.length_drop, enc_len, hRl2]; omega
  obtain ⟨B, hB⟩ : ∃ B, B = (xs.flatMap encT).drop (i * 3) := ⟨_, rfl⟩
  have hBl : B.length = (n - i) * 3 := by rw [hB, List.length_drop, hl]; omega
  obtain ⟨r2, hr2⟩ : ∃ r2 : List Value, r2 = r1.take (i * 3 + 3) ++ B ++ r1.drop (i * 3 + 3 + B.length) := ⟨_, rfl⟩
  obtain ⟨W1, hW1⟩ : ∃ W1, W1 = (w.alloc (.cells ROW 56)).drew := ⟨_, rfl⟩
  have hN1 : W1.heap[w.heap.size]? = some (.cells ROW 56 (0, 0)) := by rw [hW1]; exact heap_alloc_new w _
  have hV1 : W1.heap[vb]? = some (.cells (encT y).toArray 56 (0, 0)) := by rw [hW1]; exact (Below.heap_alloc _ _ _ hvw).trans hv
  have hG1 : W1.heap[g]? = some (.cells cur 56 (0, 0)) := by rw [hW1]; exact (Below.heap_alloc _ _ _ hgw).trans hg
  have hcpA : (Builtin.copy_ #[50, 50] 3 #[.slice (some ⟨w.heap.size, i * 3, none⟩) (n + 1 - i) (C - i), .slice (some ⟨vb, 0, none⟩) 1 1]).run Tryd.prog W1 = .ok (goInt (1 : Nat)) (W1.setRow w.heap.size r1.toArray) := by
    have := run_copy_rowN W1 50 50 3 _ 3 w.heap.size (i * 3) (n + 1 - i) (C - i) ⟨vb, 0, none⟩ 1 1 ROW _ (encT y) Tryd.underlying50 size_tl hN1 1 (by simp only [Nat.min_def]; split <;> omega) rfl (fun j v hj => by rw [addr_add, cell_row hV1]; simpa using hj) (by rw [enc_len, hRl]; omega) (by simp [encT, Value.oneCell'])
    rw [hr1]
    exact this
  have hN2 : (W1.setRow w.heap.size r1.toArray).drew.heap[w.heap.size]? = some (.cells r1.toArray 56 (0, 0)) := setRow_heap W1 _ ROW _ _ _ hN1
  have hG2 : (W1.setRow w.heap.size r1.toArray).drew.heap[g]? = some (.cells cur 56 (0, 0)) := (setRow_ne W1 _ g _ (by omega)).trans hG1
  have hsrc : ∀ (W : World), W.heap[g]? = some (.cells cur 56 (0, 0)) → ∀ j v, B[j]? = some v → W.cell? ((⟨g, i * 3, none⟩ : Addr).add j) = some v := fun W hW j v hj => by
    rw [addr_add, cell_row hW]
    rw [hB, List.getElem?_drop, ← htake, List.getElem?_take] at hj
    split at hj
    all_goals (first | (simp at hj; done) | (simpa using hj))
  have hcpB : (Builtin.copy_ #[50, 50] 3 #[.slice (some ⟨w.heap.size, (i + 1) * 3, none⟩) (n - i) (C - (i + 1)), .slice (some ⟨g, i * 3, none⟩) (n - i) (cap - i)]).run Tryd.prog (W1.setRow w.heap.size r1.toArray).drew = .ok (goInt (n - i : Nat)) ((W1.setRow w.heap.size r1.toArray).drew.setRow w.heap.size r2.toArray) := by
    have := run_copy_rowN (W1.setRow w.heap.size r1.toArray).drew 50 50 3 _ 3 w.heap.size ((i + 1) * 3) (n - i) (C - (i + 1)) ⟨g, i * 3, none⟩ (n - i) (cap - i) r1.toArray _ B Tryd.underlying50 size_tl hN2 (n - i) (by simp only [Nat.min_def]; split <;> omega) hBl (hsrc _ hG2) (by rw [hBl, List.size_toArray, hr1l]; omega) (fun v hv => enc_one xs v (by rw [hB] at hv; exact List.mem_of_mem_drop hv))
    rw [hr2, show i * 3 + 3 = (i + 1) * 3 by omega]
    exact this
  have hfin : r2.length = C * 3 ∧ r2.take ((n + 1) * 3) = (ins xs i y).flatMap encT := by
    have h1 : r1.take (i * 3 + 3) = (xs.flatMap encT).take (i * 3) ++ (encT y) := by
      rw [hr1, List.take_left' (by simp only [List.length_append, List.length_take, enc_len, hRl2]; omega), hRA]
    refine ⟨by rw [hr2]; simp only [List.length_append, List.length_take, List.length_drop, hr1l]; omega, ?_⟩
    rw [hr2, h1, List.take_left' (by simp only [List.length_append, List.length_take, enc_len, hBl, hl]; omega), ins_flat enc_len, hB, List.append_assoc]
  have hCi : ¬ (C = i) := by omega
  have hCim : ¬ (C = i + 1) := by omega
  have hci : ¬ (cap = i) := by omega
  rw [hW1] at hcpA hcpB
  clear hkk hik hold hROW hC hRl hRA hr1 hRl2 hr1l hB hBl hr2 hW1 hN1 hV1 hG1 hN2 hG2 hsrc htake hv hg hl hcl hA hi0 hz0 hzs hzb
  have HF := Lib.hid hfin
  clear hfin
  go_enter Tryd.func52, Tryd.ntmps52
  go_wp2_with (first
    | (at_builtin; refine Lib.wpList_append_run _ rfl _ _ _ _ rfl _ _ rfl rfl _ _ (hrz _) ?_)
    | (at_builtin; refine wpList_copy_at _ rfl _ _ 50 50 rfl _ _ rfl rfl hcpA ?_))
  go_region_law_o (refine step_copy_at rfl _ _ 50 50 rfl _ _ (by simp [Act.eval, Act.put]) (by simp [Act.eval, Act.put]) hcpB ?_)
  go_wp2
  go_ret
  refine ⟨C, r2.toArray, 2, rfl, ?_, hCn, hC63, by simpa using HF.out.1, by simpa using HF.out.2⟩
  exact grow_world w ROW r1.toArray r2.toArray _
set_option maxHeartbeats 4000000 in
theorem InsT_end (base : Nat) (v : Value) (xs : List Tl) (y : Tl) (w0 W : World) (hR : kT.R 56 W base (fun _ => True) v xs) (hB : Below base w0 W) (hb : base ≤ W.heap.size) (hl : (xs.length + 1) * 24 ≤ 140737488355328) :
    Calls Tryd.prog 52 #[v, .int .i64 xs.length, .slice (some ⟨W.heap.size, 0, none⟩) 1 1] (W.alloc (.cells (encT y).toArray 56)) fun e w' =>
      ∃ v', e = .returned v' ∧ kT.R 56 w' base (fun _ => True) v' (xs ++ [y]) ∧ W.grownBy w' v.ownBlock ∧ (v'.ownBlock = v.ownBlock ∨ ∃ b, v'.ownBlock = some b ∧ W.heap.size ≤ b) := by
  have hc := Kd.R_reads hR
  obtain ⟨A, c, rfl, hlc, hC⟩ := hc
  have hn1 : xs.length ≤ 8796093022208 := by omega
  have hcc : c ≤ 9223372036854775807 ∧ (A = none → xs.length = 0 ∧ c = 0) := by
    rcases (OwnTl.of_R hR).2 with ⟨he, h0⟩ | ⟨g, cap, cur, he, _, _, _, h2, _⟩
    · injection he with e1 e2 e3
      exact ⟨by omega, fun _ => ⟨e2, e3⟩⟩
    · injection he with e1 e2 e3
      refine ⟨by unfold maxLen at h2; omega, fun hA => by rw [hA] at e1; cases e1⟩
  obtain ⟨hc1, hc2⟩ := hcc
  have HB := Lib.hid hB
  have HR := Lib.hid hR
  clear hB hR hC
  cases A with
  | none =>
    obtain ⟨h1, h2⟩ := hc2 rfl
    have h3 : xs = [] := List.length_eq_zero_iff.1 h1
    subst h3
    subst h2
    clear h1 hc2
    go_enter Tryd.func52, Tryd.ntmps52
    go_wp2_with (at_builtin; go_loud (refine Kd.R_append kT (w0 := w0) base rfl (.tmp 23) (.tmp 24) 50 56 (.agg #[.int .i64 0, .int .i64 0, .int .i64 0]) 24 rfl Tryd.underlying50 info_tl rfl (by decide) (by omega) _ [] y (encT y) (fun _ => True) (fun _ => False) rfl rfl (kT_mk _ _ _ _) (fun _ hk => hk.elim) (fun _ _ => trivial) HR.out HB.out hb (by simp) ?_; intro v1 w1 ho hbb hg hat; have HO := Lib.hid ho; have HG := Lib.hid hg; have HA := Lib.hid hat; clear ho hbb hg hat))
    all_goals
      go_ret
      exact ⟨_, rfl, HO.out, HG.out, HA.out⟩
  | some ad =>
    obtain ⟨ab, ao, asp⟩ := ad
    clear hc2
    go_enter Tryd.func52, Tryd.ntmps52
    go_wp2_with (at_builtin; go_loud (refine Kd.R_append kT (w0 := w0) base rfl (.tmp 23) (.tmp 24) 50 56 (.agg #[.int .i64 0, .int .i64 0, .int .i64 0]) 24 rfl Tryd.underlying50 info_tl rfl (by decide) (by omega) _ xs y (encT y) (fun _ => True) (fun _ => False) rfl rfl (kT_mk _ _ _ _) (fun _ hk => hk.elim) (fun _ _ => trivial) HR.out HB.out hb (by omega) ?_; intro v1 w1 ho hbb hg hat; have HO := Lib.hid ho; have HG := Lib.hid hg; have HA := Lib.hid hat; clear ho hbb hg hat))
    all_goals
      go_ret
      exact ⟨_, rfl, HO.out, HG.out, HA.out⟩
theorem ins_end {α : Type} (xs : List α) (y : α) : ins xs xs.length y = xs ++ [y] := by simp [ins]
theorem InsT_any (base : Nat) (v : Value) (xs : List Tl) (i : Nat) (y : Tl) (W : World) (hi : i ≤ xs.length) (hR : kT.R 56 W base (fun _ => True) v xs) (hb : base ≤ W.heap.size) (hl : (xs.length + 1) * 24 ≤ 140737488355328) :
    Calls Tryd.prog 52 #[v, .int .i64 i, .slice (some ⟨W.heap.size, 0, none⟩) 1 1] (W.alloc (.cells (encT y).toArray 56)) fun e w' =>
      ∃ v', e = .returned v' ∧ kT.R 56 w' base (fun _ => True) v' (ins xs i y) ∧ W.grownBy w' v.ownBlock ∧ (v'.ownBlock = v.ownBlock ∨ ∃ b, v'.ownBlock = some b ∧ W.heap.size ≤ b) := by
  rcases Nat.lt_or_ge i xs.length with hlt | hge
  · have ho := OwnTl.of_R hR
    rcases ho.2 with ⟨_, h0⟩ | ⟨g, cap, cur, rfl, hbg, hg, hnc, hcap, hsz, htk⟩
    · omega
    · have hgl : g < W.heap.size := (Array.getElem?_eq_some_iff.1 hg).1
      have hg1 : (W.alloc (.cells (encT y).toArray 56)).heap[g]? = some (.cells cur 56 (0, 0)) := (Below.heap_alloc _ _ _ hgl).trans hg
      have hv1 : (W.alloc (.cells (encT y).toArray 56)).heap[W.heap.size]? = some (.cells (encT y).toArray 56 (0, 0)) := heap_alloc_new W _
      rcases Nat.lt_or_ge cap (xs.length + 1) with hr | hr
      · refine (InsT_grow g xs.length cap i W.heap.size cur xs y _ rfl hlt hnc hr hl htk hv1 hg1).mono fun e w' ⟨C, row, m, he, hw, h1, h2, h3, h4⟩ => ⟨_, he, ?_, ?_, .inr ⟨_, rfl, by simp⟩⟩
        · refine OwnTl.to_R ⟨flat_len enc_len _, .inr ⟨_, C, row, by rw [ins_len _ _ _ hi], by simp; omega, ?_, by rw [ins_len _ _ _ hi]; exact h1, h2, h3, by rw [ins_len _ _ _ hi]; exact h4⟩⟩
          rw [hw]
          exact heap_alloc_new _ _
        · rw [hw]
          exact ⟨rfl, rfl, rfl, by simp [World.drewN]; omega, fun k hk _ => (Below.heap_alloc _ _ k (by simp; omega)).trans (Below.heap_alloc W _ k hk)⟩
      · refine (InsT_shift g xs.length cap i W.heap.size cur xs y _ rfl hlt hr hcap hsz htk (by omega) hv1 hg1).mono fun e w' ⟨he, row, m, hw, h3, h4⟩ => ⟨_, he, ?_, ?_, .inl rfl⟩
        · refine OwnTl.to_R ⟨flat_len enc_len _, .inr ⟨g, cap, row, by rw [ins_len _ _ _ hi], hbg, ?_, by rw [ins_len _ _ _ hi]; exact hr, hcap, h3, by rw [ins_len _ _ _ hi]; exact h4⟩⟩
          rw [hw]
          exact setRow_heap _ g cur row _ _ hg1
        · rw [hw]
          refine ⟨rfl, rfl, rfl, by simp [World.drewN], fun k hk hne => ?_⟩
          have hkg : k ≠ g := fun e => hne (by rw [e]; rfl)
          exact (setRow_ne _ g k row hkg).trans (Below.heap_alloc W _ k hk)
  · obtain rfl : i = xs.length := by omega
    rw [ins_end]
    exact InsT_end base v xs y W W hR (Below.refl _ _) hb hl
end Go.Proofs.YtgfljpchdiapeaaDoor
