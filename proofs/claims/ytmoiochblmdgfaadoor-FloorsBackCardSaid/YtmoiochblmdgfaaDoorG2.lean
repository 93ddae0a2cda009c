/- Floors: find, Of, Dead, Check. slices.Insert of one element, at a row whose elements have any number of cells: the copies. No function of the program here. The contract of slices.Insert at []api.Floor, one element. Floors: slices.Delete of one floor, in place; a floor set in place. Floors: Release. Floors: the lowest floor. -/
import Derived.Test.YtmoiochblmdgfaaDoorG1
import Derived.Test.YtmoiochblmdgfaaDoorErr2
import Derived.Deep.QuietTactic
import Derived.BigQuiet
import Derived.Lib.MinMax
import Derived.Test.YtmoiochblmdgfaaDoorWWords
import Derived.Test.YtmoiochblmdgfaaDoorChg
import Derived.Lib.Hide
import Derived.Lib.AppendZerosOnto
import Derived.Lib.Overlaps
import Derived.Shelf.RegionOpenPlain
import Derived.WalkKit
import Derived.Lib.Walk
import Derived.Laws.Externs
import Derived.Laws.IdiomCopy
import Derived.Deep.RegionLaw
namespace Go.Proofs.YtmoiochblmdgfaaDoor
set_option linter.unusedVariables false
open Go.RowKit Go.Proofs.YtmoiochblmdgfaaDoorW.PrintWords
attribute [local go_sem ↓] Go.wp_at_zero Go.wp_at_succ

set_option maxHeartbeats 1000000 in
set_option maxRecDepth 100000 in
theorem find_any (low : Int) (A : Option Addr) (c : Nat) (L : List Fl) (h : Int) (w : World) (hC : kF.C w A L.length L) (hL : L.length < 1000) (hR : Ris L) :
    Calls Tryd.prog 37 #[.agg #[.int .i64 low, .slice A L.length c], .int .u64 h] w fun e w' => e = .returned (.tuple #[.int .i64 (lbF L h), .bool (hasF L h)]) ∧ Below w.heap.size w w' := by
  have HC := Lib.hid hC
  have HR := Lib.hid hR
  clear hC hR
  go_enter Tryd.func37, Tryd.ntmps37
  go_wp2_with fail
  refine (Bin_any A c L h _ (Kd.C_below HC.out (bel_alloc _ _)) hL HR.out).mono ?_
  rintro e w2 ⟨rfl, b2⟩
  have B2 := Lib.hid ((bel_alloc w _).trans (b2.mono (by simp)))
  clear b2
  go_wp2_with fail
  go_ret2
  exact ⟨rfl, B2.out⟩

set_option maxHeartbeats 1000000 in
set_option maxRecDepth 100000 in
theorem Of_any (low : Int) (A : Option Addr) (c : Nat) (L : List Fl) (h : Int) (w : World) (hC : kF.C w A L.length L) (hc : L.length ≤ c) (hL : L.length < 1000) (hR : Ris L) (hlow : ∀ x ∈ L, low < x.f1) :
    Calls Tryd.prog 14 #[.agg #[.int .i64 low, .slice A L.length c], .int .u64 h] w fun e w' => e = .returned (.int .i64 (fOf low L h)) ∧ Below w.heap.size w w' := by
  have HC := Lib.hid hC
  have HR := Lib.hid hR
  have HOF := Lib.hid (fOf_has low h L hR)
  have hll := lbF_le L h
  have HFI := Lib.hid (fun W hW => find_any low A c L h W hW hL hR)
  have HLOW := Lib.hid (show ∀ k, k < L.length → low < (fget L k).f1 from fun k hk => by rw [fget_eq hk]; exact hlow _ (List.getElem_mem hk))
  have HHS := Lib.hid (show hasF L h = true → lbF L h < L.length from fun e => (of_decide_eq_true e).1)
  clear hC hR hlow
  generalize lbF L h = p at *
  have hbox := heap_alloc_new w (.cells #[.int .i64 low, .slice A L.length c] 24)
  have HBOX := Lib.hid hbox
  have B0 := Lib.hid (bel_alloc w (.cells #[.int .i64 low, .slice A L.length c] 24))
  have HLT := Lib.hid (show w.heap.size < (w.alloc (.cells #[.int .i64 low, .slice A L.length c] 24)).heap.size by simp)
  clear hbox
  go_enter Tryd.func14, Tryd.ntmps14
  go_wp2_with fail
  generalize w.alloc (.cells #[.int .i64 low, .slice A L.length c] 24) = w1 at *
  refine (HFI.out _ (Kd.C_below HC.out B0.out)).mono ?_
  rintro e w2 ⟨rfl, b2⟩
  have B2 := Lib.hid (B0.out.trans (b2.mono B0.out.size))
  have hb2 := (b2.block _ HLT.out).trans HBOX.out
  have c0 : w2.cell? ⟨w.heap.size, 0, none⟩ = some (.int .i64 low) := cell_of_row w2 _ 0 _ _ (0, 0) hb2
  have c1 : w2.cell? ⟨w.heap.size, 1, none⟩ = some (.slice A L.length c) := cell_of_row w2 _ 1 _ _ (0, 0) hb2
  clear b2 hb2 HFI HBOX
  cases hh : hasF L h
  · have HX := Lib.hid (show fOf low L h = low by rw [HOF.out, hh]; rfl)
    clear hh
    go_wp2_with fail
    go_ret
    exact ⟨ret_i HX.out.symm, B2.out⟩
  · have hpl := HHS.out hh
    have HX := Lib.hid (show fOf low L h = (fget L p).f1 by rw [HOF.out, hh]; rfl)
    have hC2 : kF.C w2 A L.length L := Kd.C_below HC.out B2.out
    obtain ⟨ad, hA, d0, d1⟩ := at_fl hC2 hpl
    have hlw := HLOW.out p hpl
    clear hh hC2
    subst hA
    have i1 : (0 : Int) ≤ (p : Int) := by omega
    have i2 : (p : Int) < (L.length : Int) := by omega
    generalize (fget L p).f1 = y at *
    go_wp2_with fail
    go_quiet (fail)
    go_wp2_with fail
    go_ret
    refine ⟨ret_i ?_, B2.out.trans ((Drawn0.below ⟨nq, rfl⟩).mono B2.out.size)⟩
    rw [HX.out]
    omega
set_option maxHeartbeats 1000000 in
theorem Dead_any (low : Int) (A : Option Addr) (c : Nat) (L : List Fl) (h asof : Int) (w : World) (hC : kF.C w A L.length L) (hc : L.length ≤ c) (hL : L.length < 1000) (hR : Ris L) (hlow : ∀ x ∈ L, low < x.f1) :
    Calls Tryd.prog 16 #[.agg #[.int .i64 low, .slice A L.length c], .int .u64 h, .int .i64 asof] w fun e w' => e = .returned (.bool (decide (asof < fOf low L h))) ∧ Below w.heap.size w w' := by
  have HO := Lib.hid (fun W hW => Of_any low A c L h W hW hc hL hR hlow)
  have HC := Lib.hid hC
  clear hC hR hlow
  go_enter Tryd.func16, Tryd.ntmps16
  go_wp2_with fail
  refine (HO.out _ (Kd.C_below HC.out (bel_alloc _ _))).mono ?_
  rintro e w2 ⟨rfl, b2⟩
  have B2 := Lib.hid ((bel_alloc w _).trans (b2.mono (by simp)))
  clear b2
  go_wp2_with fail
  go_ret
  exact ⟨rfl, B2.out⟩

def ErrPost (w : World) (cd : Int) (e : Ending) (w' : World) : Prop := ∃ ev l, e = .returned ev ∧ ErrIs w' ev l ∧ codeOf l = cd ∧ Below w.heap.size w w'
set_option maxHeartbeats 1000000 in
set_option maxRecDepth 100000 in
theorem Check_any (low : Int) (A : Option Addr) (c : Nat) (L : List Fl) (w : World) (hC : kF.C w A L.length L) (hc : L.length ≤ c) (hL : L.length < 1000) :
    Calls Tryd.prog 10 #[.agg #[.int .i64 low, .slice A L.length c]] w (ErrPost w (chk low L)) := by
  obtain ⟨h1, h2, h3⟩ := look_chk low L
  have HLK := Lib.hid (fun W hW => look_any low A c L W hW hc hL)
  have HC := Lib.hid hC
  have HW := Lib.hid h1
  clear hC h1
  generalize (look low L).1 = k at *
  generalize (look low L).2 = at_ at *
  go_enter Tryd.func10, Tryd.ntmps10
  go_wp2_with fail
  refine (HLK.out _ (Kd.C_below HC.out (bel_alloc _ _))).mono ?_
  rintro e w2 ⟨rfl, b2⟩
  have B2 := Lib.hid ((bel_alloc w _).trans (b2.mono (by simp)))
  clear b2 HLK
  have hk : k = 0 ∨ k = 1 ∨ k = 2 ∨ k = 3 ∨ k = 4 := by omega
  rcases hk with rfl | rfl | rfl | rfl | rfl
  · go_wp2_with fail
    go_ret
    exact ⟨_, [], rfl, .nil, by rw [← HW.out]; rfl, B2.out⟩
  · go_wp2_with fail
    refine (new_any _ at_ 2 rfl w2).mono ?_
    rintro e w3 ⟨rfl, hw3⟩
    have E3 := Lib.hid (show w3.heap[w2.heap.size]? = some (faultO _ at_ 2 .nilIface) by rw [hw3]; exact heap_alloc_new _ _)
    have B3 := Lib.hid (show Below w.heap.size w w3 by rw [hw3]; exact B2.out.trans ((bel_alloc _ _).mono B2.out.size))
    clear hw3
    go_wp2_with fail
    go_ret
    exact ⟨_, _, rfl, .new E3.out (by decide), by rw [← HW.out]; rfl, B3.out⟩
  · go_wp2_with fail
    refine (new_any _ at_ 17 rfl w2).mono ?_
    rintro e w3 ⟨rfl, hw3⟩
    have E3 := Lib.hid (show w3.heap[w2.heap.size]? = some (faultO _ at_ 17 .nilIface) by rw [hw3]; exact heap_alloc_new _ _)
    have B3 := Lib.hid (show Below w.heap.size w w3 by rw [hw3]; exact B2.out.trans ((bel_alloc _ _).mono B2.out.size))
    clear hw3
    go_wp2_with fail
    go_ret
    exact ⟨_, _, rfl, .new E3.out (by decide), by rw [← HW.out]; rfl, B3.out⟩
  · go_wp2_with fail
    refine (new_any _ at_ 1 rfl w2).mono ?_
    rintro e w3 ⟨rfl, hw3⟩
    have E3 := Lib.hid (show w3.heap[w2.heap.size]? = some (faultO _ at_ 1 .nilIface) by rw [hw3]; exact heap_alloc_new _ _)
    have B3 := Lib.hid (show Below w.heap.size w w3 by rw [hw3]; exact B2.out.trans ((bel_alloc _ _).mono B2.out.size))
    clear hw3
    go_wp2_with fail
    go_ret
    exact ⟨_, _, rfl, .new E3.out (by decide), by rw [← HW.out]; rfl, B3.out⟩
  · go_wp2_with fail
    refine (new_any _ at_ 2 rfl w2).mono ?_
    rintro e w3 ⟨rfl, hw3⟩
    have E3 := Lib.hid (show w3.heap[w2.heap.size]? = some (faultO _ at_ 2 .nilIface) by rw [hw3]; exact heap_alloc_new _ _)
    have B3 := Lib.hid (show Below w.heap.size w w3 by rw [hw3]; exact B2.out.trans ((bel_alloc _ _).mono B2.out.size))
    clear hw3
    go_wp2_with fail
    go_ret
    exact ⟨_, _, rfl, .new E3.out (by decide), by rw [← HW.out]; rfl, B3.out⟩
end Go.Proofs.YtmoiochblmdgfaaDoor
namespace Go.Proofs.YtmoiochblmdgfaaDoor
set_option linter.unusedVariables false
open Go.RowKit Go.Proofs.YtmoiochblmdgfaaDoorW.PrintWords

/-- copy, where an element has k cells. -/
theorem run_copy_rowN {P : Program} (w : World) (dT sT ty elem : TypeId) (k : Nat) (g o dLen dCap : Nat) (a : Addr) (sLen sCap : Nat) (cur : Array Value) (t : TypeId) (cs : List Value)
    (hu : P.underlying dT = some (.slice elem)) (hs : (P.info? elem).map (·.size) = some k)
    (hg : w.heap[g]? = some (.cells cur t (0, 0))) (m : Nat) (hm : Nat.min sLen dLen = m) (hn : cs.length = m * k)
    (hsrc : ∀ j v, cs[j]? = some v → w.cell? (a.add j) = some v) (hfit : o + cs.length ≤ cur.size) (h1 : ∀ v ∈ cs, v.oneCell' = true) :
    (Builtin.copy_ #[dT, sT] ty #[.slice (some ⟨g, o, none⟩) dLen dCap, .slice (some a) sLen sCap]).run P w =
      .ok (goInt m) (w.setRow g (cur.toList.take o ++ cs ++ cur.toList.drop (o + cs.length)).toArray) := by
  have hl := run_loadCells_list (P := P) w a cs hsrc
  have hst := run_storeCells_at P g o t cs 0 cur w hg (by simpa using hfit) h1
  cases hq : P.info? elem with
  | none => simp [hq] at hs
  | some i =>
    have hi : i.size = k := by simpa [hq] using hs
    simp [Builtin.copy_, run_underlying hu, Builtin.lenOf, Builtin.firstCells, sizeOf, typeInfo, hq, hi, hm, ← hn, hl, hst]

/-- The operation copy, in a region of one order and in one that draws. -/
theorem wp_copy_at {P : Program} (w : World) {o : Oper} {a : Act} {K : Act → World → Prop} {Q : Exit → Act → World → Prop} (d s : Operand) (t t' : TypeId)
    (ho : o.op = .call { callee := .builtin .copy, args := #[d, s], argTypes := #[t, t'] }) (v u : Value) (hd : a.eval d = v) (hs : a.eval s = u) {v' : Value} {w' : World}
    (hr : (Builtin.copy_ #[t, t'] o.type #[v, u]).run P w = .ok v' w') (h : K (a.put o.dst v') w') : o.wp P a w K Q := by
  unfold Oper.wp execOp
  simp only [ho, resolve, invoke, builtin, Sem.run_bind, Sem.run_pure, Result.andThen_ok, List.map_toArray, List.map_cons, List.map_nil, hd, hs, hr]
  exact h
theorem wpList_copy_at {P : Program} (w : World) {ops : Array Oper} {rest : List Oper} {o : Oper} {a : Act} {Q : Exit → Act → World → Prop} (hgd : o.guard = none) (d s : Operand) (t t' : TypeId)
    (ho : o.op = .call { callee := .builtin .copy, args := #[d, s], argTypes := #[t, t'] }) (v u : Value) (hd : a.eval d = v) (hs : a.eval s = u) {v' : Value} {w' : World}
    (hr : (Builtin.copy_ #[t, t'] o.type #[v, u]).run P w = .ok v' w') (h : wpList P ops Q rest (a.put o.dst v') w') : wpList P ops Q (o :: rest) a w :=
  wpList_plain hgd fun _ hK => wp_copy_at w d s t t' ho v u hd hs hr (hK _ _ h)
theorem step_copy_at {P : Program} {ops : Array Oper} {o : Oper} {a : Act} {w : World} {K : Act → World → Prop} {Q : Exit → Act → World → Prop} {E : Prop}
    (hg : o.guard = none) (d x : Operand) (dT sT : TypeId) (hop : o.op = Op.call { callee := Callee.builtin Builtin.copy, args := #[d, x], argTypes := #[dT, sT] })
    (v u : Value) (hd : a.eval d = v) (hx : a.eval x = u) {v' : Value} {w' : World} (hr : (Builtin.copy_ #[dT, sT] o.type #[v, u]).run P w = .ok v' w') (hK : K (a.put o.dst v') w') :
    if Region.wanted o (yielded ops a.tmps) = true then Oper.wp P o a w K Q else E := by
  have hw : Region.wanted o (yielded ops a.tmps) = true := by simp [Region.wanted, hg]
  rw [if_pos hw]
  exact wp_copy_at w d x dT sT hop v u hd hx hr hK

/-- A row of cells, its block and its elements. -/
structure RowAt (w : World) (g : Nat) (e : TypeId) (k n cap : Nat) (cur : Array Value) (xs : List Value) : Prop where
  heap : w.heap[g]? = some (.cells cur e (0, 0))
  hnc : n ≤ cap
  hcap : cap ≤ maxLen
  size : cur.size = cap * k
  take : cur.toList.take (n * k) = xs

theorem setRow_ne (w : World) (g k : Nat) (cs : Array Value) (h : k ≠ g) : (w.setRow g cs).heap[k]? = w.heap[k]? := by
  simp only [World.setRow]
  rw [Array.getElem?_modify, if_neg (fun e => h e.symm)]
theorem alloc_setRow (w : World) (a b : Array Value) (t : TypeId) (fr : Nat × Nat) : (w.alloc (.cells a t fr)).setRow w.heap.size b = w.alloc (.cells b t fr) := by
  unfold World.setRow World.alloc
  congr 1
  apply Array.ext
  · simp
  · intro k h1 h2
    simp only [Array.getElem_modify]
    split
    · rename_i hk
      subst hk
      simp
    · rename_i hk
      have : k < w.heap.size := by simp at h2; omega
      simp [Array.getElem_push, this]
theorem grow_world (w : World) (a b c : Array Value) (t : TypeId) : (((w.alloc (.cells a t)).drew.setRow w.heap.size b).drew.setRow w.heap.size c) = (w.alloc (.cells c t (0, 0))).drewN 2 := by
  have h : (((w.alloc (.cells a t)).drew.setRow w.heap.size b).drew.setRow w.heap.size c) = (((w.alloc (.cells a t)).setRow w.heap.size b).setRow w.heap.size c).drewN 2 := rfl
  rw [h, setRow_setRow, alloc_setRow]
theorem cell_row {w : World} {g : Nat} {cur : Array Value} {e : TypeId} {fr : Nat × Nat} (h : w.heap[g]? = some (.cells cur e fr)) (j : Nat) : w.cell? ⟨g, j, none⟩ = cur[j]? := cell_of_row w g j cur e fr h
theorem addr_add (g o j : Nat) : (⟨g, o, none⟩ : Addr).add j = ⟨g, o + j, none⟩ := by unfold Addr.add; split <;> simp_all
/-- The two copies in place: what stands from a on goes c further, y goes where it stood. -/
theorem two_copies (L B y : List Value) (a c : Nat) (hy : y.length = c) (hl : a + c + B.length ≤ L.length) :
    (L.take (a + c) ++ B ++ L.drop (a + c + B.length)).take a ++ y ++ (L.take (a + c) ++ B ++ L.drop (a + c + B.length)).drop (a + c) = L.take a ++ (y ++ (B ++ L.drop (a + c + B.length))) := by
  have h1 : (L.take (a + c)).length = a + c := by rw [List.length_take]; omega
  rw [List.append_assoc (L.take (a + c)), List.take_append_of_le_length (by omega), List.take_take, List.drop_left' h1, show min a (a + c) = a by omega, List.append_assoc]
theorem ins_take (A y B D : List Value) (n : Nat) (h : A.length + y.length + B.length = n) : (A ++ (y ++ (B ++ D))).take n = A ++ (y ++ B) := by
  rw [← List.append_assoc, ← List.append_assoc, List.take_left' (by simp; omega), List.append_assoc]

/-- Elements as cells. -/
theorem flat_len {α : Type} {enc : α → List Value} {k : Nat} (h : ∀ x, (enc x).length = k) (xs : List α) : (xs.flatMap enc).length = xs.length * k := by
  induction xs with
  | nil => simp
  | cons x r ih => rw [List.flatMap_cons, List.length_append, ih, h, List.length_cons, Nat.add_mul, Nat.one_mul, Nat.add_comm]
theorem flat_take {α : Type} {enc : α → List Value} {k : Nat} (h : ∀ x, (enc x).length = k) : ∀ (xs : List α) (i : Nat), (xs.flatMap enc).take (i * k) = (xs.take i).flatMap enc
  | _, 0 => by simp
  | [], i + 1 => by simp
  | x :: r, i + 1 => by
    rw [List.flatMap_cons, List.take_succ_cons, List.flatMap_cons, Nat.add_mul, Nat.one_mul, Nat.add_comm, ← h x, List.take_append, List.take_of_length_le (by omega), show (enc x).length + i * (enc x).length - (enc x).length = i * k by rw [h]; omega, flat_take h r i]
theorem flat_drop {α : Type} {enc : α → List Value} {k : Nat} (h : ∀ x, (enc x).length = k) : ∀ (xs : List α) (i : Nat), (xs.flatMap enc).drop (i * k) = (xs.drop i).flatMap enc
  | _, 0 => by simp
  | [], i + 1 => by simp
  | x :: r, i + 1 => by
    rw [List.flatMap_cons, List.drop_succ_cons, Nat.add_mul, Nat.one_mul, Nat.add_comm, ← h x, List.drop_append, List.drop_of_length_le (by omega), show (enc x).length + i * (enc x).length - (enc x).length = i * k by rw [h]; omega, flat_drop h r i, List.nil_append]
/-- A kind whose cells say all, in any world. -/
theorem own_flat {α : Type} {d : Kd α} {enc : α → List Value} (hM : ∀ w base ok x cs, d.M w base ok x cs → cs = enc x) {e : Nat} {w : World} {base : Nat} {ok : Nat → Prop} {v : Value} {xs : List α} (h : d.R e w base ok v xs) : w.ownsRow base e d.sz v xs.length (xs.flatMap enc) := by
  obtain ⟨_, inner, ho, hr⟩ := h
  suffices inner = xs.flatMap enc by rw [← this]; exact ho
  have hlen : ∀ cs ps, Reps (d.M w base (fun k => ok k ∧ some k ≠ v.ownBlock)) d.sz ps cs → cs = ps.flatMap enc := by
    intro cs ps
    induction ps generalizing cs with
    | nil =>
      intro h
      have := h.1
      simp at this
      simpa using this
    | cons p r ih =>
      intro h
      have h0 := hM _ _ _ _ _ (h.2 0 p rfl)
      rw [Nat.zero_mul, List.drop_zero] at h0
      have h1 := ih (cs.drop d.sz) ⟨by rw [List.length_drop, h.1, List.length_cons, Nat.add_mul, Nat.one_mul, Nat.add_sub_cancel], fun j q hq => by
        have := h.2 (j + 1) q (by simpa using hq)
        rwa [List.drop_drop, show d.sz + j * d.sz = (j + 1) * d.sz by rw [Nat.add_mul, Nat.one_mul, Nat.add_comm]]⟩
      rw [List.flatMap_cons, ← h0, ← h1, List.take_append_drop]
  exact hlen _ _ hr
theorem flat_own {α : Type} {d : Kd α} {enc : α → List Value} (hM : ∀ w base ok x, d.M w base ok x (enc x)) {e : Nat} {w : World} {base : Nat} {v : Value} {xs : List α} (h : w.ownsRow base e d.sz v xs.length (xs.flatMap enc)) : d.R e w base (fun _ => True) v xs := by
  have hk : ∀ x, (enc x).length = d.sz := fun x => d.K_len (d.K_of_M (hM w base (fun _ => True) x))
  refine ⟨fun _ _ => trivial, _, h, flat_len hk xs, fun j p hp => ?_⟩
  obtain ⟨hj, rfl⟩ := List.getElem?_eq_some_iff.1 hp
  rw [flat_drop hk, List.drop_eq_getElem_cons hj, List.flatMap_cons, List.take_left' (hk _)]
  exact hM _ _ _ _
/-- The new element stands at i. -/
def ins {α : Type} (xs : List α) (i : Nat) (y : α) : List α := xs.take i ++ y :: xs.drop i
theorem ins_len {α : Type} (xs : List α) (i : Nat) (y : α) (h : i ≤ xs.length) : (ins xs i y).length = xs.length + 1 := by
  simp [ins]
  omega
theorem ins_flat {α : Type} {enc : α → List Value} {k : Nat} (h : ∀ x, (enc x).length = k) (xs : List α) (i : Nat) (y : α) : (ins xs i y).flatMap enc = (xs.flatMap enc).take (i * k) ++ (enc y ++ (xs.flatMap enc).drop (i * k)) := by
  rw [flat_take h, flat_drop h, ins, List.flatMap_append, List.flatMap_cons]
end Go.Proofs.YtmoiochblmdgfaaDoor
namespace Go.Proofs.YtmoiochblmdgfaaDoor
set_option linter.unusedVariables false
set_option linter.unusedSimpArgs false
open Go.RowKit Go.Proofs.YtmoiochblmdgfaaDoorW.PrintWords

def encF (x : Fl) : List Value := [.int .u64 x.f0, .int .i64 x.f1]
theorem kF_sz : kF.sz = 2 := rfl
theorem kF_M (w : World) (base : Nat) (ok : Nat → Prop) (x : Fl) (cs : List Value) (h : kF.M w base ok x cs) : cs = (encF x) := by
  obtain ⟨_, _, rfl, rfl, rfl⟩ := h
  rfl
theorem kF_mk (w : World) (base : Nat) (ok : Nat → Prop) (x : Fl) : kF.M w base ok x (encF x) := ⟨[.int .u64 x.f0], [.int .i64 x.f1], rfl, rfl, rfl⟩
theorem enc_len (x : Fl) : (encF x).length = 2 := rfl
theorem enc_one (xs : List Fl) : ∀ v ∈ xs.flatMap encF, v.oneCell' = true := by
  intro v hv
  obtain ⟨x, _, hx⟩ := List.mem_flatMap.1 hv
  simp [encF] at hx
  rcases hx with rfl | rfl <;> rfl
/-- A row of points of the call's own. -/
def OwnFl (w : World) (base : Nat) (v : Value) (xs : List Fl) : Prop := w.ownsRow base 43 2 v xs.length (xs.flatMap encF)
theorem OwnFl.of_R {w : World} {base : Nat} {ok : Nat → Prop} {v : Value} {xs : List Fl} (h : kF.R 43 w base ok v xs) : OwnFl w base v xs := own_flat kF_M h
theorem OwnFl.to_R {w : World} {base : Nat} {v : Value} {xs : List Fl} (h : OwnFl w base v xs) : kF.R 43 w base (fun _ => True) v xs := flat_own (enc := encF) kF_mk h
theorem info_fl2 : (Tryd.prog.info? 43).map (fun i => (i.zero, i.size, i.bytes)) = some (some (.agg #[.int .u64 0, .int .i64 0]), 2, 16) := by kernel_rfl
theorem size_fl : (Tryd.prog.info? 43).map (·.size) = some 2 := by kernel_rfl
theorem sizeOf_fl (w : World) : (Go.sizeOf 43).run Tryd.prog w = .ok 2 w := by kernel_rfl

theorem overlaps_fl (vb g o lb cb : Nat) (w : World) (y : Fl) (cur : Array Value) (hne : vb ≠ g) (hv : w.heap[vb]? = some (.cells (encF y).toArray 43 (0, 0))) (hg : w.heap[g]? = some (.cells cur 43 (0, 0))) (hc : cur.size ≠ 0) :
    (callFunc 57 #[.slice (some ⟨vb, 0, none⟩) 1 1, .slice (some ⟨g, o, none⟩) lb cb]).run Tryd.prog w = .ok (.value (.bool false)) w := by
  rw [run_callFunc_extern Tryd.func57 (by kernel_rfl) (by kernel_rfl) (by kernel_rfl) (e := Extern.SlicesOverlaps.overlaps #[22, 22] #[4]) (by kernel_rfl),
    Lib.run_overlaps_apart w 22 4 43 Tryd.underlying22 2 sizeOf_fl ⟨vb, 0, none⟩ ⟨g, o, none⟩ 1 1 lb cb hne 43 43 2 cur.size (by simp [World.shape?, hv, encF]) (by simp [World.shape?, hg]) hc (by simp [World.frozen?, hv]) (by simp [World.frozen?, hv])]
  rfl

set_option maxHeartbeats 4000000 in
set_option maxRecDepth 100000 in
/-- In place. -/
theorem InsF_shift (g n cap i vb : Nat) (cur : Array Value) (xs : List Fl) (y : Fl) (w : World) (hn : xs.length = n) (hi : i < n) (hroom : n + 1 ≤ cap) (hcap : cap ≤ maxLen) (hsz : cur.size = cap * 2) (htake : cur.toList.take (n * 2) = xs.flatMap encF)
    (hne : vb ≠ g) (hv : w.heap[vb]? = some (.cells (encF y).toArray 43 (0, 0))) (hg : w.heap[g]? = some (.cells cur 43 (0, 0))) :
    Calls Tryd.prog 38 #[.slice (some ⟨g, 0, none⟩) n cap, .int .i64 i, .slice (some ⟨vb, 0, none⟩) 1 1] w fun e w' =>
      e = .returned (.slice (some ⟨g, 0, none⟩) (n + 1) cap) ∧ ∃ row m, w' = (w.setRow g row).drewN m ∧ row.size = cap * 2 ∧ row.toList.take ((n + 1) * 2) = (ins xs i y).flatMap encF := by
  have hl := flat_len enc_len xs
  rw [hn] at hl
  have hz2 : ¬ ((i : Int) = (n : Int)) := by omega
  have hcap63 : cap ≤ 9223372036854775807 := hcap
  have hsz0 : cur.size ≠ 0 := by omega
  have hov := fun o lb cb => overlaps_fl vb g o lb cb w y cur hne hv hg hsz0
  have mixed : Tryd.prog.follows Departure.mixedOrders = true := by kernel_rfl
  have hw1 : IntKind.i64.wrap ((i : Int) + 1) = (i : Int) + 1 := by rw [IntKind.wrap_i64]; omega
  have hw2 : IntKind.i64.wrap ((n : Int) + 1) = (n : Int) + 1 := by rw [IntKind.wrap_i64]; omega
  have hin : i ≤ n := by omega
  have u56 := run_underlying (P := Tryd.prog) Tryd.underlying22
  have htn : ((i : Int) + 1).toNat = i + 1 := by omega
  have hb1 : (0 : Int) ≤ (i : Int) + 1 := by omega
  have hb3 : (i : Int) ≤ (n : Int) + 1 := by omega
  have hb4 : ¬ (cap = i) := by omega
  have hb2 : ¬ (cap = i + 1) := by omega
  obtain ⟨B, hB⟩ : ∃ B, B = (xs.flatMap encF).drop (i * 2) := ⟨_, rfl⟩
  have hBl : B.length = (n - i) * 2 := by rw [hB, List.length_drop, hl]; omega
  have hcl : cur.toList.length = cap * 2 := by rw [Array.length_toList, hsz]
  obtain ⟨r1, hr1⟩ : ∃ r1 : List Value, r1 = cur.toList.take (i * 2 + 2) ++ B ++ cur.toList.drop (i * 2 + 2 + B.length) := ⟨_, rfl⟩
  have hr1l : r1.length = cap * 2 := by rw [hr1]; simp only [List.length_append, List.length_take, List.length_drop, hBl, hcl]; omega
  have hsrc : ∀ (W : World), W.heap[g]? = some (.cells cur 43 (0, 0)) → ∀ j v, B[j]? = some v → W.cell? ((⟨g, i * 2, none⟩ : Addr).add j) = some v := fun W hW j v hj => by
    rw [addr_add, cell_row hW]
    rw [hB, List.getElem?_drop, ← htake, List.getElem?_take] at hj
    split at hj
    · simpa using hj
    · cases hj
  have hB1 : ∀ v ∈ B, v.oneCell' = true := fun v hv => enc_one xs v (by rw [hB] at hv; exact List.mem_of_mem_drop hv)
  have hcp1 : ∀ (W : World), W.heap[g]? = some (.cells cur 43 (0, 0)) → ∀ ty, (Builtin.copy_ #[22, 22] ty #[.slice (some ⟨g, (i + 1) * 2, none⟩) (n - i) (cap - (i + 1)), .slice (some ⟨g, i * 2, none⟩) (n + 1 - i) (cap - i)]).run Tryd.prog W = .ok (goInt (n - i : Nat)) (W.setRow g r1.toArray) := fun W hW ty => by
    rw [hr1, show i * 2 + 2 = (i + 1) * 2 by omega]
    exact run_copy_rowN W _ _ ty _ 2 g _ _ _ _ _ _ cur _ B Tryd.underlying22 size_fl hW (n - i) (by simp only [Nat.min_def]; split <;> omega) hBl (hsrc W hW) (by rw [hBl, hsz]; omega) hB1
  obtain ⟨r2, hr2⟩ : ∃ r2 : List Value, r2 = r1.take (i * 2) ++ (encF y) ++ r1.drop (i * 2 + 2) := ⟨_, rfl⟩
  have hcp2 : ∀ (W : World), W.heap[g]? = some (.cells r1.toArray 43 (0, 0)) → W.heap[vb]? = some (.cells (encF y).toArray 43 (0, 0)) → ∀ ty, (Builtin.copy_ #[22, 22] ty #[.slice (some ⟨g, i * 2, none⟩) (n + 1 - i) (cap - i), .slice (some ⟨vb, 0, none⟩) 1 1]).run Tryd.prog W = .ok (goInt (1 : Nat)) (W.setRow g r2.toArray) := fun W hW hV ty => by
    have := run_copy_rowN W 22 22 ty _ 2 g (i * 2) (n + 1 - i) (cap - i) ⟨vb, 0, none⟩ 1 1 r1.toArray _ (encF y) Tryd.underlying22 size_fl hW 1 (by simp only [Nat.min_def]; split <;> omega) rfl (fun j v hj => by rw [addr_add, cell_row hV]; simpa using hj) (by rw [enc_len, List.size_toArray, hr1l]; omega) (by simp [encF, Value.oneCell'])
    rw [hr2]
    exact this
  have hW1 : (w.drew.setRow g r1.toArray).heap[g]? = some (.cells r1.toArray 43 (0, 0)) := setRow_heap w.drew g cur _ _ _ hg
  have hV1 : (w.drew.setRow g r1.toArray).heap[vb]? = some (.cells (encF y).toArray 43 (0, 0)) := (setRow_ne w.drew g vb _ hne).trans hv
  have hcp3 := hcp2 _ hW1 hV1 3
  clear hcp2 hW1 hV1
  have hfin : r2.length = cap * 2 ∧ r2.take ((n + 1) * 2) = (ins xs i y).flatMap encF := by
    have h2 := two_copies cur.toList B (encF y) (i * 2) 2 (enc_len y) (by rw [hBl, hcl]; omega)
    rw [← hr1, ← hr2] at h2
    have hA : cur.toList.take (i * 2) = (xs.flatMap encF).take (i * 2) := by rw [← htake, List.take_take, show min (i * 2) (n * 2) = i * 2 by omega]
    refine ⟨by rw [hr2]; simp only [List.length_append, List.length_take, List.length_drop, hr1l, enc_len]; omega, ?_⟩
    rw [h2, ins_take _ _ _ _ _ (by rw [List.length_take, hcl, enc_len, hBl]; omega), ins_flat enc_len, hA, hB]
  have H := Lib.hid (And.intro htake (And.intro hv (And.intro hg (And.intro hsz hl))))
  clear htake hv hg hsz hl hsz0 hB hBl hcl hr1 hr1l hsrc hB1 hr2
  go_enter Tryd.func38, Tryd.ntmps38
  go_wp2_with (simp only [hov])
  go_region_law_o (refine step_copy_at rfl _ _ 22 22 rfl (.slice (some ⟨g, (i + 1) * 2, none⟩) (n - i) (cap - (i + 1))) (.slice (some ⟨g, i * 2, none⟩) (n + 1 - i) (cap - i)) (by simp [Act.eval, Act.put]) (by simp [Act.eval, Act.put]) (hcp1 w.drew H.out.2.2.1 3) ?_)
  go_wp2_with (at_builtin; refine wpList_copy_at _ rfl _ _ 22 22 rfl _ _ rfl rfl hcp3 ?_)
  go_ret
  exact ⟨rfl, r2.toArray, 1, by rw [setRow_setRow]; rfl, by simpa using hfin.1, by simpa using hfin.2⟩

set_option maxHeartbeats 4000000 in
set_option maxRecDepth 100000 in
/-- No room: a new row. -/
theorem InsF_grow (g n cap i vb : Nat) (cur : Array Value) (xs : List Fl) (y : Fl) (w : World) (hn : xs.length = n) (hi : i < n) (hnc : n ≤ cap) (hroom : cap < n + 1) (hbig : (n + 1) * 16 ≤ 140737488355328) (htake : cur.toList.take (n * 2) = xs.flatMap encF)
    (hv : w.heap[vb]? = some (.cells (encF y).toArray 43 (0, 0))) (hg : w.heap[g]? = some (.cells cur 43 (0, 0))) :
    Calls Tryd.prog 38 #[.slice (some ⟨g, 0, none⟩) n cap, .int .i64 i, .slice (some ⟨vb, 0, none⟩) 1 1] w fun e w' =>
      ∃ C row m, e = .returned (.slice (some ⟨w.heap.size, 0, none⟩) (n + 1) C) ∧ w' = (w.alloc (.cells row 43 (0, 0))).drewN m ∧ n + 1 ≤ C ∧ C ≤ maxLen ∧ row.size = C * 2 ∧ row.toList.take ((n + 1) * 2) = (ins xs i y).flatMap encF := by
  have hl := flat_len enc_len xs
  rw [hn] at hl
  have mixed : Tryd.prog.follows Departure.mixedOrders = true := by kernel_rfl
  have hz2 : ¬ ((i : Int) = (n : Int)) := by omega
  have hz3 : (cap : Int) < (n : Int) + 1 := by omega
  have hcap63 : cap ≤ 9223372036854775807 := by omega
  have hw1 : IntKind.i64.wrap ((i : Int) + 1) = (i : Int) + 1 := by rw [IntKind.wrap_i64]; omega
  have hw2 : IntKind.i64.wrap ((n : Int) + 1) = (n : Int) + 1 := by rw [IntKind.wrap_i64]; omega
  have hin : i ≤ n := by omega
  have u56 := run_underlying (P := Tryd.prog) Tryd.underlying22
  have htn : ((i : Int) + 1).toNat = i + 1 := by omega
  have hb1 : (0 : Int) ≤ (i : Int) + 1 := by omega
  have hb3 : (i : Int) ≤ (n : Int) := by omega
  have hkk : (n : Int) + 1 - (i : Int) = ((n + 1 - i : Nat) : Int) := by omega
  have hik : i + (n + 1 - i) = n + 1 := by omega
  obtain ⟨i0, hi0, hz0, hzs, hzb⟩ : ∃ i0, Tryd.prog.info? 43 = some i0 ∧ i0.zero = some (.agg #[.int .u64 0, .int .i64 0]) ∧ i0.size = 2 ∧ i0.bytes = 16 := by
    have h := info_fl2
    cases hq : Tryd.prog.info? 43 with
    | none => simp [hq] at h
    | some j => simp [hq] at h; exact ⟨j, rfl, h.1, h.2.1, h.2.2⟩
  have hcl : n * 2 ≤ cur.toList.length := by
    have := congrArg List.length htake
    rw [List.length_take, hl] at this
    omega
  have hgw : g < w.heap.size := (Array.getElem?_eq_some_iff.1 hg).1
  have hvw : vb < w.heap.size := (Array.getElem?_eq_some_iff.1 hv).1
  have hA : cur.toList.take (i * 2) = (xs.flatMap encF).take (i * 2) := by rw [← htake, List.take_take, show min (i * 2) (n * 2) = i * 2 by omega]
  have hold : (Builtin.firstCells i0.size i (.slice (some ⟨g, 0, none⟩) i cap)).run Tryd.prog w.drew = .ok ((xs.flatMap encF).take (i * 2)).toArray w.drew := by
    rw [hzs]
    exact run_firstCells_some w.drew 2 i ⟨g, 0, none⟩ i cap ((xs.flatMap encF).take (i * 2)) (by rw [List.length_take, hl]; omega) (fun j v hj => by
      rw [addr_add, cell_row (w := w.drew) hg]
      rw [← hA, List.getElem?_take] at hj
      split at hj
      all_goals (first | (simp at hj; done) | (simpa using hj)))
  obtain ⟨C, hC⟩ : ∃ C, C = grownCap w (n + 1) cap 43 := ⟨_, rfl⟩
  have hCn : n + 1 ≤ C := by rw [hC]; exact grownCap_ge w _ _ _
  have hC63 : C ≤ maxLen := by rw [hC]; exact grownCap_le_maxLen w (n + 1) cap 43 (by unfold maxLen; omega)
  have hC64 : C ≤ 9223372036854775807 := hC63
  obtain ⟨ROW, hROW⟩ : ∃ ROW : Array Value, ROW = ((xs.flatMap encF).take (i * 2)).toArray ++ Builtin.zeroCells (Value.agg #[.int .u64 0, .int .i64 0]).cells (n + 1 - i) ++ Builtin.zeroCells (Value.agg #[.int .u64 0, .int .i64 0]).cells (C - (n + 1)) := ⟨_, rfl⟩
  have hrz : ∀ ty, (Builtin.append_ #[22, 3] ty #[.slice (some ⟨g, 0, none⟩) i cap, .int .i64 ((n : Int) + 1 - (i : Int))]).run Tryd.prog w = .ok (.slice (some ⟨w.heap.size, 0, none⟩) (n + 1) C) (w.drew.alloc (.cells ROW 43)) := fun ty => by
    have h := Lib.run_append_grow_zeros w 22 3 ty 43 i0 _ .i64 .i64 Tryd.underlying22 Tryd.underlying3 hi0 hz0 (some ⟨g, 0, none⟩) i cap _ hold (n + 1 - i) (by omega) (by omega) (by omega) (by omega) (by rw [hzb]; omega) (by rw [hzb, hik]; exact growslice_fits hroom hbig)
    rw [hik] at h
    rw [hkk, hROW, hC]
    exact h
  have hRl : ROW.size = C * 2 := by
    rw [hROW]
    simp [Builtin.zeroCells, Value.cells, hl]
    omega
  have hRA : ROW.toList.take (i * 2) = (xs.flatMap encF).take (i * 2) := by
    rw [hROW, Array.append_assoc, Array.toList_append, List.take_append_of_le_length (by simp [hl]; omega), List.toList_toArray, List.take_take, Nat.min_self]
  obtain ⟨r1, hr1⟩ : ∃ r1 : List Value, r1 = ROW.toList.take (i * 2) ++ (encF y) ++ ROW.toList.drop (i * 2 + 2) := ⟨_, rfl⟩
  have hRl2 : ROW.toList.length = C * 2 := by rw [Array.length_toList, hRl]
  have hr1l : r1.length = C * 2 := by rw [hr1]; simp only [List.length_append, List.length_take, List.length_drop, enc_len, hRl2]; omega
  obtain ⟨B, hB⟩ : ∃ B, B = (xs.flatMap encF).drop (i * 2) := ⟨_, rfl⟩
  have hBl : B.length = (n - i) * 2 := by rw [hB, List.length_drop, hl]; omega
  obtain ⟨r2, hr2⟩ : ∃ r2 : List Value, r2 = r1.take (i * 2 + 2) ++ B ++ r1.drop (i * 2 + 2 + B.length) := ⟨_, rfl⟩
  obtain ⟨W1, hW1⟩ : ∃ W1, W1 = (w.alloc (.cells ROW 43)).drew := ⟨_, rfl⟩
  have hN1 : W1.heap[w.heap.size]? = some (.cells ROW 43 (0, 0)) := by rw [hW1]; exact heap_alloc_new w _
  have hV1 : W1.heap[vb]? = some (.cells (encF y).toArray 43 (0, 0)) := by rw [hW1]; exact (Below.heap_alloc _ _ _ hvw).trans hv
  have hG1 : W1.heap[g]? = some (.cells cur 43 (0, 0)) := by rw [hW1]; exact (Below.heap_alloc _ _ _ hgw).trans hg
  have hcpA : (Builtin.copy_ #[22, 22] 3 #[.slice (some ⟨w.heap.size, i * 2, none⟩) (n + 1 - i) (C - i), .slice (some ⟨vb, 0, none⟩) 1 1]).run Tryd.prog W1 = .ok (goInt (1 : Nat)) (W1.setRow w.heap.size r1.toArray) := by
    have := run_copy_rowN W1 22 22 3 _ 2 w.heap.size (i * 2) (n + 1 - i) (C - i) ⟨vb, 0, none⟩ 1 1 ROW _ (encF y) Tryd.underlying22 size_fl hN1 1 (by simp only [Nat.min_def]; split <;> omega) rfl (fun j v hj => by rw [addr_add, cell_row hV1]; simpa using hj) (by rw [enc_len, hRl]; omega) (by simp [encF, Value.oneCell'])
    rw [hr1]
    exact this
  have hN2 : (W1.setRow w.heap.size r1.toArray).drew.heap[w.heap.size]? = some (.cells r1.toArray 43 (0, 0)) := setRow_heap W1 _ ROW _ _ _ hN1
  have hG2 : (W1.setRow w.heap.size r1.toArray).drew.heap[g]? = some (.cells cur 43 (0, 0)) := (setRow_ne W1 _ g _ (by omega)).trans hG1
  have hsrc : ∀ (W : World), W.heap[g]? = some (.cells cur 43 (0, 0)) → ∀ j v, B[j]? = some v → W.cell? ((⟨g, i * 2, none⟩ : Addr).add j) = some v := fun W hW j v hj => by
    rw [addr_add, cell_row hW]
    rw [hB, List.getElem?_drop, ← htake, List.getElem?_take] at hj
    split at hj
    all_goals (first | (simp at hj; done) | (simpa using hj))
  have hcpB : (Builtin.copy_ #[22, 22] 3 #[.slice (some ⟨w.heap.size, (i + 1) * 2, none⟩) (n - i) (C - (i + 1)), .slice (some ⟨g, i * 2, none⟩) (n - i) (cap - i)]).run Tryd.prog (W1.setRow w.heap.size r1.toArray).drew = .ok (goInt (n - i : Nat)) ((W1.setRow w.heap.size r1.toArray).drew.setRow w.heap.size r2.toArray) := by
    have := run_copy_rowN (W1.setRow w.heap.size r1.toArray).drew 22 22 3 _ 2 w.heap.size ((i + 1) * 2) (n - i) (C - (i + 1)) ⟨g, i * 2, none⟩ (n - i) (cap - i) r1.toArray _ B Tryd.underlying22 size_fl hN2 (n - i) (by simp only [Nat.min_def]; split <;> omega) hBl (hsrc _ hG2) (by rw [hBl, List.size_toArray, hr1l]; omega) (fun v hv => enc_one xs v (by rw [hB] at hv; exact List.mem_of_mem_drop hv))
    rw [hr2, show i * 2 + 2 = (i + 1) * 2 by omega]
    exact this
  have hfin : r2.length = C * 2 ∧ r2.take ((n + 1) * 2) = (ins xs i y).flatMap encF := by
    have h1 : r1.take (i * 2 + 2) = (xs.flatMap encF).take (i * 2) ++ (encF y) := by
      rw [hr1, List.take_left' (by simp only [List.length_append, List.length_take, enc_len, hRl2]; omega), hRA]
    refine ⟨by rw [hr2]; simp only [List.length_append, List.length_take, List.length_drop, hr1l]; omega, ?_⟩
    rw [hr2, h1, List.take_left' (by simp only [List.length_append, List.length_take, enc_len, hBl, hl]; omega), ins_flat enc_len, hB, List.append_assoc]
  have hCi : ¬ (C = i) := by omega
  have hCim : ¬ (C = i + 1) := by omega
  have hci : ¬ (cap = i) := by omega
  rw [hW1] at hcpA hcpB
  clear hkk hik hold hROW hC hRl hRA hr1 hRl2 hr1l hB hBl hr2 hW1 hN1 hV1 hG1 hN2 hG2 hsrc htake hv hg hl hcl hA hi0 hz0 hzs hzb
  have HF := Lib.hid hfin
  clear hfin
  go_enter Tryd.func38, Tryd.ntmps38
  go_wp2_with (first
    | (at_builtin; refine Lib.wpList_append_run _ rfl _ _ _ _ rfl _ _ rfl rfl _ _ (hrz _) ?_)
    | (at_builtin; refine wpList_copy_at _ rfl _ _ 22 22 rfl _ _ rfl rfl hcpA ?_))
  go_region_law_o (refine step_copy_at rfl _ _ 22 22 rfl _ _ (by simp [Act.eval, Act.put]) (by simp [Act.eval, Act.put]) hcpB ?_)
  go_wp2
  go_ret
  refine ⟨C, r2.toArray, 2, rfl, ?_, hCn, hC63, by simpa using HF.out.1, by simpa using HF.out.2⟩
  exact grow_world w ROW r1.toArray r2.toArray _

set_option maxHeartbeats 4000000 in
/-- At the end: append. -/
theorem InsF_end (base : Nat) (v : Value) (xs : List Fl) (y : Fl) (w0 W : World) (hR : kF.R 43 W base (fun _ => True) v xs) (hB : Below base w0 W) (hb : base ≤ W.heap.size) (hl : (xs.length + 1) * 16 ≤ 140737488355328) :
    Calls Tryd.prog 38 #[v, .int .i64 xs.length, .slice (some ⟨W.heap.size, 0, none⟩) 1 1] (W.alloc (.cells (encF y).toArray 43)) fun e w' =>
      ∃ v', e = .returned v' ∧ kF.R 43 w' base (fun _ => True) v' (xs ++ [y]) ∧ W.grownBy w' v.ownBlock ∧ (v'.ownBlock = v.ownBlock ∨ ∃ b, v'.ownBlock = some b ∧ W.heap.size ≤ b) := by
  have hc := Kd.R_reads hR
  obtain ⟨A, c, rfl, hlc, hC⟩ := hc
  have hn1 : xs.length ≤ 8796093022208 := by omega
  have hcc : c ≤ 9223372036854775807 ∧ (A = none → xs.length = 0 ∧ c = 0) := by
    rcases (OwnFl.of_R hR).2 with ⟨he, h0⟩ | ⟨g, cap, cur, he, _, _, _, h2, _⟩
    · injection he with e1 e2 e3
      exact ⟨by omega, fun _ => ⟨e2, e3⟩⟩
    · injection he with e1 e2 e3
      refine ⟨by unfold maxLen at h2; omega, fun hA => by rw [hA] at e1; cases e1⟩
  obtain ⟨hc1, hc2⟩ := hcc
  have HB := Lib.hid hB
  have HR := Lib.hid hR
  clear hB hR hC
  cases A with
  | none =>
    obtain ⟨h1, h2⟩ := hc2 rfl
    have h3 : xs = [] := List.length_eq_zero_iff.1 h1
    subst h3
    subst h2
    clear h1 hc2
    go_enter Tryd.func38, Tryd.ntmps38
    go_wp2_with (at_builtin; go_loud (refine Kd.R_append kF (w0 := w0) base rfl (.tmp 23) (.tmp 24) 22 43 (.agg #[.int .u64 0, .int .i64 0]) 16 rfl Tryd.underlying22 info_fl2 rfl (by decide) (by omega) _ [] y (encF y) (fun _ => True) (fun _ => False) rfl rfl (kF_mk _ _ _ _) (fun _ hk => hk.elim) (fun _ _ => trivial) HR.out HB.out hb (by simp) ?_; intro v1 w1 ho hbb hg hat; have HO := Lib.hid ho; have HG := Lib.hid hg; have HA := Lib.hid hat; clear ho hbb hg hat))
    all_goals
      go_ret
      exact ⟨_, rfl, HO.out, HG.out, HA.out⟩
  | some ad =>
    obtain ⟨ab, ao, asp⟩ := ad
    clear hc2
    go_enter Tryd.func38, Tryd.ntmps38
    go_wp2_with (at_builtin; go_loud (refine Kd.R_append kF (w0 := w0) base rfl (.tmp 23) (.tmp 24) 22 43 (.agg #[.int .u64 0, .int .i64 0]) 16 rfl Tryd.underlying22 info_fl2 rfl (by decide) (by omega) _ xs y (encF y) (fun _ => True) (fun _ => False) rfl rfl (kF_mk _ _ _ _) (fun _ hk => hk.elim) (fun _ _ => trivial) HR.out HB.out hb (by omega) ?_; intro v1 w1 ho hbb hg hat; have HO := Lib.hid ho; have HG := Lib.hid hg; have HA := Lib.hid hat; clear ho hbb hg hat))
    all_goals
      go_ret
      exact ⟨_, rfl, HO.out, HG.out, HA.out⟩

theorem ins_end {α : Type} (xs : List α) (y : α) : ins xs xs.length y = xs ++ [y] := by simp [ins]
/-- slices.Insert of one point: in place, in a new row, or at the end; what it may have changed is the row's own block. -/
theorem InsF_any (base : Nat) (v : Value) (xs : List Fl) (i : Nat) (y : Fl) (W : World) (hi : i ≤ xs.length) (hR : kF.R 43 W base (fun _ => True) v xs) (hb : base ≤ W.heap.size) (hl : (xs.length + 1) * 16 ≤ 140737488355328) :
    Calls Tryd.prog 38 #[v, .int .i64 i, .slice (some ⟨W.heap.size, 0, none⟩) 1 1] (W.alloc (.cells (encF y).toArray 43)) fun e w' =>
      ∃ v', e = .returned v' ∧ kF.R 43 w' base (fun _ => True) v' (ins xs i y) ∧ W.grownBy w' v.ownBlock ∧ (v'.ownBlock = v.ownBlock ∨ ∃ b, v'.ownBlock = some b ∧ W.heap.size ≤ b) := by
  rcases Nat.lt_or_ge i xs.length with hlt | hge
  · have ho := OwnFl.of_R hR
    rcases ho.2 with ⟨_, h0⟩ | ⟨g, cap, cur, rfl, hbg, hg, hnc, hcap, hsz, htk⟩
    · omega
    · have hgl : g < W.heap.size := (Array.getElem?_eq_some_iff.1 hg).1
      have hg1 : (W.alloc (.cells (encF y).toArray 43)).heap[g]? = some (.cells cur 43 (0, 0)) := (Below.heap_alloc _ _ _ hgl).trans hg
      have hv1 : (W.alloc (.cells (encF y).toArray 43)).heap[W.heap.size]? = some (.cells (encF y).toArray 43 (0, 0)) := heap_alloc_new W _
      rcases Nat.lt_or_ge cap (xs.length + 1) with hr | hr
      · refine (InsF_grow g xs.length cap i W.heap.size cur xs y _ rfl hlt hnc hr hl htk hv1 hg1).mono fun e w' ⟨C, row, m, he, hw, h1, h2, h3, h4⟩ => ⟨_, he, ?_, ?_, .inr ⟨_, rfl, by simp⟩⟩
        · refine OwnFl.to_R ⟨flat_len enc_len _, .inr ⟨_, C, row, by rw [ins_len _ _ _ hi], by simp; omega, ?_, by rw [ins_len _ _ _ hi]; exact h1, h2, h3, by rw [ins_len _ _ _ hi]; exact h4⟩⟩
          rw [hw]
          exact heap_alloc_new _ _
        · rw [hw]
          exact ⟨rfl, rfl, rfl, by simp [World.drewN]; omega, fun k hk _ => (Below.heap_alloc _ _ k (by simp; omega)).trans (Below.heap_alloc W _ k hk)⟩
      · refine (InsF_shift g xs.length cap i W.heap.size cur xs y _ rfl hlt hr hcap hsz htk (by omega) hv1 hg1).mono fun e w' ⟨he, row, m, hw, h3, h4⟩ => ⟨_, he, ?_, ?_, .inl rfl⟩
        · refine OwnFl.to_R ⟨flat_len enc_len _, .inr ⟨g, cap, row, by rw [ins_len _ _ _ hi], hbg, ?_, by rw [ins_len _ _ _ hi]; exact hr, hcap, h3, by rw [ins_len _ _ _ hi]; exact h4⟩⟩
          rw [hw]
          exact setRow_heap _ g cur row _ _ hg1
        · rw [hw]
          refine ⟨rfl, rfl, rfl, by simp [World.drewN], fun k hk hne => ?_⟩
          have hkg : k ≠ g := fun e => hne (by rw [e]; rfl)
          exact (setRow_ne _ g k row hkg).trans (Below.heap_alloc W _ k hk)
  · obtain rfl : i = xs.length := by omega
    rw [ins_end]
    exact InsF_end base v xs y W W hR (Below.refl _ _) hb hl
end Go.Proofs.YtmoiochblmdgfaaDoor
namespace Go.Proofs.YtmoiochblmdgfaaDoor
set_option linter.unusedVariables false
set_option linter.unusedSimpArgs false
open Go.RowKit Go.Proofs.YtmoiochblmdgfaaDoorW.PrintWords
attribute [local go_sem ↓] Go.wp_at_zero Go.wp_at_succ

theorem flat_set (x : Fl) : ∀ (L : List Fl) (i : Nat), i < L.length → (L.set i x).flatMap encF = ((L.flatMap encF).set (i * 2) (.int .u64 x.f0)).set (i * 2 + 1) (.int .i64 x.f1)
  | [], _, h => by simp at h
  | y :: r, 0, _ => by simp [encF]
  | y :: r, i + 1, h => by
    have ih := flat_set x r i (by simpa using h)
    rw [List.set_cons_succ, List.flatMap_cons, ih, List.flatMap_cons, show (i + 1) * 2 = i * 2 + 1 + 1 by omega]
    simp [encF]
theorem flat_get (L : List Fl) (i : Nat) (h : i < L.length) : (L.flatMap encF)[i * 2]? = some (.int .u64 (fget L i).f0) ∧ (L.flatMap encF)[i * 2 + 1]? = some (.int .i64 (fget L i).f1) := by
  have h1 := flat_drop enc_len L i
  rw [List.drop_eq_getElem_cons h, List.flatMap_cons] at h1
  rw [fget_eq h]
  constructor
  · rw [show i * 2 = i * 2 + 0 by omega, ← List.getElem?_drop, h1]; rfl
  · rw [← List.getElem?_drop, h1]; rfl
theorem OwnFl.block {w : World} {base g n cap : Nat} {L : List Fl} (h : OwnFl w base (.slice (some ⟨g, 0, none⟩) n cap) L) : n = L.length ∧ ∃ cur, base ≤ g ∧ w.heap[g]? = some (.cells cur 43 (0, 0)) ∧ n ≤ cap ∧ cap ≤ maxLen ∧ cur.size = cap * 2 ∧ cur.toList.take (n * 2) = L.flatMap encF := by
  rcases h.2 with ⟨he, _⟩ | ⟨g', cap', cur, he, h1, h2, h3, h4, h5, h6⟩
  · cases he
  · injection he with e1 e2 e3
    injection e1 with e1
    injection e1 with e1
    subst e1
    subst e3
    exact ⟨e2, cur, h1, h2, e2 ▸ h3, h4, h5, e2 ▸ h6⟩
theorem OwnFl.mk {w : World} {base g cap : Nat} {L : List Fl} {cur : Array Value} (h1 : base ≤ g) (h2 : w.heap[g]? = some (.cells cur 43 (0, 0))) (h3 : L.length ≤ cap) (h4 : cap ≤ maxLen) (h5 : cur.size = cap * 2) (h6 : cur.toList.take (L.length * 2) = L.flatMap encF) : OwnFl w base (.slice (some ⟨g, 0, none⟩) L.length cap) L :=
  ⟨flat_len enc_len _, .inr ⟨g, cap, cur, rfl, h1, h2, h3, h4, h5, h6⟩⟩
theorem OwnFl.cells {w : World} {base g n cap : Nat} {L : List Fl} (h : OwnFl w base (.slice (some ⟨g, 0, none⟩) n cap) L) {i : Nat} (hi : i < L.length) :
    w.cell? ⟨g, i * 2, none⟩ = some (.int .u64 (fget L i).f0) ∧ w.cell? ⟨g, i * 2 + 1, none⟩ = some (.int .i64 (fget L i).f1) ∧ (∀ j, w.frozen? ⟨g, j, none⟩ = false) := by
  obtain ⟨hn, cur, h1, h2, h3, h4, h5, h6⟩ := h.block
  obtain ⟨g1, g2⟩ := flat_get L i hi
  rw [← h6, List.getElem?_take] at g1 g2
  rw [if_pos (by omega)] at g1 g2
  refine ⟨?_, ?_, fun j => by simp [World.frozen?, h2]⟩
  · rw [cell_row h2]; simpa using g1
  · rw [cell_row h2]; simpa using g2
theorem OwnFl.set {w : World} {base g n cap : Nat} {L : List Fl} (h : OwnFl w base (.slice (some ⟨g, 0, none⟩) n cap) L) {i : Nat} (hi : i < L.length) (x : Fl) :
    OwnFl ((w.setCell ⟨g, i * 2, none⟩ (.int .u64 x.f0)).setCell ⟨g, i * 2 + 1, none⟩ (.int .i64 x.f1)) base (.slice (some ⟨g, 0, none⟩) n cap) (L.set i x) := by
  obtain ⟨hn, cur, h1, h2, h3, h4, h5, h6⟩ := h.block
  rw [setCell_eq_setRow w g (i * 2) cur _ _ _ h2, setCell_eq_setRow _ g (i * 2 + 1) _ _ _ _ (setRow_heap w g cur _ _ _ h2), setRow_setRow]
  subst hn
  rw [show L.length = (L.set i x).length by simp]
  refine OwnFl.mk h1 (setRow_heap w g cur _ _ _ h2) (by simpa using h3) h4 (by simp [h5]) ?_
  rw [flat_set x L i hi, ← h6]
  simp [List.take_set]
theorem zero_len : (Builtin.zeroCells (Value.agg #[.int .u64 0, .int .i64 0]).cells 1).size = 2 := by rw [size_zeroCells]; rfl
theorem zero_fl (w : World) : (zeroValue 43).run Tryd.prog w = .ok (.agg #[.int .u64 0, .int .i64 0]) w := by kernel_rfl
theorem zero_one (m : Nat) : ∀ v ∈ (Builtin.zeroCells (Value.agg #[.int .u64 0, .int .i64 0]).cells m).toList, v.oneCell' = true := by
  intro v hv
  simp only [Builtin.zeroCells, Value.cells, Array.toList_map, List.mem_map] at hv
  obtain ⟨j, _, rfl⟩ := hv
  have : j % 2 = 0 ∨ j % 2 = 1 := by omega
  show (#[Value.int .u64 0, .int .i64 0][j % 2]!).oneCell' = true
  rcases this with h | h <;> rw [h] <;> rfl
theorem OwnFl.cut {w : World} {base g n cap : Nat} {L : List Fl} (h : OwnFl w base (.slice (some ⟨g, 0, none⟩) n cap) L) {i : Nat} (hi : i < L.length) :
    ∃ row : Array Value, (∀ ty, (Builtin.clear_ #[22] ty #[.slice (some ⟨g, i * 2, none⟩) (n - i) (cap - i)]).run Tryd.prog w = .ok (.tuple #[]) (w.setRow g row)) ∧ OwnFl (w.setRow g row) base (.slice (some ⟨g, 0, none⟩) i cap) (L.take i) := by
  obtain ⟨hn, cur, h1, h2, h3, h4, h5, h6⟩ := h.block
  obtain ⟨m, hm⟩ : ∃ m, n - i = m + 1 := ⟨n - i - 1, by omega⟩
  obtain ⟨Z, hZ⟩ : ∃ Z, Z = (Builtin.zeroCells (Value.agg #[.int .u64 0, .int .i64 0]).cells (m + 1)).toList := ⟨_, rfl⟩
  have hZl : Z.length = (m + 1) * 2 := by rw [hZ, Array.length_toList, size_zeroCells]; rfl
  have hst := run_storeCells_at Tryd.prog g (i * 2) _ Z 0 cur w h2 (by rw [hZl]; omega) (by rw [hZ]; exact zero_one _)
  simp only [Nat.add_zero] at hst
  refine ⟨(cur.toList.take (i * 2) ++ Z ++ cur.toList.drop (i * 2 + Z.length)).toArray, ?_, ?_⟩
  · intro ty
    rw [hm]
    simp [Builtin.clear_, run_underlying Tryd.underlying22, zero_fl, ← hZ, hst]
  · have hl : (L.take i).length = i := by rw [List.length_take]; omega
    have hcl : cur.toList.length = cap * 2 := by rw [Array.length_toList, h5]
    rw [show (Value.slice (some ⟨g, 0, none⟩) i cap) = .slice (some ⟨g, 0, none⟩) (L.take i).length cap by rw [hl]]
    refine OwnFl.mk h1 (setRow_heap w g cur _ _ _ h2) (by omega) h4 (by simp only [List.size_toArray, List.length_append, List.length_take, List.length_drop, hcl, hZl]; omega) ?_
    rw [hl, ← flat_take enc_len, ← h6, List.take_take, show min (i * 2) (n * 2) = i * 2 by omega]
    rw [List.append_assoc, List.take_append_of_le_length (by simp only [List.length_take, hcl]; omega), List.take_take, Nat.min_self]

theorem OwnFl.later {w w' : World} {base : Nat} {v : Value} {L : List Fl} (h : OwnFl w base v L) (hb : Below w.heap.size w w') : OwnFl w' base v L := OwnFl.of_R (Kd.R_below h.to_R hb)
theorem grown_below {w w' : World} {r : Option Nat} (h : Below w.heap.size w w') : w.grownBy w' r := ⟨h.os, h.tape, h.output, h.size, fun k hk _ => h.block k hk⟩
theorem grown_row {w w' : World} {g : Nat} (h : w.grownBy w' (some g)) (row : Array Value) : w.grownBy (w'.setRow g row) (some g) :=
  ⟨h.os, h.tape, h.output, Nat.le_trans h.size (by simp), fun k hk hn => (setRow_ne w' g k row (fun e => hn (by rw [e]))).trans (h.block k hk hn)⟩
theorem setCells_row (b : Nat) (t : TypeId) (fr : Nat × Nat) : ∀ (vs : List Value) (o : Nat) (w : World) (cur : Array Value), w.heap[b]? = some (.cells cur t fr) → o + vs.length ≤ cur.size →
    w.setCells b o vs = w.setRow b (cur.toList.take o ++ vs ++ cur.toList.drop (o + vs.length)).toArray
  | [], o, w, cur, h, hl => by
    rw [World.setCells, List.append_nil, List.length_nil, Nat.add_zero, List.take_append_drop]
    exact (setRow_self w b cur t fr h).symm
  | v :: r, o, w, cur, h, hl => by
    have hl' : o + 1 + r.length ≤ cur.size := by rw [List.length_cons] at hl; omega
    have hc : cur.toList.length = cur.size := Array.length_toList
    rw [World.setCells, setCell_eq_setRow w b o cur t fr v h, setCells_row b t fr r (o + 1) _ _ (setRow_heap w b cur _ t fr h) (by simpa using hl'), setRow_setRow]
    congr 1
    congr 1
    rw [Array.toList_setIfInBounds, List.length_cons, show o + (r.length + 1) = o + 1 + r.length by omega]
    have h1 : (cur.toList.set o v).take (o + 1) = cur.toList.take o ++ [v] := by
      rw [List.take_succ_eq_append_getElem (by rw [List.length_set]; omega), List.getElem_set_self, List.take_set_of_le (Nat.le_refl o)]
    have h2 : (cur.toList.set o v).drop (o + 1 + r.length) = cur.toList.drop (o + 1 + r.length) := by
      rw [List.drop_set, if_pos (by omega)]
    rw [h1, h2]
    simp

set_option maxHeartbeats 4000000 in
set_option maxRecDepth 100000 in
/-- slices.Delete of the floor at i. -/
theorem DelF_any (base g cap i : Nat) (xs : List Fl) (w : World) (hO : OwnFl w base (.slice (some ⟨g, 0, none⟩) xs.length cap) xs) (hi : i < xs.length) (hl : xs.length ≤ 1000000) :
    Calls Tryd.prog 41 #[.slice (some ⟨g, 0, none⟩) xs.length cap, .int .i64 i, .int .i64 ((i : Int) + 1)] w fun e w' => e = .returned (.slice (some ⟨g, 0, none⟩) (xs.length - 1) cap) ∧ OwnFl w' base (.slice (some ⟨g, 0, none⟩) (xs.length - 1) cap) (xs.eraseIdx i) ∧ w.grownBy w' (some g) := by
  obtain ⟨n, hn⟩ : ∃ n, xs.length = n := ⟨_, rfl⟩
  obtain ⟨_, cur, h1, h2, h3, h4, h5, h6⟩ := hO.block
  rw [hn] at h3 h6 hl hi ⊢
  have hfl := flat_len enc_len xs
  rw [hn] at hfl
  have hcap63 : cap ≤ 9223372036854775807 := h4
  have hcl : cur.toList.length = cap * 2 := by rw [Array.length_toList, h5]
  obtain ⟨i0, hi0, hz0, hz1, hz2⟩ := info_parts info_fl2
  obtain ⟨news, hnews⟩ : ∃ news, news = (xs.flatMap encF).drop ((i + 1) * 2) := ⟨_, rfl⟩
  have hnl : news.length = (n - (i + 1)) * 2 := by rw [hnews, List.length_drop, hfl]; omega
  obtain ⟨A, hA, hsrc⟩ : ∃ A : Addr, (if cap = i + 1 then some (⟨g, 0, none⟩ : Addr) else some ⟨g, (i + 1) * 2, none⟩) = some A ∧ Hid (∀ j u, news[j]? = some u → w.drew.cell? (A.add j) = some u) := by
    by_cases h : cap = i + 1
    · refine ⟨⟨g, 0, none⟩, by simp [h], fun j u hu => ?_⟩
      have h0 : news.length = 0 := by rw [hnl]; omega
      rw [List.length_eq_zero_iff.1 h0] at hu
      simp at hu
    · refine ⟨⟨g, (i + 1) * 2, none⟩, by simp [h], fun j u hu => ?_⟩
      rw [addr_add, cell_row (w := w.drew) h2]
      rw [hnews, List.getElem?_drop, ← h6, List.getElem?_take] at hu
      split at hu
      · simpa using hu
      · cases hu
  have s2 : Hid (∀ u ∈ news, u.oneCell' = true) := fun u hu => enc_one xs u (by rw [hnews] at hu; exact List.mem_of_mem_drop hu)
  have s3 : Hid (∀ j, j < news.length → (w.drew.cell? ⟨g, 0 + i * 2 + j, none⟩).isSome = true ∧ w.drew.frozen? ⟨g, 0 + i * 2 + j, none⟩ = false) := by
    intro j hj
    rw [hnl] at hj
    refine ⟨?_, (show w.frozen? _ = false by simp [World.frozen?, h2])⟩
    rw [cell_row (w := w.drew) h2, Array.getElem?_eq_getElem (by omega)]
    rfl
  obtain ⟨row, hrow⟩ : ∃ row, row = (cur.toList.take (i * 2) ++ news ++ cur.toList.drop (i * 2 + news.length)).toArray := ⟨_, rfl⟩
  have hW1 : w.drew.setCells g (0 + i * 2) news = w.drew.setRow g row := by
    rw [Nat.zero_add, hrow]
    exact setCells_row g _ _ news (i * 2) w.drew cur h2 (by omega)
  have hrs : row.size = cap * 2 := by rw [hrow]; simp only [List.size_toArray, List.length_append, List.length_take, List.length_drop, hcl, hnl]; omega
  have hA1 : cur.toList.take (i * 2) = (xs.take i).flatMap encF := by
    rw [← flat_take enc_len, ← h6, List.take_take, show min (i * 2) (n * 2) = i * 2 by omega]
  have hrt : row.toList.take (n * 2) = (xs.eraseIdx i ++ [fget xs (n - 1)]).flatMap encF := by
    have hlast : cur.toList.drop (i * 2 + news.length) = (cur.toList.drop ((n - 1) * 2)) := by rw [hnl, show i * 2 + (n - (i + 1)) * 2 = (n - 1) * 2 by omega]
    have hl2 : (cur.toList.drop ((n - 1) * 2)).take 2 = encF (fget xs (n - 1)) := by
      rw [List.take_drop, show (n - 1) * 2 + 2 = n * 2 by omega, h6, flat_drop enc_len, fget_eq (show n - 1 < xs.length by omega), List.drop_eq_getElem_cons (show n - 1 < xs.length by omega), List.drop_of_length_le (by omega)]
      simp
    have hll : (cur.toList.take (i * 2) ++ news).length = (n - 1) * 2 := by rw [List.length_append, List.length_take, hcl, hnl]; omega
    rw [hrow, hlast, List.toList_toArray, List.take_append, hll, List.take_of_length_le (by omega), show n * 2 - (n - 1) * 2 = 2 by omega, hl2, hA1, hnews, flat_drop enc_len, List.flatMap_append, List.eraseIdx_eq_take_drop_succ, List.flatMap_append]
    simp
  have hel : (xs.eraseIdx i ++ [fget xs (n - 1)]).length = n := by rw [List.length_append, List.length_eraseIdx, hn, if_pos hi, List.length_singleton]; omega
  have hO1 : OwnFl (w.drew.setRow g row) base (.slice (some ⟨g, 0, none⟩) n cap) (xs.eraseIdx i ++ [fget xs (n - 1)]) := by
    have := OwnFl.mk (w := w.drew.setRow g row) (base := base) (L := xs.eraseIdx i ++ [fget xs (n - 1)]) h1 (setRow_heap w.drew g cur row _ _ h2) (by rw [hel]; exact h3) h4 hrs (by rw [hel]; exact hrt)
    rw [hel] at this
    exact this
  obtain ⟨row2, hclr, hO2⟩ := hO1.cut (i := n - 1) (by rw [hel]; omega)
  rw [List.take_append_of_le_length (by rw [List.length_eraseIdx, hn, if_pos hi]; omega), List.take_of_length_le (by rw [List.length_eraseIdx, hn, if_pos hi]; omega)] at hO2
  have HO2 := Lib.hid hO2
  have HW1 := Lib.hid hW1
  have s1 := Lib.hid hnl
  have hic : i ≤ cap := by omega
  have hjc : i + 1 ≤ cap := by omega
  have hwr : IntKind.i64.wrap ((i : Int) + 1) = (i : Int) + 1 := by rw [IntKind.wrap_i64]; omega
  have hp0 : (0 : Int) ≤ (i : Int) + 1 := by omega
  have hp1 : (i : Int) + 1 ≤ (n : Int) := by omega
  have hp2 : ((i : Int) + 1).toNat = i + 1 := by omega
  have hp3 : ¬ ((i : Int) = (i : Int) + 1) := by omega
  have hp4 : i + (n - (i + 1)) = n - 1 := by omega
  have hp5 : ¬ (cap = n - 1) := by omega
  have mixed : Tryd.prog.follows Departure.mixedOrders = true := by kernel_rfl
  clear hO hO1 hO2 hW1 hnl hrow hrs hrt hA1 h6 h5 hcl hfl hnews hel hn
  go_enter Tryd.func41, Tryd.ntmps41
  go_wp2_with fail
  go_region_law_o (refine step_append_room rfl (.tmp 22) (.tmp 25) 22 rfl 43 i0 2 Tryd.underlying22 hi0 hz1 g 0 i cap (by simp [Act.eval, Act.put]) A (n - (i + 1)) (cap - (i + 1)) news (by simp [Act.eval, Act.put]) s1.out hsrc.out s2.out (by omega) s3.out ?_; rw [HW1.out])
  go_wp2
  go_ret
  exact ⟨rfl, HO2.out, grown_row (grown_row (grown_below (Drawn0.below ⟨1, rfl⟩)) _) _⟩
end Go.Proofs.YtmoiochblmdgfaaDoor
namespace Go.Proofs.YtmoiochblmdgfaaDoor
set_option linter.unusedVariables false
set_option linter.unusedSimpArgs false
open Go.RowKit Go.Proofs.YtmoiochblmdgfaaDoorW.PrintWords
attribute [local go_sem ↓] Go.wp_at_zero Go.wp_at_succ

theorem bel_grown {n : Nat} {w w1 w2 : World} {g : Nat} (h : Below n w w1) (hn : n ≤ w1.heap.size) (hg : w1.grownBy w2 (some g)) (hng : n ≤ g) : Below n w w2 :=
  ⟨hg.os.trans h.os, hg.tape.trans h.tape, hg.output.trans h.output, Nat.le_trans h.size hg.size, fun k hk => (hg.block k (by omega) (fun e => by injection e with e; omega)).trans (h.block k hk)⟩
def delL (L : List Fl) (h : Int) : List Fl := if hasF L h = true then L.eraseIdx (lbF L h) else L

set_option maxHeartbeats 2000000 in
set_option maxRecDepth 100000 in
theorem Rel_any (low : Int) (A : Option Addr) (c : Nat) (L : List Fl) (h : Int) (w : World) (hC : kF.C w A L.length L) (hL : L.length < 1000) (hR : Ris L) :
    Calls Tryd.prog 19 #[.agg #[.int .i64 low, .slice A L.length c], .int .u64 h] w (FlPost w low (delL L h)) := by
  have HC := Lib.hid hC
  have HR := Lib.hid hR
  clear hC hR
  go_enter Tryd.func19, Tryd.ntmps19
  go_wp2_with fail
  have hbox : ((w.alloc (.cells #[.int .i64 low, .slice A L.length c] 24)).alloc (.cells #[.int .i64 0, .slice none 0 0] 24)).heap[w.heap.size]? = some (.cells #[.int .i64 low, .slice A L.length c] 24 (0, 0)) := (Below.heap_alloc _ _ _ (by simp)).trans (heap_alloc_new _ _)
  have hzer : ((w.alloc (.cells #[.int .i64 low, .slice A L.length c] 24)).alloc (.cells #[.int .i64 0, .slice none 0 0] 24)).heap[w.heap.size + 1]? = some (.cells #[.int .i64 0, .slice none 0 0] 24 (0, 0)) := by
    have := heap_alloc_new (w.alloc (.cells #[.int .i64 low, .slice A L.length c] 24)) (.cells #[.int .i64 0, .slice none 0 0] 24)
    simpa using this
  have hbel : Below w.heap.size w ((w.alloc (.cells #[.int .i64 low, .slice A L.length c] 24)).alloc (.cells #[.int .i64 0, .slice none 0 0] 24)) := ((Below.refl _ _).alloc (Nat.le_refl _) _).alloc (by simp) _
  have hsz : w.heap.size + 2 = ((w.alloc (.cells #[.int .i64 low, .slice A L.length c] 24)).alloc (.cells #[.int .i64 0, .slice none 0 0] 24)).heap.size := by simp
  have HZER := Lib.hid hzer
  have HBEL := Lib.hid hbel
  have HSZ := Lib.hid hsz
  clear hbox hzer hbel hsz
  generalize (w.alloc (.cells #[.int .i64 low, .slice A L.length c] 24)).alloc (.cells #[.int .i64 0, .slice none 0 0] 24) = w2 at *
  refine (Copy_any low A c L _ (Kd.C_below HC.out HBEL.out) hL).mono ?_
  rintro e w3 hp
  obtain ⟨A3, c3, rfl, hc3, hC3, hR3, hb3⟩ := hp.reads
  have R3 := Lib.hid hR3
  have B3 := Lib.hid hb3
  have Z3 := Lib.hid ((hb3.block (w.heap.size + 1) (by have := HSZ.out; omega)).trans HZER.out)
  have C3 := Lib.hid hC3
  clear hp hC3 hR3 hb3
  go_wp2_with fail
  have HLT := Lib.hid (show w3.heap.size < (w3.alloc (.cells #[.int .i64 low, .slice A3 L.length c3] 24)).heap.size by simp)
  have HO3 := Lib.hid (heap_alloc_new w3 (.cells #[.int .i64 low, .slice A3 L.length c3] 24))
  have B4 := Lib.hid (B3.out.trans ((bel_alloc w3 (.cells #[.int .i64 low, .slice A3 L.length c3] 24)).mono B3.out.size))
  have B34 := Lib.hid (bel_alloc w3 (.cells #[.int .i64 low, .slice A3 L.length c3] 24))
  have HS3 := Lib.hid B3.out.size
  generalize w3.alloc (.cells #[.int .i64 low, .slice A3 L.length c3] 24) = w4 at *
  refine (find_any low A3 c3 L h _ (Kd.C_below C3.out B34.out) hL HR.out).mono ?_
  rintro e w5 ⟨rfl, b5⟩
  have B45 := Lib.hid b5
  have B5 := Lib.hid (B4.out.trans (b5.mono B4.out.size))
  have R5 := Lib.hid (Kd.R_below (Kd.R_below R3.out B34.out) b5)
  have O5 := Lib.hid ((b5.block _ HLT.out).trans HO3.out)
  have Z5 := Lib.hid ((B5.out.block (w.heap.size + 1) (by have := HSZ.out; omega)).trans HZER.out)
  have hne : w.heap.size + 1 ≠ w3.heap.size := by have := HSZ.out; have := HS3.out; omega
  clear b5 C3 R3 HO3 B4 B34 Z3
  have o0 : w5.cell? ⟨w3.heap.size, 0, none⟩ = some (.int .i64 low) := cell_of_row w5 _ 0 _ _ (0, 0) O5.out
  have o1 : w5.cell? ⟨w3.heap.size, 1, none⟩ = some (.slice A3 L.length c3) := cell_of_row w5 _ 1 _ _ (0, 0) O5.out
  have z0 : w5.cell? ⟨w.heap.size + 1, 0, none⟩ = some (.int .i64 0) := cell_of_row w5 _ 0 _ _ (0, 0) Z5.out
  have z1 : w5.cell? ⟨w.heap.size + 1, 1, none⟩ = some (.slice none 0 0) := cell_of_row w5 _ 1 _ _ (0, 0) Z5.out
  have f0 : w5.frozen? ⟨w.heap.size + 1, 0, none⟩ = false := by simp [World.frozen?, Z5.out]
  have f1 : w5.frozen? ⟨w.heap.size + 1, 1, none⟩ = false := by simp [World.frozen?, Z5.out]
  cases hh : hasF L h with
  | false =>
    have HD := Lib.hid (show delL L h = L by rw [delL, hh]; rfl)
    clear hh
    go_wp2_with fail
    obtain ⟨q1, q2⟩ := set2 Z5.out (.int .i64 low) (.slice A3 L.length c3)
    refine bodyPost_ret (results_c rfl _ _ (w.heap.size + 1) 24 #[.int .i64 low, .slice A3 L.length c3] (0, 0) _ rfl q1 Tryd.underlying24 rfl (by kernel_rfl)) rfl ?_
    refine ⟨A3, _, c3, rfl, by rw [HD.out], ?_, ?_⟩
    · rw [HD.out]
      exact Kd.R_lower (R_put2 R5.out Z5.out _ _) (by have := HSZ.out; omega)
    · exact HBEL.out.trans (((B5.out.mono (show w.heap.size + 1 ≤ w2.heap.size by have := HSZ.out; omega)).setCell (p := ⟨w.heap.size + 1, 0, none⟩) (Nat.le_refl _) _).setCell (p := ⟨w.heap.size + 1, 1, none⟩) (Nat.le_refl _) _ |>.mono (by omega))
  | true =>
    have HD := Lib.hid (show delL L h = L.eraseIdx (lbF L h) by rw [delL, hh]; rfl)
    have hp : lbF L h < L.length := (of_decide_eq_true hh).1
    have HOW := Lib.hid (OwnFl.of_R R5.out)
    clear hh
    rcases HOW.out.2 with ⟨_, h0⟩ | ⟨g, cap, cur, hv, hbg, hg, hnc, hcap, hsz, htk⟩
    · omega
    · injection hv with e1 e2 e3
      subst e1
      subst e3
      have hg3 : g ≠ w3.heap.size := fun e => by rw [e, O5.out] at hg; cases hg
      have hgz : g ≠ w.heap.size + 1 := fun e => by rw [e, Z5.out] at hg; cases hg
      have HG := Lib.hid hbg
      have hgl := (Array.getElem?_eq_some_iff.1 hg).1
      clear hg hnc hsz htk hcap cur hbg
      have HDEL := Lib.hid (DelF_any w2.heap.size g c3 (lbF L h) L w5 HOW.out hp (by omega))
      have hwr : IntKind.i64.wrap ((lbF L h : Int) + 1) = (lbF L h : Int) + 1 := by rw [IntKind.wrap_i64]; omega
      generalize lbF L h = p at *
      go_wp2_with fail
      refine HDEL.out.mono ?_
      rintro e w6 ⟨rfl, hO6, hg6⟩
      have R6 := Lib.hid hO6.to_R
      have O6 := Lib.hid ((hg6.block w3.heap.size (World.block_lt_of_cell? w5 _ o0) (fun e => hg3 (by injection e with e; exact e.symm))).trans O5.out)
      have Z6 := Lib.hid ((hg6.block (w.heap.size + 1) (World.block_lt_of_cell? w5 _ z0) (fun e => hgz (by injection e with e; exact e.symm))).trans Z5.out)
      have G6 := Lib.hid hg6
      clear hO6 hg6 o0 o1 z0 z1 f0 f1
      have o0 : w6.cell? ⟨w3.heap.size, 0, none⟩ = some (.int .i64 low) := cell_of_row w6 _ 0 _ _ (0, 0) O6.out
      have o1 : w6.cell? ⟨w3.heap.size, 1, none⟩ = some (.slice (some ⟨g, 0, none⟩) L.length c3) := cell_of_row w6 _ 1 _ _ (0, 0) O6.out
      have z0 : w6.cell? ⟨w.heap.size + 1, 0, none⟩ = some (.int .i64 0) := cell_of_row w6 _ 0 _ _ (0, 0) Z6.out
      have z1 : w6.cell? ⟨w.heap.size + 1, 1, none⟩ = some (.slice none 0 0) := cell_of_row w6 _ 1 _ _ (0, 0) Z6.out
      have f0 : w6.frozen? ⟨w.heap.size + 1, 0, none⟩ = false := by simp [World.frozen?, Z6.out]
      have f1 : w6.frozen? ⟨w.heap.size + 1, 1, none⟩ = false := by simp [World.frozen?, Z6.out]
      have f2 : w6.frozen? ⟨w3.heap.size, 1, none⟩ = false := by simp [World.frozen?, O6.out]
      go_wp2_with fail
      have B6 := Lib.hid (bel_grown B5.out B5.out.size G6.out HG.out)
      have HZ6 := Lib.hid ((Below.heap_setCell w6 ⟨w3.heap.size, 1, none⟩ (.slice (some ⟨g, 0, none⟩) (L.length - 1) c3) (w.heap.size + 1) hne).trans Z6.out)
      obtain ⟨q1, q2⟩ := set2 HZ6.out (.int .i64 low) (.slice (some ⟨g, 0, none⟩) (L.length - 1) c3)
      refine bodyPost_ret (results_c rfl _ _ (w.heap.size + 1) 24 #[.int .i64 low, .slice (some ⟨g, 0, none⟩) (L.length - 1) c3] (0, 0) _ rfl q1 Tryd.underlying24 rfl (by kernel_rfl)) rfl ?_
      refine ⟨some ⟨g, 0, none⟩, L.length - 1, c3, rfl, by rw [HD.out, List.length_eraseIdx, if_pos hp], ?_, ?_⟩
      · rw [HD.out]
        exact Kd.R_lower (R_put2 (Kd.R_set R6.out O6.out (by decide) 1 _) HZ6.out _ _) (by have := HSZ.out; omega)
      · exact HBEL.out.trans ((((B6.out.mono (show w.heap.size + 1 ≤ w2.heap.size by have := HSZ.out; omega)).setCell (p := ⟨w3.heap.size, 1, none⟩) (by have := HS3.out; have := HSZ.out; show w.heap.size + 1 ≤ w3.heap.size; omega) _).setCell (p := ⟨w.heap.size + 1, 0, none⟩) (Nat.le_refl _) _).setCell (p := ⟨w.heap.size + 1, 1, none⟩) (Nat.le_refl _) _ |>.mono (by omega))
end Go.Proofs.YtmoiochblmdgfaaDoor
namespace Go.Proofs.YtmoiochblmdgfaaDoor
set_option linter.unusedVariables false
set_option linter.unusedSimpArgs false
open Go.RowKit Go.Proofs.YtmoiochblmdgfaaDoorW.PrintWords
attribute [local go_sem ↓] Go.wp_at_zero Go.wp_at_succ

theorem cmpR_any (x0 x1 y0 y1 : Int) (w : World) (h1 : 0 ≤ x1) (h2 : x1 ≤ 1099511627776) (h3 : 0 ≤ y1) (h4 : y1 ≤ 1099511627776) :
    Calls Tryd.prog 40 #[.agg #[.int .u64 x0, .int .i64 x1], .agg #[.int .u64 y0, .int .i64 y1]] w fun e w' => e = .returned (.int .i64 (x1 - y1)) ∧ Below w.heap.size w w' := by
  have H := Lib.hid (show IntKind.i64.wrap (x1 - y1) = x1 - y1 by rw [IntKind.wrap_i64]; omega)
  go_enter Tryd.func40, Tryd.ntmps40
  go_wp2
  go_ret
  refine ⟨ret_i ?_, (bel_alloc _ _).trans ((bel_alloc _ _).mono (by simp))⟩
  omega

set_option maxHeartbeats 2000000 in
set_option maxRecDepth 100000 in
theorem Min_any (A : Option Addr) (c : Nat) (L : List Fl) (w : World) (hC : kF.C w A L.length L) (hL : L.length < 1000) (h0 : 0 < L.length) (hb : ∀ x ∈ L, 0 ≤ x.f1 ∧ x.f1 ≤ 1099511627776) :
    Calls Tryd.prog 39 #[.slice A L.length c, .func (.func 40) #[] #[]] w fun e w' => ∃ x : Fl, e = .returned (.agg #[.int .u64 x.f0, .int .i64 x.f1]) ∧ x ∈ L ∧ (∀ y ∈ L, x.f1 ≤ y.f1) ∧ Below w.heap.size w w' := by
  have HC := Lib.hid hC
  have HB := Lib.hid (show ∀ k, k < L.length → 0 ≤ (fget L k).f1 ∧ (fget L k).f1 ≤ 1099511627776 from fun k hk => by rw [fget_eq hk]; exact hb _ (List.getElem_mem hk))
  clear hC hb
  go_enter Tryd.func39, Tryd.ntmps39
  have hA := at_fl (Kd.C_below HC.out (bel_alloc w (.cells #[.int .u64 0, .int .i64 0] 43))) h0
  obtain ⟨ad, hA, c0, c1⟩ := hA
  subst hA
  have had : ad.add (0 * 2) = ad := by unfold Addr.add; simp
  rw [had] at c0 c1
  have hbel : Below w.heap.size w ((w.alloc (.cells #[.int .u64 0, .int .i64 0] 43)).alloc (.cells #[.int .u64 (fget L 0).f0, .int .i64 (fget L 0).f1] 43)) := ((Below.refl _ _).alloc (Nat.le_refl _) _).alloc (by simp) _
  have hz : ((w.alloc (.cells #[.int .u64 0, .int .i64 0] 43)).alloc (.cells #[.int .u64 (fget L 0).f0, .int .i64 (fget L 0).f1] 43)).heap[w.heap.size]? = some (.cells #[.int .u64 0, .int .i64 0] 43 (0, 0)) := (Below.heap_alloc _ _ _ (by simp)).trans (heap_alloc_new _ _)
  have ho : ((w.alloc (.cells #[.int .u64 0, .int .i64 0] 43)).alloc (.cells #[.int .u64 (fget L 0).f0, .int .i64 (fget L 0).f1] 43)).heap[w.heap.size + 1]? = some (.cells #[.int .u64 (fget L 0).f0, .int .i64 (fget L 0).f1] 43 (0, 0)) := by
    have := heap_alloc_new (w.alloc (.cells #[.int .u64 0, .int .i64 0] 43)) (.cells #[.int .u64 (fget L 0).f0, .int .i64 (fget L 0).f1] 43)
    simpa using this
  have HBEL := Lib.hid hbel
  have HZ := Lib.hid hz
  have HO := Lib.hid ho
  clear hbel hz ho had
  go_wp2_with fail
  generalize (w.alloc (.cells #[.int .u64 0, .int .i64 0] 43)).alloc (.cells #[.int .u64 (fget L 0).f0, .int .i64 (fget L 0).f1] 43) = w2 at *
  clear c0 c1
  go_loopw [6] (fun i wr => ∃ k : Nat, 1 ≤ k ∧ k ≤ L.length ∧ i = .int .i64 k ∧ Hid (∃ x : Fl, x ∈ L ∧ (∀ j, j < k → x.f1 ≤ (fget L j).f1) ∧ Below w.heap.size w wr ∧ wr.heap[w.heap.size]? = some (.cells #[.int .u64 0, .int .i64 0] 43 (0, 0)) ∧ wr.heap[w.heap.size + 1]? = some (.cells #[.int .u64 x.f0, .int .i64 x.f1] 43 (0, 0)))) (fun i _ => L.length - (intOf i).toNat)
  case atStart =>
    refine ⟨1, Nat.le_refl _, h0, rfl, fget L 0, by rw [fget_eq h0]; exact List.getElem_mem h0, fun j hj => ?_, HBEL.out, HZ.out, HO.out⟩
    obtain rfl : j = 0 := by omega
    exact Int.le_refl _
  case round =>
    obtain ⟨k, hk1, hk2, rfl, HR⟩ := hrel
    obtain ⟨x, HR⟩ : ∃ x : Fl, Hid (x ∈ L ∧ (∀ j, j < k → x.f1 ≤ (fget L j).f1) ∧ Below w.heap.size w wr ∧ wr.heap[w.heap.size]? = some (.cells #[.int .u64 0, .int .i64 0] 43 (0, 0)) ∧ wr.heap[w.heap.size + 1]? = some (.cells #[.int .u64 x.f0, .int .i64 x.f1] 43 (0, 0))) := HR.out
    have o0 : wr.cell? ⟨w.heap.size + 1, 0, none⟩ = some (.int .u64 x.f0) := cell_of_row wr _ 0 _ _ (0, 0) HR.out.2.2.2.2
    have o1 : wr.cell? ⟨w.heap.size + 1, 1, none⟩ = some (.int .i64 x.f1) := cell_of_row wr _ 1 _ _ (0, 0) HR.out.2.2.2.2
    by_cases hlt : k < L.length
    · have hCr : kF.C wr (some ad) L.length L := Kd.C_below HC.out HR.out.2.2.1
      have hc := at_fl hCr hlt
      obtain ⟨ad', hA, c0, c1⟩ := hc
      injection hA with hA
      subst hA
      have i1 : (0 : Int) ≤ (k : Int) := by omega
      have i2 : (k : Int) < (L.length : Int) := by omega
      have hxb : 0 ≤ x.f1 ∧ x.f1 ≤ 1099511627776 := by
        obtain ⟨j, hj, hx⟩ := List.mem_iff_getElem.1 HR.out.1
        have := HB.out j hj
        rw [fget_eq hj, hx] at this
        exact this
      have hyb := HB.out k hlt
      have HCALL := Lib.hid (fun W => cmpR_any (fget L k).f0 (fget L k).f1 x.f0 x.f1 W hyb.1 hyb.2 hxb.1 hxb.2)
      have f0 : wr.frozen? ⟨w.heap.size + 1, 0, none⟩ = false := by simp [World.frozen?, HR.out.2.2.2.2]
      have f1 : wr.frozen? ⟨w.heap.size + 1, 1, none⟩ = false := by simp [World.frozen?, HR.out.2.2.2.2]
      clear hCr hxb hyb
      go_wp2_with fail
      have HX := Lib.hid (show ∀ W, Below wr.heap.size wr W → W.cell? (ad.add (k * 2)) = some (.int .u64 (fget L k).f0) ∧ W.cell? ⟨(ad.add (k * 2)).block, (ad.add (k * 2)).off + 1, none⟩ = some (.int .i64 (fget L k).f1) ∧ W.cell? ⟨w.heap.size + 1, 0, none⟩ = some (.int .u64 x.f0) ∧ W.cell? ⟨w.heap.size + 1, 1, none⟩ = some (.int .i64 x.f1) from fun W hW => ⟨(hW.cell (p := (ad.add (k * 2))) (World.block_lt_of_cell? wr _ c0)).trans c0, (hW.cell (p := ⟨(ad.add (k * 2)).block, (ad.add (k * 2)).off + 1, none⟩) (World.block_lt_of_cell? wr _ c1)).trans c1, (hW.cell (p := ⟨w.heap.size + 1, 0, none⟩) (World.block_lt_of_cell? wr _ o0)).trans o0, (hW.cell (p := ⟨w.heap.size + 1, 1, none⟩) (World.block_lt_of_cell? wr _ o1)).trans o1⟩)
      have b0 := Lib.hid (show Below wr.heap.size wr wr.drew from Drawn0.below ⟨1, rfl⟩)
      have hlo := World.block_lt_of_cell? wr _ o0
      have HLO := Lib.hid (show w.heap.size + 1 < wr.heap.size from hlo)
      clear o0 o1 c0 c1 f0 f1 hlo
      go_region_held3 (fun w' => w'.cell? (ad.add (k * 2)) = some (.int .u64 (fget L k).f0) ∧ w'.cell? ⟨(ad.add (k * 2)).block, (ad.add (k * 2)).off + 1, none⟩ = some (.int .i64 (fget L k).f1) ∧ w'.cell? ⟨w.heap.size + 1, 0, none⟩ = some (.int .u64 x.f0) ∧ w'.cell? ⟨w.heap.size + 1, 1, none⟩ = some (.int .i64 x.f1))
        (first | exact HX.out _ b0.out | exact HX.out _ b5.out)
        ((go_at_call 40; ((with_reducible refine (HCALL.out _).mono ?_)); rintro e w5 ⟨rfl, hb⟩; have b5 := Lib.hid (show Below wr.heap.size wr w5 from b0.out.trans hb); clear hb))
      have B5 := Lib.hid (HR.out.2.2.1.trans (b5.out.mono HR.out.2.2.1.size))
      have Z5 := Lib.hid ((b5.out.block w.heap.size (by have := HLO.out; omega)).trans HR.out.2.2.2.1)
      have O5 := Lib.hid ((b5.out.block (w.heap.size + 1) HLO.out).trans HR.out.2.2.2.2)
      obtain ⟨c0, c1, o0, o1⟩ := HX.out _ b5.out
      have f0 : w5.frozen? ⟨w.heap.size + 1, 0, none⟩ = false := by simp [World.frozen?, O5.out]
      have f1 : w5.frozen? ⟨w.heap.size + 1, 1, none⟩ = false := by simp [World.frozen?, O5.out]
      have hwk : wrap64 ((k : Int) + 1) = (k : Int) + 1 := by unfold wrap64; omega
      by_cases hx : (fget L k).f1 < x.f1
      · have hx' : (fget L k).f1 - x.f1 < 0 := by omega
        have HX2 := Lib.hid hx
        clear hx
        go_wp2_with fail
        obtain ⟨q1, q2⟩ := set2 O5.out (.int .u64 (fget L k).f0) (.int .i64 (fget L k).f1)
        have Q1 := Lib.hid q1
        clear q1 q2
        go_roundw
        case rel =>
          refine ⟨k + 1, by omega, by omega, by go_num, fget L k, by rw [fget_eq hlt]; exact List.getElem_mem hlt, fun j hj => ?_, ?_, ?_, Q1.out⟩
          · have h9 := HX2.out
            rcases Nat.lt_or_ge j k with h8 | h8
            · have := HR.out.2.1 j h8
              omega
            · obtain rfl : j = k := by omega
              exact Int.le_refl _
          · exact ((B5.out.mono (Nat.le_refl _)).setCell (p := ⟨w.heap.size + 1, 0, none⟩) (by show w.heap.size ≤ w.heap.size + 1; omega) _).setCell (p := ⟨w.heap.size + 1, 1, none⟩) (by show w.heap.size ≤ w.heap.size + 1; omega) _
          · exact (Below.heap_setCell _ ⟨w.heap.size + 1, 1, none⟩ _ w.heap.size (by simp)).trans ((Below.heap_setCell w5 ⟨w.heap.size + 1, 0, none⟩ _ w.heap.size (by simp)).trans Z5.out)
        case measure => simp [intOf]; omega
      · have hx' : ¬ (fget L k).f1 - x.f1 < 0 := by omega
        have HX2 := Lib.hid hx
        clear hx
        go_wp2_with fail
        go_roundw
        case rel =>
          refine ⟨k + 1, by omega, by omega, by go_num, x, HR.out.1, fun j hj => ?_, B5.out, Z5.out, O5.out⟩
          have h9 := HX2.out
          rcases Nat.lt_or_ge j k with h8 | h8
          · exact HR.out.2.1 j h8
          · obtain rfl : j = k := by omega
            omega
        case measure => simp [intOf]; omega
    · obtain rfl : k = L.length := by omega
      have z0 : wr.cell? ⟨w.heap.size, 0, none⟩ = some (.int .u64 0) := cell_of_row wr _ 0 _ _ (0, 0) HR.out.2.2.2.1
      have z1 : wr.cell? ⟨w.heap.size, 1, none⟩ = some (.int .i64 0) := cell_of_row wr _ 1 _ _ (0, 0) HR.out.2.2.2.1
      have f0 : wr.frozen? ⟨w.heap.size, 0, none⟩ = false := by simp [World.frozen?, HR.out.2.2.2.1]
      have f1 : wr.frozen? ⟨w.heap.size, 1, none⟩ = false := by simp [World.frozen?, HR.out.2.2.2.1]
      go_wp2_with fail
      obtain ⟨q1, q2⟩ := set2 HR.out.2.2.2.1 (.int .u64 x.f0) (.int .i64 x.f1)
      refine bodyPost_ret (results_c rfl _ _ w.heap.size 43 #[.int .u64 x.f0, .int .i64 x.f1] (0, 0) _ rfl q1 Tryd.underlying43 rfl (by kernel_rfl)) rfl ?_
      refine ⟨x, rfl, HR.out.1, fun y hy => ?_, (HR.out.2.2.1.setCell (p := ⟨w.heap.size, 0, none⟩) (Nat.le_refl _) _).setCell (p := ⟨w.heap.size, 1, none⟩) (Nat.le_refl _) _⟩
      obtain ⟨j, hj, rfl⟩ := List.mem_iff_getElem.1 hy
      rw [← fget_eq hj]
      exact HR.out.2.1 j hj
end Go.Proofs.YtmoiochblmdgfaaDoor
