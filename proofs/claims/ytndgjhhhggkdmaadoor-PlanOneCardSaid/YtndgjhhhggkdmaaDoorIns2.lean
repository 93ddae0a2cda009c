/- The contract of slices.Insert at []ring.point, one element. -/
import Derived.Test.YtndgjhhhggkdmaaDoorIns
import Derived.Test.YtndgjhhhggkdmaaDoorBase
namespace Go.Proofs.YtndgjhhhggkdmaaDoor
set_option linter.unusedVariables false
set_option linter.unusedSimpArgs false
open Go.RowKit Go.Proofs.YtndgjhhhggkdmaaDoorW.PrintWords

structure Pt where
  at_ : Int
  node : Int
deriving DecidableEq
def Pt.enc (x : Pt) : List Value := [.int .u64 x.at_, .int .i64 x.node]
def kP : Kd Pt := Kd.iso (Kd.pair (Kd.int .u64) (Kd.int .i64)) (fun x : Pt => (x.at_, x.node))
theorem kP_sz : kP.sz = 2 := rfl
theorem kP_M (w : World) (base : Nat) (ok : Nat → Prop) (x : Pt) (cs : List Value) (h : kP.M w base ok x cs) : cs = x.enc := by
  obtain ⟨_, _, rfl, rfl, rfl⟩ := h
  rfl
theorem kP_mk (w : World) (base : Nat) (ok : Nat → Prop) (x : Pt) : kP.M w base ok x x.enc := ⟨[.int .u64 x.at_], [.int .i64 x.node], rfl, rfl, rfl⟩
theorem enc_len (x : Pt) : x.enc.length = 2 := rfl
theorem enc_one (xs : List Pt) : ∀ v ∈ xs.flatMap Pt.enc, v.oneCell' = true := by
  intro v hv
  obtain ⟨x, _, hx⟩ := List.mem_flatMap.1 hv
  simp [Pt.enc] at hx
  rcases hx with rfl | rfl <;> rfl
/-- A row of points of the call's own. -/
def OwnP (w : World) (base : Nat) (v : Value) (xs : List Pt) : Prop := w.ownsRow base 81 2 v xs.length (xs.flatMap Pt.enc)
theorem OwnP.of_R {w : World} {base : Nat} {ok : Nat → Prop} {v : Value} {xs : List Pt} (h : kP.R 81 w base ok v xs) : OwnP w base v xs := own_flat kP_M h
theorem OwnP.to_R {w : World} {base : Nat} {v : Value} {xs : List Pt} (h : OwnP w base v xs) : kP.R 81 w base (fun _ => True) v xs := flat_own (enc := Pt.enc) kP_mk h
theorem info_pt : (Tryd.prog.info? 81).map (fun i => (i.zero, i.size, i.bytes)) = some (some (.agg #[.int .u64 0, .int .i64 0]), 2, 16) := by kernel_rfl
theorem size_pt : (Tryd.prog.info? 81).map (·.size) = some 2 := by kernel_rfl
theorem sizeOf_pt (w : World) : (Go.sizeOf 81).run Tryd.prog w = .ok 2 w := by kernel_rfl

theorem overlaps_pt (vb g o lb cb : Nat) (w : World) (y : Pt) (cur : Array Value) (hne : vb ≠ g) (hv : w.heap[vb]? = some (.cells y.enc.toArray 81 (0, 0))) (hg : w.heap[g]? = some (.cells cur 81 (0, 0))) (hc : cur.size ≠ 0) :
    (callFunc 51 #[.slice (some ⟨vb, 0, none⟩) 1 1, .slice (some ⟨g, o, none⟩) lb cb]).run Tryd.prog w = .ok (.value (.bool false)) w := by
  rw [run_callFunc_extern Tryd.func51 (by kernel_rfl) (by kernel_rfl) (by kernel_rfl) (e := Extern.SlicesOverlaps.overlaps #[74, 74] #[4]) (by kernel_rfl),
    Lib.run_overlaps_apart w 74 4 81 Tryd.underlying74 2 sizeOf_pt ⟨vb, 0, none⟩ ⟨g, o, none⟩ 1 1 lb cb hne 81 81 2 cur.size (by simp [World.shape?, hv, Pt.enc]) (by simp [World.shape?, hg]) hc (by simp [World.frozen?, hv]) (by simp [World.frozen?, hv])]
  rfl

set_option maxHeartbeats 4000000 in
set_option maxRecDepth 100000 in
/-- In place. -/
theorem Ins_shift (g n cap i vb : Nat) (cur : Array Value) (xs : List Pt) (y : Pt) (w : World) (hn : xs.length = n) (hi : i < n) (hroom : n + 1 ≤ cap) (hcap : cap ≤ maxLen) (hsz : cur.size = cap * 2) (htake : cur.toList.take (n * 2) = xs.flatMap Pt.enc)
    (hne : vb ≠ g) (hv : w.heap[vb]? = some (.cells y.enc.toArray 81 (0, 0))) (hg : w.heap[g]? = some (.cells cur 81 (0, 0))) :
    Calls Tryd.prog 39 #[.slice (some ⟨g, 0, none⟩) n cap, .int .i64 i, .slice (some ⟨vb, 0, none⟩) 1 1] w fun e w' =>
      e = .returned (.slice (some ⟨g, 0, none⟩) (n + 1) cap) ∧ ∃ row m, w' = (w.setRow g row).drewN m ∧ row.size = cap * 2 ∧ row.toList.take ((n + 1) * 2) = (ins xs i y).flatMap Pt.enc := by
  have hl := flat_len enc_len xs
  rw [hn] at hl
  have hz2 : ¬ ((i : Int) = (n : Int)) := by omega
  have hcap63 : cap ≤ 9223372036854775807 := hcap
  have hsz0 : cur.size ≠ 0 := by omega
  have hov := fun o lb cb => overlaps_pt vb g o lb cb w y cur hne hv hg hsz0
  have mixed : Tryd.prog.follows Departure.mixedOrders = true := by kernel_rfl
  have hw1 : IntKind.i64.wrap ((i : Int) + 1) = (i : Int) + 1 := by rw [IntKind.wrap_i64]; omega
  have hw2 : IntKind.i64.wrap ((n : Int) + 1) = (n : Int) + 1 := by rw [IntKind.wrap_i64]; omega
  have hin : i ≤ n := by omega
  have u56 := run_underlying (P := Tryd.prog) Tryd.underlying74
  have htn : ((i : Int) + 1).toNat = i + 1 := by omega
  have hb1 : (0 : Int) ≤ (i : Int) + 1 := by omega
  have hb3 : (i : Int) ≤ (n : Int) + 1 := by omega
  have hb4 : ¬ (cap = i) := by omega
  have hb2 : ¬ (cap = i + 1) := by omega
  obtain ⟨B, hB⟩ : ∃ B, B = (xs.flatMap Pt.enc).drop (i * 2) := ⟨_, rfl⟩
  have hBl : B.length = (n - i) * 2 := by rw [hB, List.length_drop, hl]; omega
  have hcl : cur.toList.length = cap * 2 := by rw [Array.length_toList, hsz]
  obtain ⟨r1, hr1⟩ : ∃ r1 : List Value, r1 = cur.toList.take (i * 2 + 2) ++ B ++ cur.toList.drop (i * 2 + 2 + B.length) := ⟨_, rfl⟩
  have hr1l : r1.length = cap * 2 := by rw [hr1]; simp only [List.length_append, List.length_take, List.length_drop, hBl, hcl]; omega
  have hsrc : ∀ (W : World), W.heap[g]? = some (.cells cur 81 (0, 0)) → ∀ j v, B[j]? = some v → W.cell? ((⟨g, i * 2, none⟩ : Addr).add j) = some v := fun W hW j v hj => by
    rw [addr_add, cell_row hW]
    rw [hB, List.getElem?_drop, ← htake, List.getElem?_take] at hj
    split at hj
    · simpa using hj
    · cases hj
  have hB1 : ∀ v ∈ B, v.oneCell' = true := fun v hv => enc_one xs v (by rw [hB] at hv; exact List.mem_of_mem_drop hv)
  have hcp1 : ∀ (W : World), W.heap[g]? = some (.cells cur 81 (0, 0)) → ∀ ty, (Builtin.copy_ #[74, 74] ty #[.slice (some ⟨g, (i + 1) * 2, none⟩) (n - i) (cap - (i + 1)), .slice (some ⟨g, i * 2, none⟩) (n + 1 - i) (cap - i)]).run Tryd.prog W = .ok (goInt (n - i : Nat)) (W.setRow g r1.toArray) := fun W hW ty => by
    rw [hr1, show i * 2 + 2 = (i + 1) * 2 by omega]
    exact run_copy_rowN W _ _ ty _ 2 g _ _ _ _ _ _ cur _ B Tryd.underlying74 size_pt hW (n - i) (by simp only [Nat.min_def]; split <;> omega) hBl (hsrc W hW) (by rw [hBl, hsz]; omega) hB1
  obtain ⟨r2, hr2⟩ : ∃ r2 : List Value, r2 = r1.take (i * 2) ++ y.enc ++ r1.drop (i * 2 + 2) := ⟨_, rfl⟩
  have hcp2 : ∀ (W : World), W.heap[g]? = some (.cells r1.toArray 81 (0, 0)) → W.heap[vb]? = some (.cells y.enc.toArray 81 (0, 0)) → ∀ ty, (Builtin.copy_ #[74, 74] ty #[.slice (some ⟨g, i * 2, none⟩) (n + 1 - i) (cap - i), .slice (some ⟨vb, 0, none⟩) 1 1]).run Tryd.prog W = .ok (goInt (1 : Nat)) (W.setRow g r2.toArray) := fun W hW hV ty => by
    have := run_copy_rowN W 74 74 ty _ 2 g (i * 2) (n + 1 - i) (cap - i) ⟨vb, 0, none⟩ 1 1 r1.toArray _ y.enc Tryd.underlying74 size_pt hW 1 (by simp only [Nat.min_def]; split <;> omega) rfl (fun j v hj => by rw [addr_add, cell_row hV]; simpa using hj) (by rw [enc_len, List.size_toArray, hr1l]; omega) (by simp [Pt.enc, Value.oneCell'])
    rw [hr2]
    exact this
  have hW1 : (w.drew.setRow g r1.toArray).heap[g]? = some (.cells r1.toArray 81 (0, 0)) := setRow_heap w.drew g cur _ _ _ hg
  have hV1 : (w.drew.setRow g r1.toArray).heap[vb]? = some (.cells y.enc.toArray 81 (0, 0)) := (setRow_ne w.drew g vb _ hne).trans hv
  have hcp3 := hcp2 _ hW1 hV1 3
  clear hcp2 hW1 hV1
  have hfin : r2.length = cap * 2 ∧ r2.take ((n + 1) * 2) = (ins xs i y).flatMap Pt.enc := by
    have h2 := two_copies cur.toList B y.enc (i * 2) 2 (enc_len y) (by rw [hBl, hcl]; omega)
    rw [← hr1, ← hr2] at h2
    have hA : cur.toList.take (i * 2) = (xs.flatMap Pt.enc).take (i * 2) := by rw [← htake, List.take_take, show min (i * 2) (n * 2) = i * 2 by omega]
    refine ⟨by rw [hr2]; simp only [List.length_append, List.length_take, List.length_drop, hr1l, enc_len]; omega, ?_⟩
    rw [h2, ins_take _ _ _ _ _ (by rw [List.length_take, hcl, enc_len, hBl]; omega), ins_flat enc_len, hA, hB]
  have H := Lib.hid (And.intro htake (And.intro hv (And.intro hg (And.intro hsz hl))))
  clear htake hv hg hsz hl hsz0 hB hBl hcl hr1 hr1l hsrc hB1 hr2
  go_enter Tryd.func39, Tryd.ntmps39
  go_wp2_with (simp only [hov])
  go_region_law_o (refine step_copy_at rfl _ _ 74 74 rfl (.slice (some ⟨g, (i + 1) * 2, none⟩) (n - i) (cap - (i + 1))) (.slice (some ⟨g, i * 2, none⟩) (n + 1 - i) (cap - i)) (by simp [Act.eval, Act.put]) (by simp [Act.eval, Act.put]) (hcp1 w.drew H.out.2.2.1 3) ?_)
  go_wp2_with (at_builtin; refine wpList_copy_at _ rfl _ _ 74 74 rfl _ _ rfl rfl hcp3 ?_)
  go_ret
  exact ⟨rfl, r2.toArray, 1, by rw [setRow_setRow]; rfl, by simpa using hfin.1, by simpa using hfin.2⟩

set_option maxHeartbeats 4000000 in
set_option maxRecDepth 100000 in
/-- No room: a new row. -/
theorem Ins_grow (g n cap i vb : Nat) (cur : Array Value) (xs : List Pt) (y : Pt) (w : World) (hn : xs.length = n) (hi : i < n) (hnc : n ≤ cap) (hroom : cap < n + 1) (hbig : (n + 1) * 16 ≤ 140737488355328) (htake : cur.toList.take (n * 2) = xs.flatMap Pt.enc)
    (hv : w.heap[vb]? = some (.cells y.enc.toArray 81 (0, 0))) (hg : w.heap[g]? = some (.cells cur 81 (0, 0))) :
    Calls Tryd.prog 39 #[.slice (some ⟨g, 0, none⟩) n cap, .int .i64 i, .slice (some ⟨vb, 0, none⟩) 1 1] w fun e w' =>
      ∃ C row m, e = .returned (.slice (some ⟨w.heap.size, 0, none⟩) (n + 1) C) ∧ w' = (w.alloc (.cells row 81 (0, 0))).drewN m ∧ n + 1 ≤ C ∧ C ≤ maxLen ∧ row.size = C * 2 ∧ row.toList.take ((n + 1) * 2) = (ins xs i y).flatMap Pt.enc := by
  have hl := flat_len enc_len xs
  rw [hn] at hl
  have mixed : Tryd.prog.follows Departure.mixedOrders = true := by kernel_rfl
  have hz2 : ¬ ((i : Int) = (n : Int)) := by omega
  have hz3 : (cap : Int) < (n : Int) + 1 := by omega
  have hcap63 : cap ≤ 9223372036854775807 := by omega
  have hw1 : IntKind.i64.wrap ((i : Int) + 1) = (i : Int) + 1 := by rw [IntKind.wrap_i64]; omega
  have hw2 : IntKind.i64.wrap ((n : Int) + 1) = (n : Int) + 1 := by rw [IntKind.wrap_i64]; omega
  have hin : i ≤ n := by omega
  have u56 := run_underlying (P := Tryd.prog) Tryd.underlying74
  have htn : ((i : Int) + 1).toNat = i + 1 := by omega
  have hb1 : (0 : Int) ≤ (i : Int) + 1 := by omega
  have hb3 : (i : Int) ≤ (n : Int) := by omega
  have hkk : (n : Int) + 1 - (i : Int) = ((n + 1 - i : Nat) : Int) := by omega
  have hik : i + (n + 1 - i) = n + 1 := by omega
  obtain ⟨i0, hi0, hz0, hzs, hzb⟩ : ∃ i0, Tryd.prog.info? 81 = some i0 ∧ i0.zero = some (.agg #[.int .u64 0, .int .i64 0]) ∧ i0.size = 2 ∧ i0.bytes = 16 := by
    have h := info_pt
    cases hq : Tryd.prog.info? 81 with
    | none => simp [hq] at h
    | some j => simp [hq] at h; exact ⟨j, rfl, h.1, h.2.1, h.2.2⟩
  have hcl : n * 2 ≤ cur.toList.length := by
    have := congrArg List.length htake
    rw [List.length_take, hl] at this
    omega
  have hgw : g < w.heap.size := (Array.getElem?_eq_some_iff.1 hg).1
  have hvw : vb < w.heap.size := (Array.getElem?_eq_some_iff.1 hv).1
  have hA : cur.toList.take (i * 2) = (xs.flatMap Pt.enc).take (i * 2) := by rw [← htake, List.take_take, show min (i * 2) (n * 2) = i * 2 by omega]
  have hold : (Builtin.firstCells i0.size i (.slice (some ⟨g, 0, none⟩) i cap)).run Tryd.prog w.drew = .ok ((xs.flatMap Pt.enc).take (i * 2)).toArray w.drew := by
    rw [hzs]
    exact run_firstCells_some w.drew 2 i ⟨g, 0, none⟩ i cap ((xs.flatMap Pt.enc).take (i * 2)) (by rw [List.length_take, hl]; omega) (fun j v hj => by
      rw [addr_add, cell_row (w := w.drew) hg]
      rw [← hA, List.getElem?_take] at hj
      split at hj
      all_goals (first | (simp at hj; done) | (simpa using hj)))
  obtain ⟨C, hC⟩ : ∃ C, C = grownCap w (n + 1) cap 81 := ⟨_, rfl⟩
  have hCn : n + 1 ≤ C := by rw [hC]; exact grownCap_ge w _ _ _
  have hC63 : C ≤ maxLen := by rw [hC]; exact grownCap_le_maxLen w (n + 1) cap 81 (by unfold maxLen; omega)
  have hC64 : C ≤ 9223372036854775807 := hC63
  obtain ⟨ROW, hROW⟩ : ∃ ROW : Array Value, ROW = ((xs.flatMap Pt.enc).take (i * 2)).toArray ++ Builtin.zeroCells (Value.agg #[.int .u64 0, .int .i64 0]).cells (n + 1 - i) ++ Builtin.zeroCells (Value.agg #[.int .u64 0, .int .i64 0]).cells (C - (n + 1)) := ⟨_, rfl⟩
  have hrz : ∀ ty, (Builtin.append_ #[74, 3] ty #[.slice (some ⟨g, 0, none⟩) i cap, .int .i64 ((n : Int) + 1 - (i : Int))]).run Tryd.prog w = .ok (.slice (some ⟨w.heap.size, 0, none⟩) (n + 1) C) (w.drew.alloc (.cells ROW 81)) := fun ty => by
    have h := Lib.run_append_grow_zeros w 74 3 ty 81 i0 _ .i64 .i64 Tryd.underlying74 Tryd.underlying3 hi0 hz0 (some ⟨g, 0, none⟩) i cap _ hold (n + 1 - i) (by omega) (by omega) (by omega) (by omega) (by rw [hzb]; omega) (by rw [hzb, hik]; exact growslice_fits hroom hbig)
    rw [hik] at h
    rw [hkk, hROW, hC]
    exact h
  have hRl : ROW.size = C * 2 := by
    rw [hROW]
    simp [Builtin.zeroCells, Value.cells, hl]
    omega
  have hRA : ROW.toList.take (i * 2) = (xs.flatMap Pt.enc).take (i * 2) := by
    rw [hROW, Array.append_assoc, Array.toList_append, List.take_append_of_le_length (by simp [hl]; omega), List.toList_toArray, List.take_take, Nat.min_self]
  obtain ⟨r1, hr1⟩ : ∃ r1 : List Value, r1 = ROW.toList.take (i * 2) ++ y.enc ++ ROW.toList.drop (i * 2 + 2) := ⟨_, rfl⟩
  have hRl2 : ROW.toList.length = C * 2 := by rw [Array.length_toList, hRl]
  have hr1l : r1.length = C * 2 := by rw [hr1]; simp only [List.length_append, List.length_take, List.length_drop, enc_len, hRl2]; omega
  obtain ⟨B, hB⟩ : ∃ B, B = (xs.flatMap Pt.enc).drop (i * 2) := ⟨_, rfl⟩
  have hBl : B.length = (n - i) * 2 := by rw [hB, List.length_drop, hl]; omega
  obtain ⟨r2, hr2⟩ : ∃ r2 : List Value, r2 = r1.take (i * 2 + 2) ++ B ++ r1.drop (i * 2 + 2 + B.length) := ⟨_, rfl⟩
  obtain ⟨W1, hW1⟩ : ∃ W1, W1 = (w.alloc (.cells ROW 81)).drew := ⟨_, rfl⟩
  have hN1 : W1.heap[w.heap.size]? = some (.cells ROW 81 (0, 0)) := by rw [hW1]; exact heap_alloc_new w _
  have hV1 : W1.heap[vb]? = some (.cells y.enc.toArray 81 (0, 0)) := by rw [hW1]; exact (Below.heap_alloc _ _ _ hvw).trans hv
  have hG1 : W1.heap[g]? = some (.cells cur 81 (0, 0)) := by rw [hW1]; exact (Below.heap_alloc _ _ _ hgw).trans hg
  have hcpA : (Builtin.copy_ #[74, 74] 3 #[.slice (some ⟨w.heap.size, i * 2, none⟩) (n + 1 - i) (C - i), .slice (some ⟨vb, 0, none⟩) 1 1]).run Tryd.prog W1 = .ok (goInt (1 : Nat)) (W1.setRow w.heap.size r1.toArray) := by
    have := run_copy_rowN W1 74 74 3 _ 2 w.heap.size (i * 2) (n + 1 - i) (C - i) ⟨vb, 0, none⟩ 1 1 ROW _ y.enc Tryd.underlying74 size_pt hN1 1 (by simp only [Nat.min_def]; split <;> omega) rfl (fun j v hj => by rw [addr_add, cell_row hV1]; simpa using hj) (by rw [enc_len, hRl]; omega) (by simp [Pt.enc, Value.oneCell'])
    rw [hr1]
    exact this
  have hN2 : (W1.setRow w.heap.size r1.toArray).drew.heap[w.heap.size]? = some (.cells r1.toArray 81 (0, 0)) := setRow_heap W1 _ ROW _ _ _ hN1
  have hG2 : (W1.setRow w.heap.size r1.toArray).drew.heap[g]? = some (.cells cur 81 (0, 0)) := (setRow_ne W1 _ g _ (by omega)).trans hG1
  have hsrc : ∀ (W : World), W.heap[g]? = some (.cells cur 81 (0, 0)) → ∀ j v, B[j]? = some v → W.cell? ((⟨g, i * 2, none⟩ : Addr).add j) = some v := fun W hW j v hj => by
    rw [addr_add, cell_row hW]
    rw [hB, List.getElem?_drop, ← htake, List.getElem?_take] at hj
    split at hj
    all_goals (first | (simp at hj; done) | (simpa using hj))
  have hcpB : (Builtin.copy_ #[74, 74] 3 #[.slice (some ⟨w.heap.size, (i + 1) * 2, none⟩) (n - i) (C - (i + 1)), .slice (some ⟨g, i * 2, none⟩) (n - i) (cap - i)]).run Tryd.prog (W1.setRow w.heap.size r1.toArray).drew = .ok (goInt (n - i : Nat)) ((W1.setRow w.heap.size r1.toArray).drew.setRow w.heap.size r2.toArray) := by
    have := run_copy_rowN (W1.setRow w.heap.size r1.toArray).drew 74 74 3 _ 2 w.heap.size ((i + 1) * 2) (n - i) (C - (i + 1)) ⟨g, i * 2, none⟩ (n - i) (cap - i) r1.toArray _ B Tryd.underlying74 size_pt hN2 (n - i) (by simp only [Nat.min_def]; split <;> omega) hBl (hsrc _ hG2) (by rw [hBl, List.size_toArray, hr1l]; omega) (fun v hv => enc_one xs v (by rw [hB] at hv; exact List.mem_of_mem_drop hv))
    rw [hr2, show i * 2 + 2 = (i + 1) * 2 by omega]
    exact this
  have hfin : r2.length = C * 2 ∧ r2.take ((n + 1) * 2) = (ins xs i y).flatMap Pt.enc := by
    have h1 : r1.take (i * 2 + 2) = (xs.flatMap Pt.enc).take (i * 2) ++ y.enc := by
      rw [hr1, List.take_left' (by simp only [List.length_append, List.length_take, enc_len, hRl2]; omega), hRA]
    refine ⟨by rw [hr2]; simp only [List.length_append, List.length_take, List.length_drop, hr1l]; omega, ?_⟩
    rw [hr2, h1, List.take_left' (by simp only [List.length_append, List.length_take, enc_len, hBl, hl]; omega), ins_flat enc_len, hB, List.append_assoc]
  have hCi : ¬ (C = i) := by omega
  have hCim : ¬ (C = i + 1) := by omega
  have hci : ¬ (cap = i) := by omega
  rw [hW1] at hcpA hcpB
  clear hkk hik hold hROW hC hRl hRA hr1 hRl2 hr1l hB hBl hr2 hW1 hN1 hV1 hG1 hN2 hG2 hsrc htake hv hg hl hcl hA hi0 hz0 hzs hzb
  have HF := Lib.hid hfin
  clear hfin
  go_enter Tryd.func39, Tryd.ntmps39
  go_wp2_with (first
    | (at_builtin; refine Lib.wpList_append_run _ rfl _ _ _ _ rfl _ _ rfl rfl _ _ (hrz _) ?_)
    | (at_builtin; refine wpList_copy_at _ rfl _ _ 74 74 rfl _ _ rfl rfl hcpA ?_))
  go_region_law_o (refine step_copy_at rfl _ _ 74 74 rfl _ _ (by simp [Act.eval, Act.put]) (by simp [Act.eval, Act.put]) hcpB ?_)
  go_wp2
  go_ret
  refine ⟨C, r2.toArray, 2, rfl, ?_, hCn, hC63, by simpa using HF.out.1, by simpa using HF.out.2⟩
  exact grow_world w ROW r1.toArray r2.toArray _

set_option maxHeartbeats 4000000 in
/-- At the end: append. -/
theorem Ins_end (base : Nat) (v : Value) (xs : List Pt) (y : Pt) (w0 W : World) (hR : kP.R 81 W base (fun _ => True) v xs) (hB : Below base w0 W) (hb : base ≤ W.heap.size) (hl : (xs.length + 1) * 16 ≤ 140737488355328) :
    Calls Tryd.prog 39 #[v, .int .i64 xs.length, .slice (some ⟨W.heap.size, 0, none⟩) 1 1] (W.alloc (.cells y.enc.toArray 81)) fun e w' =>
      ∃ v', e = .returned v' ∧ kP.R 81 w' base (fun _ => True) v' (xs ++ [y]) ∧ W.grownBy w' v.ownBlock ∧ (v'.ownBlock = v.ownBlock ∨ ∃ b, v'.ownBlock = some b ∧ W.heap.size ≤ b) := by
  have hc := Kd.R_reads hR
  obtain ⟨A, c, rfl, hlc, hC⟩ := hc
  have hn1 : xs.length ≤ 8796093022208 := by omega
  have hcc : c ≤ 9223372036854775807 ∧ (A = none → xs.length = 0 ∧ c = 0) := by
    rcases (OwnP.of_R hR).2 with ⟨he, h0⟩ | ⟨g, cap, cur, he, _, _, _, h2, _⟩
    · injection he with e1 e2 e3
      exact ⟨by omega, fun _ => ⟨e2, e3⟩⟩
    · injection he with e1 e2 e3
      refine ⟨by unfold maxLen at h2; omega, fun hA => by rw [hA] at e1; cases e1⟩
  obtain ⟨hc1, hc2⟩ := hcc
  have HB := Lib.hid hB
  have HR := Lib.hid hR
  clear hB hR hC
  cases A with
  | none =>
    obtain ⟨h1, h2⟩ := hc2 rfl
    have h3 : xs = [] := List.length_eq_zero_iff.1 h1
    subst h3
    subst h2
    clear h1 hc2
    go_enter Tryd.func39, Tryd.ntmps39
    go_wp2_with (at_builtin; go_loud (refine Kd.R_append kP (w0 := w0) base rfl (.tmp 23) (.tmp 24) 74 81 (.agg #[.int .u64 0, .int .i64 0]) 16 rfl Tryd.underlying74 info_pt rfl (by decide) (by omega) _ [] y y.enc (fun _ => True) (fun _ => False) rfl rfl (kP_mk _ _ _ _) (fun _ hk => hk.elim) (fun _ _ => trivial) HR.out HB.out hb (by simp) ?_; intro v1 w1 ho hbb hg hat; have HO := Lib.hid ho; have HG := Lib.hid hg; have HA := Lib.hid hat; clear ho hbb hg hat))
    all_goals
      go_ret
      exact ⟨_, rfl, HO.out, HG.out, HA.out⟩
  | some ad =>
    obtain ⟨ab, ao, asp⟩ := ad
    clear hc2
    go_enter Tryd.func39, Tryd.ntmps39
    go_wp2_with (at_builtin; go_loud (refine Kd.R_append kP (w0 := w0) base rfl (.tmp 23) (.tmp 24) 74 81 (.agg #[.int .u64 0, .int .i64 0]) 16 rfl Tryd.underlying74 info_pt rfl (by decide) (by omega) _ xs y y.enc (fun _ => True) (fun _ => False) rfl rfl (kP_mk _ _ _ _) (fun _ hk => hk.elim) (fun _ _ => trivial) HR.out HB.out hb (by omega) ?_; intro v1 w1 ho hbb hg hat; have HO := Lib.hid ho; have HG := Lib.hid hg; have HA := Lib.hid hat; clear ho hbb hg hat))
    all_goals
      go_ret
      exact ⟨_, rfl, HO.out, HG.out, HA.out⟩

theorem ins_end {α : Type} (xs : List α) (y : α) : ins xs xs.length y = xs ++ [y] := by simp [ins]
/-- slices.Insert of one point: in place, in a new row, or at the end; what it may have changed is the row's own block. -/
theorem Ins_any (base : Nat) (v : Value) (xs : List Pt) (i : Nat) (y : Pt) (W : World) (hi : i ≤ xs.length) (hR : kP.R 81 W base (fun _ => True) v xs) (hb : base ≤ W.heap.size) (hl : (xs.length + 1) * 16 ≤ 140737488355328) :
    Calls Tryd.prog 39 #[v, .int .i64 i, .slice (some ⟨W.heap.size, 0, none⟩) 1 1] (W.alloc (.cells y.enc.toArray 81)) fun e w' =>
      ∃ v', e = .returned v' ∧ kP.R 81 w' base (fun _ => True) v' (ins xs i y) ∧ W.grownBy w' v.ownBlock ∧ (v'.ownBlock = v.ownBlock ∨ ∃ b, v'.ownBlock = some b ∧ W.heap.size ≤ b) := by
  rcases Nat.lt_or_ge i xs.length with hlt | hge
  · have ho := OwnP.of_R hR
    rcases ho.2 with ⟨_, h0⟩ | ⟨g, cap, cur, rfl, hbg, hg, hnc, hcap, hsz, htk⟩
    · omega
    · have hgl : g < W.heap.size := (Array.getElem?_eq_some_iff.1 hg).1
      have hg1 : (W.alloc (.cells y.enc.toArray 81)).heap[g]? = some (.cells cur 81 (0, 0)) := (Below.heap_alloc _ _ _ hgl).trans hg
      have hv1 : (W.alloc (.cells y.enc.toArray 81)).heap[W.heap.size]? = some (.cells y.enc.toArray 81 (0, 0)) := heap_alloc_new W _
      rcases Nat.lt_or_ge cap (xs.length + 1) with hr | hr
      · refine (Ins_grow g xs.length cap i W.heap.size cur xs y _ rfl hlt hnc hr hl htk hv1 hg1).mono fun e w' ⟨C, row, m, he, hw, h1, h2, h3, h4⟩ => ⟨_, he, ?_, ?_, .inr ⟨_, rfl, by simp⟩⟩
        · refine OwnP.to_R ⟨flat_len enc_len _, .inr ⟨_, C, row, by rw [ins_len _ _ _ hi], by simp; omega, ?_, by rw [ins_len _ _ _ hi]; exact h1, h2, h3, by rw [ins_len _ _ _ hi]; exact h4⟩⟩
          rw [hw]
          exact heap_alloc_new _ _
        · rw [hw]
          exact ⟨rfl, rfl, rfl, by simp [World.drewN]; omega, fun k hk _ => (Below.heap_alloc _ _ k (by simp; omega)).trans (Below.heap_alloc W _ k hk)⟩
      · refine (Ins_shift g xs.length cap i W.heap.size cur xs y _ rfl hlt hr hcap hsz htk (by omega) hv1 hg1).mono fun e w' ⟨he, row, m, hw, h3, h4⟩ => ⟨_, he, ?_, ?_, .inl rfl⟩
        · refine OwnP.to_R ⟨flat_len enc_len _, .inr ⟨g, cap, row, by rw [ins_len _ _ _ hi], hbg, ?_, by rw [ins_len _ _ _ hi]; exact hr, hcap, h3, by rw [ins_len _ _ _ hi]; exact h4⟩⟩
          rw [hw]
          exact setRow_heap _ g cur row _ _ hg1
        · rw [hw]
          refine ⟨rfl, rfl, rfl, by simp [World.drewN], fun k hk hne => ?_⟩
          have hkg : k ≠ g := fun e => hne (by rw [e]; rfl)
          exact (setRow_ne _ g k row hkg).trans (Below.heap_alloc W _ k hk)
  · obtain rfl : i = xs.length := by omega
    rw [ins_end]
    exact Ins_end base v xs y W W hR (Below.refl _ _) hb hl
end Go.Proofs.YtndgjhhhggkdmaaDoor
