/- report.fill: an event's words read, by two closures over one flag. report.fill: misses. -/
import Derived.Test.YtgfljpchdiapeaaDoorG7
import Derived.Test.YtgfljpchdiapeaaDoorG3
namespace Go.Proofs.YtgfljpchdiapeaaDoor
set_option linter.unusedVariables false
set_option linter.unusedSimpArgs false
open Go.RowKit Go.Proofs.YtgfljpchdiapeaaDoorW.PrintWords Go.Proofs.YtgfljpchdiapeaaDoorW.PrintLast
attribute [local go_sem ↓] Go.wp_at_zero Go.wp_at_succ
attribute [local go_sem] bsV_get bsV_size bsV_toList
theorem pA {a : List Value} {i : Nat} {x : Value} : a.toArray.setIfInBounds i x = (a.set i x).toArray := List.setIfInBounds_toArray ..
theorem pB {a x : Value} {l : List Value} : (a :: l).set 0 x = x :: l := rfl
theorem pC {a x : Value} {l : List Value} {i : Nat} : (a :: l).set (i + 1) x = a :: l.set i x := rfl
theorem gr_bel {a b : World} {r : Option Nat} (h : Below a.heap.size a b) : a.grownBy b r := ⟨h.os, h.tape, h.output, h.size, fun i hi _ => h.block i hi⟩
theorem gr_set {a b : World} {g : Nat} (h : a.grownBy b (some g)) (j : Nat) (v : Value) : a.grownBy (b.setCell ⟨g, j, none⟩ v) (some g) :=
  ⟨h.os, h.tape, h.output, Nat.le_trans h.size (by simp [World.setCell]), fun i hi hn => (Below.heap_setCell b ⟨g, j, none⟩ v i (fun e => hn (by rw [e]))).trans (h.block i hi hn)⟩
set_option maxHeartbeats 2000000 in
theorem numC_any (s : Bs) (hl : s.length < 100000000) (g : Nat) (ok : Bool) (W : World) (hg : W.heap[g]? = some (.cells #[.bool ok] 4 (0, 0))) : Calls Tryd.prog 63 #[.string (bsV s), .pointer (some ⟨g, 0, none⟩)] W fun e w' => ∃ (x : Int) (q : Bool), e = .returned (.int .i64 x) ∧ NumIs s x q ∧ W.grownBy w' (some g) ∧ w'.heap[g]? = some (.cells #[.bool (ok && q)] 4 (0, 0)) := by
  have HG := Lib.hid hg
  have HS := Lib.hid (num_any s hl W)
  clear hg hl
  go_enter Tryd.func63, Tryd.ntmps63
  go_wp2_with fail
  refine HS.out.mono ?_
  rintro e w1 ⟨x, q, rfl, hn, hb⟩
  have HG1 := Lib.hid ((hb.block _ (Array.getElem?_eq_some_iff.1 HG.out).1).trans HG.out)
  have HB := Lib.hid (gr_bel (r := some g) hb)
  have HN := Lib.hid hn
  clear hb hn HG HS
  have k1 : w1.cell? ⟨g, 0, none⟩ = some (.bool ok) := cell_of_row w1 _ 0 _ _ (0, 0) HG1.out
  have f1 : w1.frozen? ⟨g, 0, none⟩ = false := by simp [World.frozen?, HG1.out]
  cases ok <;> cases q
  all_goals
    go_wp2_with fail
    go_ret
    exact ⟨x, _, rfl, HN.out, gr_set HB.out _ _, heap_setCell_same w1 g 0 _ _ _ HG1.out⟩
set_option maxHeartbeats 2000000 in
theorem bytC_any (s : Bs) (hl : s.length < 100000000) (g : Nat) (ok : Bool) (W : World) (hg : W.heap[g]? = some (.cells #[.bool ok] 4 (0, 0))) : Calls Tryd.prog 65 #[.string (bsV s), .pointer (some ⟨g, 0, none⟩)] W fun e w' => ∃ (B : Option Addr) (b : Bs) (c : Nat) (q : Bool), e = .returned (.slice B b.length c) ∧ UnqIs s b q ∧ Kd.R (Kd.int .u8) 5 w' W.heap.size (fun _ => True) (.slice B b.length c) (bI b) ∧ W.grownBy w' (some g) ∧ w'.heap[g]? = some (.cells #[.bool (ok && q)] 4 (0, 0)) := by
  have HG := Lib.hid hg
  have HS := Lib.hid (unq_any s (Lib.hid hl) W)
  clear hg hl
  go_enter Tryd.func65, Tryd.ntmps65
  go_wp2_with fail
  refine HS.out.mono ?_
  rintro e w1 ⟨v, b, q, rfl, hn, hr, hb⟩
  have HG1 := Lib.hid ((hb.block _ (Array.getElem?_eq_some_iff.1 HG.out).1).trans HG.out)
  have HB := Lib.hid (gr_bel (r := some g) hb)
  have HN := Lib.hid hn
  have hlt : g < W.heap.size := (Array.getElem?_eq_some_iff.1 HG.out).1
  have HLT := Lib.hid hlt
  obtain ⟨B, c, rfl⟩ := Kd.R_slice hr
  rw [bI_len] at hr ⊢
  have HR := Lib.hid hr
  clear hb hn HG HS hlt hr
  have k1 : w1.cell? ⟨g, 0, none⟩ = some (.bool ok) := cell_of_row w1 _ 0 _ _ (0, 0) HG1.out
  have f1 : w1.frozen? ⟨g, 0, none⟩ = false := by simp [World.frozen?, HG1.out]
  cases ok <;> cases q
  all_goals
    go_wp2_with fail
    go_ret
    exact ⟨B, b, c, _, rfl, HN.out, Kd.R_mono (Kd.R_far (p := ⟨g, 0, none⟩) (Kd.R_bound HR.out) (fun k hk => by have := hk.2.1; have := HLT.out; show k ≠ g; omega) _) (fun _ _ => trivial), gr_set HB.out _ _, heap_setCell_same w1 g 0 _ _ _ HG1.out⟩
structure FS (w : World) (cs : Array Value) (ok : Bool) (W : World) : Prop where
  box : W.heap[w.heap.size]? = some (.cells cs 30 (0, 0))
  res : W.heap[w.heap.size + 1]? = some (.cells zC 30 (0, 0))
  okb : W.heap[w.heap.size + 2]? = some (.cells #[.bool ok] 4 (0, 0))
  bel : Below w.heap.size w W
section
variable {w W W' : World} {cs cs' : Array Value} {ok ok' : Bool}
theorem FS.later (h : FS w cs ok W) (hb : Below W.heap.size W W') : FS w cs ok W' :=
  ⟨(hb.block _ (Array.getElem?_eq_some_iff.1 h.box).1).trans h.box, (hb.block _ (Array.getElem?_eq_some_iff.1 h.res).1).trans h.res, (hb.block _ (Array.getElem?_eq_some_iff.1 h.okb).1).trans h.okb, h.bel.trans (hb.mono h.bel.size)⟩
theorem FS.siz (h : FS w cs ok W) : w.heap.size + 3 ≤ W.heap.size := (Array.getElem?_eq_some_iff.1 h.okb).1
theorem FS.grown (h : FS w cs ok W) (hg : W.grownBy W' (some (w.heap.size + 2))) (hk : W'.heap[w.heap.size + 2]? = some (.cells #[.bool ok'] 4 (0, 0))) : FS w cs ok' W' :=
  ⟨(hg.block _ (Array.getElem?_eq_some_iff.1 h.box).1 (by simp)).trans h.box, (hg.block _ (Array.getElem?_eq_some_iff.1 h.res).1 (by simp)).trans h.res, hk,
   ⟨hg.os.trans h.bel.os, hg.tape.trans h.bel.tape, hg.output.trans h.bel.output, Nat.le_trans h.bel.size hg.size, fun i hi => (hg.block i (Nat.lt_of_lt_of_le hi h.bel.size) (by simp; omega)).trans (h.bel.block i hi)⟩⟩
theorem FS.set (j : Nat) (v : Value) (h : FS w cs ok W) (he : cs.setIfInBounds j v = cs') : FS w cs' ok (W.setCell ⟨w.heap.size, j, none⟩ v) :=
  ⟨by rw [← he]; exact heap_setCell_same W _ j _ _ v h.box, (heap_setCell_other W ⟨w.heap.size, j, none⟩ _ v (by show w.heap.size + 1 ≠ w.heap.size; omega)).trans h.res, (heap_setCell_other W ⟨w.heap.size, j, none⟩ _ v (by show w.heap.size + 2 ≠ w.heap.size; omega)).trans h.okb, h.bel.setCell (by show w.heap.size ≤ w.heap.size; omega) v⟩
theorem FS.cell (h : FS w cs ok W) (j : Nat) : W.cell? ⟨w.heap.size, j, none⟩ = cs[j]? := cell_of_row W _ j _ _ (0, 0) h.box
theorem FS.frz (h : FS w cs ok W) (j : Nat) : W.frozen? ⟨w.heap.size, j, none⟩ = false := by simp [World.frozen?, h.box]
theorem R_gr {α : Type} {k : Kd α} {e base : Nat} {v : Value} {xs : List α} {r : Nat} (h : k.R e W base (fun _ => True) v xs) (hb : r < base) (hg : W.grownBy W' (some r)) : k.R e W' base (fun _ => True) v xs :=
  Kd.R_mono (Kd.R_grown (Kd.R_bound h) hg (fun j hj e => by injection e with e; have := hj.2.1; omega)) (fun _ _ => trivial)
theorem R_st {α : Type} {k : Kd α} {e base : Nat} {v : Value} {xs : List α} {r : Nat} (h : k.R e W base (fun _ => True) v xs) (hb : r < base) (j : Nat) (u : Value) : k.R e (W.setCell ⟨r, j, none⟩ u) base (fun _ => True) v xs :=
  Kd.R_mono (Kd.R_far (p := ⟨r, j, none⟩) (Kd.R_bound h) (fun i hi => by have := hi.2.1; show i ≠ r; omega) u) (fun _ _ => trivial)
end
theorem fs_start (w : World) (cs : Array Value) : FS w cs true (((w.alloc (.cells cs 30)).alloc (.cells zC 30)).alloc (.cells #[.bool true] 4)) := by
  have h1 := heap_alloc_new w (.cells cs 30)
  have h2 := heap_alloc_new (w.alloc (.cells cs 30)) (.cells zC 30)
  have h3 := heap_alloc_new ((w.alloc (.cells cs 30)).alloc (.cells zC 30)) (.cells #[.bool true] 4)
  refine ⟨(Below.heap_alloc _ _ _ (by simp; omega)).trans ((Below.heap_alloc _ _ _ (by simp)).trans h1), (Below.heap_alloc _ _ _ (by simp)).trans (by simpa using h2), by simpa using h3, ?_⟩
  exact (bel_alloc w _).trans (((bel_alloc _ _).mono (by simp)).trans ((bel_alloc _ _).mono (by simp; omega)))
def FPost (r : Option Ev) (B0 : Nat) (w : World) (e : Ending) (w' : World) : Prop := ∃ (v : Ev) (A : Option Addr) (c : Nat) (ok : Bool), e = .returned (.tuple #[.agg (eC v A c), .bool ok]) ∧ (ok = true → r = some v) ∧ (ok = false → r = none) ∧ Kd.R (Kd.int .u8) 5 w' B0 (fun _ => True) (.slice A v.value.length c) (bI v.value) ∧ Below w.heap.size w w'
theorem hit_fill {a b c d x k y : Bs} {n v o : Int} {q1 q2 q3 q4 q5 : Bool} (h1 : NumIs a n q1) (h2 : UnqIs b k q2) (h3 : NumIs c v q3) (h4 : NumIs d o q4) (h5 : UnqIs x y q5) : ((((((true && q1) && q2) && q3) && q4) && q5) = true → hitR [a, b, c, d, x] = some ⟨1, n, k, v, o, 0, y, false⟩) ∧ ((((((true && q1) && q2) && q3) && q4) && q5) = false → hitR [a, b, c, d, x] = none) := by
  unfold NumIs at h1 h3 h4
  unfold UnqIs at h2 h5
  cases q1 <;> cases q2 <;> cases q3 <;> cases q4 <;> cases q5 <;> simp_all [hitR]
theorem miss_fill {a b k : Bs} {n : Int} {q1 q2 : Bool} (h1 : NumIs a n q1) (h2 : UnqIs b k q2) : (((true && q1) && q2) = true → missR [a, b] = some ⟨2, n, k, 0, 0, 0, [], false⟩) ∧ (((true && q1) && q2) = false → missR [a, b] = none) := by
  unfold NumIs at h1
  unfold UnqIs at h2
  cases q1 <;> cases q2 <;> simp_all [missR]
theorem write_fill {a b c k y : Bs} {v : Int} {q1 q2 q3 : Bool} (h1 : NumIs a v q1) (h2 : UnqIs b k q2) (h3 : UnqIs c y q3) : ((((true && q1) && q2) && q3) = true → writeR [a, b, c] = some ⟨3, 0, k, v, 0, 0, y, true⟩) ∧ ((((true && q1) && q2) && q3) = false → writeR [a, b, c] = none) := by
  unfold NumIs at h1
  unfold UnqIs at h2 h3
  cases q1 <;> cases q2 <;> cases q3 <;> simp_all [writeR]
theorem erase_fill {a b k : Bs} {v : Int} {q1 q2 : Bool} (h1 : NumIs a v q1) (h2 : UnqIs b k q2) : (((true && q1) && q2) = true → eraseR [a, b] = some ⟨3, 0, k, v, 0, 0, [], false⟩) ∧ (((true && q1) && q2) = false → eraseR [a, b] = none) := by
  unfold NumIs at h1
  unfold UnqIs at h2
  cases q1 <;> cases q2 <;> simp_all [eraseR]
theorem done_fill {a : Bs} {v : Int} {q1 : Bool} (h1 : NumIs a v q1) : ((true && q1) = true → doneR [a] = some ⟨4, 0, [], v, 0, 0, [], false⟩) ∧ ((true && q1) = false → doneR [a] = none) := by
  unfold NumIs at h1
  cases q1 <;> simp_all [doneR]
theorem str_at {W : World} {A : Option Addr} {n : Nat} {ws : List Bs} (h : Kd.string.C W A n (ws.map bsV)) {i : Nat} (hi : i < ws.length) : ∃ ad, A = some ad ∧ W.cell? (ad.add i) = some (.string (bsV ws[i])) := by
  have hl := h.1
  rw [List.length_map] at hl
  obtain ⟨ad, e, hc⟩ := at_str h (k := i) (by omega)
  rw [sget_eq (by rw [List.length_map]; exact hi), List.getElem_map] at hc
  exact ⟨ad, e, hc⟩
set_option maxHeartbeats 8000000 in
set_option maxRecDepth 100000 in
theorem fill_done (a : Bs) (A : Option Addr) (c0 : Nat) (w : World) (hC : Kd.string.C w A [a].length ([a].map bsV)) (hc : 1 ≤ c0) (hl : ∀ z ∈ [a], z.length < 100000000) (Av : Option Addr) (cv B0 : Nat) (hRv : Kd.R (Kd.int .u8) 5 w B0 (fun _ => True) (.slice Av 0 cv) []) (hB0 : B0 ≤ w.heap.size) : Calls Tryd.prog 46 #[.agg #[.int .i64 4, .int .i64 0, .string ⟨#[]⟩, .int .i64 0, .int .i64 0, .int .i64 0, .slice Av 0 cv, .bool false], .slice A 1 c0] w (FPost (doneR [a]) B0 w) := by
  have HC := Lib.hid hC
  have HRV := Lib.hid hRv
  have HB0 := Lib.hid hB0
  clear hRv hB0
  have HLa := Lib.hid (hl a (by simp))
  clear hC hl
  obtain ⟨ad, rfl, _⟩ := str_at HC.out (i := 0) (by simp)
  have HLC := Lib.hid (show ∀ W, Below w.heap.size w W → W.cell? ad = some (.string (bsV a)) from fun W hW => by
    show W.cell? ad = _
    obtain ⟨ad', e, h⟩ := str_at HC.out (i := 0) (by simp)
    injection e with e
    subst e
    exact (hW.cell (World.block_lt_of_cell? w _ h)).trans h)
  have HW := Lib.hid (fun W => wordsE_any ⟨4, 0, [], 0, 0, 0, [], false⟩ Av cv W ⟨Nat.zero_le _, Kd.C_of_reads (d := (0 : Int)) ⟨rfl, by decide, fun h => absurd h (by decide)⟩, ⟨⟨by decide, by decide⟩, ⟨by decide, by decide⟩, ⟨by decide, by decide⟩, ⟨by decide, by decide⟩, ⟨by decide, by decide⟩⟩, by decide, by decide⟩)
  have HF0 := Lib.hid (fs_start w #[.int .i64 4, .int .i64 0, .string ⟨#[]⟩, .int .i64 0, .int .i64 0, .int .i64 0, .slice Av 0 cv, .bool false])
  unfold eC at HW
  go_enter Tryd.func46, Tryd.ntmps46
  go_upto_region 2 with (fail)
  have e0 : ((w.alloc (.cells #[.int .i64 4, .int .i64 0, .string ⟨#[]⟩, .int .i64 0, .int .i64 0, .int .i64 0, .slice Av 0 cv, .bool false] 30)).alloc (.cells zC 30)).alloc (.cells #[.bool true] 4) = ((w.alloc (.cells #[.int .i64 4, .int .i64 0, .string ⟨#[]⟩, .int .i64 0, .int .i64 0, .int .i64 0, .slice Av 0 cv, .bool false] 30)).alloc (.cells #[.int .i64 0, .int .i64 0, .string ⟨#[]⟩, .int .i64 0, .int .i64 0, .int .i64 0, .slice none 0 0, .bool false] 30)).alloc (.cells #[.bool true] 4) := rfl
  rw [e0] at HF0
  clear e0
  generalize ((w.alloc (.cells #[.int .i64 4, .int .i64 0, .string ⟨#[]⟩, .int .i64 0, .int .i64 0, .int .i64 0, .slice Av 0 cv, .bool false] 30)).alloc (.cells #[.int .i64 0, .int .i64 0, .string ⟨#[]⟩, .int .i64 0, .int .i64 0, .int .i64 0, .slice none 0 0, .bool false] 30)).alloc (.cells #[.bool true] 4) = w1 at *
  have k0 : w1.cell? ⟨w.heap.size, 0, none⟩ = some (.int .i64 4) := HF0.out.cell 0
  have k1 : w1.cell? ⟨w.heap.size, 1, none⟩ = some (.int .i64 0) := HF0.out.cell 1
  have k2 : w1.cell? ⟨w.heap.size, 2, none⟩ = some (.string ⟨#[]⟩) := HF0.out.cell 2
  have k3 : w1.cell? ⟨w.heap.size, 3, none⟩ = some (.int .i64 0) := HF0.out.cell 3
  have k4 : w1.cell? ⟨w.heap.size, 4, none⟩ = some (.int .i64 0) := HF0.out.cell 4
  have k5 : w1.cell? ⟨w.heap.size, 5, none⟩ = some (.int .i64 0) := HF0.out.cell 5
  have k6 : w1.cell? ⟨w.heap.size, 6, none⟩ = some (.slice Av 0 cv) := HF0.out.cell 6
  have k7 : w1.cell? ⟨w.heap.size, 7, none⟩ = some (.bool false) := HF0.out.cell 7
  go_wp2_with fail
  refine (HW.out w1).mono ?_
  rintro x w2 ⟨rfl, hb⟩
  have HF1 := Lib.hid (HF0.out.later hb)
  clear hb HF0 HW k0 k1 k2 k3 k4 k5 k6 k7
  rw [show wordE ⟨4, 0, [], 0, 0, 0, [], false⟩ = [100, 111, 110, 101] from rfl]
  have h0 := HLC.out w2 HF1.out.bel
  have k3 : w2.cell? ⟨w.heap.size, 3, none⟩ = some (.int .i64 0) := HF1.out.cell 3
  go_wp2_with fail
  refine (numC_any a HLa.out _ _ _ HF1.out.okb).mono ?_
  rintro e y1 ⟨x1, p1, rfl, hn, hg, hk⟩
  have HN1 := Lib.hid hn
  have HF2 := Lib.hid (HF1.out.grown hg hk)
  clear hn hg hk k3
  have k3 : y1.cell? ⟨w.heap.size, 3, none⟩ = some (.int .i64 0) := HF2.out.cell 3
  have f3 := HF2.out.frz 3
  have HF3 := Lib.hid (HF2.out.set (cs' := #[.int .i64 4, .int .i64 0, .string ⟨#[]⟩, .int .i64 x1, .int .i64 0, .int .i64 0, .slice Av 0 cv, .bool false]) 3 (.int .i64 x1) rfl)
  go_upto_region 17 with (fail)
  generalize y1.setCell ⟨w.heap.size, 3, none⟩ (.int .i64 x1) = u1 at *
  clear k3 f3 h0
  go_wp2_with fail
  have HF101 := Lib.hid (HF3.out.later (Drawn0.below ⟨1, rfl⟩ : Below u1.heap.size u1 u1.drew))
  refine wp_region_held_drew (S := (fun w' => w'.cell? ⟨w.heap.size, 0, none⟩ = some (.int .i64 4) ∧ w'.cell? ⟨w.heap.size, 1, none⟩ = some (.int .i64 0) ∧ w'.cell? ⟨w.heap.size, 2, none⟩ = some (.string ⟨#[]⟩) ∧ w'.cell? ⟨w.heap.size, 3, none⟩ = some (.int .i64 x1) ∧ w'.cell? ⟨w.heap.size, 4, none⟩ = some (.int .i64 0) ∧ w'.cell? ⟨w.heap.size, 5, none⟩ = some (.int .i64 0) ∧ w'.cell? ⟨w.heap.size, 6, none⟩ = some (.slice Av 0 cv) ∧ w'.cell? ⟨w.heap.size, 7, none⟩ = some (.bool false) ∧ w'.cell? ⟨w.heap.size + 2, 0, none⟩ = some (.bool (true && p1)))) (by kernel_rfl) ?_ (fun hHeld => ?_)
  · exact ⟨cell_of_row _ _ 0 _ _ (0, 0) HF101.out.box, cell_of_row _ _ 1 _ _ (0, 0) HF101.out.box, cell_of_row _ _ 2 _ _ (0, 0) HF101.out.box, cell_of_row _ _ 3 _ _ (0, 0) HF101.out.box, cell_of_row _ _ 4 _ _ (0, 0) HF101.out.box, cell_of_row _ _ 5 _ _ (0, 0) HF101.out.box, cell_of_row _ _ 6 _ _ (0, 0) HF101.out.box, cell_of_row _ _ 7 _ _ (0, 0) HF101.out.box, cell_of_row _ _ 0 _ _ (0, 0) HF101.out.okb⟩
  generalize u1.drew = dz at *
  refine wpAnyH_take (i := 0) (oi := ⟨some 122, _, _, _, _, _⟩) (v := ?_) rfl (by kernel_rfl) (by kernel_rfl) (by kernel_rfl) (fun _ _ _ h => h) (Or.inl ⟨by rfl, ?_⟩) (by assumption) ?_
  rotate_left
  · intro WW hSw
    try dsimp only at hSw
    go_simp
    try with_reducible rfl
  try simp only [Act.put, pA, pB, pC]
  refine wpAnyH_take (i := 1) (oi := ⟨some 123, _, _, _, _, _⟩) (v := ?_) rfl (by kernel_rfl) (by kernel_rfl) (by kernel_rfl) (fun _ _ _ h => h) (Or.inl ⟨by rfl, ?_⟩) (by assumption) ?_
  rotate_left
  · intro WW hSw
    try dsimp only at hSw
    go_simp
    try with_reducible rfl
  try simp only [Act.put, pA, pB, pC]
  refine wpAnyH_ready (rs := [2]) (by kernel_rfl) (by simp) ?_
  refine AllReadyH.cons (o := ⟨none, _, _, _, _, _⟩) rfl (fun K hK => ?_) AllReadyH.nil
  obtain ⟨m0, m1, m2, m3, m4, m5, m6, m7, n0, n1, n2, n3, n4, n5, n6, n7⟩ := zC_facts HF101.out.res
  obtain ⟨j1, j2, j3⟩ := set8 HF101.out.res (.int .i64 4) (.int .i64 0) (.string ⟨#[]⟩) (.int .i64 x1) (.int .i64 0) (.int .i64 0) (.slice Av 0 cv) (.bool false)
  go_simp
  refine hK.out _ _ ?_ (fun hHeldZ => ?_)
  · exact ⟨cell_of_row _ _ 0 _ _ (0, 0) ((j2 _ (by omega)).trans HF101.out.box), cell_of_row _ _ 1 _ _ (0, 0) ((j2 _ (by omega)).trans HF101.out.box), cell_of_row _ _ 2 _ _ (0, 0) ((j2 _ (by omega)).trans HF101.out.box), cell_of_row _ _ 3 _ _ (0, 0) ((j2 _ (by omega)).trans HF101.out.box), cell_of_row _ _ 4 _ _ (0, 0) ((j2 _ (by omega)).trans HF101.out.box), cell_of_row _ _ 5 _ _ (0, 0) ((j2 _ (by omega)).trans HF101.out.box), cell_of_row _ _ 6 _ _ (0, 0) ((j2 _ (by omega)).trans HF101.out.box), cell_of_row _ _ 7 _ _ (0, 0) ((j2 _ (by omega)).trans HF101.out.box), cell_of_row _ _ 0 _ _ (0, 0) ((j2 _ (by omega)).trans HF101.out.okb)⟩
  clear hK K hHeld
  try simp only [Act.put, pA, pB, pC]
  refine wpAnyH_take (i := 3) (oi := ⟨some 5, _, _, _, _, _⟩) (v := ?_) rfl (by kernel_rfl) (by kernel_rfl) (by kernel_rfl) (fun _ _ _ h => h) (Or.inl ⟨by rfl, ?_⟩) (by assumption) ?_
  rotate_left
  · intro WW hSw
    try dsimp only at hSw
    go_simp
    try with_reducible rfl
  try simp only [Act.put, pA, pB, pC]
  refine wpAnyH_done (by kernel_rfl) ?_ _
  go_wp2_with fail
  refine bodyPost_ret (results_ct rfl _ _ (w.heap.size + 1) 30 #[.int .i64 4, .int .i64 0, .string ⟨#[]⟩, .int .i64 x1, .int .i64 0, .int .i64 0, .slice Av 0 cv, .bool false] (0, 0) _ rfl j1 Tryd.underlying30 rfl (by kernel_rfl)) rfl ?_
  exact ⟨⟨4, 0, [], x1, 0, 0, [], false⟩, Av, cv, (true && p1), rfl, (done_fill HN1.out).1, (done_fill HN1.out).2, Kd.R_below HRV.out (j3 HF101.out.bel (by omega)), j3 HF101.out.bel (by omega)⟩
set_option maxHeartbeats 8000000 in
set_option maxRecDepth 100000 in
theorem fill_erase (a b : Bs) (A : Option Addr) (c0 : Nat) (w : World) (hC : Kd.string.C w A [a, b].length ([a, b].map bsV)) (hc : 2 ≤ c0) (hl : ∀ z ∈ [a, b], z.length < 100000000) (Av : Option Addr) (cv B0 : Nat) (hRv : Kd.R (Kd.int .u8) 5 w B0 (fun _ => True) (.slice Av 0 cv) []) (hB0 : B0 ≤ w.heap.size) : Calls Tryd.prog 46 #[.agg #[.int .i64 3, .int .i64 0, .string ⟨#[]⟩, .int .i64 0, .int .i64 0, .int .i64 0, .slice Av 0 cv, .bool false], .slice A 2 c0] w (FPost (eraseR [a, b]) B0 w) := by
  have HC := Lib.hid hC
  have HRV := Lib.hid hRv
  have HB0 := Lib.hid hB0
  clear hRv hB0
  have HLa := Lib.hid (hl a (by simp))
  have HLb := Lib.hid (hl b (by simp))
  clear hC hl
  obtain ⟨ad, rfl, _⟩ := str_at HC.out (i := 0) (by simp)
  have HLC := Lib.hid (show ∀ W, Below w.heap.size w W → W.cell? ad = some (.string (bsV a)) ∧ W.cell? ⟨ad.block, ad.off + 1, none⟩ = some (.string (bsV b)) from fun W hW => by
    refine ⟨?_, ?_⟩
    · obtain ⟨ad', e, h⟩ := str_at HC.out (i := 0) (by simp)
      injection e with e
      subst e
      exact (hW.cell (World.block_lt_of_cell? w _ h)).trans h
    · obtain ⟨ad', e, h⟩ := str_at HC.out (i := 1) (by simp)
      injection e with e
      subst e
      exact (hW.cell (World.block_lt_of_cell? w _ h)).trans h)
  have HW := Lib.hid (fun W => wordsE_any ⟨3, 0, [], 0, 0, 0, [], false⟩ Av cv W ⟨Nat.zero_le _, Kd.C_of_reads (d := (0 : Int)) ⟨rfl, by decide, fun h => absurd h (by decide)⟩, ⟨⟨by decide, by decide⟩, ⟨by decide, by decide⟩, ⟨by decide, by decide⟩, ⟨by decide, by decide⟩, ⟨by decide, by decide⟩⟩, by decide, by decide⟩)
  have HF0 := Lib.hid (fs_start w #[.int .i64 3, .int .i64 0, .string ⟨#[]⟩, .int .i64 0, .int .i64 0, .int .i64 0, .slice Av 0 cv, .bool false])
  unfold eC at HW
  go_enter Tryd.func46, Tryd.ntmps46
  go_upto_region 2 with (fail)
  have e0 : ((w.alloc (.cells #[.int .i64 3, .int .i64 0, .string ⟨#[]⟩, .int .i64 0, .int .i64 0, .int .i64 0, .slice Av 0 cv, .bool false] 30)).alloc (.cells zC 30)).alloc (.cells #[.bool true] 4) = ((w.alloc (.cells #[.int .i64 3, .int .i64 0, .string ⟨#[]⟩, .int .i64 0, .int .i64 0, .int .i64 0, .slice Av 0 cv, .bool false] 30)).alloc (.cells #[.int .i64 0, .int .i64 0, .string ⟨#[]⟩, .int .i64 0, .int .i64 0, .int .i64 0, .slice none 0 0, .bool false] 30)).alloc (.cells #[.bool true] 4) := rfl
  rw [e0] at HF0
  clear e0
  generalize ((w.alloc (.cells #[.int .i64 3, .int .i64 0, .string ⟨#[]⟩, .int .i64 0, .int .i64 0, .int .i64 0, .slice Av 0 cv, .bool false] 30)).alloc (.cells #[.int .i64 0, .int .i64 0, .string ⟨#[]⟩, .int .i64 0, .int .i64 0, .int .i64 0, .slice none 0 0, .bool false] 30)).alloc (.cells #[.bool true] 4) = w1 at *
  have k0 : w1.cell? ⟨w.heap.size, 0, none⟩ = some (.int .i64 3) := HF0.out.cell 0
  have k1 : w1.cell? ⟨w.heap.size, 1, none⟩ = some (.int .i64 0) := HF0.out.cell 1
  have k2 : w1.cell? ⟨w.heap.size, 2, none⟩ = some (.string ⟨#[]⟩) := HF0.out.cell 2
  have k3 : w1.cell? ⟨w.heap.size, 3, none⟩ = some (.int .i64 0) := HF0.out.cell 3
  have k4 : w1.cell? ⟨w.heap.size, 4, none⟩ = some (.int .i64 0) := HF0.out.cell 4
  have k5 : w1.cell? ⟨w.heap.size, 5, none⟩ = some (.int .i64 0) := HF0.out.cell 5
  have k6 : w1.cell? ⟨w.heap.size, 6, none⟩ = some (.slice Av 0 cv) := HF0.out.cell 6
  have k7 : w1.cell? ⟨w.heap.size, 7, none⟩ = some (.bool false) := HF0.out.cell 7
  go_wp2_with fail
  refine (HW.out w1).mono ?_
  rintro x w2 ⟨rfl, hb⟩
  have HF1 := Lib.hid (HF0.out.later hb)
  clear hb HF0 HW k0 k1 k2 k3 k4 k5 k6 k7
  rw [show wordE ⟨3, 0, [], 0, 0, 0, [], false⟩ = [101, 114, 97, 115, 101] from rfl]
  go_wp2_with fail
  have HF101 := Lib.hid (HF1.out.later (Drawn0.below ⟨1, rfl⟩ : Below w2.heap.size w2 w2.drew))
  refine wp_region_held_drew (S := (fun w' => w'.cell? ad = some (.string (bsV a)) ∧ w'.cell? ⟨ad.block, ad.off + 1, none⟩ = some (.string (bsV b)))) (by kernel_rfl) ?_ (fun hHeld => ?_)
  · exact HLC.out _ HF101.out.bel
  generalize w2.drew = d2 at *
  refine wpAnyH_take (i := 0) (oi := ⟨some 98, _, _, _, _, _⟩) (v := ?_) rfl (by kernel_rfl) (by kernel_rfl) (by kernel_rfl) (fun _ _ _ h => h) (Or.inl ⟨by rfl, ?_⟩) (by assumption) ?_
  rotate_left
  · intro WW hSw
    try dsimp only at hSw
    go_simp
    try with_reducible rfl
  try simp only [Act.put, pA, pB, pC]
  refine wpAnyH_take (i := 1) (oi := ⟨some 99, _, _, _, _, _⟩) (v := ?_) rfl (by kernel_rfl) (by kernel_rfl) (by kernel_rfl) (fun _ _ _ h => h) (Or.inl ⟨by rfl, ?_⟩) (by assumption) ?_
  rotate_left
  · intro WW hSw
    try dsimp only at hSw
    go_simp
    try with_reducible rfl
  try simp only [Act.put, pA, pB, pC]
  refine wpAnyH_take (i := 2) (oi := ⟨some 100, _, _, _, _, _⟩) (v := ?_) rfl (by kernel_rfl) (by kernel_rfl) (by kernel_rfl) (fun _ _ _ h => h) (Or.inl ⟨by rfl, ?_⟩) (by assumption) ?_
  rotate_left
  · intro WW hSw
    try dsimp only at hSw
    go_simp
    try with_reducible rfl
  try simp only [Act.put, pA, pB, pC]
  refine wpAnyH_take (i := 3) (oi := ⟨some 101, _, _, _, _, _⟩) (v := ?_) rfl (by kernel_rfl) (by kernel_rfl) (by kernel_rfl) (fun _ _ _ h => h) (Or.inl ⟨by rfl, ?_⟩) (by assumption) ?_
  rotate_left
  · intro WW hSw
    try dsimp only at hSw
    go_simp
    try with_reducible rfl
  try simp only [Act.put, pA, pB, pC]
  refine wpAnyH_take (i := 5) (oi := ⟨some 103, _, _, _, _, _⟩) (v := ?_) rfl (by kernel_rfl) (by kernel_rfl) (by kernel_rfl) (fun _ _ _ h => h) (Or.inl ⟨by rfl, ?_⟩) (by assumption) ?_
  rotate_left
  · intro WW hSw
    try dsimp only at hSw
    go_simp
    try with_reducible rfl
  try simp only [Act.put, pA, pB, pC]
  refine wpAnyH_take (i := 6) (oi := ⟨some 104, _, _, _, _, _⟩) (v := ?_) rfl (by kernel_rfl) (by kernel_rfl) (by kernel_rfl) (fun _ _ _ h => h) (Or.inl ⟨by rfl, ?_⟩) (by assumption) ?_
  rotate_left
  · intro WW hSw
    try dsimp only at hSw
    go_simp
    try with_reducible rfl
  try simp only [Act.put, pA, pB, pC]
  refine wpAnyH_take (i := 7) (oi := ⟨some 105, _, _, _, _, _⟩) (v := ?_) rfl (by kernel_rfl) (by kernel_rfl) (by kernel_rfl) (fun _ _ _ h => h) (Or.inl ⟨by rfl, ?_⟩) (by assumption) ?_
  rotate_left
  · intro WW hSw
    try dsimp only at hSw
    go_simp
    try with_reducible rfl
  try simp only [Act.put, pA, pB, pC]
  refine wpAnyH_take (i := 8) (oi := ⟨some 106, _, _, _, _, _⟩) (v := ?_) rfl (by kernel_rfl) (by kernel_rfl) (by kernel_rfl) (fun _ _ _ h => h) (Or.inl ⟨by rfl, ?_⟩) (by assumption) ?_
  rotate_left
  · intro WW hSw
    try dsimp only at hSw
    go_simp
    try with_reducible rfl
  try simp only [Act.put, pA, pB, pC]
  refine wpAnyH_ready (rs := [4]) (by kernel_rfl) (by simp) ?_
  refine AllReadyH.cons (o := ⟨some 102, _, _, _, _, _⟩) rfl (fun K hK => ?_) AllReadyH.nil
  go_simp
  go_at_call 63
  refine (numC_any a HLa.out _ _ _ HF101.out.okb).mono ?_
  rintro e y3 ⟨x3, p3, rfl, hn, hg, hk⟩
  have HN3 := Lib.hid hn
  have HF103 := Lib.hid (HF101.out.grown hg hk)
  clear hn hg hk
  refine hK.out _ _ ?_ (fun hHeld4 => ?_)
  · exact HLC.out _ HF103.out.bel
  clear hK K hHeld
  try simp only [Act.put, pA, pB, pC]
  refine wpAnyH_take (i := 11) (oi := ⟨some 109, _, _, _, _, _⟩) (v := ?_) rfl (by kernel_rfl) (by kernel_rfl) (by kernel_rfl) (fun _ _ _ h => h) (Or.inl ⟨by rfl, ?_⟩) (by assumption) ?_
  rotate_left
  · intro WW hSw
    try dsimp only at hSw
    go_simp
    try with_reducible rfl
  try simp only [Act.put, pA, pB, pC]
  refine wpAnyH_take (i := 12) (oi := ⟨some 110, _, _, _, _, _⟩) (v := ?_) rfl (by kernel_rfl) (by kernel_rfl) (by kernel_rfl) (fun _ _ _ h => h) (Or.inl ⟨by rfl, ?_⟩) (by assumption) ?_
  rotate_left
  · intro WW hSw
    try dsimp only at hSw
    go_simp
    try with_reducible rfl
  try simp only [Act.put, pA, pB, pC]
  refine wpAnyH_ready (rs := [9]) (by kernel_rfl) (by simp) ?_
  refine AllReadyH.cons (o := ⟨some 107, _, _, _, _, _⟩) rfl (fun K hK => ?_) AllReadyH.nil
  go_simp
  go_at_call 65
  refine (bytC_any b HLb.out _ _ _ HF103.out.okb).mono ?_
  rintro e y5 ⟨B5, b5, c5, p5, rfl, hn, hr, hg, hk⟩
  have HN5 := Lib.hid hn
  have HF105 := Lib.hid (HF103.out.grown hg hk)
  have HB5 := Lib.hid (Kd.R_lower (base' := w.heap.size + 3) hr HF103.out.siz)
  clear hn hg hk hr
  refine hK.out _ _ ?_ (fun hHeld6 => ?_)
  · exact HLC.out _ HF105.out.bel
  clear hK K hHeld4
  try simp only [Act.put, pA, pB, pC]
  refine wpAnyH_ready (rs := [10, 13]) (by kernel_rfl) (by simp) ?_
  refine AllReadyH.cons (o := ⟨some 108, _, _, _, _, _⟩) rfl (fun K hK => ?_) (AllReadyH.cons (o := ⟨none, _, _, _, _, _⟩) rfl (fun K hK => ?_) AllReadyH.nil)
  · skip
    have hcv : (Kd.int .u8).C y5 B5 b5.length (bI b5) := by have := (Kd.R_reads' HB5.out).2.2; rwa [bI_len] at this
    refine value_ (N := some 108) (by rfl) rfl (exec_conv1 rfl (by rfl) (conv_bs c5 hcv)) ?_
    clear hcv
    refine hK.out _ _ ?_ (fun hHeld7 => ?_)
    · exact HLC.out _ HF105.out.bel
    clear hK K hHeld6
    try simp only [Act.put, pA, pB, pC]
    refine wpAnyH_ready (rs := [13]) (by kernel_rfl) (by simp) ?_
    refine AllReadyH.cons (o := ⟨none, _, _, _, _, _⟩) rfl (fun K hK => ?_) AllReadyH.nil
    have k3 : World.cell? _ ⟨w.heap.size, 3, none⟩ = some (.int .i64 0) := HF105.out.cell 3
    have f3 := HF105.out.frz 3
    have HF108 := Lib.hid (HF105.out.set (cs' := #[.int .i64 3, .int .i64 0, .string ⟨#[]⟩, .int .i64 x3, .int .i64 0, .int .i64 0, .slice Av 0 cv, .bool false]) 3 (.int .i64 x3) rfl)
    have HR9 := Lib.hid (R_st (r := w.heap.size) HB5.out (by omega) 3 (.int .i64 x3))
    go_simp
    clear k3 f3
    refine hK.out _ _ ?_ (fun hHeld10 => ?_)
    · exact HLC.out _ HF108.out.bel
    clear hK K hHeld7
    try simp only [Act.put, pA, pB, pC]
    refine wpAnyH_take (i := 14) (oi := ⟨some 111, _, _, _, _, _⟩) (v := ?_) rfl (by kernel_rfl) (by kernel_rfl) (by kernel_rfl) (fun _ _ _ h => h) (Or.inl ⟨by rfl, ?_⟩) (by assumption) ?_
    rotate_left
    · intro WW hSw
      try dsimp only at hSw
      go_simp
      try with_reducible rfl
    try simp only [Act.put, pA, pB, pC]
    refine wpAnyH_take (i := 15) (oi := ⟨some 112, _, _, _, _, _⟩) (v := ?_) rfl (by kernel_rfl) (by kernel_rfl) (by kernel_rfl) (fun _ _ _ h => h) (Or.inl ⟨by rfl, ?_⟩) (by assumption) ?_
    rotate_left
    · intro WW hSw
      try dsimp only at hSw
      go_simp
      try with_reducible rfl
    try simp only [Act.put, pA, pB, pC]
    refine wpAnyH_ready (rs := [16]) (by kernel_rfl) (by simp) ?_
    refine AllReadyH.cons (o := ⟨none, _, _, _, _, _⟩) rfl (fun K hK => ?_) AllReadyH.nil
    have k2 : World.cell? _ ⟨w.heap.size, 2, none⟩ = some (.string ⟨#[]⟩) := HF108.out.cell 2
    have f2 := HF108.out.frz 2
    have HF111 := Lib.hid (HF108.out.set (cs' := #[.int .i64 3, .int .i64 0, .string (bsV b5), .int .i64 x3, .int .i64 0, .int .i64 0, .slice Av 0 cv, .bool false]) 2 (.string (bsV b5)) rfl)
    have HR12 := Lib.hid (R_st (r := w.heap.size) HR9.out (by omega) 2 (.string (bsV b5)))
    go_simp
    clear k2 f2
    refine hK.out _ _ ?_ (fun hHeld13 => ?_)
    · exact HLC.out _ HF111.out.bel
    clear hK K hHeld10
    try simp only [Act.put, pA, pB, pC]
    refine wpAnyH_done (by kernel_rfl) ?_ _
    generalize ((y5.setCell ⟨w.heap.size, 3, none⟩ (.int .i64 x3)).setCell ⟨w.heap.size, 2, none⟩ (.string (bsV b5))) = u14 at *
    go_wp2_with fail
    have HF115 := Lib.hid (HF111.out.later (Drawn0.below ⟨1, rfl⟩ : Below u14.heap.size u14 u14.drew))
    have HR16 := Lib.hid (Kd.R_below HR12.out (Drawn0.below ⟨1, rfl⟩ : Below u14.heap.size u14 u14.drew))
    refine wp_region_held_drew (S := (fun w' => w'.cell? ⟨w.heap.size, 0, none⟩ = some (.int .i64 3) ∧ w'.cell? ⟨w.heap.size, 1, none⟩ = some (.int .i64 0) ∧ w'.cell? ⟨w.heap.size, 2, none⟩ = some (.string (bsV b5)) ∧ w'.cell? ⟨w.heap.size, 3, none⟩ = some (.int .i64 x3) ∧ w'.cell? ⟨w.heap.size, 4, none⟩ = some (.int .i64 0) ∧ w'.cell? ⟨w.heap.size, 5, none⟩ = some (.int .i64 0) ∧ w'.cell? ⟨w.heap.size, 6, none⟩ = some (.slice Av 0 cv) ∧ w'.cell? ⟨w.heap.size, 7, none⟩ = some (.bool false) ∧ w'.cell? ⟨w.heap.size + 2, 0, none⟩ = some (.bool ((true && p3) && p5)))) (by kernel_rfl) ?_ (fun hHeld => ?_)
    · exact ⟨cell_of_row _ _ 0 _ _ (0, 0) HF115.out.box, cell_of_row _ _ 1 _ _ (0, 0) HF115.out.box, cell_of_row _ _ 2 _ _ (0, 0) HF115.out.box, cell_of_row _ _ 3 _ _ (0, 0) HF115.out.box, cell_of_row _ _ 4 _ _ (0, 0) HF115.out.box, cell_of_row _ _ 5 _ _ (0, 0) HF115.out.box, cell_of_row _ _ 6 _ _ (0, 0) HF115.out.box, cell_of_row _ _ 7 _ _ (0, 0) HF115.out.box, cell_of_row _ _ 0 _ _ (0, 0) HF115.out.okb⟩
    generalize u14.drew = dz at *
    refine wpAnyH_take (i := 0) (oi := ⟨some 122, _, _, _, _, _⟩) (v := ?_) rfl (by kernel_rfl) (by kernel_rfl) (by kernel_rfl) (fun _ _ _ h => h) (Or.inl ⟨by rfl, ?_⟩) (by assumption) ?_
    rotate_left
    · intro WW hSw
      try dsimp only at hSw
      go_simp
      try with_reducible rfl
    try simp only [Act.put, pA, pB, pC]
    refine wpAnyH_take (i := 1) (oi := ⟨some 123, _, _, _, _, _⟩) (v := ?_) rfl (by kernel_rfl) (by kernel_rfl) (by kernel_rfl) (fun _ _ _ h => h) (Or.inl ⟨by rfl, ?_⟩) (by assumption) ?_
    rotate_left
    · intro WW hSw
      try dsimp only at hSw
      go_simp
      try with_reducible rfl
    try simp only [Act.put, pA, pB, pC]
    refine wpAnyH_ready (rs := [2]) (by kernel_rfl) (by simp) ?_
    refine AllReadyH.cons (o := ⟨none, _, _, _, _, _⟩) rfl (fun K hK => ?_) AllReadyH.nil
    obtain ⟨m0, m1, m2, m3, m4, m5, m6, m7, n0, n1, n2, n3, n4, n5, n6, n7⟩ := zC_facts HF115.out.res
    obtain ⟨j1, j2, j3⟩ := set8 HF115.out.res (.int .i64 3) (.int .i64 0) (.string (bsV b5)) (.int .i64 x3) (.int .i64 0) (.int .i64 0) (.slice Av 0 cv) (.bool false)
    go_simp
    refine hK.out _ _ ?_ (fun hHeldZ => ?_)
    · exact ⟨cell_of_row _ _ 0 _ _ (0, 0) ((j2 _ (by omega)).trans HF115.out.box), cell_of_row _ _ 1 _ _ (0, 0) ((j2 _ (by omega)).trans HF115.out.box), cell_of_row _ _ 2 _ _ (0, 0) ((j2 _ (by omega)).trans HF115.out.box), cell_of_row _ _ 3 _ _ (0, 0) ((j2 _ (by omega)).trans HF115.out.box), cell_of_row _ _ 4 _ _ (0, 0) ((j2 _ (by omega)).trans HF115.out.box), cell_of_row _ _ 5 _ _ (0, 0) ((j2 _ (by omega)).trans HF115.out.box), cell_of_row _ _ 6 _ _ (0, 0) ((j2 _ (by omega)).trans HF115.out.box), cell_of_row _ _ 7 _ _ (0, 0) ((j2 _ (by omega)).trans HF115.out.box), cell_of_row _ _ 0 _ _ (0, 0) ((j2 _ (by omega)).trans HF115.out.okb)⟩
    clear hK K hHeld
    try simp only [Act.put, pA, pB, pC]
    refine wpAnyH_take (i := 3) (oi := ⟨some 5, _, _, _, _, _⟩) (v := ?_) rfl (by kernel_rfl) (by kernel_rfl) (by kernel_rfl) (fun _ _ _ h => h) (Or.inl ⟨by rfl, ?_⟩) (by assumption) ?_
    rotate_left
    · intro WW hSw
      try dsimp only at hSw
      go_simp
      try with_reducible rfl
    try simp only [Act.put, pA, pB, pC]
    refine wpAnyH_done (by kernel_rfl) ?_ _
    go_wp2_with fail
    refine bodyPost_ret (results_ct rfl _ _ (w.heap.size + 1) 30 #[.int .i64 3, .int .i64 0, .string (bsV b5), .int .i64 x3, .int .i64 0, .int .i64 0, .slice Av 0 cv, .bool false] (0, 0) _ rfl j1 Tryd.underlying30 rfl (by kernel_rfl)) rfl ?_
    exact ⟨⟨3, 0, b5, x3, 0, 0, [], false⟩, Av, cv, ((true && p3) && p5), rfl, (erase_fill HN3.out HN5.out).1, (erase_fill HN3.out HN5.out).2, Kd.R_below HRV.out (j3 HF115.out.bel (by omega)), j3 HF115.out.bel (by omega)⟩
  · skip
    have k3 : World.cell? _ ⟨w.heap.size, 3, none⟩ = some (.int .i64 0) := HF105.out.cell 3
    have f3 := HF105.out.frz 3
    have HF117 := Lib.hid (HF105.out.set (cs' := #[.int .i64 3, .int .i64 0, .string ⟨#[]⟩, .int .i64 x3, .int .i64 0, .int .i64 0, .slice Av 0 cv, .bool false]) 3 (.int .i64 x3) rfl)
    have HR18 := Lib.hid (R_st (r := w.heap.size) HB5.out (by omega) 3 (.int .i64 x3))
    go_simp
    clear k3 f3
    refine hK.out _ _ ?_ (fun hHeld19 => ?_)
    · exact HLC.out _ HF117.out.bel
    clear hK K hHeld6
    try simp only [Act.put, pA, pB, pC]
    refine wpAnyH_ready (rs := [10]) (by kernel_rfl) (by simp) ?_
    refine AllReadyH.cons (o := ⟨some 108, _, _, _, _, _⟩) rfl (fun K hK => ?_) AllReadyH.nil
    have hcv : (Kd.int .u8).C (y5.setCell ⟨w.heap.size, 3, none⟩ (.int .i64 x3)) B5 b5.length (bI b5) := by have := (Kd.R_reads' HR18.out).2.2; rwa [bI_len] at this
    refine value_ (N := some 108) (by rfl) rfl (exec_conv1 rfl (by rfl) (conv_bs c5 hcv)) ?_
    clear hcv
    refine hK.out _ _ ?_ (fun hHeld20 => ?_)
    · exact HLC.out _ HF117.out.bel
    clear hK K hHeld19
    try simp only [Act.put, pA, pB, pC]
    refine wpAnyH_take (i := 14) (oi := ⟨some 111, _, _, _, _, _⟩) (v := ?_) rfl (by kernel_rfl) (by kernel_rfl) (by kernel_rfl) (fun _ _ _ h => h) (Or.inl ⟨by rfl, ?_⟩) (by assumption) ?_
    rotate_left
    · intro WW hSw
      try dsimp only at hSw
      go_simp
      try with_reducible rfl
    try simp only [Act.put, pA, pB, pC]
    refine wpAnyH_take (i := 15) (oi := ⟨some 112, _, _, _, _, _⟩) (v := ?_) rfl (by kernel_rfl) (by kernel_rfl) (by kernel_rfl) (fun _ _ _ h => h) (Or.inl ⟨by rfl, ?_⟩) (by assumption) ?_
    rotate_left
    · intro WW hSw
      try dsimp only at hSw
      go_simp
      try with_reducible rfl
    try simp only [Act.put, pA, pB, pC]
    refine wpAnyH_ready (rs := [16]) (by kernel_rfl) (by simp) ?_
    refine AllReadyH.cons (o := ⟨none, _, _, _, _, _⟩) rfl (fun K hK => ?_) AllReadyH.nil
    have k2 : World.cell? _ ⟨w.heap.size, 2, none⟩ = some (.string ⟨#[]⟩) := HF117.out.cell 2
    have f2 := HF117.out.frz 2
    have HF121 := Lib.hid (HF117.out.set (cs' := #[.int .i64 3, .int .i64 0, .string (bsV b5), .int .i64 x3, .int .i64 0, .int .i64 0, .slice Av 0 cv, .bool false]) 2 (.string (bsV b5)) rfl)
    have HR22 := Lib.hid (R_st (r := w.heap.size) HR18.out (by omega) 2 (.string (bsV b5)))
    go_simp
    clear k2 f2
    refine hK.out _ _ ?_ (fun hHeld23 => ?_)
    · exact HLC.out _ HF121.out.bel
    clear hK K hHeld20
    try simp only [Act.put, pA, pB, pC]
    refine wpAnyH_done (by kernel_rfl) ?_ _
    generalize ((y5.setCell ⟨w.heap.size, 3, none⟩ (.int .i64 x3)).setCell ⟨w.heap.size, 2, none⟩ (.string (bsV b5))) = u24 at *
    go_wp2_with fail
    have HF125 := Lib.hid (HF121.out.later (Drawn0.below ⟨1, rfl⟩ : Below u24.heap.size u24 u24.drew))
    have HR26 := Lib.hid (Kd.R_below HR22.out (Drawn0.below ⟨1, rfl⟩ : Below u24.heap.size u24 u24.drew))
    refine wp_region_held_drew (S := (fun w' => w'.cell? ⟨w.heap.size, 0, none⟩ = some (.int .i64 3) ∧ w'.cell? ⟨w.heap.size, 1, none⟩ = some (.int .i64 0) ∧ w'.cell? ⟨w.heap.size, 2, none⟩ = some (.string (bsV b5)) ∧ w'.cell? ⟨w.heap.size, 3, none⟩ = some (.int .i64 x3) ∧ w'.cell? ⟨w.heap.size, 4, none⟩ = some (.int .i64 0) ∧ w'.cell? ⟨w.heap.size, 5, none⟩ = some (.int .i64 0) ∧ w'.cell? ⟨w.heap.size, 6, none⟩ = some (.slice Av 0 cv) ∧ w'.cell? ⟨w.heap.size, 7, none⟩ = some (.bool false) ∧ w'.cell? ⟨w.heap.size + 2, 0, none⟩ = some (.bool ((true && p3) && p5)))) (by kernel_rfl) ?_ (fun hHeld => ?_)
    · exact ⟨cell_of_row _ _ 0 _ _ (0, 0) HF125.out.box, cell_of_row _ _ 1 _ _ (0, 0) HF125.out.box, cell_of_row _ _ 2 _ _ (0, 0) HF125.out.box, cell_of_row _ _ 3 _ _ (0, 0) HF125.out.box, cell_of_row _ _ 4 _ _ (0, 0) HF125.out.box, cell_of_row _ _ 5 _ _ (0, 0) HF125.out.box, cell_of_row _ _ 6 _ _ (0, 0) HF125.out.box, cell_of_row _ _ 7 _ _ (0, 0) HF125.out.box, cell_of_row _ _ 0 _ _ (0, 0) HF125.out.okb⟩
    generalize u24.drew = dz at *
    refine wpAnyH_take (i := 0) (oi := ⟨some 122, _, _, _, _, _⟩) (v := ?_) rfl (by kernel_rfl) (by kernel_rfl) (by kernel_rfl) (fun _ _ _ h => h) (Or.inl ⟨by rfl, ?_⟩) (by assumption) ?_
    rotate_left
    · intro WW hSw
      try dsimp only at hSw
      go_simp
      try with_reducible rfl
    try simp only [Act.put, pA, pB, pC]
    refine wpAnyH_take (i := 1) (oi := ⟨some 123, _, _, _, _, _⟩) (v := ?_) rfl (by kernel_rfl) (by kernel_rfl) (by kernel_rfl) (fun _ _ _ h => h) (Or.inl ⟨by rfl, ?_⟩) (by assumption) ?_
    rotate_left
    · intro WW hSw
      try dsimp only at hSw
      go_simp
      try with_reducible rfl
    try simp only [Act.put, pA, pB, pC]
    refine wpAnyH_ready (rs := [2]) (by kernel_rfl) (by simp) ?_
    refine AllReadyH.cons (o := ⟨none, _, _, _, _, _⟩) rfl (fun K hK => ?_) AllReadyH.nil
    obtain ⟨m0, m1, m2, m3, m4, m5, m6, m7, n0, n1, n2, n3, n4, n5, n6, n7⟩ := zC_facts HF125.out.res
    obtain ⟨j1, j2, j3⟩ := set8 HF125.out.res (.int .i64 3) (.int .i64 0) (.string (bsV b5)) (.int .i64 x3) (.int .i64 0) (.int .i64 0) (.slice Av 0 cv) (.bool false)
    go_simp
    refine hK.out _ _ ?_ (fun hHeldZ => ?_)
    · exact ⟨cell_of_row _ _ 0 _ _ (0, 0) ((j2 _ (by omega)).trans HF125.out.box), cell_of_row _ _ 1 _ _ (0, 0) ((j2 _ (by omega)).trans HF125.out.box), cell_of_row _ _ 2 _ _ (0, 0) ((j2 _ (by omega)).trans HF125.out.box), cell_of_row _ _ 3 _ _ (0, 0) ((j2 _ (by omega)).trans HF125.out.box), cell_of_row _ _ 4 _ _ (0, 0) ((j2 _ (by omega)).trans HF125.out.box), cell_of_row _ _ 5 _ _ (0, 0) ((j2 _ (by omega)).trans HF125.out.box), cell_of_row _ _ 6 _ _ (0, 0) ((j2 _ (by omega)).trans HF125.out.box), cell_of_row _ _ 7 _ _ (0, 0) ((j2 _ (by omega)).trans HF125.out.box), cell_of_row _ _ 0 _ _ (0, 0) ((j2 _ (by omega)).trans HF125.out.okb)⟩
    clear hK K hHeld
    try simp only [Act.put, pA, pB, pC]
    refine wpAnyH_take (i := 3) (oi := ⟨some 5, _, _, _, _, _⟩) (v := ?_) rfl (by kernel_rfl) (by kernel_rfl) (by kernel_rfl) (fun _ _ _ h => h) (Or.inl ⟨by rfl, ?_⟩) (by assumption) ?_
    rotate_left
    · intro WW hSw
      try dsimp only at hSw
      go_simp
      try with_reducible rfl
    try simp only [Act.put, pA, pB, pC]
    refine wpAnyH_done (by kernel_rfl) ?_ _
    go_wp2_with fail
    refine bodyPost_ret (results_ct rfl _ _ (w.heap.size + 1) 30 #[.int .i64 3, .int .i64 0, .string (bsV b5), .int .i64 x3, .int .i64 0, .int .i64 0, .slice Av 0 cv, .bool false] (0, 0) _ rfl j1 Tryd.underlying30 rfl (by kernel_rfl)) rfl ?_
    exact ⟨⟨3, 0, b5, x3, 0, 0, [], false⟩, Av, cv, ((true && p3) && p5), rfl, (erase_fill HN3.out HN5.out).1, (erase_fill HN3.out HN5.out).2, Kd.R_below HRV.out (j3 HF125.out.bel (by omega)), j3 HF125.out.bel (by omega)⟩
end Go.Proofs.YtgfljpchdiapeaaDoor
namespace Go.Proofs.YtgfljpchdiapeaaDoor
set_option linter.unusedVariables false
set_option linter.unusedSimpArgs false
open Go.RowKit Go.Proofs.YtgfljpchdiapeaaDoorW.PrintWords Go.Proofs.YtgfljpchdiapeaaDoorW.PrintLast
attribute [local go_sem ↓] Go.wp_at_zero Go.wp_at_succ
attribute [local go_sem] bsV_get bsV_size bsV_toList
set_option maxHeartbeats 8000000 in
set_option maxRecDepth 100000 in
theorem fill_miss (a b : Bs) (A : Option Addr) (c0 : Nat) (w : World) (hC : Kd.string.C w A [a, b].length ([a, b].map bsV)) (hc : 2 ≤ c0) (hl : ∀ z ∈ [a, b], z.length < 100000000) (Av : Option Addr) (cv B0 : Nat) (hRv : Kd.R (Kd.int .u8) 5 w B0 (fun _ => True) (.slice Av 0 cv) []) (hB0 : B0 ≤ w.heap.size) : Calls Tryd.prog 46 #[.agg #[.int .i64 2, .int .i64 0, .string ⟨#[]⟩, .int .i64 0, .int .i64 0, .int .i64 0, .slice Av 0 cv, .bool false], .slice A 2 c0] w (FPost (missR [a, b]) B0 w) := by
  have HC := Lib.hid hC
  have HRV := Lib.hid hRv
  have HB0 := Lib.hid hB0
  clear hRv hB0
  have HLa := Lib.hid (hl a (by simp))
  have HLb := Lib.hid (hl b (by simp))
  clear hC hl
  obtain ⟨ad, rfl, _⟩ := str_at HC.out (i := 0) (by simp)
  have HLC := Lib.hid (show ∀ W, Below w.heap.size w W → W.cell? ad = some (.string (bsV a)) ∧ W.cell? ⟨ad.block, ad.off + 1, none⟩ = some (.string (bsV b)) from fun W hW => by
    refine ⟨?_, ?_⟩
    · obtain ⟨ad', e, h⟩ := str_at HC.out (i := 0) (by simp)
      injection e with e
      subst e
      exact (hW.cell (World.block_lt_of_cell? w _ h)).trans h
    · obtain ⟨ad', e, h⟩ := str_at HC.out (i := 1) (by simp)
      injection e with e
      subst e
      exact (hW.cell (World.block_lt_of_cell? w _ h)).trans h)
  have HW := Lib.hid (fun W => wordsE_any ⟨2, 0, [], 0, 0, 0, [], false⟩ Av cv W ⟨Nat.zero_le _, Kd.C_of_reads (d := (0 : Int)) ⟨rfl, by decide, fun h => absurd h (by decide)⟩, ⟨⟨by decide, by decide⟩, ⟨by decide, by decide⟩, ⟨by decide, by decide⟩, ⟨by decide, by decide⟩, ⟨by decide, by decide⟩⟩, by decide, by decide⟩)
  have HF0 := Lib.hid (fs_start w #[.int .i64 2, .int .i64 0, .string ⟨#[]⟩, .int .i64 0, .int .i64 0, .int .i64 0, .slice Av 0 cv, .bool false])
  unfold eC at HW
  go_enter Tryd.func46, Tryd.ntmps46
  go_upto_region 2 with (fail)
  have e0 : ((w.alloc (.cells #[.int .i64 2, .int .i64 0, .string ⟨#[]⟩, .int .i64 0, .int .i64 0, .int .i64 0, .slice Av 0 cv, .bool false] 30)).alloc (.cells zC 30)).alloc (.cells #[.bool true] 4) = ((w.alloc (.cells #[.int .i64 2, .int .i64 0, .string ⟨#[]⟩, .int .i64 0, .int .i64 0, .int .i64 0, .slice Av 0 cv, .bool false] 30)).alloc (.cells #[.int .i64 0, .int .i64 0, .string ⟨#[]⟩, .int .i64 0, .int .i64 0, .int .i64 0, .slice none 0 0, .bool false] 30)).alloc (.cells #[.bool true] 4) := rfl
  rw [e0] at HF0
  clear e0
  generalize ((w.alloc (.cells #[.int .i64 2, .int .i64 0, .string ⟨#[]⟩, .int .i64 0, .int .i64 0, .int .i64 0, .slice Av 0 cv, .bool false] 30)).alloc (.cells #[.int .i64 0, .int .i64 0, .string ⟨#[]⟩, .int .i64 0, .int .i64 0, .int .i64 0, .slice none 0 0, .bool false] 30)).alloc (.cells #[.bool true] 4) = w1 at *
  have k0 : w1.cell? ⟨w.heap.size, 0, none⟩ = some (.int .i64 2) := HF0.out.cell 0
  have k1 : w1.cell? ⟨w.heap.size, 1, none⟩ = some (.int .i64 0) := HF0.out.cell 1
  have k2 : w1.cell? ⟨w.heap.size, 2, none⟩ = some (.string ⟨#[]⟩) := HF0.out.cell 2
  have k3 : w1.cell? ⟨w.heap.size, 3, none⟩ = some (.int .i64 0) := HF0.out.cell 3
  have k4 : w1.cell? ⟨w.heap.size, 4, none⟩ = some (.int .i64 0) := HF0.out.cell 4
  have k5 : w1.cell? ⟨w.heap.size, 5, none⟩ = some (.int .i64 0) := HF0.out.cell 5
  have k6 : w1.cell? ⟨w.heap.size, 6, none⟩ = some (.slice Av 0 cv) := HF0.out.cell 6
  have k7 : w1.cell? ⟨w.heap.size, 7, none⟩ = some (.bool false) := HF0.out.cell 7
  go_wp2_with fail
  refine (HW.out w1).mono ?_
  rintro x w2 ⟨rfl, hb⟩
  have HF1 := Lib.hid (HF0.out.later hb)
  clear hb HF0 HW k0 k1 k2 k3 k4 k5 k6 k7
  rw [show wordE ⟨2, 0, [], 0, 0, 0, [], false⟩ = [109, 105, 115, 115] from rfl]
  go_wp2_with fail
  have HF101 := Lib.hid (HF1.out.later (Drawn0.below ⟨1, rfl⟩ : Below w2.heap.size w2 w2.drew))
  refine wp_region_held_drew (S := (fun w' => w'.cell? ad = some (.string (bsV a)) ∧ w'.cell? ⟨ad.block, ad.off + 1, none⟩ = some (.string (bsV b)))) (by kernel_rfl) ?_ (fun hHeld => ?_)
  · exact HLC.out _ HF101.out.bel
  generalize w2.drew = d2 at *
  refine wpAnyH_take (i := 0) (oi := ⟨some 58, _, _, _, _, _⟩) (v := ?_) rfl (by kernel_rfl) (by kernel_rfl) (by kernel_rfl) (fun _ _ _ h => h) (Or.inl ⟨by rfl, ?_⟩) (by assumption) ?_
  rotate_left
  · intro WW hSw
    try dsimp only at hSw
    go_simp
    try with_reducible rfl
  try simp only [Act.put, pA, pB, pC]
  refine wpAnyH_take (i := 1) (oi := ⟨some 59, _, _, _, _, _⟩) (v := ?_) rfl (by kernel_rfl) (by kernel_rfl) (by kernel_rfl) (fun _ _ _ h => h) (Or.inl ⟨by rfl, ?_⟩) (by assumption) ?_
  rotate_left
  · intro WW hSw
    try dsimp only at hSw
    go_simp
    try with_reducible rfl
  try simp only [Act.put, pA, pB, pC]
  refine wpAnyH_take (i := 2) (oi := ⟨some 60, _, _, _, _, _⟩) (v := ?_) rfl (by kernel_rfl) (by kernel_rfl) (by kernel_rfl) (fun _ _ _ h => h) (Or.inl ⟨by rfl, ?_⟩) (by assumption) ?_
  rotate_left
  · intro WW hSw
    try dsimp only at hSw
    go_simp
    try with_reducible rfl
  try simp only [Act.put, pA, pB, pC]
  refine wpAnyH_take (i := 3) (oi := ⟨some 61, _, _, _, _, _⟩) (v := ?_) rfl (by kernel_rfl) (by kernel_rfl) (by kernel_rfl) (fun _ _ _ h => h) (Or.inl ⟨by rfl, ?_⟩) (by assumption) ?_
  rotate_left
  · intro WW hSw
    try dsimp only at hSw
    go_simp
    try with_reducible rfl
  try simp only [Act.put, pA, pB, pC]
  refine wpAnyH_take (i := 5) (oi := ⟨some 63, _, _, _, _, _⟩) (v := ?_) rfl (by kernel_rfl) (by kernel_rfl) (by kernel_rfl) (fun _ _ _ h => h) (Or.inl ⟨by rfl, ?_⟩) (by assumption) ?_
  rotate_left
  · intro WW hSw
    try dsimp only at hSw
    go_simp
    try with_reducible rfl
  try simp only [Act.put, pA, pB, pC]
  refine wpAnyH_take (i := 6) (oi := ⟨some 64, _, _, _, _, _⟩) (v := ?_) rfl (by kernel_rfl) (by kernel_rfl) (by kernel_rfl) (fun _ _ _ h => h) (Or.inl ⟨by rfl, ?_⟩) (by assumption) ?_
  rotate_left
  · intro WW hSw
    try dsimp only at hSw
    go_simp
    try with_reducible rfl
  try simp only [Act.put, pA, pB, pC]
  refine wpAnyH_take (i := 7) (oi := ⟨some 65, _, _, _, _, _⟩) (v := ?_) rfl (by kernel_rfl) (by kernel_rfl) (by kernel_rfl) (fun _ _ _ h => h) (Or.inl ⟨by rfl, ?_⟩) (by assumption) ?_
  rotate_left
  · intro WW hSw
    try dsimp only at hSw
    go_simp
    try with_reducible rfl
  try simp only [Act.put, pA, pB, pC]
  refine wpAnyH_take (i := 8) (oi := ⟨some 66, _, _, _, _, _⟩) (v := ?_) rfl (by kernel_rfl) (by kernel_rfl) (by kernel_rfl) (fun _ _ _ h => h) (Or.inl ⟨by rfl, ?_⟩) (by assumption) ?_
  rotate_left
  · intro WW hSw
    try dsimp only at hSw
    go_simp
    try with_reducible rfl
  try simp only [Act.put, pA, pB, pC]
  refine wpAnyH_ready (rs := [4]) (by kernel_rfl) (by simp) ?_
  refine AllReadyH.cons (o := ⟨some 62, _, _, _, _, _⟩) rfl (fun K hK => ?_) AllReadyH.nil
  go_simp
  go_at_call 63
  refine (numC_any a HLa.out _ _ _ HF101.out.okb).mono ?_
  rintro e y3 ⟨x3, p3, rfl, hn, hg, hk⟩
  have HN3 := Lib.hid hn
  have HF103 := Lib.hid (HF101.out.grown hg hk)
  clear hn hg hk
  refine hK.out _ _ ?_ (fun hHeld4 => ?_)
  · exact HLC.out _ HF103.out.bel
  clear hK K hHeld
  try simp only [Act.put, pA, pB, pC]
  refine wpAnyH_take (i := 11) (oi := ⟨some 69, _, _, _, _, _⟩) (v := ?_) rfl (by kernel_rfl) (by kernel_rfl) (by kernel_rfl) (fun _ _ _ h => h) (Or.inl ⟨by rfl, ?_⟩) (by assumption) ?_
  rotate_left
  · intro WW hSw
    try dsimp only at hSw
    go_simp
    try with_reducible rfl
  try simp only [Act.put, pA, pB, pC]
  refine wpAnyH_ready (rs := [9]) (by kernel_rfl) (by simp) ?_
  refine AllReadyH.cons (o := ⟨some 67, _, _, _, _, _⟩) rfl (fun K hK => ?_) AllReadyH.nil
  go_simp
  go_at_call 65
  refine (bytC_any b HLb.out _ _ _ HF103.out.okb).mono ?_
  rintro e y5 ⟨B5, b5, c5, p5, rfl, hn, hr, hg, hk⟩
  have HN5 := Lib.hid hn
  have HF105 := Lib.hid (HF103.out.grown hg hk)
  have HB5 := Lib.hid (Kd.R_lower (base' := w.heap.size + 3) hr HF103.out.siz)
  clear hn hg hk hr
  refine hK.out _ _ ?_ (fun hHeld6 => ?_)
  · exact HLC.out _ HF105.out.bel
  clear hK K hHeld4
  try simp only [Act.put, pA, pB, pC]
  refine wpAnyH_ready (rs := [10, 12]) (by kernel_rfl) (by simp) ?_
  refine AllReadyH.cons (o := ⟨some 68, _, _, _, _, _⟩) rfl (fun K hK => ?_) (AllReadyH.cons (o := ⟨none, _, _, _, _, _⟩) rfl (fun K hK => ?_) AllReadyH.nil)
  · skip
    have hcv : (Kd.int .u8).C y5 B5 b5.length (bI b5) := by have := (Kd.R_reads' HB5.out).2.2; rwa [bI_len] at this
    refine value_ (N := some 68) (by rfl) rfl (exec_conv1 rfl (by rfl) (conv_bs c5 hcv)) ?_
    clear hcv
    refine hK.out _ _ ?_ (fun hHeld7 => ?_)
    · exact HLC.out _ HF105.out.bel
    clear hK K hHeld6
    try simp only [Act.put, pA, pB, pC]
    refine wpAnyH_ready (rs := [12]) (by kernel_rfl) (by simp) ?_
    refine AllReadyH.cons (o := ⟨none, _, _, _, _, _⟩) rfl (fun K hK => ?_) AllReadyH.nil
    have k1 : World.cell? _ ⟨w.heap.size, 1, none⟩ = some (.int .i64 0) := HF105.out.cell 1
    have f1 := HF105.out.frz 1
    have HF108 := Lib.hid (HF105.out.set (cs' := #[.int .i64 2, .int .i64 x3, .string ⟨#[]⟩, .int .i64 0, .int .i64 0, .int .i64 0, .slice Av 0 cv, .bool false]) 1 (.int .i64 x3) rfl)
    have HR9 := Lib.hid (R_st (r := w.heap.size) HB5.out (by omega) 1 (.int .i64 x3))
    go_simp
    clear k1 f1
    refine hK.out _ _ ?_ (fun hHeld10 => ?_)
    · exact HLC.out _ HF108.out.bel
    clear hK K hHeld7
    try simp only [Act.put, pA, pB, pC]
    refine wpAnyH_take (i := 13) (oi := ⟨some 70, _, _, _, _, _⟩) (v := ?_) rfl (by kernel_rfl) (by kernel_rfl) (by kernel_rfl) (fun _ _ _ h => h) (Or.inl ⟨by rfl, ?_⟩) (by assumption) ?_
    rotate_left
    · intro WW hSw
      try dsimp only at hSw
      go_simp
      try with_reducible rfl
    try simp only [Act.put, pA, pB, pC]
    refine wpAnyH_take (i := 14) (oi := ⟨some 71, _, _, _, _, _⟩) (v := ?_) rfl (by kernel_rfl) (by kernel_rfl) (by kernel_rfl) (fun _ _ _ h => h) (Or.inl ⟨by rfl, ?_⟩) (by assumption) ?_
    rotate_left
    · intro WW hSw
      try dsimp only at hSw
      go_simp
      try with_reducible rfl
    try simp only [Act.put, pA, pB, pC]
    refine wpAnyH_ready (rs := [15]) (by kernel_rfl) (by simp) ?_
    refine AllReadyH.cons (o := ⟨none, _, _, _, _, _⟩) rfl (fun K hK => ?_) AllReadyH.nil
    have k2 : World.cell? _ ⟨w.heap.size, 2, none⟩ = some (.string ⟨#[]⟩) := HF108.out.cell 2
    have f2 := HF108.out.frz 2
    have HF111 := Lib.hid (HF108.out.set (cs' := #[.int .i64 2, .int .i64 x3, .string (bsV b5), .int .i64 0, .int .i64 0, .int .i64 0, .slice Av 0 cv, .bool false]) 2 (.string (bsV b5)) rfl)
    have HR12 := Lib.hid (R_st (r := w.heap.size) HR9.out (by omega) 2 (.string (bsV b5)))
    go_simp
    clear k2 f2
    refine hK.out _ _ ?_ (fun hHeld13 => ?_)
    · exact HLC.out _ HF111.out.bel
    clear hK K hHeld10
    try simp only [Act.put, pA, pB, pC]
    refine wpAnyH_done (by kernel_rfl) ?_ _
    generalize ((y5.setCell ⟨w.heap.size, 1, none⟩ (.int .i64 x3)).setCell ⟨w.heap.size, 2, none⟩ (.string (bsV b5))) = u14 at *
    go_wp2_with fail
    have HF115 := Lib.hid (HF111.out.later (Drawn0.below ⟨1, rfl⟩ : Below u14.heap.size u14 u14.drew))
    have HR16 := Lib.hid (Kd.R_below HR12.out (Drawn0.below ⟨1, rfl⟩ : Below u14.heap.size u14 u14.drew))
    refine wp_region_held_drew (S := (fun w' => w'.cell? ⟨w.heap.size, 0, none⟩ = some (.int .i64 2) ∧ w'.cell? ⟨w.heap.size, 1, none⟩ = some (.int .i64 x3) ∧ w'.cell? ⟨w.heap.size, 2, none⟩ = some (.string (bsV b5)) ∧ w'.cell? ⟨w.heap.size, 3, none⟩ = some (.int .i64 0) ∧ w'.cell? ⟨w.heap.size, 4, none⟩ = some (.int .i64 0) ∧ w'.cell? ⟨w.heap.size, 5, none⟩ = some (.int .i64 0) ∧ w'.cell? ⟨w.heap.size, 6, none⟩ = some (.slice Av 0 cv) ∧ w'.cell? ⟨w.heap.size, 7, none⟩ = some (.bool false) ∧ w'.cell? ⟨w.heap.size + 2, 0, none⟩ = some (.bool ((true && p3) && p5)))) (by kernel_rfl) ?_ (fun hHeld => ?_)
    · exact ⟨cell_of_row _ _ 0 _ _ (0, 0) HF115.out.box, cell_of_row _ _ 1 _ _ (0, 0) HF115.out.box, cell_of_row _ _ 2 _ _ (0, 0) HF115.out.box, cell_of_row _ _ 3 _ _ (0, 0) HF115.out.box, cell_of_row _ _ 4 _ _ (0, 0) HF115.out.box, cell_of_row _ _ 5 _ _ (0, 0) HF115.out.box, cell_of_row _ _ 6 _ _ (0, 0) HF115.out.box, cell_of_row _ _ 7 _ _ (0, 0) HF115.out.box, cell_of_row _ _ 0 _ _ (0, 0) HF115.out.okb⟩
    generalize u14.drew = dz at *
    refine wpAnyH_take (i := 0) (oi := ⟨some 122, _, _, _, _, _⟩) (v := ?_) rfl (by kernel_rfl) (by kernel_rfl) (by kernel_rfl) (fun _ _ _ h => h) (Or.inl ⟨by rfl, ?_⟩) (by assumption) ?_
    rotate_left
    · intro WW hSw
      try dsimp only at hSw
      go_simp
      try with_reducible rfl
    try simp only [Act.put, pA, pB, pC]
    refine wpAnyH_take (i := 1) (oi := ⟨some 123, _, _, _, _, _⟩) (v := ?_) rfl (by kernel_rfl) (by kernel_rfl) (by kernel_rfl) (fun _ _ _ h => h) (Or.inl ⟨by rfl, ?_⟩) (by assumption) ?_
    rotate_left
    · intro WW hSw
      try dsimp only at hSw
      go_simp
      try with_reducible rfl
    try simp only [Act.put, pA, pB, pC]
    refine wpAnyH_ready (rs := [2]) (by kernel_rfl) (by simp) ?_
    refine AllReadyH.cons (o := ⟨none, _, _, _, _, _⟩) rfl (fun K hK => ?_) AllReadyH.nil
    obtain ⟨m0, m1, m2, m3, m4, m5, m6, m7, n0, n1, n2, n3, n4, n5, n6, n7⟩ := zC_facts HF115.out.res
    obtain ⟨j1, j2, j3⟩ := set8 HF115.out.res (.int .i64 2) (.int .i64 x3) (.string (bsV b5)) (.int .i64 0) (.int .i64 0) (.int .i64 0) (.slice Av 0 cv) (.bool false)
    go_simp
    refine hK.out _ _ ?_ (fun hHeldZ => ?_)
    · exact ⟨cell_of_row _ _ 0 _ _ (0, 0) ((j2 _ (by omega)).trans HF115.out.box), cell_of_row _ _ 1 _ _ (0, 0) ((j2 _ (by omega)).trans HF115.out.box), cell_of_row _ _ 2 _ _ (0, 0) ((j2 _ (by omega)).trans HF115.out.box), cell_of_row _ _ 3 _ _ (0, 0) ((j2 _ (by omega)).trans HF115.out.box), cell_of_row _ _ 4 _ _ (0, 0) ((j2 _ (by omega)).trans HF115.out.box), cell_of_row _ _ 5 _ _ (0, 0) ((j2 _ (by omega)).trans HF115.out.box), cell_of_row _ _ 6 _ _ (0, 0) ((j2 _ (by omega)).trans HF115.out.box), cell_of_row _ _ 7 _ _ (0, 0) ((j2 _ (by omega)).trans HF115.out.box), cell_of_row _ _ 0 _ _ (0, 0) ((j2 _ (by omega)).trans HF115.out.okb)⟩
    clear hK K hHeld
    try simp only [Act.put, pA, pB, pC]
    refine wpAnyH_take (i := 3) (oi := ⟨some 5, _, _, _, _, _⟩) (v := ?_) rfl (by kernel_rfl) (by kernel_rfl) (by kernel_rfl) (fun _ _ _ h => h) (Or.inl ⟨by rfl, ?_⟩) (by assumption) ?_
    rotate_left
    · intro WW hSw
      try dsimp only at hSw
      go_simp
      try with_reducible rfl
    try simp only [Act.put, pA, pB, pC]
    refine wpAnyH_done (by kernel_rfl) ?_ _
    go_wp2_with fail
    refine bodyPost_ret (results_ct rfl _ _ (w.heap.size + 1) 30 #[.int .i64 2, .int .i64 x3, .string (bsV b5), .int .i64 0, .int .i64 0, .int .i64 0, .slice Av 0 cv, .bool false] (0, 0) _ rfl j1 Tryd.underlying30 rfl (by kernel_rfl)) rfl ?_
    exact ⟨⟨2, x3, b5, 0, 0, 0, [], false⟩, Av, cv, ((true && p3) && p5), rfl, (miss_fill HN3.out HN5.out).1, (miss_fill HN3.out HN5.out).2, Kd.R_below HRV.out (j3 HF115.out.bel (by omega)), j3 HF115.out.bel (by omega)⟩
  · skip
    have k1 : World.cell? _ ⟨w.heap.size, 1, none⟩ = some (.int .i64 0) := HF105.out.cell 1
    have f1 := HF105.out.frz 1
    have HF117 := Lib.hid (HF105.out.set (cs' := #[.int .i64 2, .int .i64 x3, .string ⟨#[]⟩, .int .i64 0, .int .i64 0, .int .i64 0, .slice Av 0 cv, .bool false]) 1 (.int .i64 x3) rfl)
    have HR18 := Lib.hid (R_st (r := w.heap.size) HB5.out (by omega) 1 (.int .i64 x3))
    go_simp
    clear k1 f1
    refine hK.out _ _ ?_ (fun hHeld19 => ?_)
    · exact HLC.out _ HF117.out.bel
    clear hK K hHeld6
    try simp only [Act.put, pA, pB, pC]
    refine wpAnyH_ready (rs := [10]) (by kernel_rfl) (by simp) ?_
    refine AllReadyH.cons (o := ⟨some 68, _, _, _, _, _⟩) rfl (fun K hK => ?_) AllReadyH.nil
    have hcv : (Kd.int .u8).C (y5.setCell ⟨w.heap.size, 1, none⟩ (.int .i64 x3)) B5 b5.length (bI b5) := by have := (Kd.R_reads' HR18.out).2.2; rwa [bI_len] at this
    refine value_ (N := some 68) (by rfl) rfl (exec_conv1 rfl (by rfl) (conv_bs c5 hcv)) ?_
    clear hcv
    refine hK.out _ _ ?_ (fun hHeld20 => ?_)
    · exact HLC.out _ HF117.out.bel
    clear hK K hHeld19
    try simp only [Act.put, pA, pB, pC]
    refine wpAnyH_take (i := 13) (oi := ⟨some 70, _, _, _, _, _⟩) (v := ?_) rfl (by kernel_rfl) (by kernel_rfl) (by kernel_rfl) (fun _ _ _ h => h) (Or.inl ⟨by rfl, ?_⟩) (by assumption) ?_
    rotate_left
    · intro WW hSw
      try dsimp only at hSw
      go_simp
      try with_reducible rfl
    try simp only [Act.put, pA, pB, pC]
    refine wpAnyH_take (i := 14) (oi := ⟨some 71, _, _, _, _, _⟩) (v := ?_) rfl (by kernel_rfl) (by kernel_rfl) (by kernel_rfl) (fun _ _ _ h => h) (Or.inl ⟨by rfl, ?_⟩) (by assumption) ?_
    rotate_left
    · intro WW hSw
      try dsimp only at hSw
      go_simp
      try with_reducible rfl
    try simp only [Act.put, pA, pB, pC]
    refine wpAnyH_ready (rs := [15]) (by kernel_rfl) (by simp) ?_
    refine AllReadyH.cons (o := ⟨none, _, _, _, _, _⟩) rfl (fun K hK => ?_) AllReadyH.nil
    have k2 : World.cell? _ ⟨w.heap.size, 2, none⟩ = some (.string ⟨#[]⟩) := HF117.out.cell 2
    have f2 := HF117.out.frz 2
    have HF121 := Lib.hid (HF117.out.set (cs' := #[.int .i64 2, .int .i64 x3, .string (bsV b5), .int .i64 0, .int .i64 0, .int .i64 0, .slice Av 0 cv, .bool false]) 2 (.string (bsV b5)) rfl)
    have HR22 := Lib.hid (R_st (r := w.heap.size) HR18.out (by omega) 2 (.string (bsV b5)))
    go_simp
    clear k2 f2
    refine hK.out _ _ ?_ (fun hHeld23 => ?_)
    · exact HLC.out _ HF121.out.bel
    clear hK K hHeld20
    try simp only [Act.put, pA, pB, pC]
    refine wpAnyH_done (by kernel_rfl) ?_ _
    generalize ((y5.setCell ⟨w.heap.size, 1, none⟩ (.int .i64 x3)).setCell ⟨w.heap.size, 2, none⟩ (.string (bsV b5))) = u24 at *
    go_wp2_with fail
    have HF125 := Lib.hid (HF121.out.later (Drawn0.below ⟨1, rfl⟩ : Below u24.heap.size u24 u24.drew))
    have HR26 := Lib.hid (Kd.R_below HR22.out (Drawn0.below ⟨1, rfl⟩ : Below u24.heap.size u24 u24.drew))
    refine wp_region_held_drew (S := (fun w' => w'.cell? ⟨w.heap.size, 0, none⟩ = some (.int .i64 2) ∧ w'.cell? ⟨w.heap.size, 1, none⟩ = some (.int .i64 x3) ∧ w'.cell? ⟨w.heap.size, 2, none⟩ = some (.string (bsV b5)) ∧ w'.cell? ⟨w.heap.size, 3, none⟩ = some (.int .i64 0) ∧ w'.cell? ⟨w.heap.size, 4, none⟩ = some (.int .i64 0) ∧ w'.cell? ⟨w.heap.size, 5, none⟩ = some (.int .i64 0) ∧ w'.cell? ⟨w.heap.size, 6, none⟩ = some (.slice Av 0 cv) ∧ w'.cell? ⟨w.heap.size, 7, none⟩ = some (.bool false) ∧ w'.cell? ⟨w.heap.size + 2, 0, none⟩ = some (.bool ((true && p3) && p5)))) (by kernel_rfl) ?_ (fun hHeld => ?_)
    · exact ⟨cell_of_row _ _ 0 _ _ (0, 0) HF125.out.box, cell_of_row _ _ 1 _ _ (0, 0) HF125.out.box, cell_of_row _ _ 2 _ _ (0, 0) HF125.out.box, cell_of_row _ _ 3 _ _ (0, 0) HF125.out.box, cell_of_row _ _ 4 _ _ (0, 0) HF125.out.box, cell_of_row _ _ 5 _ _ (0, 0) HF125.out.box, cell_of_row _ _ 6 _ _ (0, 0) HF125.out.box, cell_of_row _ _ 7 _ _ (0, 0) HF125.out.box, cell_of_row _ _ 0 _ _ (0, 0) HF125.out.okb⟩
    generalize u24.drew = dz at *
    refine wpAnyH_take (i := 0) (oi := ⟨some 122, _, _, _, _, _⟩) (v := ?_) rfl (by kernel_rfl) (by kernel_rfl) (by kernel_rfl) (fun _ _ _ h => h) (Or.inl ⟨by rfl, ?_⟩) (by assumption) ?_
    rotate_left
    · intro WW hSw
      try dsimp only at hSw
      go_simp
      try with_reducible rfl
    try simp only [Act.put, pA, pB, pC]
    refine wpAnyH_take (i := 1) (oi := ⟨some 123, _, _, _, _, _⟩) (v := ?_) rfl (by kernel_rfl) (by kernel_rfl) (by kernel_rfl) (fun _ _ _ h => h) (Or.inl ⟨by rfl, ?_⟩) (by assumption) ?_
    rotate_left
    · intro WW hSw
      try dsimp only at hSw
      go_simp
      try with_reducible rfl
    try simp only [Act.put, pA, pB, pC]
    refine wpAnyH_ready (rs := [2]) (by kernel_rfl) (by simp) ?_
    refine AllReadyH.cons (o := ⟨none, _, _, _, _, _⟩) rfl (fun K hK => ?_) AllReadyH.nil
    obtain ⟨m0, m1, m2, m3, m4, m5, m6, m7, n0, n1, n2, n3, n4, n5, n6, n7⟩ := zC_facts HF125.out.res
    obtain ⟨j1, j2, j3⟩ := set8 HF125.out.res (.int .i64 2) (.int .i64 x3) (.string (bsV b5)) (.int .i64 0) (.int .i64 0) (.int .i64 0) (.slice Av 0 cv) (.bool false)
    go_simp
    refine hK.out _ _ ?_ (fun hHeldZ => ?_)
    · exact ⟨cell_of_row _ _ 0 _ _ (0, 0) ((j2 _ (by omega)).trans HF125.out.box), cell_of_row _ _ 1 _ _ (0, 0) ((j2 _ (by omega)).trans HF125.out.box), cell_of_row _ _ 2 _ _ (0, 0) ((j2 _ (by omega)).trans HF125.out.box), cell_of_row _ _ 3 _ _ (0, 0) ((j2 _ (by omega)).trans HF125.out.box), cell_of_row _ _ 4 _ _ (0, 0) ((j2 _ (by omega)).trans HF125.out.box), cell_of_row _ _ 5 _ _ (0, 0) ((j2 _ (by omega)).trans HF125.out.box), cell_of_row _ _ 6 _ _ (0, 0) ((j2 _ (by omega)).trans HF125.out.box), cell_of_row _ _ 7 _ _ (0, 0) ((j2 _ (by omega)).trans HF125.out.box), cell_of_row _ _ 0 _ _ (0, 0) ((j2 _ (by omega)).trans HF125.out.okb)⟩
    clear hK K hHeld
    try simp only [Act.put, pA, pB, pC]
    refine wpAnyH_take (i := 3) (oi := ⟨some 5, _, _, _, _, _⟩) (v := ?_) rfl (by kernel_rfl) (by kernel_rfl) (by kernel_rfl) (fun _ _ _ h => h) (Or.inl ⟨by rfl, ?_⟩) (by assumption) ?_
    rotate_left
    · intro WW hSw
      try dsimp only at hSw
      go_simp
      try with_reducible rfl
    try simp only [Act.put, pA, pB, pC]
    refine wpAnyH_done (by kernel_rfl) ?_ _
    go_wp2_with fail
    refine bodyPost_ret (results_ct rfl _ _ (w.heap.size + 1) 30 #[.int .i64 2, .int .i64 x3, .string (bsV b5), .int .i64 0, .int .i64 0, .int .i64 0, .slice Av 0 cv, .bool false] (0, 0) _ rfl j1 Tryd.underlying30 rfl (by kernel_rfl)) rfl ?_
    exact ⟨⟨2, x3, b5, 0, 0, 0, [], false⟩, Av, cv, ((true && p3) && p5), rfl, (miss_fill HN3.out HN5.out).1, (miss_fill HN3.out HN5.out).2, Kd.R_below HRV.out (j3 HF125.out.bel (by omega)), j3 HF125.out.bel (by omega)⟩
end Go.Proofs.YtgfljpchdiapeaaDoor
