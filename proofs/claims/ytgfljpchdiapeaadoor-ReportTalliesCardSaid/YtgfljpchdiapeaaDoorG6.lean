/- An event as a line: report.Line. An event as a line: the document's Line. -/
import Derived.Test.YtgfljpchdiapeaaDoorG3
namespace Go.Proofs.YtgfljpchdiapeaaDoor
set_option linter.unusedVariables false
set_option linter.unusedSimpArgs false
open Go.RowKit Go.Proofs.YtgfljpchdiapeaaDoorW.PrintWords Go.Proofs.YtgfljpchdiapeaaDoorW.PrintLast
attribute [local go_sem ↓] Go.wp_at_zero Go.wp_at_succ
attribute [local go_sem] bsV_get bsV_size bsV_toList
theorem exec_conv1 {o : Oper} {ev : Operand → Value} {s d : TypeId} {x : Operand} {a v : Value} {W W1 : World} (ho : o.op = .convert s d x) (hx : ev x = a) (hc : (convert s d a).run Tryd.prog W = .ok v W1) : (execOp ev o).run Tryd.prog W = .ok (.value v) W1 := by
  unfold execOp
  simp only [ho, hx, hc, Sem.run_bind, Sem.run_pure, Result.andThen_ok]
theorem lit_SLs (W : World) (B : Nat) (hB : B ≤ W.heap.size) (L : List Bs) (hL : 0 < L.length) (hm : L.length ≤ 100) : SLs (W.alloc (.cells ((L.map bsV).map Value.string).toArray 9)) B (.slice (some ⟨W.heap.size, 0, none⟩) L.length L.length) L :=
  Kd.R_of_own (enc := Value.string) (h1 := fun _ => rfl) (by
    have := World.ownsRow_lit (base := B) (e := 9) (size := 1) W ((L.map bsV).map Value.string).toArray L.length hB (by simp [maxLen]; omega) (by simp)
    simpa [encs] using this) (fun _ _ => trivial)
theorem q3_len (b : Bs) : (quoS b).length ≤ 3 * b.length + 1 := by
  unfold quoS
  split
  · simp
  · have := q_len b
    omega
theorem tailE_len {e : Ev} (hk : okE e) (h1 : e.key.length ≤ 10000) (h2 : e.value.length ≤ 10000) : ∀ x ∈ wordE e :: tailE e, x.length ≤ 30001 := by
  obtain ⟨_, b3, b4, b5, _⟩ := hk
  have d3 := decS_len b3.1 b3.2
  have d4 := decS_len b4.1 b4.2
  have d5 := decS_len b5.1 b5.2
  have q1 := q3_len e.key
  have q2 := q3_len e.value
  have hw : (wordE e).length ≤ 5 := by
    unfold wordE
    repeat' split
    all_goals decide
  intro x hx
  rcases List.mem_cons.1 hx with rfl | hx
  · omega
  · unfold tailE at hx
    repeat' (split at hx)
    all_goals
      simp only [List.mem_cons, List.not_mem_nil, or_false] at hx
    · rcases hx with rfl | rfl | rfl | rfl | rfl <;> omega
    · rcases hx with rfl | rfl <;> omega
    · rcases hx with rfl | rfl | rfl <;> omega
    · rcases hx with rfl | rfl <;> omega
    · subst hx; omega
theorem tail_join {e : Ev} (h : 1 ≤ e.kind ∧ e.kind ≤ 4) : lineE e = wordE e ++ 32 :: joinS 32 (tailE e) := by
  rw [lineE, if_pos h]
  rcases kind4 h with k | k | ⟨k, f⟩ | ⟨k, f⟩ | k
  · simp [tailE, k, joinS]
  · simp [tailE, k, joinS]
  · simp [tailE, k, f, joinS]
  · simp [tailE, k, f, joinS]
  · simp [tailE, k, joinS]
set_option maxHeartbeats 4000000 in
set_option maxRecDepth 100000 in
theorem repLine_any (e : Ev) (A : Option Addr) (c : Nat) (w : World) (hE : EM w e A c) : Calls Tryd.prog 9 #[.agg (eC e A c)] w (QS w (lineE e)) := by
  have HE := Lib.hid hE
  have HB0 := Lib.hid ((Below.refl w.heap.size w).alloc (Nat.le_refl _) (.cells (eC e A c) 30))
  have HX0 := Lib.hid (show (w.alloc (.cells (eC e A c) 30)).heap[w.heap.size]? = some (.cells (eC e A c) 30 (0, 0)) from heap_alloc_new _ _)
  have HW := Lib.hid (wordsE_any e A c (w.alloc (.cells (eC e A c) 30)) (hE.later (bel_alloc _ _)))
  clear hE
  unfold eC at HB0 HX0 HW ⊢
  go_enter Tryd.func9, Tryd.ntmps9
  go_wp2_with fail
  refine HW.out.mono ?_
  rintro x w1 ⟨rfl, hb⟩
  have HB1 := Lib.hid (HB0.out.trans (hb.mono HB0.out.size))
  have HX1 := Lib.hid ((hb.block w.heap.size (by simp)).trans HX0.out)
  clear hb HB0 HX0 HW
  have HXX := Lib.hid (show ∀ W, Below w1.heap.size w1 W → W.cell? ⟨w.heap.size, 0, none⟩ = some (.int .i64 e.kind) ∧ W.cell? ⟨w.heap.size, 1, none⟩ = some (.int .i64 e.node) ∧ W.cell? ⟨w.heap.size, 2, none⟩ = some (.string (bsV e.key)) ∧ W.cell? ⟨w.heap.size, 3, none⟩ = some (.int .i64 e.ver) ∧ W.cell? ⟨w.heap.size, 4, none⟩ = some (.int .i64 e.asof) ∧ W.cell? ⟨w.heap.size, 5, none⟩ = some (.int .i64 e.ends) ∧ W.cell? ⟨w.heap.size, 6, none⟩ = some (.slice A e.value.length c) ∧ W.cell? ⟨w.heap.size, 7, none⟩ = some (.bool e.found) from fun W hW => by
    have e1 := (hW.block _ (Array.getElem?_eq_some_iff.1 HX1.out).1).trans HX1.out
    refine ⟨?_, ?_, ?_, ?_, ?_, ?_, ?_, ?_⟩ <;> (rw [World.cell?, e1]; rfl))
  have z0 : Hid (Below w1.heap.size w1 w1.drew) := (Drawn0.below ⟨1, rfl⟩)
  have kb := fun W => print_bytes (P := Tryd.prog) 9 26 5 Tryd.underlying9 Tryd.underlying26 Tryd.underlying5 (bsV e.key) W
  rw [bsV_size] at kb
  have HBY := Lib.hid (show ∀ W, Below w1.heap.size w1 W → Below w1.heap.size w1 (Lib.bytesWorld W 5 (bsV e.key)) from fun W hW => hW.trans ((bytes_below (Below.refl W.heap.size W) (Nat.le_refl _) 5 (bsV e.key)).mono hW.size))
  have HQ := Lib.hid (show ∀ (k g : Nat) (W : World), g = W.heap.size → Below w1.heap.size w1 W → Calls Tryd.prog 33 #[.slice (some ⟨g, 0, none⟩) e.key.length k] (Lib.bytesWorld W 5 (bsV e.key)) fun x w' => x = .returned (.string (bsV (quoS e.key))) ∧ Below w1.heap.size w1 w' from fun k g W hg hW => by
    subst hg
    exact (quote_any e.key (some ⟨W.heap.size, 0, none⟩) k (Lib.bytesWorld W 5 (bsV e.key)) (bytes_C W e.key (by have := HE.out.key; omega)) (Lib.hid (by have := HE.out.key; omega))).mono fun x w' ⟨he, hb⟩ => ⟨he, (HBY.out W hW).trans (hb.mono (HBY.out W hW).size)⟩)
  have HDN := Lib.hid (show ∀ (n : Int) (W : World), I64 n → Below w1.heap.size w1 W → Calls Tryd.prog 34 #[.int .i64 n] W fun x w' => x = .returned (.string (bsV (decS n))) ∧ Below w1.heap.size w1 w' from fun n W hn hW => (dec_any n (Lib.hid hn) W).mono fun x w' ⟨he, hb⟩ => ⟨he, by rw [hb]; exact hW⟩)
  have HQV := Lib.hid (show ∀ W : World, Below w1.heap.size w1 W → Calls Tryd.prog 33 #[.slice A e.value.length c] W fun x w' => x = .returned (.string (bsV (quoS e.value))) ∧ Below w1.heap.size w1 w' from fun W hW =>
    (quote_any e.value A c W (Kd.C_below HE.out.val (HB1.out.trans (hW.mono HB1.out.size))) (Lib.hid (by have := HE.out.vl; omega))).mono fun x w' ⟨he, hb⟩ => ⟨he, hW.trans (hb.mono hW.size)⟩)
  have HI3 := Lib.hid HE.out.ok.2.2.1
  obtain ⟨p0, p1, p2, p3, p4, p5, p6, p7⟩ := HXX.out w1 (Below.refl _ _)
  have HP := Lib.hid (show ∀ W, Below w1.heap.size w1 W → W.cell? ⟨w.heap.size, 2, none⟩ = some (.string (bsV e.key)) ∧ W.cell? ⟨w.heap.size, 3, none⟩ = some (.int .i64 e.ver) from fun W hW => ⟨(HXX.out W hW).2.2.1, (HXX.out W hW).2.2.2.1⟩)
  go_wp2_with fail
  have HGD := Lib.hid (show w1.heap.size = w1.drew.heap.size from rfl)
  obtain ⟨d2, d3⟩ := HP.out _ z0.out
  obtain ⟨b2, b3⟩ := HP.out _ (HBY.out _ z0.out)
  refine wp_region_held_drew (S := (fun w' => w'.cell? ⟨w.heap.size, 2, none⟩ = some (.string (bsV e.key)) ∧ w'.cell? ⟨w.heap.size, 3, none⟩ = some (.int .i64 e.ver))) (by kernel_rfl) ?_ (fun hHeld => ?_)
  · exact ⟨d2, d3⟩
  refine wpAnyH_take (i := 0) (oi := ⟨some 13, _, _, _, _, _⟩) (v := ?_) rfl (by kernel_rfl) (by kernel_rfl) (by kernel_rfl) (fun _ _ _ h => h) (Or.inl ⟨by rfl, ?_⟩) (by assumption) ?_
  rotate_left
  · intro WW hSw
    try dsimp only at hSw
    go_simp
    try with_reducible rfl
  try simp only [Act.put, List.setIfInBounds_toArray, List.set_cons_zero, List.set_cons_succ]
  refine wpAnyH_take (i := 1) (oi := ⟨some 14, _, _, _, _, _⟩) (v := ?_) rfl (by kernel_rfl) (by kernel_rfl) (by kernel_rfl) (fun _ _ _ h => h) (Or.inl ⟨by rfl, ?_⟩) (by assumption) ?_
  rotate_left
  · intro WW hSw
    try dsimp only at hSw
    go_simp
    try with_reducible rfl
  try simp only [Act.put, List.setIfInBounds_toArray, List.set_cons_zero, List.set_cons_succ]
  refine wpAnyH_take (i := 2) (oi := ⟨some 15, _, _, _, _, _⟩) (v := ?_) rfl (by kernel_rfl) (by kernel_rfl) (by kernel_rfl) (fun _ _ _ h => h) (Or.inl ⟨by rfl, ?_⟩) (by assumption) ?_
  rotate_left
  · intro WW hSw
    try dsimp only at hSw
    go_simp
    try with_reducible rfl
  try simp only [Act.put, List.setIfInBounds_toArray, List.set_cons_zero, List.set_cons_succ]
  refine wpAnyH_take (i := 5) (oi := ⟨some 18, _, _, _, _, _⟩) (v := ?_) rfl (by kernel_rfl) (by kernel_rfl) (by kernel_rfl) (fun _ _ _ h => h) (Or.inl ⟨by rfl, ?_⟩) (by assumption) ?_
  rotate_left
  · intro WW hSw
    try dsimp only at hSw
    go_simp
    try with_reducible rfl
  try simp only [Act.put, List.setIfInBounds_toArray, List.set_cons_zero, List.set_cons_succ]
  refine wpAnyH_take (i := 6) (oi := ⟨some 19, _, _, _, _, _⟩) (v := ?_) rfl (by kernel_rfl) (by kernel_rfl) (by kernel_rfl) (fun _ _ _ h => h) (Or.inl ⟨by rfl, ?_⟩) (by assumption) ?_
  rotate_left
  · intro WW hSw
    try dsimp only at hSw
    go_simp
    try with_reducible rfl
  try simp only [Act.put, List.setIfInBounds_toArray, List.set_cons_zero, List.set_cons_succ]
  refine wpAnyH_take (i := 7) (oi := ⟨some 20, _, _, _, _, _⟩) (v := ?_) rfl (by kernel_rfl) (by kernel_rfl) (by kernel_rfl) (fun _ _ _ h => h) (Or.inl ⟨by rfl, ?_⟩) (by assumption) ?_
  rotate_left
  · intro WW hSw
    try dsimp only at hSw
    go_simp
    try with_reducible rfl
  try simp only [Act.put, List.setIfInBounds_toArray, List.set_cons_zero, List.set_cons_succ]
  refine wpAnyH_ready (rs := [3]) (by kernel_rfl) (by simp) ?_
  refine AllReadyH.cons (o := ⟨some 16, _, _, _, _, _⟩) rfl (fun K hK => ?_) AllReadyH.nil
  refine value_ (N := some 16) (by rfl) rfl (exec_conv1 rfl (by rfl) (kb w1.drew)) ?_
  refine hK.out _ _ ?_ (fun hHeld8 => ?_)
  · exact ⟨b2, b3⟩
  clear hK K hHeld
  try simp only [Act.put, List.setIfInBounds_toArray, List.set_cons_zero, List.set_cons_succ]
  refine wpAnyH_ready (rs := [4]) (by kernel_rfl) (by simp) ?_
  refine AllReadyH.cons (o := ⟨some 17, _, _, _, _, _⟩) rfl (fun K hK => ?_) AllReadyH.nil
  go_simp
  go_at_call 33
  refine (HQ.out _ _ _ HGD.out z0.out).mono ?_
  rintro e y1 ⟨rfl, hb⟩
  have z1 := Lib.hid hb
  clear hb
  refine hK.out _ _ ?_ (fun hHeld9 => ?_)
  · exact HP.out _ z1.out
  clear hK K hHeld8
  try simp only [Act.put, List.setIfInBounds_toArray, List.set_cons_zero, List.set_cons_succ]
  refine wpAnyH_ready (rs := [8]) (by kernel_rfl) (by simp) ?_
  refine AllReadyH.cons (o := ⟨some 21, _, _, _, _, _⟩) rfl (fun K hK => ?_) AllReadyH.nil
  go_simp
  go_at_call 34
  refine (HDN.out _ _ HI3.out z1.out).mono ?_
  rintro e y2 ⟨rfl, hb⟩
  have z2 := Lib.hid hb
  clear hb
  refine hK.out _ _ ?_ (fun hHeld10 => ?_)
  · exact HP.out _ z2.out
  clear hK K hHeld9
  try simp only [Act.put, List.setIfInBounds_toArray, List.set_cons_zero, List.set_cons_succ]
  refine wpAnyH_take (i := 9) (oi := ⟨some 5, _, _, _, _, _⟩) (v := ?_) rfl (by kernel_rfl) (by kernel_rfl) (by kernel_rfl) (fun _ _ _ h => h) (Or.inl ⟨by rfl, ?_⟩) (by assumption) ?_
  rotate_left
  · intro WW hSw
    try dsimp only at hSw
    go_simp
    try with_reducible rfl
  try simp only [Act.put, List.setIfInBounds_toArray, List.set_cons_zero, List.set_cons_succ]
  refine wpAnyH_take (i := 10) (oi := ⟨some 6, _, _, _, _, _⟩) (v := ?_) rfl (by kernel_rfl) (by kernel_rfl) (by kernel_rfl) (fun _ _ _ h => h) (Or.inl ⟨by rfl, ?_⟩) (by assumption) ?_
  rotate_left
  · intro WW hSw
    try dsimp only at hSw
    go_simp
    try with_reducible rfl
  try simp only [Act.put, List.setIfInBounds_toArray, List.set_cons_zero, List.set_cons_succ]
  refine wpAnyH_done (by kernel_rfl) ?_ _
  have HY := Lib.hid (HB1.out.trans (z2.out.mono HB1.out.size))
  have HI1 := Lib.hid HE.out.ok.2.1
  have HI4 := Lib.hid HE.out.ok.2.2.2.1
  have HTL := Lib.hid (tailE_len HE.out.ok HE.out.key HE.out.vl)
  clear d2 d3 b2 b3 p0 p1 p2 p3 p4 p5 p6 p7 HP HBY HQ kb hHeld10
  obtain ⟨p0, p1, p2, p3, p4, p5, p6, p7⟩ := HXX.out y2 z2.out
  rcases kind6 e with k | k | ⟨k, f⟩ | ⟨k, f⟩ | k | ⟨k1, k2, k3, k4⟩
  · have hw : wordE e = [104, 105, 116] := by simp [wordE, k]; rfl
    have ht : wordE e :: tailE e = [104, 105, 116] :: [decS e.node, quoS e.key, decS e.ver, decS e.asof, quoS e.value] := by rw [hw]; simp [tailE, k]
    have hl : lineE e = ([104, 105, 116] ++ [32]) ++ joinS 32 [decS e.node, quoS e.key, decS e.ver, decS e.asof, quoS e.value] := by rw [tail_join (by omega), hw, (List.cons.inj ht).2]; simp
    rw [hw]
    have HXY := Lib.hid (show ∀ W, Below y2.heap.size y2 W → W.cell? ⟨w.heap.size, 1, none⟩ = some (.int .i64 e.node) ∧ W.cell? ⟨w.heap.size, 4, none⟩ = some (.int .i64 e.asof) ∧ W.cell? ⟨w.heap.size, 6, none⟩ = some (.slice A e.value.length c) from fun W hW => by have h := HXX.out W (z2.out.trans (hW.mono z2.out.size)); exact ⟨h.2.1, h.2.2.2.2.1, h.2.2.2.2.2.2.1⟩)
    have HDY := Lib.hid (show ∀ (n : Int) (W : World), I64 n → Below y2.heap.size y2 W → Calls Tryd.prog 34 #[.int .i64 n] W fun x w' => x = .returned (.string (bsV (decS n))) ∧ Below y2.heap.size y2 w' from fun n W hn hW => (dec_any n (Lib.hid hn) W).mono fun x w' ⟨he, hb⟩ => ⟨he, by rw [hb]; exact hW⟩)
    have HQY := Lib.hid (show ∀ W : World, Below y2.heap.size y2 W → Calls Tryd.prog 33 #[.slice A e.value.length c] W fun x w' => x = .returned (.string (bsV (quoS e.value))) ∧ Below y2.heap.size y2 w' from fun W hW => (quote_any e.value A c W (Kd.C_below HE.out.val (HY.out.trans (hW.mono HY.out.size))) (Lib.hid (by have := HE.out.vl; omega))).mono fun x w' ⟨he, hb⟩ => ⟨he, hW.trans (hb.mono hW.size)⟩)
    have q0 : Hid (Below y2.heap.size y2 y2.drew) := (Drawn0.below ⟨1, rfl⟩)
    clear HXX HDN HQV HX1 z1 z0
    go_wp2_with fail
    go_region_held3 (fun w' => w'.cell? ⟨w.heap.size, 1, none⟩ = some (.int .i64 e.node) ∧ w'.cell? ⟨w.heap.size, 4, none⟩ = some (.int .i64 e.asof) ∧ w'.cell? ⟨w.heap.size, 6, none⟩ = some (.slice A e.value.length c))
      (first | exact ⟨p1, p4, p6⟩ | exact HXY.out _ q0.out | exact HXY.out _ q1.out | exact HXY.out _ q2.out | exact HXY.out _ q3.out | exact HXY.out _ (q3.out.trans ((bel_alloc _ _).mono q3.out.size)))
      (first
      | (go_at_call 34; ((with_reducible refine (HDY.out _ _ HI1.out q0.out).mono ?_)); rintro e v1 ⟨rfl, hb⟩; have q1 := Lib.hid hb; clear hb)
      | (go_at_call 34; ((with_reducible refine (HDY.out _ _ HI4.out q1.out).mono ?_)); rintro e v2 ⟨rfl, hb⟩; have q2 := Lib.hid hb; clear hb)
      | (go_at_call 33; ((with_reducible refine (HQY.out _ q2.out).mono ?_)); rintro e v3 ⟨rfl, hb⟩; have q3 := Lib.hid hb; clear hb))
    have HSL := Lib.hid (show SLs (v3.alloc (.cells #[.string (bsV (decS e.node)), .string (bsV (quoS e.key)), .string (bsV (decS e.ver)), .string (bsV (decS e.asof)), .string (bsV (quoS e.value))] 9)) v3.heap.size (.slice (some ⟨v3.heap.size, 0, none⟩) 5 5) [decS e.node, quoS e.key, decS e.ver, decS e.asof, quoS e.value] from lit_SLs v3 _ (Nat.le_refl _) [decS e.node, quoS e.key, decS e.ver, decS e.asof, quoS e.value] (by simp) (by simp))
    have hj := join_len [decS e.node, quoS e.key, decS e.ver, decS e.asof, quoS e.value] 30001 (fun x hx => HTL.out x (by rw [ht]; exact List.mem_cons_of_mem _ hx))
    simp only [List.length_cons, List.length_nil] at hj
    obtain ⟨js, hjs⟩ : ∃ js, js = joinS 32 [decS e.node, quoS e.key, decS e.ver, decS e.asof, quoS e.value] := ⟨_, rfl⟩
    rw [← hjs] at hj hl
    obtain ⟨lv, hlv⟩ : ∃ lv, lv = ([104, 105, 116] ++ [32]) ++ js := ⟨_, rfl⟩
    rw [← hlv] at hl
    have hs1 : ∀ W : World, (Op.stringOp .add (bsV [104, 105, 116]) ⟨#[32]⟩).run Tryd.prog W = .ok (.string (bsV [104, 105, 116, 32])) W := fun W => add_run [104, 105, 116] [32] (by decide) W
    have hs2 : ∀ W : World, (Op.stringOp .add (bsV [104, 105, 116, 32]) (bsV js)).run Tryd.prog W = .ok (.string (bsV lv)) W := fun W => by rw [hlv]; exact add_run [104, 105, 116, 32] js (by simp only [List.length_cons, List.length_nil]; omega) W
    have HJN := Lib.hid (join_any HSL.out (by simp) (by rw [← hjs]; omega))
    rw [← hjs] at HJN
    have HS2 := Lib.hid hs2
    have HLV := Lib.hid hl
    clear hs2 hjs hlv hl hj
    go_wp2_with fail
    refine HJN.out.mono ?_
    rintro x v9 ⟨rfl, hb9⟩
    have HB9 := Lib.hid ((HY.out.trans ((q3.out.trans ((bel_alloc v3 _).mono q3.out.size)).mono HY.out.size)).trans (hb9.mono (HY.out.trans ((q3.out.trans ((bel_alloc v3 _).mono q3.out.size)).mono HY.out.size)).size))
    have hs2 := HS2.out
    clear hb9 HSL HS2 HJN
    go_wp2_with fail
    go_ret
    exact ⟨by rw [HLV.out]; rfl, HB9.out⟩
  · have hw : wordE e = [109, 105, 115, 115] := by simp [wordE, k]; rfl
    have ht : wordE e :: tailE e = [109, 105, 115, 115] :: [decS e.node, quoS e.key] := by rw [hw]; simp [tailE, k]
    have hl : lineE e = ([109, 105, 115, 115] ++ [32]) ++ joinS 32 [decS e.node, quoS e.key] := by rw [tail_join (by omega), hw, (List.cons.inj ht).2]; simp
    rw [hw]
    go_wp2_with fail
    refine (HDN.out _ _ HI1.out z2.out).mono ?_
    rintro x y3 ⟨rfl, hb⟩
    have HY := Lib.hid (HB1.out.trans (hb.mono HB1.out.size))
    clear hb
    have HSL := Lib.hid (show SLs (y3.alloc (.cells #[.string (bsV (decS e.node)), .string (bsV (quoS e.key))] 9)) y3.heap.size (.slice (some ⟨y3.heap.size, 0, none⟩) 2 2) [decS e.node, quoS e.key] from lit_SLs y3 _ (Nat.le_refl _) [decS e.node, quoS e.key] (by simp) (by simp))
    have hj := join_len [decS e.node, quoS e.key] 30001 (fun x hx => HTL.out x (by rw [ht]; exact List.mem_cons_of_mem _ hx))
    simp only [List.length_cons, List.length_nil] at hj
    obtain ⟨js, hjs⟩ : ∃ js, js = joinS 32 [decS e.node, quoS e.key] := ⟨_, rfl⟩
    rw [← hjs] at hj hl
    obtain ⟨lv, hlv⟩ : ∃ lv, lv = ([109, 105, 115, 115] ++ [32]) ++ js := ⟨_, rfl⟩
    rw [← hlv] at hl
    have hs1 : ∀ W : World, (Op.stringOp .add (bsV [109, 105, 115, 115]) ⟨#[32]⟩).run Tryd.prog W = .ok (.string (bsV [109, 105, 115, 115, 32])) W := fun W => add_run [109, 105, 115, 115] [32] (by decide) W
    have hs2 : ∀ W : World, (Op.stringOp .add (bsV [109, 105, 115, 115, 32]) (bsV js)).run Tryd.prog W = .ok (.string (bsV lv)) W := fun W => by rw [hlv]; exact add_run [109, 105, 115, 115, 32] js (by simp only [List.length_cons, List.length_nil]; omega) W
    have HJN := Lib.hid (join_any HSL.out (by simp) (by rw [← hjs]; omega))
    rw [← hjs] at HJN
    have HS2 := Lib.hid hs2
    have HLV := Lib.hid hl
    clear hs2 hjs hlv hl hj
    go_wp2_with fail
    refine HJN.out.mono ?_
    rintro x v9 ⟨rfl, hb9⟩
    have HB9 := Lib.hid ((HY.out.trans (((Below.refl y3.heap.size y3).trans ((bel_alloc y3 _).mono (Below.refl y3.heap.size y3).size)).mono HY.out.size)).trans (hb9.mono (HY.out.trans (((Below.refl y3.heap.size y3).trans ((bel_alloc y3 _).mono (Below.refl y3.heap.size y3).size)).mono HY.out.size)).size))
    have hs2 := HS2.out
    clear hb9 HSL HS2 HJN
    go_wp2_with fail
    go_ret
    exact ⟨by rw [HLV.out]; rfl, HB9.out⟩
  · have hw : wordE e = [119, 114, 105, 116, 101] := by simp [wordE, k, f]; rfl
    have ht : wordE e :: tailE e = [119, 114, 105, 116, 101] :: [decS e.ver, quoS e.key, quoS e.value] := by rw [hw]; simp [tailE, k, f]
    have hl : lineE e = ([119, 114, 105, 116, 101] ++ [32]) ++ joinS 32 [decS e.ver, quoS e.key, quoS e.value] := by rw [tail_join (by omega), hw, (List.cons.inj ht).2]; simp
    rw [hw]
    go_wp2_with fail
    refine (HQV.out _ z2.out).mono ?_
    rintro x y3 ⟨rfl, hb⟩
    have HY := Lib.hid (HB1.out.trans (hb.mono HB1.out.size))
    clear hb
    have HSL := Lib.hid (show SLs (y3.alloc (.cells #[.string (bsV (decS e.ver)), .string (bsV (quoS e.key)), .string (bsV (quoS e.value))] 9)) y3.heap.size (.slice (some ⟨y3.heap.size, 0, none⟩) 3 3) [decS e.ver, quoS e.key, quoS e.value] from lit_SLs y3 _ (Nat.le_refl _) [decS e.ver, quoS e.key, quoS e.value] (by simp) (by simp))
    have hj := join_len [decS e.ver, quoS e.key, quoS e.value] 30001 (fun x hx => HTL.out x (by rw [ht]; exact List.mem_cons_of_mem _ hx))
    simp only [List.length_cons, List.length_nil] at hj
    obtain ⟨js, hjs⟩ : ∃ js, js = joinS 32 [decS e.ver, quoS e.key, quoS e.value] := ⟨_, rfl⟩
    rw [← hjs] at hj hl
    obtain ⟨lv, hlv⟩ : ∃ lv, lv = ([119, 114, 105, 116, 101] ++ [32]) ++ js := ⟨_, rfl⟩
    rw [← hlv] at hl
    have hs1 : ∀ W : World, (Op.stringOp .add (bsV [119, 114, 105, 116, 101]) ⟨#[32]⟩).run Tryd.prog W = .ok (.string (bsV [119, 114, 105, 116, 101, 32])) W := fun W => add_run [119, 114, 105, 116, 101] [32] (by decide) W
    have hs2 : ∀ W : World, (Op.stringOp .add (bsV [119, 114, 105, 116, 101, 32]) (bsV js)).run Tryd.prog W = .ok (.string (bsV lv)) W := fun W => by rw [hlv]; exact add_run [119, 114, 105, 116, 101, 32] js (by simp only [List.length_cons, List.length_nil]; omega) W
    have HJN := Lib.hid (join_any HSL.out (by simp) (by rw [← hjs]; omega))
    rw [← hjs] at HJN
    have HS2 := Lib.hid hs2
    have HLV := Lib.hid hl
    clear hs2 hjs hlv hl hj
    go_wp2_with fail
    refine HJN.out.mono ?_
    rintro x v9 ⟨rfl, hb9⟩
    have HB9 := Lib.hid ((HY.out.trans (((Below.refl y3.heap.size y3).trans ((bel_alloc y3 _).mono (Below.refl y3.heap.size y3).size)).mono HY.out.size)).trans (hb9.mono (HY.out.trans (((Below.refl y3.heap.size y3).trans ((bel_alloc y3 _).mono (Below.refl y3.heap.size y3).size)).mono HY.out.size)).size))
    have hs2 := HS2.out
    clear hb9 HSL HS2 HJN
    go_wp2_with fail
    go_ret
    exact ⟨by rw [HLV.out]; rfl, HB9.out⟩
  · have hw : wordE e = [101, 114, 97, 115, 101] := by simp [wordE, k, f]; rfl
    have ht : wordE e :: tailE e = [101, 114, 97, 115, 101] :: [decS e.ver, quoS e.key] := by rw [hw]; simp [tailE, k, f]
    have hl : lineE e = ([101, 114, 97, 115, 101] ++ [32]) ++ joinS 32 [decS e.ver, quoS e.key] := by rw [tail_join (by omega), hw, (List.cons.inj ht).2]; simp
    rw [hw]
    have HSL := Lib.hid (show SLs (y2.alloc (.cells #[.string (bsV (decS e.ver)), .string (bsV (quoS e.key))] 9)) y2.heap.size (.slice (some ⟨y2.heap.size, 0, none⟩) 2 2) [decS e.ver, quoS e.key] from lit_SLs y2 _ (Nat.le_refl _) [decS e.ver, quoS e.key] (by simp) (by simp))
    have hj := join_len [decS e.ver, quoS e.key] 30001 (fun x hx => HTL.out x (by rw [ht]; exact List.mem_cons_of_mem _ hx))
    simp only [List.length_cons, List.length_nil] at hj
    obtain ⟨js, hjs⟩ : ∃ js, js = joinS 32 [decS e.ver, quoS e.key] := ⟨_, rfl⟩
    rw [← hjs] at hj hl
    obtain ⟨lv, hlv⟩ : ∃ lv, lv = ([101, 114, 97, 115, 101] ++ [32]) ++ js := ⟨_, rfl⟩
    rw [← hlv] at hl
    have hs1 : ∀ W : World, (Op.stringOp .add (bsV [101, 114, 97, 115, 101]) ⟨#[32]⟩).run Tryd.prog W = .ok (.string (bsV [101, 114, 97, 115, 101, 32])) W := fun W => add_run [101, 114, 97, 115, 101] [32] (by decide) W
    have hs2 : ∀ W : World, (Op.stringOp .add (bsV [101, 114, 97, 115, 101, 32]) (bsV js)).run Tryd.prog W = .ok (.string (bsV lv)) W := fun W => by rw [hlv]; exact add_run [101, 114, 97, 115, 101, 32] js (by simp only [List.length_cons, List.length_nil]; omega) W
    have HJN := Lib.hid (join_any HSL.out (by simp) (by rw [← hjs]; omega))
    rw [← hjs] at HJN
    have HS2 := Lib.hid hs2
    have HLV := Lib.hid hl
    clear hs2 hjs hlv hl hj
    go_wp2_with fail
    refine HJN.out.mono ?_
    rintro x v9 ⟨rfl, hb9⟩
    have HB9 := Lib.hid ((HY.out.trans (((Below.refl y2.heap.size y2).trans ((bel_alloc y2 _).mono (Below.refl y2.heap.size y2).size)).mono HY.out.size)).trans (hb9.mono (HY.out.trans (((Below.refl y2.heap.size y2).trans ((bel_alloc y2 _).mono (Below.refl y2.heap.size y2).size)).mono HY.out.size)).size))
    have hs2 := HS2.out
    clear hb9 HSL HS2 HJN
    go_wp2_with fail
    go_ret
    exact ⟨by rw [HLV.out]; rfl, HB9.out⟩
  · have hw : wordE e = [100, 111, 110, 101] := by simp [wordE, k]; rfl
    have ht : wordE e :: tailE e = [100, 111, 110, 101] :: [decS e.ver] := by rw [hw]; simp [tailE, k]
    have hl : lineE e = ([100, 111, 110, 101] ++ [32]) ++ joinS 32 [decS e.ver] := by rw [tail_join (by omega), hw, (List.cons.inj ht).2]; simp
    rw [hw]
    have HSL := Lib.hid (show SLs (y2.alloc (.cells #[.string (bsV (decS e.ver))] 9)) y2.heap.size (.slice (some ⟨y2.heap.size, 0, none⟩) 1 1) [decS e.ver] from lit_SLs y2 _ (Nat.le_refl _) [decS e.ver] (by simp) (by simp))
    have hj := join_len [decS e.ver] 30001 (fun x hx => HTL.out x (by rw [ht]; exact List.mem_cons_of_mem _ hx))
    simp only [List.length_cons, List.length_nil] at hj
    obtain ⟨js, hjs⟩ : ∃ js, js = joinS 32 [decS e.ver] := ⟨_, rfl⟩
    rw [← hjs] at hj hl
    obtain ⟨lv, hlv⟩ : ∃ lv, lv = ([100, 111, 110, 101] ++ [32]) ++ js := ⟨_, rfl⟩
    rw [← hlv] at hl
    have hs1 : ∀ W : World, (Op.stringOp .add (bsV [100, 111, 110, 101]) ⟨#[32]⟩).run Tryd.prog W = .ok (.string (bsV [100, 111, 110, 101, 32])) W := fun W => add_run [100, 111, 110, 101] [32] (by decide) W
    have hs2 : ∀ W : World, (Op.stringOp .add (bsV [100, 111, 110, 101, 32]) (bsV js)).run Tryd.prog W = .ok (.string (bsV lv)) W := fun W => by rw [hlv]; exact add_run [100, 111, 110, 101, 32] js (by simp only [List.length_cons, List.length_nil]; omega) W
    have HJN := Lib.hid (join_any HSL.out (by simp) (by rw [← hjs]; omega))
    rw [← hjs] at HJN
    have HS2 := Lib.hid hs2
    have HLV := Lib.hid hl
    clear hs2 hjs hlv hl hj
    go_wp2_with fail
    refine HJN.out.mono ?_
    rintro x v9 ⟨rfl, hb9⟩
    have HB9 := Lib.hid ((HY.out.trans (((Below.refl y2.heap.size y2).trans ((bel_alloc y2 _).mono (Below.refl y2.heap.size y2).size)).mono HY.out.size)).trans (hb9.mono (HY.out.trans (((Below.refl y2.heap.size y2).trans ((bel_alloc y2 _).mono (Below.refl y2.heap.size y2).size)).mono HY.out.size)).size))
    have hs2 := HS2.out
    clear hb9 HSL HS2 HJN
    go_wp2_with fail
    go_ret
    exact ⟨by rw [HLV.out]; rfl, HB9.out⟩
  · have hw : wordE e = [] := by simp [wordE, k1, k2, k3, k4]
    have hl : lineE e = [] := lineE_nil (by omega)
    rw [hw]
    go_wp2_with fail
    go_ret
    exact ⟨by rw [hl]; rfl, HY.out⟩
end Go.Proofs.YtgfljpchdiapeaaDoor
namespace Go.Proofs.YtgfljpchdiapeaaDoor
set_option linter.unusedVariables false
set_option linter.unusedSimpArgs false
open Go.RowKit Go.Proofs.YtgfljpchdiapeaaDoorW.PrintWords Go.Proofs.YtgfljpchdiapeaaDoorW.PrintLast
attribute [local go_sem ↓] Go.wp_at_zero Go.wp_at_succ
attribute [local go_sem] bsV_get bsV_size bsV_toList
theorem add_to (a b : Bs) (h : a.length + b.length ≤ 1000000) : ∃ s : Bs, s = a ++ b ∧ s.length = a.length + b.length ∧ ∀ W : World, (Op.stringOp .add (bsV a) (bsV b)).run Tryd.prog W = .ok (.string (bsV s)) W := ⟨_, rfl, List.length_append, add_run a b h⟩
set_option maxHeartbeats 4000000 in
set_option maxRecDepth 100000 in
theorem refLineE_any (e : Ev) (A : Option Addr) (c : Nat) (w : World) (hE : EM w e A c) : Calls Tryd.prog 10 #[.agg (eC e A c)] w (QS w (lineE e)) := by
  have HE := Lib.hid hE
  have HB0 := Lib.hid (bel_alloc w (.cells (eC e A c) 30))
  have HX0 := Lib.hid (show (w.alloc (.cells (eC e A c) 30)).heap[w.heap.size]? = some (.cells (eC e A c) 30 (0, 0)) from heap_alloc_new _ _)
  have L1 := q3_len e.key
  have L2 := q3_len e.value
  have L3 := decS_len hE.ok.2.1.1 hE.ok.2.1.2
  have L4 := decS_len hE.ok.2.2.1.1 hE.ok.2.2.1.2
  have L5 := decS_len hE.ok.2.2.2.1.1 hE.ok.2.2.2.1.2
  have L6 := hE.key
  have L7 := hE.vl
  clear hE
  unfold eC at HB0 HX0 ⊢
  obtain ⟨ky, hky, lky, aky⟩ := add_to [32] (quoS e.key) (by simp; omega)
  obtain ⟨vr, hvr, lvr, avr⟩ := add_to [32] (decS e.ver) (by simp; omega)
  obtain ⟨nd, hnd, lnd, and_⟩ := add_to [32] (decS e.node) (by simp; omega)
  obtain ⟨vl, hvl, lvl, avl⟩ := add_to [32] (quoS e.value) (by simp; omega)
  have AKY := Lib.hid (show ∀ W : World, (Op.stringOp .add ⟨#[32]⟩ (bsV (quoS e.key))).run Tryd.prog W = .ok (.string (bsV ky)) W from aky)
  have AVR := Lib.hid (show ∀ W : World, (Op.stringOp .add ⟨#[32]⟩ (bsV (decS e.ver))).run Tryd.prog W = .ok (.string (bsV vr)) W from avr)
  have AND := Lib.hid (show ∀ W : World, (Op.stringOp .add ⟨#[32]⟩ (bsV (decS e.node))).run Tryd.prog W = .ok (.string (bsV nd)) W from and_)
  have AVL := Lib.hid (show ∀ W : World, (Op.stringOp .add ⟨#[32]⟩ (bsV (quoS e.value))).run Tryd.prog W = .ok (.string (bsV vl)) W from avl)
  have HLS := Lib.hid (show ky.length ≤ 30002 ∧ vr.length ≤ 21 ∧ nd.length ≤ 21 ∧ vl.length ≤ 30002 from by simp at lky lvr lnd lvl; omega)
  have HDF := Lib.hid (And.intro hky (And.intro hvr (And.intro hnd hvl)))
  clear aky avr and_ avl hky hvr hnd hvl lky lvr lnd lvl
  have HL5 := Lib.hid L5
  clear L1 L2 L3 L4 L5 L6 L7
  go_enter Tryd.func10, Tryd.ntmps10
  go_upto_region 1 with (fail)
  generalize w.alloc (.cells #[.int .i64 e.kind, .int .i64 e.node, .string (bsV e.key), .int .i64 e.ver, .int .i64 e.asof, .int .i64 e.ends, .slice A e.value.length c, .bool e.found] 30) = w1 at *
  have HXX := Lib.hid (show ∀ W, Below w1.heap.size w1 W → W.cell? ⟨w.heap.size, 0, none⟩ = some (.int .i64 e.kind) ∧ W.cell? ⟨w.heap.size, 1, none⟩ = some (.int .i64 e.node) ∧ W.cell? ⟨w.heap.size, 2, none⟩ = some (.string (bsV e.key)) ∧ W.cell? ⟨w.heap.size, 3, none⟩ = some (.int .i64 e.ver) ∧ W.cell? ⟨w.heap.size, 4, none⟩ = some (.int .i64 e.asof) ∧ W.cell? ⟨w.heap.size, 5, none⟩ = some (.int .i64 e.ends) ∧ W.cell? ⟨w.heap.size, 6, none⟩ = some (.slice A e.value.length c) ∧ W.cell? ⟨w.heap.size, 7, none⟩ = some (.bool e.found) from fun W hW => by
    have e1 := (hW.block _ (Array.getElem?_eq_some_iff.1 HX0.out).1).trans HX0.out
    refine ⟨?_, ?_, ?_, ?_, ?_, ?_, ?_, ?_⟩ <;> (rw [World.cell?, e1]; rfl))
  have kb := fun W => print_bytes (P := Tryd.prog) 9 26 5 Tryd.underlying9 Tryd.underlying26 Tryd.underlying5 (bsV e.key) W
  rw [bsV_size] at kb
  have HBY := Lib.hid (bytes_below (Below.refl w1.heap.size w1) (Nat.le_refl _) 5 (bsV e.key))
  have HQ := Lib.hid (fun k hk => refQuote_any e.key (some ⟨w1.heap.size, 0, none⟩) k (Lib.bytesWorld w1 5 (bsV e.key)) (bytes_C w1 e.key (by have := HE.out.key; omega)) hk (Lib.hid (by have := HE.out.key; omega)))
  have HDN := Lib.hid (show ∀ (n : Int) (W : World), I64 n → Below w1.heap.size w1 W → Calls Tryd.prog 37 #[.int .i64 n] W fun x w' => x = .returned (.string (bsV (decS n))) ∧ Below w1.heap.size w1 w' from fun n W hn hW => (refDec_any n (Lib.hid hn) W).mono fun x w' ⟨he, hb⟩ => ⟨he, hW.trans (hb.mono hW.size)⟩)
  have HQV := Lib.hid (show ∀ W : World, Below w1.heap.size w1 W → Calls Tryd.prog 36 #[.slice A e.value.length c] W fun x w' => x = .returned (.string (bsV (quoS e.value))) ∧ Below w1.heap.size w1 w' from fun W hW =>
    (refQuote_any e.value A c W (Kd.C_below HE.out.val (HB0.out.trans (hW.mono HB0.out.size))) HE.out.cap (Lib.hid (by have := HE.out.vl; omega))).mono fun x w' ⟨he, hb⟩ => ⟨he, hW.trans (hb.mono hW.size)⟩)
  have HI1 := Lib.hid HE.out.ok.2.1
  have HI3 := Lib.hid HE.out.ok.2.2.1
  have HI4 := Lib.hid HE.out.ok.2.2.2.1
  have p2 : w1.cell? ⟨w.heap.size, 2, none⟩ = some (.string (bsV e.key)) := (HXX.out w1 (Below.refl _ _)).2.2.1
  go_wp2_with fail
  refine (HQ.out _ (grownCap_ge _ _ _ _)).mono ?_
  rintro x w2 ⟨rfl, hb⟩
  have Z2 := Lib.hid (HBY.out.trans (hb.mono HBY.out.size))
  have p3 : w2.cell? ⟨w.heap.size, 3, none⟩ = some (.int .i64 e.ver) := (HXX.out w2 Z2.out).2.2.2.1
  have a1 := AKY.out
  clear hb p2 HQ HBY kb
  go_wp2_with fail
  refine (HDN.out _ _ HI3.out Z2.out).mono ?_
  rintro x w3 ⟨rfl, hb⟩
  have Z3 := Lib.hid hb
  have p1 : w3.cell? ⟨w.heap.size, 1, none⟩ = some (.int .i64 e.node) := (HXX.out w3 Z3.out).2.1
  have a2 := AVR.out
  clear hb p3 Z2 a1
  go_wp2_with fail
  refine (HDN.out _ _ HI1.out Z3.out).mono ?_
  rintro x w4 ⟨rfl, hb⟩
  have Z4 := Lib.hid hb
  have p6 : w4.cell? ⟨w.heap.size, 6, none⟩ = some (.slice A e.value.length c) := (HXX.out w4 Z4.out).2.2.2.2.2.2.1
  have a3 := AND.out
  clear hb p1 Z3 a2
  go_wp2_with fail
  refine (HQV.out _ Z4.out).mono ?_
  rintro x w5 ⟨rfl, hb⟩
  have Z5 := Lib.hid hb
  have HY := Lib.hid (HB0.out.trans (hb.mono HB0.out.size))
  have a4 := AVL.out
  clear hb p6 Z4 a3 AKY AVR AND AVL HQV
  obtain ⟨p0, p1, p2, p3, p4, p5, p6, p7⟩ := HXX.out w5 Z5.out
  rcases kind6 e with k | k | ⟨k, f⟩ | ⟨k, f⟩ | k | ⟨k1, k2, k3, k4⟩
  · obtain ⟨l1, l2, l3, l4⟩ := HLS.out
    have l5 := HL5.out
    obtain ⟨s1, hs1, hl1, ha1⟩ := add_to ([104, 105, 116]) nd (by simp only [List.length_cons, List.length_nil] at *; omega)
    have A1 := Lib.hid (show ∀ W : World, (Op.stringOp .add ⟨#[104, 105, 116]⟩ (bsV (nd))).run Tryd.prog W = .ok (.string (bsV s1)) W from ha1)
    obtain ⟨s2, hs2, hl2, ha2⟩ := add_to s1 ky (by simp only [List.length_cons, List.length_nil] at *; omega)
    have A2 := Lib.hid (show ∀ W : World, (Op.stringOp .add (bsV s1) (bsV (ky))).run Tryd.prog W = .ok (.string (bsV s2)) W from ha2)
    obtain ⟨s3, hs3, hl3, ha3⟩ := add_to s2 vr (by simp only [List.length_cons, List.length_nil] at *; omega)
    have A3 := Lib.hid (show ∀ W : World, (Op.stringOp .add (bsV s2) (bsV (vr))).run Tryd.prog W = .ok (.string (bsV s3)) W from ha3)
    obtain ⟨s4, hs4, hl4, ha4⟩ := add_to s3 [32] (by simp only [List.length_cons, List.length_nil] at *; omega)
    have A4 := Lib.hid (show ∀ W : World, (Op.stringOp .add (bsV s3) ⟨#[32]⟩).run Tryd.prog W = .ok (.string (bsV s4)) W from ha4)
    obtain ⟨s5, hs5, hl5, ha5⟩ := add_to s4 (decS e.asof) (by simp only [List.length_cons, List.length_nil] at *; omega)
    have A5 := Lib.hid (show ∀ W : World, (Op.stringOp .add (bsV s4) (bsV (decS e.asof))).run Tryd.prog W = .ok (.string (bsV s5)) W from ha5)
    obtain ⟨s6, hs6, hl6, ha6⟩ := add_to s5 vl (by simp only [List.length_cons, List.length_nil] at *; omega)
    have A6 := Lib.hid (show ∀ W : World, (Op.stringOp .add (bsV s5) (bsV (vl))).run Tryd.prog W = .ok (.string (bsV s6)) W from ha6)
    have HF := Lib.hid (show lineE e = s6 by
      rw [lineE, if_pos (by omega), hs6, hs5, hs4, hs3, hs2, hs1]
      simp only [HDF.out.1, HDF.out.2.1, HDF.out.2.2.1, HDF.out.2.2.2]
      simp [wordE, tailE, k, joinS, hitW, missW, writeW, eraseW, doneW])
    clear ha1 hs1 hl1 ha2 hs2 hl2 ha3 hs3 hl3 ha4 hs4 hl4 ha5 hs5 hl5 ha6 hs6 hl6 l1 l2 l3 l4 l5
    have b1 := A1.out
    have b2 := A2.out
    have b3 := A3.out
    have b4 := A4.out
    have b5 := A5.out
    have b6 := A6.out
    go_wp2_with fail
    refine (HDN.out _ _ HI4.out Z5.out).mono ?_
    rintro x w6 ⟨rfl, hb⟩
    have HY := Lib.hid (HB0.out.trans (hb.mono HB0.out.size))
    clear hb
    go_wp2_with fail
    go_ret
    exact ⟨by rw [HF.out]; rfl, HY.out⟩
  · obtain ⟨l1, l2, l3, l4⟩ := HLS.out
    have l5 := HL5.out
    obtain ⟨s1, hs1, hl1, ha1⟩ := add_to ([109, 105, 115, 115]) nd (by simp only [List.length_cons, List.length_nil] at *; omega)
    have A1 := Lib.hid (show ∀ W : World, (Op.stringOp .add ⟨#[109, 105, 115, 115]⟩ (bsV (nd))).run Tryd.prog W = .ok (.string (bsV s1)) W from ha1)
    obtain ⟨s2, hs2, hl2, ha2⟩ := add_to s1 ky (by simp only [List.length_cons, List.length_nil] at *; omega)
    have A2 := Lib.hid (show ∀ W : World, (Op.stringOp .add (bsV s1) (bsV (ky))).run Tryd.prog W = .ok (.string (bsV s2)) W from ha2)
    have HF := Lib.hid (show lineE e = s2 by
      rw [lineE, if_pos (by omega), hs2, hs1]
      simp only [HDF.out.1, HDF.out.2.1, HDF.out.2.2.1, HDF.out.2.2.2]
      simp [wordE, tailE, k, joinS, hitW, missW, writeW, eraseW, doneW])
    clear ha1 hs1 hl1 ha2 hs2 hl2 l1 l2 l3 l4 l5
    have b1 := A1.out
    have b2 := A2.out
    go_wp2_with fail
    go_ret
    exact ⟨by rw [HF.out]; rfl, HY.out⟩
  · obtain ⟨l1, l2, l3, l4⟩ := HLS.out
    have l5 := HL5.out
    obtain ⟨s1, hs1, hl1, ha1⟩ := add_to ([119, 114, 105, 116, 101]) vr (by simp only [List.length_cons, List.length_nil] at *; omega)
    have A1 := Lib.hid (show ∀ W : World, (Op.stringOp .add ⟨#[119, 114, 105, 116, 101]⟩ (bsV (vr))).run Tryd.prog W = .ok (.string (bsV s1)) W from ha1)
    obtain ⟨s2, hs2, hl2, ha2⟩ := add_to s1 ky (by simp only [List.length_cons, List.length_nil] at *; omega)
    have A2 := Lib.hid (show ∀ W : World, (Op.stringOp .add (bsV s1) (bsV (ky))).run Tryd.prog W = .ok (.string (bsV s2)) W from ha2)
    obtain ⟨s3, hs3, hl3, ha3⟩ := add_to s2 vl (by simp only [List.length_cons, List.length_nil] at *; omega)
    have A3 := Lib.hid (show ∀ W : World, (Op.stringOp .add (bsV s2) (bsV (vl))).run Tryd.prog W = .ok (.string (bsV s3)) W from ha3)
    have HF := Lib.hid (show lineE e = s3 by
      rw [lineE, if_pos (by omega), hs3, hs2, hs1]
      simp only [HDF.out.1, HDF.out.2.1, HDF.out.2.2.1, HDF.out.2.2.2]
      simp [wordE, tailE, k, f, joinS, hitW, missW, writeW, eraseW, doneW])
    clear ha1 hs1 hl1 ha2 hs2 hl2 ha3 hs3 hl3 l1 l2 l3 l4 l5
    have b1 := A1.out
    have b2 := A2.out
    have b3 := A3.out
    go_wp2_with fail
    go_ret
    exact ⟨by rw [HF.out]; rfl, HY.out⟩
  · obtain ⟨l1, l2, l3, l4⟩ := HLS.out
    have l5 := HL5.out
    obtain ⟨s1, hs1, hl1, ha1⟩ := add_to ([101, 114, 97, 115, 101]) vr (by simp only [List.length_cons, List.length_nil] at *; omega)
    have A1 := Lib.hid (show ∀ W : World, (Op.stringOp .add ⟨#[101, 114, 97, 115, 101]⟩ (bsV (vr))).run Tryd.prog W = .ok (.string (bsV s1)) W from ha1)
    obtain ⟨s2, hs2, hl2, ha2⟩ := add_to s1 ky (by simp only [List.length_cons, List.length_nil] at *; omega)
    have A2 := Lib.hid (show ∀ W : World, (Op.stringOp .add (bsV s1) (bsV (ky))).run Tryd.prog W = .ok (.string (bsV s2)) W from ha2)
    have HF := Lib.hid (show lineE e = s2 by
      rw [lineE, if_pos (by omega), hs2, hs1]
      simp only [HDF.out.1, HDF.out.2.1, HDF.out.2.2.1, HDF.out.2.2.2]
      simp [wordE, tailE, k, f, joinS, hitW, missW, writeW, eraseW, doneW])
    clear ha1 hs1 hl1 ha2 hs2 hl2 l1 l2 l3 l4 l5
    have b1 := A1.out
    have b2 := A2.out
    go_wp2_with fail
    go_ret
    exact ⟨by rw [HF.out]; rfl, HY.out⟩
  · obtain ⟨l1, l2, l3, l4⟩ := HLS.out
    have l5 := HL5.out
    obtain ⟨s1, hs1, hl1, ha1⟩ := add_to ([100, 111, 110, 101]) vr (by simp only [List.length_cons, List.length_nil] at *; omega)
    have A1 := Lib.hid (show ∀ W : World, (Op.stringOp .add ⟨#[100, 111, 110, 101]⟩ (bsV (vr))).run Tryd.prog W = .ok (.string (bsV s1)) W from ha1)
    have HF := Lib.hid (show lineE e = s1 by
      rw [lineE, if_pos (by omega), hs1]
      simp only [HDF.out.1, HDF.out.2.1, HDF.out.2.2.1, HDF.out.2.2.2]
      simp [wordE, tailE, k, joinS, hitW, missW, writeW, eraseW, doneW])
    clear ha1 hs1 hl1 l1 l2 l3 l4 l5
    have b1 := A1.out
    go_wp2_with fail
    go_ret
    exact ⟨by rw [HF.out]; rfl, HY.out⟩
  · have hl : lineE e = [] := lineE_nil (by omega)
    go_wp2_with fail
    go_ret
    exact ⟨by rw [hl]; rfl, HY.out⟩
end Go.Proofs.YtgfljpchdiapeaaDoor
