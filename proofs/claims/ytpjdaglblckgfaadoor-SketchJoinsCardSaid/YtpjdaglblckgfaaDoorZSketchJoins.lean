/- The law butterylaw37.SketchJoins returns true for every input (two sketches joined are what the chapter says; a key's count is at least as often as it was counted in both, up to 255), leaving its arguments as they were; condition: the row's own (the listed variable errors.errorType starts as the program's text lays it). -/
import Derived.Test.YtpjdaglblckgfaaDoorCards
import Derived.Test.YtpjdaglblckgfaaDoorTie
import Derived.Test.YtpjdaglblckgfaaDoorG5
import Derived.Test.YtpjdaglblckgfaaDoorOpen
import Derived.Test.YtpjdaglblckgfaaDoorHandle
namespace Go.Proofs.YtpjdaglblckgfaaDoor.sketchJoins
set_option linter.unusedVariables false
open Go.ChangeShapes Go.WideShapes Go.ChangeAt Go.RowKit Go.Proofs.YtpjdaglblckgfaaDoorW.PrintWords

set_option maxRecDepth 100000 in
theorem contract (H : Type) (enc : TypeId × Value → H) (W : World) (base : Nat) (args : Array Value) (ds gs : List (DataW H)) (before : List MemPlace)
    (hval : ∀ (j : Nat) t v, Tryd.f7.params[j]? = some t → args[j]? = some v → Value.okWide Tryd.prog W .any base t v)
    (hW : DataW.Whole enc Tryd.prog Tryd.f7.params.toList Rows.sketchJoinsSpec.vars false W args.toList ds gs before) (hL : laidMetH Tryd.prog Rows.sketchJoinsRow.laid W) :
    Calls Tryd.prog 7 args W fun e W' => ∃ v, e = .returned v ∧ Rows.sketchJoinsSpec.post enc Tryd.prog Tryd.f7 false true false false W args v W' := by
  have hW' := hW
  obtain ⟨p, q, hA0, hV, rfl, hfz, hnd⟩ := hW
  have hA : DataW.TrodAll enc Tryd.prog W 0 (fun _ => true) true Tryd.f7.params.toList args.toList ds p := hA0
  rw [Tryd.params7] at hA hval
  obtain ⟨v0, vs0, d0, ds0, p0, q0, hargs, rfl, rfl, h0, r0⟩ := trodAll_cons hA
  obtain ⟨v1, vs1, d1, ds1, p1, q1, rfl, rfl, rfl, h1, r1⟩ := trodAll_cons r0
  obtain ⟨v2, vs2, d2, ds2, p2, q2, rfl, rfl, rfl, h2, r2⟩ := trodAll_cons r1
  obtain ⟨v3, vs3, d3, ds3, p3, q3, rfl, rfl, rfl, h3, r3⟩ := trodAll_cons r2
  obtain ⟨v4, vs4, d4, ds4, p4, q4, rfl, rfl, rfl, h4, r4⟩ := trodAll_cons r3
  obtain ⟨rfl, rfl, rfl⟩ := trodAll_nil r4
  obtain rfl : args = #[v0, v1, v2, v3, v4] := by cases args; simp_all
  obtain ⟨rfl, rfl⟩ := trodVars_none hV
  have k0 := h0
  have lt0 : ∀ x ∈ p0, x.block < W.heap.size := by obtain ⟨m, hm⟩ := k0; exact DataW.trod_lt m _ _ _ hm
  have k1 := h1
  have lt1 : ∀ x ∈ p1, x.block < W.heap.size := by obtain ⟨m, hm⟩ := k1; exact DataW.trod_lt m _ _ _ hm
  have k2 := h2
  have lt2 : ∀ x ∈ p2, x.block < W.heap.size := by obtain ⟨m, hm⟩ := k2; exact DataW.trod_lt m _ _ _ hm
  have k3 := h3
  have lt3 : ∀ x ∈ p3, x.block < W.heap.size := by obtain ⟨m, hm⟩ := k3; exact DataW.trod_lt m _ _ _ hm
  have k4 := h4
  have lt4 : ∀ x ∈ p4, x.block < W.heap.size := by obtain ⟨m, hm⟩ := k4; exact DataW.trod_lt m _ _ _ hm
  have hg := handle_of_laid hL
  clear hA0 hL
  obtain ⟨wa, hv0, _, _, wf_wa⟩ := open_int Tryd.underlying22 (hval 0 22 v0 rfl rfl) h0
  subst hv0
  obtain ⟨wb, hv1, _, _, wf_wb⟩ := open_int Tryd.underlying22 (hval 1 22 v1 rfl rfl) h1
  subst hv1
  obtain ⟨l_A, l_n, l_c, hv2⟩ := okWide_slice Tryd.underlying23 (hval 2 23 v2 rfl rfl)
  subst hv2
  obtain ⟨l, hl2, hc_l, hr_l, ok_l⟩ := (Opens.slice Tryd.underlying23 (by kernel_rfl) (Opens.string Tryd.underlying9 (by kernel_rfl))).arg h2
  subst hl2
  obtain ⟨m_A, m_n, m_c, hv3⟩ := okWide_slice Tryd.underlying23 (hval 3 23 v3 rfl rfl)
  subst hv3
  obtain ⟨m, hl3, hc_m, hr_m, ok_m⟩ := (Opens.slice Tryd.underlying23 (by kernel_rfl) (Opens.string Tryd.underlying9 (by kernel_rfl))).arg h3
  subst hl3
  obtain ⟨key, hv4, _, _, ws_key⟩ := Go.ChangeMaps.open_string Tryd.underlying9 (hval 4 9 v4 rfl rfl) h4
  subst hv4
  have bw := bounds_u16 wf_wa
  obtain ⟨wa', rfl⟩ := Int.eq_ofNat_of_zero_le bw.1
  have bm := bounds_u16 wf_wb
  obtain ⟨wb', rfl⟩ := Int.eq_ofNat_of_zero_le bm.1
  refine (joins_law l_A m_A l_c m_c wa' wb' l m key W hr_l hr_m ws_key (by omega) (by omega) hg).mono fun e W' ⟨he, bel⟩ => ?_
  subst he
  exact ⟨_, rfl, _, _, _, [], _, [], hW', trodAll_mk1 (shut_bool Tryd.underlying4 _), (trodAll_cons_mk (Below.trod laidOut (by kernel_rfl) (of_decide_eq_true (by kernel_rfl)) k0 bel lt0) (trodAll_cons_mk (Below.trod laidOut (by kernel_rfl) (of_decide_eq_true (by kernel_rfl)) k1 bel lt1) (trodAll_cons_mk (Below.trod laidOut (by kernel_rfl) (of_decide_eq_true (by kernel_rfl)) k2 bel lt2) (trodAll_cons_mk (Below.trod laidOut (by kernel_rfl) (of_decide_eq_true (by kernel_rfl)) k3 bel lt3) (trodAll_cons_mk (Below.trod laidOut (by kernel_rfl) (of_decide_eq_true (by kernel_rfl)) k4 bel lt4) trodAll_mk0))))), rfl, bel.frame _, fun h => by cases h⟩

theorem laid_met (os : Os) : laidMetH Tryd.prog Rows.sketchJoinsRow.laid ((laidWorld os).forCall (fun _ _ => 0) ⟨#[], #[.int .u16 0, .int .u16 0, .slice none 0 0, .slice none 0 0, .string ⟨#[]⟩], []⟩).memory := laidMetH_of_parts (laidMet_nil _ _) (by kernel_rfl)
theorem reads (os : Os) {H : Type} (enc : TypeId × Value → H) : ∃ places, DataW.whole enc Tryd.prog ((laidWorld os).forCall (fun _ _ => 0) ⟨#[], #[.int .u16 0, .int .u16 0, .slice none 0 0, .slice none 0 0, .string ⟨#[]⟩], []⟩).memory Tryd.f7.params.toList Rows.sketchJoinsSpec.vars false (#[.int .u16 0, .int .u16 0, .slice none 0 0, .slice none 0 0, .string ⟨#[]⟩] : Array Value).toList 8 = some ([.lit (.int .u16 0), .lit (.int .u16 0), .nil, .nil, .lit (.string [])], [], places) :=
  ⟨[], by kernel_rfl⟩

set_option maxRecDepth 100000 in
theorem lifted (os : Os) (started : os.Started) (H : Type) (enc : TypeId × Value → H) (F : Stop.Interp) :
    ReturnsInHanded {} Tryd.checked os 7 .any ((OpenSpec.ofChange Rows.sketchJoinsSpec).preRow enc Tryd.prog Tryd.f7 Rows.sketchJoinsRow.domain false Rows.sketchJoinsRow.laid) (((OpenSpec.ofChange Rows.sketchJoinsSpec).at F).post enc Tryd.prog Tryd.f7 false true false false) := by
  obtain ⟨places, hx⟩ := reads os enc
  refine returnsInHanded_of_row (C := Tryd.checked) (s := OpenSpec.ofChange Rows.sketchJoinsSpec) own started (by kernel_rfl) Tryd.func7
    (witness_row_at (enc := enc) (C := Tryd.checked) false (laidWorld os) #[.int .u16 0, .int .u16 0, .slice none 0 0, .slice none 0 0, .string ⟨#[]⟩] rfl (by kernel_rfl) (by kernel_rfl) (by kernel_rfl)
      (OpenSpec.preRow_of_cond 8 hx (by kernel_rfl) (fun k hk => by cases hk) (by kernel_rfl) (laid_met os))) ?_
  intro W base args ds gs before hval hW _ _ _ hL _ _
  exact contract H enc W base args ds gs before hval hW hL

theorem said : Rows.SketchJoinsSaid :=
  OpenClaim.holds_of_cond 7 Tryd.f7 rfl rfl rfl rfl rfl rfl rfl ⟨rfl, rfl, rfl, rfl, rfl⟩ rfl rfl rfl rfl rfl (by kernel_rfl) Tryd.func7 (by kernel_rfl)
    (of_decide_eq_true (by kernel_rfl)) (by unfold Func.isWrapper; first | (rw [if_pos (by decide +kernel)]; kernel_rfl) | (rw [if_neg (by decide +kernel)]; exact ⟨rfl, rfl⟩))
    (fun os started H enc _ F => by rw [OpenClaim.pre_eq_preRow]; exact lifted os started H enc F)

theorem plain (f : FuncId) (fn : Func) (hf : Tryd.pinned.checked.prog.funcNamed "buttery/butterylaw37.SketchJoins" = some f) (hfn : Tryd.pinned.checked.prog.funcs[f]? = some fn) :
    true = Tryd.pinned.checked.prog.looks [] ∧ ∀ (j : Nat) t, fn.params[j]? = some t → Tryd.pinned.checked.prog.wantsStandIn t = false := by
  obtain rfl : f = 7 := Option.some.inj ((show Tryd.prog.funcNamed "buttery/butterylaw37.SketchJoins" = some 7 by kernel_rfl).symm.trans hf) |>.symm
  obtain rfl : fn = Tryd.f7 := (Option.some.inj (Tryd.func7.symm.trans hfn)).symm
  refine ⟨by kernel_rfl, fun j t ht => ?_⟩
  rw [Tryd.params7] at ht
  have hm := Array.mem_of_getElem? ht
  simp only [List.mem_toArray, List.mem_cons, List.not_mem_nil, or_false] at hm
  rcases hm with rfl | rfl | rfl | rfl | rfl
  · exact (show Tryd.prog.wantsStandIn 22 = false by kernel_rfl)
  · exact (show Tryd.prog.wantsStandIn 22 = false by kernel_rfl)
  · exact (show Tryd.prog.wantsStandIn 23 = false by kernel_rfl)
  · exact (show Tryd.prog.wantsStandIn 23 = false by kernel_rfl)
  · exact (show Tryd.prog.wantsStandIn 9 = false by kernel_rfl)
end Go.Proofs.YtpjdaglblckgfaaDoor.sketchJoins
namespace Go.Proofs.YtpjdaglblckgfaaDoor
theorem sketchJoins_card : Rows.SketchJoinsCardSaid :=
  Claim7.holds_tied_plain_at .later [] _ _ _ _ sketchJoins.said (fun _ h => by cases h) (by kernel_rfl) (fun _ h => by cases h) sketchJoins_row_tie rfl ⟨rfl, rfl⟩ (by kernel_rfl) rfl sketchJoins.plain (by kernel_rfl)
#print axioms sketchJoins_card
end Go.Proofs.YtpjdaglblckgfaaDoor
