/- The values of the example. Written by wip/tools/genrg.py. -/
import Derived.Test.YtdaliiaagkhhhaaDoorRgL
namespace Go.Proofs.YtdaliiaagkhhhaaDoor
set_option linter.unusedVariables false
open Go.RowKit Go.Proofs.YtdaliiaagkhhhaaDoorW.PrintWords

abbrev sK : ByteArray := ⟨#[107]⟩
theorem hk : hashI sK = 3144699640775901285 := by decide +kernel
def P0 : List Pt := []
theorem at_3_0 : atI 3 (0 : Nat) = 7622081820967644264 := by decide +kernel
def Q3_1 : List Pt := [⟨7622081820967644264, 3⟩]
theorem put_3_0 : put P0 ⟨7622081820967644264, 3⟩ = Q3_1 := by decide +kernel
theorem at_3_1 : atI 3 (1 : Nat) = 14535176373112485973 := by decide +kernel
def Q3_2 : List Pt := [⟨7622081820967644264, 3⟩, ⟨14535176373112485973, 3⟩]
theorem put_3_1 : put Q3_1 ⟨14535176373112485973, 3⟩ = Q3_2 := by decide +kernel
theorem at_3_2 : atI 3 (2 : Nat) = 8948304144762494505 := by decide +kernel
def Q3_3 : List Pt := [⟨7622081820967644264, 3⟩, ⟨8948304144762494505, 3⟩, ⟨14535176373112485973, 3⟩]
theorem put_3_2 : put Q3_2 ⟨8948304144762494505, 3⟩ = Q3_3 := by decide +kernel
theorem at_3_3 : atI 3 (3 : Nat) = 6628254330794333529 := by decide +kernel
def Q3_4 : List Pt := [⟨6628254330794333529, 3⟩, ⟨7622081820967644264, 3⟩, ⟨8948304144762494505, 3⟩, ⟨14535176373112485973, 3⟩]
theorem put_3_3 : put Q3_3 ⟨6628254330794333529, 3⟩ = Q3_4 := by decide +kernel
theorem at_3_4 : atI 3 (4 : Nat) = 9341303862814529546 := by decide +kernel
def Q3_5 : List Pt := [⟨6628254330794333529, 3⟩, ⟨7622081820967644264, 3⟩, ⟨8948304144762494505, 3⟩, ⟨9341303862814529546, 3⟩, ⟨14535176373112485973, 3⟩]
theorem put_3_4 : put Q3_4 ⟨9341303862814529546, 3⟩ = Q3_5 := by decide +kernel
theorem at_3_5 : atI 3 (5 : Nat) = 645423428335969346 := by decide +kernel
def Q3_6 : List Pt := [⟨645423428335969346, 3⟩, ⟨6628254330794333529, 3⟩, ⟨7622081820967644264, 3⟩, ⟨8948304144762494505, 3⟩, ⟨9341303862814529546, 3⟩, ⟨14535176373112485973, 3⟩]
theorem put_3_5 : put Q3_5 ⟨645423428335969346, 3⟩ = Q3_6 := by decide +kernel
theorem at_3_6 : atI 3 (6 : Nat) = 10221347248841536490 := by decide +kernel
def Q3_7 : List Pt := [⟨645423428335969346, 3⟩, ⟨6628254330794333529, 3⟩, ⟨7622081820967644264, 3⟩, ⟨8948304144762494505, 3⟩, ⟨9341303862814529546, 3⟩, ⟨10221347248841536490, 3⟩, ⟨14535176373112485973, 3⟩]
theorem put_3_6 : put Q3_6 ⟨10221347248841536490, 3⟩ = Q3_7 := by decide +kernel
theorem at_3_7 : atI 3 (7 : Nat) = 12224148383553744956 := by decide +kernel
def Q3_8 : List Pt := [⟨645423428335969346, 3⟩, ⟨6628254330794333529, 3⟩, ⟨7622081820967644264, 3⟩, ⟨8948304144762494505, 3⟩, ⟨9341303862814529546, 3⟩, ⟨10221347248841536490, 3⟩, ⟨12224148383553744956, 3⟩, ⟨14535176373112485973, 3⟩]
theorem put_3_7 : put Q3_7 ⟨12224148383553744956, 3⟩ = Q3_8 := by decide +kernel
theorem add_3 : addTo P0 3 8 = Q3_8 := by
  have h0 : addTo P0 3 0 = P0 := rfl
  have h1 : addTo P0 3 1 = Q3_1 := by rw [addTo, h0, at_3_0, put_3_0]
  have h2 : addTo P0 3 2 = Q3_2 := by rw [addTo, h1, at_3_1, put_3_1]
  have h3 : addTo P0 3 3 = Q3_3 := by rw [addTo, h2, at_3_2, put_3_2]
  have h4 : addTo P0 3 4 = Q3_4 := by rw [addTo, h3, at_3_3, put_3_3]
  have h5 : addTo P0 3 5 = Q3_5 := by rw [addTo, h4, at_3_4, put_3_4]
  have h6 : addTo P0 3 6 = Q3_6 := by rw [addTo, h5, at_3_5, put_3_5]
  have h7 : addTo P0 3 7 = Q3_7 := by rw [addTo, h6, at_3_6, put_3_6]
  have h8 : addTo P0 3 8 = Q3_8 := by rw [addTo, h7, at_3_7, put_3_7]
  exact h8
theorem at_4_0 : atI 4 (0 : Nat) = 15224846946796682623 := by decide +kernel
def Q4_1 : List Pt := [⟨645423428335969346, 3⟩, ⟨6628254330794333529, 3⟩, ⟨7622081820967644264, 3⟩, ⟨8948304144762494505, 3⟩, ⟨9341303862814529546, 3⟩, ⟨10221347248841536490, 3⟩, ⟨12224148383553744956, 3⟩, ⟨14535176373112485973, 3⟩, ⟨15224846946796682623, 4⟩]
theorem put_4_0 : put Q3_8 ⟨15224846946796682623, 4⟩ = Q4_1 := by decide +kernel
theorem at_4_1 : atI 4 (1 : Nat) = 16975748779729145944 := by decide +kernel
def Q4_2 : List Pt := [⟨645423428335969346, 3⟩, ⟨6628254330794333529, 3⟩, ⟨7622081820967644264, 3⟩, ⟨8948304144762494505, 3⟩, ⟨9341303862814529546, 3⟩, ⟨10221347248841536490, 3⟩, ⟨12224148383553744956, 3⟩, ⟨14535176373112485973, 3⟩, ⟨15224846946796682623, 4⟩, ⟨16975748779729145944, 4⟩]
theorem put_4_1 : put Q4_1 ⟨16975748779729145944, 4⟩ = Q4_2 := by decide +kernel
theorem at_4_2 : atI 4 (2 : Nat) = 385622916566008327 := by decide +kernel
def Q4_3 : List Pt := [⟨385622916566008327, 4⟩, ⟨645423428335969346, 3⟩, ⟨6628254330794333529, 3⟩, ⟨7622081820967644264, 3⟩, ⟨8948304144762494505, 3⟩, ⟨9341303862814529546, 3⟩, ⟨10221347248841536490, 3⟩, ⟨12224148383553744956, 3⟩, ⟨14535176373112485973, 3⟩, ⟨15224846946796682623, 4⟩, ⟨16975748779729145944, 4⟩]
theorem put_4_2 : put Q4_2 ⟨385622916566008327, 4⟩ = Q4_3 := by decide +kernel
theorem at_4_3 : atI 4 (3 : Nat) = 4643413311380973660 := by decide +kernel
def Q4_4 : List Pt := [⟨385622916566008327, 4⟩, ⟨645423428335969346, 3⟩, ⟨4643413311380973660, 4⟩, ⟨6628254330794333529, 3⟩, ⟨7622081820967644264, 3⟩, ⟨8948304144762494505, 3⟩, ⟨9341303862814529546, 3⟩, ⟨10221347248841536490, 3⟩, ⟨12224148383553744956, 3⟩, ⟨14535176373112485973, 3⟩, ⟨15224846946796682623, 4⟩, ⟨16975748779729145944, 4⟩]
theorem put_4_3 : put Q4_3 ⟨4643413311380973660, 4⟩ = Q4_4 := by decide +kernel
theorem at_4_4 : atI 4 (4 : Nat) = 18213529100696725377 := by decide +kernel
def Q4_5 : List Pt := [⟨385622916566008327, 4⟩, ⟨645423428335969346, 3⟩, ⟨4643413311380973660, 4⟩, ⟨6628254330794333529, 3⟩, ⟨7622081820967644264, 3⟩, ⟨8948304144762494505, 3⟩, ⟨9341303862814529546, 3⟩, ⟨10221347248841536490, 3⟩, ⟨12224148383553744956, 3⟩, ⟨14535176373112485973, 3⟩, ⟨15224846946796682623, 4⟩, ⟨16975748779729145944, 4⟩, ⟨18213529100696725377, 4⟩]
theorem put_4_4 : put Q4_4 ⟨18213529100696725377, 4⟩ = Q4_5 := by decide +kernel
theorem at_4_5 : atI 4 (5 : Nat) = 8816249413729439109 := by decide +kernel
def Q4_6 : List Pt := [⟨385622916566008327, 4⟩, ⟨645423428335969346, 3⟩, ⟨4643413311380973660, 4⟩, ⟨6628254330794333529, 3⟩, ⟨7622081820967644264, 3⟩, ⟨8816249413729439109, 4⟩, ⟨8948304144762494505, 3⟩, ⟨9341303862814529546, 3⟩, ⟨10221347248841536490, 3⟩, ⟨12224148383553744956, 3⟩, ⟨14535176373112485973, 3⟩, ⟨15224846946796682623, 4⟩, ⟨16975748779729145944, 4⟩, ⟨18213529100696725377, 4⟩]
theorem put_4_5 : put Q4_5 ⟨8816249413729439109, 4⟩ = Q4_6 := by decide +kernel
theorem at_4_6 : atI 4 (6 : Nat) = 159690568783928856 := by decide +kernel
def Q4_7 : List Pt := [⟨159690568783928856, 4⟩, ⟨385622916566008327, 4⟩, ⟨645423428335969346, 3⟩, ⟨4643413311380973660, 4⟩, ⟨6628254330794333529, 3⟩, ⟨7622081820967644264, 3⟩, ⟨8816249413729439109, 4⟩, ⟨8948304144762494505, 3⟩, ⟨9341303862814529546, 3⟩, ⟨10221347248841536490, 3⟩, ⟨12224148383553744956, 3⟩, ⟨14535176373112485973, 3⟩, ⟨15224846946796682623, 4⟩, ⟨16975748779729145944, 4⟩, ⟨18213529100696725377, 4⟩]
theorem put_4_6 : put Q4_6 ⟨159690568783928856, 4⟩ = Q4_7 := by decide +kernel
theorem at_4_7 : atI 4 (7 : Nat) = 14313280227428397387 := by decide +kernel
def Q4_8 : List Pt := [⟨159690568783928856, 4⟩, ⟨385622916566008327, 4⟩, ⟨645423428335969346, 3⟩, ⟨4643413311380973660, 4⟩, ⟨6628254330794333529, 3⟩, ⟨7622081820967644264, 3⟩, ⟨8816249413729439109, 4⟩, ⟨8948304144762494505, 3⟩, ⟨9341303862814529546, 3⟩, ⟨10221347248841536490, 3⟩, ⟨12224148383553744956, 3⟩, ⟨14313280227428397387, 4⟩, ⟨14535176373112485973, 3⟩, ⟨15224846946796682623, 4⟩, ⟨16975748779729145944, 4⟩, ⟨18213529100696725377, 4⟩]
theorem put_4_7 : put Q4_7 ⟨14313280227428397387, 4⟩ = Q4_8 := by decide +kernel
theorem add_4 : addTo Q3_8 4 8 = Q4_8 := by
  have h0 : addTo Q3_8 4 0 = Q3_8 := rfl
  have h1 : addTo Q3_8 4 1 = Q4_1 := by rw [addTo, h0, at_4_0, put_4_0]
  have h2 : addTo Q3_8 4 2 = Q4_2 := by rw [addTo, h1, at_4_1, put_4_1]
  have h3 : addTo Q3_8 4 3 = Q4_3 := by rw [addTo, h2, at_4_2, put_4_2]
  have h4 : addTo Q3_8 4 4 = Q4_4 := by rw [addTo, h3, at_4_3, put_4_3]
  have h5 : addTo Q3_8 4 5 = Q4_5 := by rw [addTo, h4, at_4_4, put_4_4]
  have h6 : addTo Q3_8 4 6 = Q4_6 := by rw [addTo, h5, at_4_5, put_4_5]
  have h7 : addTo Q3_8 4 7 = Q4_7 := by rw [addTo, h6, at_4_6, put_4_6]
  have h8 : addTo Q3_8 4 8 = Q4_8 := by rw [addTo, h7, at_4_7, put_4_7]
  exact h8
theorem has_a : hasN P0 3 = false ∧ hasN Q3_8 3 = true ∧ hasN Q3_8 4 = false ∧ hasN Q4_8 9 = false := by decide +kernel
theorem wk_0 : ownerN P0 (hashI sK) = 0 := by rw [hk]; decide +kernel
theorem wk_1 : addR 8 P0 3 = Q3_8 ∧ addC P0 3 = 0 := ⟨by unfold addR; rw [if_pos ⟨by omega, by omega, has_a.1⟩, add_3], by decide +kernel⟩
theorem wk_2 : addR 8 Q3_8 3 = Q3_8 ∧ addC Q3_8 3 = 13 := ⟨by unfold addR; rw [if_neg (by rw [has_a.2.1]; decide)], by decide +kernel⟩
theorem wk_3 : addR 8 Q3_8 4 = Q4_8 ∧ addC Q3_8 4 = 0 := ⟨by unfold addR; rw [if_pos ⟨by omega, by omega, has_a.2.2.1⟩, add_4], by decide +kernel⟩
theorem wk_4 : (ownersN Q4_8 (hashI sK) 5).length = 2 := by rw [hk]; decide +kernel
theorem wk_5 : nodesN Q4_8 17 = [3, 4] := by decide +kernel
theorem wk_6 : shareN Q4_8 3 [sK] = 0 ∧ shareN Q4_8 4 [sK] = 1 := by
  simp only [shareN, hk]
  decide +kernel
theorem wk_7 : atI 1 2 = refAtI 1 2 := by decide +kernel
theorem wk_8 : remC Q4_8 9 = 9 ∧ Q3_8.length = 8 ∧ Q4_8.length = 16 := by decide +kernel
end Go.Proofs.YtdaliiaagkhhhaaDoor
