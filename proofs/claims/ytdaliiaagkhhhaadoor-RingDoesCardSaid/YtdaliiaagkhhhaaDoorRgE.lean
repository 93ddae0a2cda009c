/- The points of nodes 1 to 16, nine each: all different. Written by wip/tools/genat.py. The nodes that are met from a place on are the nearest ones, the nearest first. Plain facts. The document's answer for the ring's owners is the ring's. Plain facts. -/
import Derived.Test.YtdaliiaagkhhhaaDoorRgL
import Derived.Test.YtdaliiaagkhhhaaDoorRgM
import Derived.Test.YtdaliiaagkhhhaaDoorPRx3
namespace Go.Proofs.YtdaliiaagkhhhaaDoor
set_option linter.unusedVariables false
open Go.RowKit Go.Proofs.YtdaliiaagkhhhaaDoorW.PrintWords

def row1 : List Int := [15401116602503760187, 2313229087365877745, 13527274053727770166, 8603184297099677923, 4781653707287229453, 15473615283243299878, 5877319949106645181, 5773597997312545095, 14785301942539287801]
theorem row1_eq : (List.range 9).map (fun i : Nat => atI 1 i) = row1 := by decide +kernel
theorem ref1_eq : (List.range 9).map (fun i : Nat => refAtI 1 i) = row1 := by decide +kernel
def row2 : List Int := [8090221838119051557, 9893981860653227894, 361190878096856149, 18048790993898868102, 4342536735113606616, 3012288355925687614, 12941101297747488809, 15014794643744116504, 5298040116815800650]
theorem row2_eq : (List.range 9).map (fun i : Nat => atI 2 i) = row2 := by decide +kernel
theorem ref2_eq : (List.range 9).map (fun i : Nat => refAtI 2 i) = row2 := by decide +kernel
def row3 : List Int := [7622081820967644264, 14535176373112485973, 8948304144762494505, 6628254330794333529, 9341303862814529546, 645423428335969346, 10221347248841536490, 12224148383553744956, 13345303677641555599]
theorem row3_eq : (List.range 9).map (fun i : Nat => atI 3 i) = row3 := by decide +kernel
theorem ref3_eq : (List.range 9).map (fun i : Nat => refAtI 3 i) = row3 := by decide +kernel
def row4 : List Int := [15224846946796682623, 16975748779729145944, 385622916566008327, 4643413311380973660, 18213529100696725377, 8816249413729439109, 159690568783928856, 14313280227428397387, 9640670199261258925]
theorem row4_eq : (List.range 9).map (fun i : Nat => atI 4 i) = row4 := by decide +kernel
theorem ref4_eq : (List.range 9).map (fun i : Nat => refAtI 4 i) = row4 := by decide +kernel
def row5 : List Int := [1532777913440935793, 6358590168078720600, 6609529513714300288, 8954564308403532307, 377888038832074810, 5299196131791653475, 13716521597484570921, 8402420526924527747, 10675573400876563554]
theorem row5_eq : (List.range 9).map (fun i : Nat => atI 5 i) = row5 := by decide +kernel
theorem ref5_eq : (List.range 9).map (fun i : Nat => refAtI 5 i) = row5 := by decide +kernel
def row6 : List Int := [14288566912980409387, 3290096950029946117, 7313938109677380709, 4116589201784714636, 14586937721836925168, 15336190665490159317, 9946838094880108182, 7135199916717777570, 13461743699957574356]
theorem row6_eq : (List.range 9).map (fun i : Nat => atI 6 i) = row6 := by decide +kernel
theorem ref6_eq : (List.range 9).map (fun i : Nat => refAtI 6 i) = row6 := by decide +kernel
def row7 : List Int := [18354777433212076019, 17991544130116091501, 18417966154401180085, 6029997641288833355, 17931215045265801380, 3255550752579245205, 893747303739057455, 8884138414872353187, 10112064285991601712]
theorem row7_eq : (List.range 9).map (fun i : Nat => atI 7 i) = row7 := by decide +kernel
theorem ref7_eq : (List.range 9).map (fun i : Nat => refAtI 7 i) = row7 := by decide +kernel
def row8 : List Int := [7737682524261845262, 8348676501239355009, 11239486187836216292, 3890517165467356901, 14952722610139704509, 12025734739587971571, 5021559327201904388, 3748471197710081262, 13715046833422268081]
theorem row8_eq : (List.range 9).map (fun i : Nat => atI 8 i) = row8 := by decide +kernel
theorem ref8_eq : (List.range 9).map (fun i : Nat => refAtI 8 i) = row8 := by decide +kernel
def row9 : List Int := [12785755814666154321, 13021288974622404484, 5959025242490116586, 8870107199835964248, 576307035501628132, 1731082117037745587, 16615341997519796934, 5427471773973316005, 7665396657537445579]
theorem row9_eq : (List.range 9).map (fun i : Nat => atI 9 i) = row9 := by decide +kernel
theorem ref9_eq : (List.range 9).map (fun i : Nat => refAtI 9 i) = row9 := by decide +kernel
def row10 : List Int := [2109959097742635465, 590228224798218241, 11761583607223531612, 7680601220863958109, 12263462298264070124, 9440478142135834368, 417981273188998924, 11199294691403514912, 1711372806475113758]
theorem row10_eq : (List.range 9).map (fun i : Nat => atI 10 i) = row10 := by decide +kernel
theorem ref10_eq : (List.range 9).map (fun i : Nat => refAtI 10 i) = row10 := by decide +kernel
def row11 : List Int := [9197988299902626123, 5871030675819748605, 5423100243229363529, 6933483556831744905, 3405405541365973153, 582686003678065206, 3277936385139691934, 6559845546338021824, 2764889899120197208]
theorem row11_eq : (List.range 9).map (fun i : Nat => atI 11 i) = row11 := by decide +kernel
theorem ref11_eq : (List.range 9).map (fun i : Nat => refAtI 11 i) = row11 := by decide +kernel
def row12 : List Int := [9174793023321744226, 16983565465817055077, 3270523333598269909, 8864807914700603446, 11318205651651734424, 5217891859937579038, 4923507837998108542, 16913134839043044363, 5506267346399910840]
theorem row12_eq : (List.range 9).map (fun i : Nat => atI 12 i) = row12 := by decide +kernel
theorem ref12_eq : (List.range 9).map (fun i : Nat => refAtI 12 i) = row12 := by decide +kernel
def row13 : List Int := [15280887778973926990, 4585464157636839488, 14953370950601523039, 4440818244810020034, 18179085683735844520, 11789027745732704378, 3549916751024501629, 8939252423444801064, 18393876367200097158]
theorem row13_eq : (List.range 9).map (fun i : Nat => atI 13 i) = row13 := by decide +kernel
theorem ref13_eq : (List.range 9).map (fun i : Nat => refAtI 13 i) = row13 := by decide +kernel
def row14 : List Int := [13997543493581112917, 12289421741316016599, 13271076891346613266, 2399358851494904646, 14123920944496566713, 434758027795561415, 7794727987066135350, 2698247120859259364, 13150418717228085948]
theorem row14_eq : (List.range 9).map (fun i : Nat => atI 14 i) = row14 := by decide +kernel
theorem ref14_eq : (List.range 9).map (fun i : Nat => refAtI 14 i) = row14 := by decide +kernel
def row15 : List Int := [11265033535098863028, 45604710880342473, 4576043390080570200, 5666655619342487377, 8686781363614845093, 2676835746532870012, 6250932658407466814, 4886502629593949716, 2531176223997707279]
theorem row15_eq : (List.range 9).map (fun i : Nat => atI 15 i) = row15 := by decide +kernel
theorem ref15_eq : (List.range 9).map (fun i : Nat => refAtI 15 i) = row15 := by decide +kernel
def row16 : List Int := [14519768319510289779, 9437146592737057320, 15741756273872151038, 4465665895287806743, 3076631570785089764, 15804132948608621778, 8736631060136797856, 14840958326755580196, 12414297878184254868]
theorem row16_eq : (List.range 9).map (fun i : Nat => atI 16 i) = row16 := by decide +kernel
theorem ref16_eq : (List.range 9).map (fun i : Nat => refAtI 16 i) = row16 := by decide +kernel
def rows : List (List Int) := [row1, row2, row3, row4, row5, row6, row7, row8, row9, row10, row11, row12, row13, row14, row15, row16]
def tab (n i : Nat) : Int := ((rows.getD n []).getD i 0)
theorem row_at {r : List Int} {f : Nat → Int} (h : (List.range 9).map f = r) (i : Nat) (hi : i < 9) : f i = r.getD i 0 := by
  rw [← h]
  simp [hi]
theorem at_tab (n i : Nat) (h1 : 1 ≤ n) (h2 : n ≤ 16) (hi : i < 9) : atI n i = tab (n - 1) i ∧ refAtI n i = tab (n - 1) i := by
  have hn : n = 1 ∨ n = 2 ∨ n = 3 ∨ n = 4 ∨ n = 5 ∨ n = 6 ∨ n = 7 ∨ n = 8 ∨ n = 9 ∨ n = 10 ∨ n = 11 ∨ n = 12 ∨ n = 13 ∨ n = 14 ∨ n = 15 ∨ n = 16 := by omega
  rcases hn with rfl | rfl | rfl | rfl | rfl | rfl | rfl | rfl | rfl | rfl | rfl | rfl | rfl | rfl | rfl | rfl
  · exact ⟨row_at row1_eq i hi, row_at ref1_eq i hi⟩
  · exact ⟨row_at row2_eq i hi, row_at ref2_eq i hi⟩
  · exact ⟨row_at row3_eq i hi, row_at ref3_eq i hi⟩
  · exact ⟨row_at row4_eq i hi, row_at ref4_eq i hi⟩
  · exact ⟨row_at row5_eq i hi, row_at ref5_eq i hi⟩
  · exact ⟨row_at row6_eq i hi, row_at ref6_eq i hi⟩
  · exact ⟨row_at row7_eq i hi, row_at ref7_eq i hi⟩
  · exact ⟨row_at row8_eq i hi, row_at ref8_eq i hi⟩
  · exact ⟨row_at row9_eq i hi, row_at ref9_eq i hi⟩
  · exact ⟨row_at row10_eq i hi, row_at ref10_eq i hi⟩
  · exact ⟨row_at row11_eq i hi, row_at ref11_eq i hi⟩
  · exact ⟨row_at row12_eq i hi, row_at ref12_eq i hi⟩
  · exact ⟨row_at row13_eq i hi, row_at ref13_eq i hi⟩
  · exact ⟨row_at row14_eq i hi, row_at ref14_eq i hi⟩
  · exact ⟨row_at row15_eq i hi, row_at ref15_eq i hi⟩
  · exact ⟨row_at row16_eq i hi, row_at ref16_eq i hi⟩
theorem tab_all : ((List.range 16).all fun n => (List.range 9).all fun i => (List.range 16).all fun m => (List.range 9).all fun j => tab n i != tab m j || (n == m && i == j)) = true := by decide +kernel
theorem tab_inj (n : Nat) (hn : n < 16) (i : Nat) (hi : i < 9) (m : Nat) (hm : m < 16) (j : Nat) (hj : j < 9) (h : tab n i = tab m j) : n = m ∧ i = j := by
  have h1 := List.all_eq_true.1 (List.all_eq_true.1 (List.all_eq_true.1 (List.all_eq_true.1 tab_all n (List.mem_range.2 hn)) i (List.mem_range.2 hi)) m (List.mem_range.2 hm)) j (List.mem_range.2 hj)
  simpa [h] using h1
theorem at_inj (n m : Int) (n1 : 1 ≤ n) (n2 : n ≤ 16) (m1 : 1 ≤ m) (m2 : m ≤ 16) (i j : Nat) (hi : i < 9) (hj : j < 9) (h : atI n i = atI m j) : n = m ∧ i = j := by
  obtain ⟨n', rfl⟩ := Int.eq_ofNat_of_zero_le (show 0 ≤ n by omega)
  obtain ⟨m', rfl⟩ := Int.eq_ofNat_of_zero_le (show 0 ≤ m by omega)
  rw [(at_tab n' i (by omega) (by omega) hi).1, (at_tab m' j (by omega) (by omega) hj).1] at h
  have := tab_inj (n' - 1) (by omega) i hi (m' - 1) (by omega) j hj h
  exact ⟨by omega, this.2⟩
theorem at_ref (n : Int) (n1 : 1 ≤ n) (n2 : n ≤ 16) (i : Nat) (hi : i < 9) : refAtI n i = atI n i := by
  obtain ⟨n', rfl⟩ := Int.eq_ofNat_of_zero_le (show 0 ≤ n by omega)
  have := at_tab n' i (by omega) (by omega) hi
  rw [this.1, this.2]
end Go.Proofs.YtdaliiaagkhhhaaDoor
namespace Go.Proofs.YtdaliiaagkhhhaaDoor
set_option linter.unusedVariables false
open Go.RowKit Go.Proofs.YtdaliiaagkhhhaaDoorW.PrintWords

structure Good (each : Nat) (L : List Pt) : Prop where
  strict : L.Pairwise (fun x y => x.at_ < y.at_)
  ok : NodesOk L
  mem : ∀ y ∈ L, ∃ i : Nat, i < each ∧ y.at_ = atI y.node i
  all : ∀ y ∈ L, ∀ i : Nat, i < each → (⟨atI y.node i, y.node⟩ : Pt) ∈ L
theorem Good.nil (each : Nat) : Good each [] := ⟨.nil, fun y hy => by simp at hy, fun y hy => by simp at hy, fun y hy => by simp at hy⟩
theorem Good.rising {each : Nat} {L : List Pt} (h : Good each L) : Rising L := h.strict.imp (fun e => by omega)
theorem put_strict {L : List Pt} (h : L.Pairwise (fun x y => x.at_ < y.at_)) (x : Pt) (hx : ∀ y ∈ L, y.at_ ≠ x.at_) : (put L x).Pairwise (fun x y => x.at_ < y.at_) := by
  have hR : Rising L := h.imp (fun e => by omega)
  unfold put ins
  rw [List.pairwise_append]
  refine ⟨h.sublist (List.take_sublist _ _), List.pairwise_cons.2 ⟨fun y hy => ?_, h.sublist (List.drop_sublist _ _)⟩, fun y hy z hz => ?_⟩
  · have h1 := mem_drop_ge hR _ hy
    have h2 := hx y (List.mem_of_mem_drop hy)
    omega
  · have h1 := mem_take_lt hR _ hy
    rcases List.mem_cons.1 hz with rfl | hz
    · omega
    · have := mem_drop_ge hR _ hz
      omega
theorem Good.add {each : Nat} {L : List Pt} (h : Good each L) (he : each ≤ 9) {nd : Int} (n1 : 1 ≤ nd) (n2 : nd ≤ 16) (hq : hasN L nd = false) : Good each (addTo L nd each) := by
  have hnn : ∀ y ∈ L, y.node ≠ nd := fun y hy e => by
    have := has_iff.2 ⟨y, hy, e⟩
    rw [hq] at this
    cases this
  have hs : ∀ i, i ≤ each → (addTo L nd i).Pairwise (fun x y => x.at_ < y.at_) := by
    intro i
    induction i with
    | zero => exact fun _ => h.strict
    | succ i ih =>
      intro hi
      refine put_strict (ih (by omega)) _ fun y hy e => ?_
      have e' : y.at_ = atI nd i := e
      rcases mem_addTo.1 hy with hy | ⟨j, hj, rfl⟩
      · obtain ⟨j, hj, e2⟩ := h.mem y hy
        have hn := h.ok y hy
        rw [e2] at e'
        exact hnn y hy (at_inj _ _ hn.1 hn.2 n1 n2 j i (by omega) (by omega) e').1
      · have := (at_inj _ _ n1 n2 n1 n2 j i (by omega) (by omega) e').2
        omega
  refine ⟨hs each (Nat.le_refl _), addTo_ok h.ok n1 n2 each, fun y hy => ?_, fun y hy i hi => ?_⟩
  · rcases mem_addTo.1 hy with hy | ⟨j, hj, rfl⟩
    · exact h.mem y hy
    · exact ⟨j, hj, rfl⟩
  · rcases mem_addTo.1 hy with hy | ⟨j, hj, rfl⟩
    · exact mem_addTo.2 (.inl (h.all y hy i hi))
    · exact mem_addTo.2 (.inr ⟨i, hi, rfl⟩)
theorem Good.addR {each : Nat} {L : List Pt} (h : Good each L) (he : each ≤ 9) (nd : Int) : Good each (addR each L nd) := by
  unfold Go.Proofs.YtdaliiaagkhhhaaDoor.addR
  split
  · rename_i hh
    exact h.add he hh.1 hh.2.1 hh.2.2
  · exact h
theorem Good.drop {each : Nat} {L : List Pt} (h : Good each L) (nd : Int) : Good each (dropN L nd) := by
  refine ⟨h.strict.sublist List.filter_sublist, dropN_ok h.ok nd, fun y hy => h.mem y (List.mem_filter.1 hy).1, fun y hy i hi => ?_⟩
  obtain ⟨h1, h2⟩ := List.mem_filter.1 hy
  exact List.mem_filter.2 ⟨h.all y h1 i hi, h2⟩

/-- How far it is from a hash to a place, going up, round about. -/
def far (h a : Int) : Int := IntKind.u64.wrap (a - h)
theorem far_eq (h a : Int) : far h a = (a - h) % 18446744073709551616 := IntKind.wrap_u64 _
theorem at_bd (n i : Int) : 0 ≤ atI n i ∧ atI n i < 18446744073709551616 := by unfold atI; exact mixI_bd _
theorem Good.bd {each : Nat} {L : List Pt} (h : Good each L) {j : Nat} (hj : j < L.length) : 0 ≤ (pget L j).at_ ∧ (pget L j).at_ < 18446744073709551616 := by
  rw [pget_eq hj]
  obtain ⟨i, _, e⟩ := h.mem _ (List.getElem_mem hj)
  rw [e]
  exact at_bd _ _
/-- The point that is met at step j. -/
def met (L : List Pt) (h : Int) (j : Nat) : Pt := pget L ((nextN L h + j) % L.length)
theorem met_far {each : Nat} {L : List Pt} (hg : Good each L) {h : Int} (h0 : 0 ≤ h) (h1 : h < 18446744073709551616) {j k : Nat} (hjk : j < k) (hk : k < L.length) : far h (met L h j).at_ < far h (met L h k).at_ := by
  have hN := nextN_le L h
  have hT := nextN_take L h hg.rising
  have hst : ∀ a b, a < b → b < L.length → (pget L a).at_ < (pget L b).at_ := fun a b hab hb => by
    rw [pget_eq hb, pget_eq (by omega)]
    exact List.pairwise_iff_getElem.1 hg.strict a b (by omega) hb hab
  have idx : ∀ j, j < L.length → (nextN L h + j < L.length ∧ (nextN L h + j) % L.length = nextN L h + j) ∨ (L.length ≤ nextN L h + j ∧ (nextN L h + j) % L.length = nextN L h + j - L.length) := fun j hj => by
    rcases Nat.lt_or_ge (nextN L h + j) L.length with h2 | h2
    · exact .inl ⟨h2, Nat.mod_eq_of_lt h2⟩
    · refine .inr ⟨h2, ?_⟩
      rw [Nat.mod_eq_sub_mod h2, Nat.mod_eq_of_lt (by omega)]
  unfold met
  rw [far_eq, far_eq]
  rcases idx j (by omega) with ⟨j1, j2⟩ | ⟨j1, j2⟩ <;> rcases idx k hk with ⟨k1, k2⟩ | ⟨k1, k2⟩ <;> rw [j2, k2]
  · have b1 := hg.bd j1
    have b2 := hg.bd k1
    have s := hst _ _ (show nextN L h + j < nextN L h + k by omega) k1
    have t1 := mt (hT _ j1).1 (by omega)
    omega
  · have b1 := hg.bd j1
    have b2 := hg.bd (show nextN L h + k - L.length < L.length by omega)
    have t1 := mt (hT _ j1).1 (by omega)
    have t2 := (hT _ (show nextN L h + k - L.length < L.length by omega)).2 (by omega)
    have s := hst _ _ (show nextN L h + k - L.length < nextN L h + j by omega) j1
    omega
  · omega
  · have b1 := hg.bd (show nextN L h + j - L.length < L.length by omega)
    have b2 := hg.bd (show nextN L h + k - L.length < L.length by omega)
    have t1 := (hT _ (show nextN L h + j - L.length < L.length by omega)).2 (by omega)
    have t2 := (hT _ (show nextN L h + k - L.length < L.length by omega)).2 (by omega)
    have s := hst _ _ (show nextN L h + j - L.length < nextN L h + k - L.length by omega) (by omega)
    omega

/-- How far it is to a node's next point. -/
def wayTo (h n : Int) : Nat → Int
  | 0 => far h (refAtI n 0)
  | i + 1 => if far h (refAtI n i) < wayTo h n i then far h (refAtI n i) else wayTo h n i
theorem wayTo_le (h n : Int) : ∀ (i j : Nat), j < i → wayTo h n i ≤ far h (refAtI n j)
  | i + 1, j, hj => by
    rw [wayTo]
    by_cases e : j = i
    · subst e
      split <;> omega
    · have := wayTo_le h n i j (by omega)
      split <;> omega
theorem wayTo_hit (h n : Int) : ∀ i : Nat, 0 < i → ∃ j : Nat, j < i ∧ wayTo h n i = far h (refAtI n j)
  | 1, _ => ⟨0, by omega, by rw [wayTo, wayTo]; simp⟩
  | i + 2, _ => by
    rw [wayTo]
    by_cases hc : far h (refAtI n (i + 1 : Nat)) < wayTo h n (i + 1)
    · exact ⟨i + 1, by omega, by rw [if_pos hc]⟩
    · obtain ⟨j, hj, e⟩ := wayTo_hit h n (i + 1) (by omega)
      exact ⟨j, by omega, by rw [if_neg hc, e]⟩
theorem way_le {each : Nat} {L : List Pt} (hg : Good each L) (he : each ≤ 9) {h : Int} {j : Nat} (hj : j < L.length) : wayTo h (met L h j).node each ≤ far h (met L h j).at_ := by
  have hm : (nextN L h + j) % L.length < L.length := Nat.mod_lt _ (by omega)
  have hy : met L h j ∈ L := by unfold met; rw [pget_eq hm]; exact List.getElem_mem hm
  obtain ⟨i, hi, e⟩ := hg.mem _ hy
  have hn := hg.ok _ hy
  have := wayTo_le h (met L h j).node each i hi
  rw [at_ref _ hn.1 hn.2 i (by omega), ← e] at this
  exact this
theorem way_hit {each : Nat} {L : List Pt} (hg : Good each L) (h0 : 0 < each) (he : each ≤ 9) {h n : Int} (hn : hasN L n = true) : ∃ j, j < L.length ∧ (met L h j).node = n ∧ wayTo h n each = far h (met L h j).at_ := by
  obtain ⟨y, hy, rfl⟩ := has_iff.1 hn
  obtain ⟨i, hi, e⟩ := wayTo_hit h y.node each h0
  have hok := hg.ok y hy
  obtain ⟨m, hm, em⟩ := List.getElem_of_mem (hg.all y hy i hi)
  have hr : nextN L h % L.length < L.length := Nat.mod_lt _ (by omega)
  refine ⟨(m + L.length - nextN L h % L.length) % L.length, Nat.mod_lt _ (by omega), ?_⟩
  have hmm : (nextN L h + (m + L.length - nextN L h % L.length) % L.length) % L.length = m := by
    rw [Nat.add_mod, Nat.mod_mod, ← Nat.add_mod, show nextN L h + (m + L.length - nextN L h % L.length) = m + L.length * (nextN L h / L.length + 1) by
      have := Nat.div_add_mod (nextN L h) L.length
      rw [Nat.mul_add]
      omega, Nat.add_mul_mod_self_left, Nat.mod_eq_of_lt hm]
  unfold met
  rw [hmm, pget_eq hm, em]
  exact ⟨rfl, by rw [e, at_ref _ hok.1 hok.2 i (by omega)]⟩
/-- The nodes that are met are the nearer ones first. -/
theorem ded_way {each : Nat} {L : List Pt} (hg : Good each L) (h0 : 0 < each) (he : each ≤ 9) {h : Int} (hb0 : 0 ≤ h) (hb1 : h < 18446744073709551616) : ∀ i, i ≤ L.length → (ded L (nextN L h) i).Pairwise (fun a b => wayTo h a each < wayTo h b each)
  | 0, _ => .nil
  | i + 1, hi => by
    have ih := ded_way hg h0 he hb0 hb1 i (by omega)
    rw [ded]
    split
    · exact ih
    · rename_i hnot
      have hnot' : (met L h i).node ∉ ded L (nextN L h) i := hnot
      rw [List.pairwise_append]
      refine ⟨ih, List.pairwise_singleton _ _, fun a ha b hb => ?_⟩
      rw [List.mem_singleton.1 hb]
      show wayTo h a each < wayTo h (met L h i).node each
      obtain ⟨j, hj, e⟩ := (mem_ded L _ a i).1 ha
      have e' : (met L h j).node = a := e
      have hm : (nextN L h + i) % L.length < L.length := Nat.mod_lt _ (by omega)
      have hy : met L h i ∈ L := by unfold met; rw [pget_eq hm]; exact List.getElem_mem hm
      obtain ⟨k, hk, ek, ew⟩ := way_hit (h := h) hg h0 he (has_iff.2 ⟨_, hy, rfl⟩)
      have hki : i ≤ k := by
        rcases Nat.lt_or_ge k i with hlt | hge
        · exact absurd ((mem_ded L _ _ i).2 ⟨k, hlt, ek⟩) hnot'
        · exact hge
      rw [ew]
      have h1 := way_le hg he (h := h) (show j < L.length by omega)
      rw [e'] at h1
      have h2 := met_far hg hb0 hb1 (show j < k by omega) hk
      omega
end Go.Proofs.YtdaliiaagkhhhaaDoor
namespace Go.Proofs.YtdaliiaagkhhhaaDoor
set_option linter.unusedVariables false
open Go.RowKit Go.Proofs.YtdaliiaagkhhhaaDoorW.PrintWords

/-- The nearest of some nodes that is not among others, as the document looks for it. -/
def pickTo (D : Int → Int) (out L : List Int) : Nat → Int
  | 0 => 0
  | i + 1 => if iget L i ∈ out then pickTo D out L i else if pickTo D out L i = 0 then iget L i else if D (iget L i) < D (pickTo D out L i) then iget L i else pickTo D out L i
def sel (D : Int → Int) (L : List Int) : Nat → List Int
  | 0 => []
  | i + 1 => sel D L i ++ [pickTo D (sel D L i) L L.length]
theorem sel_len (D : Int → Int) (L : List Int) : ∀ i, (sel D L i).length = i
  | 0 => rfl
  | i + 1 => by rw [sel, List.length_append, sel_len D L i]; rfl
/-- What pickTo finds: the one of them that is nearer than all others. -/
theorem pick_min {D : Int → Int} {out L : List Int} {b : Int} (hb : b ∈ L) (hbo : b ∉ out) (h0 : ∀ n ∈ L, n ≠ 0) (hmin : ∀ n ∈ L, n ∉ out → n ≠ b → D b < D n) : ∀ i, i ≤ L.length → (b ∈ L.take i → pickTo D out L i = b) ∧ (b ∉ L.take i → pickTo D out L i = 0 ∨ (pickTo D out L i ∈ L ∧ pickTo D out L i ∉ out ∧ pickTo D out L i ≠ b))
  | 0, _ => ⟨fun h => by simp at h, fun _ => .inl rfl⟩
  | i + 1, hi => by
    obtain ⟨i1, i2⟩ := pick_min hb hbo h0 hmin i (by omega)
    have hlt : i < L.length := by omega
    have hm : iget L i ∈ L := by rw [iget_eq hlt]; exact List.getElem_mem hlt
    rw [take_i hlt, pickTo]
    refine ⟨fun h => ?_, fun h => ?_⟩
    · by_cases hin : b ∈ L.take i
      · have hp := i1 hin
        rw [hp]
        by_cases h1 : iget L i ∈ out
        · rw [if_pos h1]
        · rw [if_neg h1, if_neg (h0 b hb)]
          by_cases h2 : iget L i = b
          · rw [h2]; split <;> rfl
          · have := hmin _ hm h1 h2
            rw [if_neg (by omega)]
      · have he : b = iget L i := by
          rcases List.mem_append.1 h with h | h
          · exact absurd h hin
          · exact List.mem_singleton.1 h
        rw [← he, if_neg hbo]
        rcases i2 hin with h1 | ⟨h1, h2, h3⟩
        · rw [if_pos h1]
        · rw [if_neg (h0 _ h1), if_pos (hmin _ h1 h2 h3)]
    · have hnin : b ∉ L.take i := fun e => h (List.mem_append.2 (.inl e))
      have hne : iget L i ≠ b := fun e => h (List.mem_append.2 (.inr (by rw [e]; exact List.mem_singleton.2 rfl)))
      have ih := i2 hnin
      by_cases h1 : iget L i ∈ out
      · rw [if_pos h1]; exact ih
      · rw [if_neg h1]
        by_cases h2 : pickTo D out L i = 0
        · rw [if_pos h2]; exact .inr ⟨hm, h1, hne⟩
        · rw [if_neg h2]
          split
          · exact .inr ⟨hm, h1, hne⟩
          · exact ih
/-- The document's way of looking for the nearest ones gives any list of these nodes that is in that order. -/
theorem sel_eq {D : Int → Int} {L T : List Int} (hT : T.Pairwise (fun a b => D a < D b)) (hmem : ∀ x, x ∈ T ↔ x ∈ L) (h0 : ∀ n ∈ L, n ≠ 0) (hnd : T.Nodup) : ∀ i, i ≤ T.length → sel D L i = T.take i
  | 0, _ => rfl
  | i + 1, hi => by
    have ih := sel_eq hT hmem h0 hnd i (by omega)
    have hlt : i < T.length := by omega
    rw [sel, ih, List.take_succ_eq_append_getElem hlt]
    congr 2
    have hb : T[i] ∈ L := (hmem _).1 (List.getElem_mem hlt)
    have hbo : T[i] ∉ T.take i := by
      intro h
      obtain ⟨j, hj, e⟩ := List.getElem_of_mem h
      have hj2 : j < i := by simp at hj; omega
      have := List.pairwise_iff_getElem.1 hnd j i (by omega) hlt hj2
      simp at e
      exact this e
    refine ((pick_min hb hbo h0 (fun n hn hno hne => ?_) L.length (Nat.le_refl _)).1 (by rw [List.take_length]; exact hb))
    obtain ⟨j, hj, rfl⟩ := List.getElem_of_mem ((hmem n).2 hn)
    rcases Nat.lt_or_ge j i with h1 | h1
    · exact absurd (List.mem_take_iff_getElem.2 ⟨j, by omega, rfl⟩) hno
    · have h2 : i < j := by
        rcases Nat.lt_or_eq_of_le h1 with h2 | h2
        · exact h2
        · exact absurd (by simp [h2]) hne
      exact List.pairwise_iff_getElem.1 hT i j hlt hj h2
def refOwners (each : Nat) (L : List Int) (h most : Int) : List Int := sel (fun n => wayTo h n each) L (min most.toNat L.length)
theorem owners_ref {each : Nat} {P : List Pt} (hg : Good each P) (h0 : 0 < each) (he : each ≤ 9) {h : Int} (hb0 : 0 ≤ h) (hb1 : h < 18446744073709551616) (most : Int) : ownersN P h most = refOwners each (nodesN P 17) h most := by
  have hl := ded_len hg.ok (nextN P h)
  rw [owners_take, refOwners, ← hl, sel_eq (ded_way hg h0 he hb0 hb1 P.length (Nat.le_refl _)) (fun x => by rw [mem_ded_all, mem_nodes hg.ok]) (fun n hn => ?_) (ded_nodup _ _ _) _ (Nat.min_le_right _ _), List.take_eq_take_iff]
  · omega
  · obtain ⟨y, hy, rfl⟩ := has_iff.1 ((mem_nodes hg.ok n).1 hn)
    have := (hg.ok y hy).1
    omega

/-! the printed functions -/
theorem refhas_ge (l : List Int) (a : Int) (hl : l.length < 9223372036854775807) (k : Nat) (hk : l.length < k) : PR.butteryref02_Has.f k l a = some (decide (a ∈ l)) := by
  unfold PR.butteryref02_Has.f
  have := has_f l a hl l.length k 0 (by omega) (by omega)
  simpa using this
theorem way_run (h n : Int) (each : Nat) (he : each ≤ 64) (L : List Int) : ∀ m k i, i + m = each → m < k → PR.butteryref22_way.l0 k h n (wayTo h n i) i each L = some (wayTo h n each)
  | 0, k + 1, i, h1, h2 => by
    rw [PR.butteryref22_way.l0, if_neg (by omega), show i = each by omega]
  | m + 1, k + 1, i, h1, h2 => by
    have hw : wrap64 ((i : Int) + 1) = ((i + 1 : Nat) : Int) := by unfold wrap64; omega
    have ih := way_run h n each he L m k (i + 1) (by omega) (by omega)
    rw [PR.butteryref22_way.l0, if_pos (by omega), refat_f, Option.bind_some, Option.bind_some, hw]
    rw [wayTo] at ih
    by_cases hc : far h (refAtI n i) < wayTo h n i
    · rw [if_pos hc] at ih
      have hc' : IntKind.u64.wrap (refAtI n i - h) < wayTo h n i := hc
      rw [if_pos hc']
      exact ih
    · rw [if_neg hc] at ih
      have hc' : ¬ IntKind.u64.wrap (refAtI n i - h) < wayTo h n i := hc
      rw [if_neg hc']
      exact ih
theorem way_f (h n : Int) (each : Nat) (he : each ≤ 64) (L : List Int) (k : Nat) (hk : each < k) : PR.butteryref22_way.f k each L h n = some (wayTo h n each) := by
  unfold PR.butteryref22_way.f
  rw [show (0 : Int) = ((0 : Nat) : Int) from rfl, refat_f, Option.bind_some]
  exact way_run h n each he L each k 0 (by omega) hk
theorem pick_run (most h : Int) (each : Nat) (he : each ≤ 64) (L out : List Int) (hL : L.length ≤ 100) (ho : out.length ≤ 100) (R : List Int) (hnext : ∃ K, ∀ k, K ≤ k → PR.butteryref22_Owners.l0 k most h (out ++ [pickTo (fun n => wayTo h n each) out L L.length]) each L = some R) :
    ∀ m i, i + m = L.length → ∃ K, ∀ k, K ≤ k → PR.butteryref22_Owners.l1 k most h out (pickTo (fun n => wayTo h n each) out L i) i each L = some R
  | 0, i, h1 => by
    obtain ⟨K, hK⟩ := hnext
    refine ⟨K + 1, fun k hk => ?_⟩
    obtain ⟨k, rfl⟩ : ∃ k', k = k' + 1 := ⟨k - 1, by omega⟩
    have e : i = L.length := by omega
    rw [PR.butteryref22_Owners.l1, if_neg (by omega), if_pos (by omega), e]
    exact hK k (by omega)
  | m + 1, i, h1 => by
    obtain ⟨K, hK⟩ := pick_run most h each he L out hL ho R hnext m (i + 1) (by omega)
    refine ⟨K + 300, fun k hk => ?_⟩
    obtain ⟨k, rfl⟩ : ∃ k', k = k' + 1 := ⟨k - 1, by omega⟩
    have hi : i < L.length := by omega
    have hr : rd L (i : Int) = iget L i := by simp [rd, iget]
    have hw : wrap64 ((i : Int) + 1) = ((i + 1 : Nat) : Int) := by unfold wrap64; omega
    have ih := hK k (by omega)
    rw [pickTo] at ih
    rw [PR.butteryref22_Owners.l1, if_pos (by omega), if_pos (by omega), hr, refhas_ge out _ (by omega) k (by omega), Option.bind_some, hw]
    by_cases h2 : iget L i ∈ out
    · rw [if_pos h2] at ih
      rw [if_pos (decide_eq_true h2)]
      exact ih
    · rw [if_neg h2] at ih
      rw [if_neg (by simp [h2])]
      by_cases h3 : pickTo (fun n => wayTo h n each) out L i = 0
      · rw [if_pos h3] at ih
        rw [if_pos h3]
        exact ih
      · rw [if_neg h3] at ih
        rw [if_neg h3, way_f h _ each he L k (by omega), Option.bind_some, way_f h _ each he L k (by omega), Option.bind_some]
        by_cases h4 : wayTo h (iget L i) each < wayTo h (pickTo (fun n => wayTo h n each) out L i) each
        · rw [if_pos h4] at ih
          rw [if_pos h4]
          exact ih
        · rw [if_neg h4] at ih
          rw [if_neg h4]
          exact ih
theorem sel_run (most h : Int) (each : Nat) (he : each ≤ 64) (L : List Int) (hL : L.length ≤ 100) : ∀ m i, i + m = min most.toNat L.length →
    ∃ K, ∀ k, K ≤ k → PR.butteryref22_Owners.l0 k most h (sel (fun n => wayTo h n each) L i) each L = some (refOwners each L h most)
  | 0, i, h1 => by
    refine ⟨3, fun k hk => ?_⟩
    obtain ⟨k, rfl⟩ : ∃ k', k = k' + 2 := ⟨k - 2, by omega⟩
    have hl := sel_len (fun n => wayTo h n each) L i
    have e : sel (fun n => wayTo h n each) L i = refOwners each L h most := by unfold refOwners; rw [← h1]; rfl
    rw [PR.butteryref22_Owners.l0]
    by_cases hc : ((sel (fun n => wayTo h n each) L i).length : Int) < most
    · rw [if_pos hc, PR.butteryref22_Owners.j1, if_neg (by simp; omega), e]
    · rw [if_neg hc, PR.butteryref22_Owners.j1, if_neg (by simp), e]
  | m + 1, i, h1 => by
    have ih := sel_run most h each he L hL m (i + 1) (by omega)
    have hl := sel_len (fun n => wayTo h n each) L i
    obtain ⟨K, hK⟩ := pick_run most h each he L (sel (fun n => wayTo h n each) L i) hL (by omega) _ ih L.length 0 (by omega)
    refine ⟨K + 2, fun k hk => ?_⟩
    obtain ⟨k, rfl⟩ : ∃ k', k = k' + 2 := ⟨k - 2, by omega⟩
    rw [PR.butteryref22_Owners.l0, if_pos (by omega), PR.butteryref22_Owners.j1, if_pos (decide_eq_true (by omega))]
    exact hK k (by omega)
end Go.Proofs.YtdaliiaagkhhhaaDoor
