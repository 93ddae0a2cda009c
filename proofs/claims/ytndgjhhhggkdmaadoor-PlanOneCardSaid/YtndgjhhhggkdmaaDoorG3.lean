/- The points of nodes 1 to 16, nine each: all different. Written by wip/tools/genat.py. The nodes that are met from a place on are the nearest ones, the nearest first. Plain facts. The document's answer for the ring's owners is the ring's. Plain facts. The contracts of the document's Owners, Owner, New, Add, Remove. The walks of the document's New, Add, Remove. The walk of the document's Remove. The ring's nodes and the document's are the same, whatever comes and goes. Plain facts; what a law keeps of both. Plans as plain functions: rings of nodes, how much each node has, which keys move. No program here. What the document's Load, Spread and Path compute. Plain facts. -/
import Derived.Test.YtndgjhhhggkdmaaDoorG2
import Derived.Test.YtndgjhhhggkdmaaDoorPRall
import Derived.Deep.RegionWith
import Derived.Deep.RegionLaw
namespace Go.Proofs.YtndgjhhhggkdmaaDoor
set_option linter.unusedVariables false
open Go.RowKit Go.Proofs.YtndgjhhhggkdmaaDoorW.PrintWords

def row1 : List Int := [15401116602503760187, 2313229087365877745, 13527274053727770166, 8603184297099677923, 4781653707287229453, 15473615283243299878, 5877319949106645181, 5773597997312545095, 14785301942539287801]
theorem row1_eq : (List.range 9).map (fun i : Nat => atI 1 i) = row1 := by decide +kernel
theorem ref1_eq : (List.range 9).map (fun i : Nat => refAtI 1 i) = row1 := by decide +kernel
def row2 : List Int := [8090221838119051557, 9893981860653227894, 361190878096856149, 18048790993898868102, 4342536735113606616, 3012288355925687614, 12941101297747488809, 15014794643744116504, 5298040116815800650]
theorem row2_eq : (List.range 9).map (fun i : Nat => atI 2 i) = row2 := by decide +kernel
theorem ref2_eq : (List.range 9).map (fun i : Nat => refAtI 2 i) = row2 := by decide +kernel
def row3 : List Int := [7622081820967644264, 14535176373112485973, 8948304144762494505, 6628254330794333529, 9341303862814529546, 645423428335969346, 10221347248841536490, 12224148383553744956, 13345303677641555599]
theorem row3_eq : (List.range 9).map (fun i : Nat => atI 3 i) = row3 := by decide +kernel
theorem ref3_eq : (List.range 9).map (fun i : Nat => refAtI 3 i) = row3 := by decide +kernel
def row4 : List Int := [15224846946796682623, 16975748779729145944, 385622916566008327, 4643413311380973660, 18213529100696725377, 8816249413729439109, 159690568783928856, 14313280227428397387, 9640670199261258925]
theorem row4_eq : (List.range 9).map (fun i : Nat => atI 4 i) = row4 := by decide +kernel
theorem ref4_eq : (List.range 9).map (fun i : Nat => refAtI 4 i) = row4 := by decide +kernel
def row5 : List Int := [1532777913440935793, 6358590168078720600, 6609529513714300288, 8954564308403532307, 377888038832074810, 5299196131791653475, 13716521597484570921, 8402420526924527747, 10675573400876563554]
theorem row5_eq : (List.range 9).map (fun i : Nat => atI 5 i) = row5 := by decide +kernel
theorem ref5_eq : (List.range 9).map (fun i : Nat => refAtI 5 i) = row5 := by decide +kernel
def row6 : List Int := [14288566912980409387, 3290096950029946117, 7313938109677380709, 4116589201784714636, 14586937721836925168, 15336190665490159317, 9946838094880108182, 7135199916717777570, 13461743699957574356]
theorem row6_eq : (List.range 9).map (fun i : Nat => atI 6 i) = row6 := by decide +kernel
theorem ref6_eq : (List.range 9).map (fun i : Nat => refAtI 6 i) = row6 := by decide +kernel
def row7 : List Int := [18354777433212076019, 17991544130116091501, 18417966154401180085, 6029997641288833355, 17931215045265801380, 3255550752579245205, 893747303739057455, 8884138414872353187, 10112064285991601712]
theorem row7_eq : (List.range 9).map (fun i : Nat => atI 7 i) = row7 := by decide +kernel
theorem ref7_eq : (List.range 9).map (fun i : Nat => refAtI 7 i) = row7 := by decide +kernel
def row8 : List Int := [7737682524261845262, 8348676501239355009, 11239486187836216292, 3890517165467356901, 14952722610139704509, 12025734739587971571, 5021559327201904388, 3748471197710081262, 13715046833422268081]
theorem row8_eq : (List.range 9).map (fun i : Nat => atI 8 i) = row8 := by decide +kernel
theorem ref8_eq : (List.range 9).map (fun i : Nat => refAtI 8 i) = row8 := by decide +kernel
def row9 : List Int := [12785755814666154321, 13021288974622404484, 5959025242490116586, 8870107199835964248, 576307035501628132, 1731082117037745587, 16615341997519796934, 5427471773973316005, 7665396657537445579]
theorem row9_eq : (List.range 9).map (fun i : Nat => atI 9 i) = row9 := by decide +kernel
theorem ref9_eq : (List.range 9).map (fun i : Nat => refAtI 9 i) = row9 := by decide +kernel
def row10 : List Int := [2109959097742635465, 590228224798218241, 11761583607223531612, 7680601220863958109, 12263462298264070124, 9440478142135834368, 417981273188998924, 11199294691403514912, 1711372806475113758]
theorem row10_eq : (List.range 9).map (fun i : Nat => atI 10 i) = row10 := by decide +kernel
theorem ref10_eq : (List.range 9).map (fun i : Nat => refAtI 10 i) = row10 := by decide +kernel
def row11 : List Int := [9197988299902626123, 5871030675819748605, 5423100243229363529, 6933483556831744905, 3405405541365973153, 582686003678065206, 3277936385139691934, 6559845546338021824, 2764889899120197208]
theorem row11_eq : (List.range 9).map (fun i : Nat => atI 11 i) = row11 := by decide +kernel
theorem ref11_eq : (List.range 9).map (fun i : Nat => refAtI 11 i) = row11 := by decide +kernel
def row12 : List Int := [9174793023321744226, 16983565465817055077, 3270523333598269909, 8864807914700603446, 11318205651651734424, 5217891859937579038, 4923507837998108542, 16913134839043044363, 5506267346399910840]
theorem row12_eq : (List.range 9).map (fun i : Nat => atI 12 i) = row12 := by decide +kernel
theorem ref12_eq : (List.range 9).map (fun i : Nat => refAtI 12 i) = row12 := by decide +kernel
def row13 : List Int := [15280887778973926990, 4585464157636839488, 14953370950601523039, 4440818244810020034, 18179085683735844520, 11789027745732704378, 3549916751024501629, 8939252423444801064, 18393876367200097158]
theorem row13_eq : (List.range 9).map (fun i : Nat => atI 13 i) = row13 := by decide +kernel
theorem ref13_eq : (List.range 9).map (fun i : Nat => refAtI 13 i) = row13 := by decide +kernel
def row14 : List Int := [13997543493581112917, 12289421741316016599, 13271076891346613266, 2399358851494904646, 14123920944496566713, 434758027795561415, 7794727987066135350, 2698247120859259364, 13150418717228085948]
theorem row14_eq : (List.range 9).map (fun i : Nat => atI 14 i) = row14 := by decide +kernel
theorem ref14_eq : (List.range 9).map (fun i : Nat => refAtI 14 i) = row14 := by decide +kernel
def row15 : List Int := [11265033535098863028, 45604710880342473, 4576043390080570200, 5666655619342487377, 8686781363614845093, 2676835746532870012, 6250932658407466814, 4886502629593949716, 2531176223997707279]
theorem row15_eq : (List.range 9).map (fun i : Nat => atI 15 i) = row15 := by decide +kernel
theorem ref15_eq : (List.range 9).map (fun i : Nat => refAtI 15 i) = row15 := by decide +kernel
def row16 : List Int := [14519768319510289779, 9437146592737057320, 15741756273872151038, 4465665895287806743, 3076631570785089764, 15804132948608621778, 8736631060136797856, 14840958326755580196, 12414297878184254868]
theorem row16_eq : (List.range 9).map (fun i : Nat => atI 16 i) = row16 := by decide +kernel
theorem ref16_eq : (List.range 9).map (fun i : Nat => refAtI 16 i) = row16 := by decide +kernel
def rows : List (List Int) := [row1, row2, row3, row4, row5, row6, row7, row8, row9, row10, row11, row12, row13, row14, row15, row16]
def tab (n i : Nat) : Int := ((rows.getD n []).getD i 0)
theorem row_at {r : List Int} {f : Nat → Int} (h : (List.range 9).map f = r) (i : Nat) (hi : i < 9) : f i = r.getD i 0 := by
  rw [← h]
  simp [hi]
theorem at_tab (n i : Nat) (h1 : 1 ≤ n) (h2 : n ≤ 16) (hi : i < 9) : atI n i = tab (n - 1) i ∧ refAtI n i = tab (n - 1) i := by
  have hn : n = 1 ∨ n = 2 ∨ n = 3 ∨ n = 4 ∨ n = 5 ∨ n = 6 ∨ n = 7 ∨ n = 8 ∨ n = 9 ∨ n = 10 ∨ n = 11 ∨ n = 12 ∨ n = 13 ∨ n = 14 ∨ n = 15 ∨ n = 16 := by omega
  rcases hn with rfl | rfl | rfl | rfl | rfl | rfl | rfl | rfl | rfl | rfl | rfl | rfl | rfl | rfl | rfl | rfl
  · exact ⟨row_at row1_eq i hi, row_at ref1_eq i hi⟩
  · exact ⟨row_at row2_eq i hi, row_at ref2_eq i hi⟩
  · exact ⟨row_at row3_eq i hi, row_at ref3_eq i hi⟩
  · exact ⟨row_at row4_eq i hi, row_at ref4_eq i hi⟩
  · exact ⟨row_at row5_eq i hi, row_at ref5_eq i hi⟩
  · exact ⟨row_at row6_eq i hi, row_at ref6_eq i hi⟩
  · exact ⟨row_at row7_eq i hi, row_at ref7_eq i hi⟩
  · exact ⟨row_at row8_eq i hi, row_at ref8_eq i hi⟩
  · exact ⟨row_at row9_eq i hi, row_at ref9_eq i hi⟩
  · exact ⟨row_at row10_eq i hi, row_at ref10_eq i hi⟩
  · exact ⟨row_at row11_eq i hi, row_at ref11_eq i hi⟩
  · exact ⟨row_at row12_eq i hi, row_at ref12_eq i hi⟩
  · exact ⟨row_at row13_eq i hi, row_at ref13_eq i hi⟩
  · exact ⟨row_at row14_eq i hi, row_at ref14_eq i hi⟩
  · exact ⟨row_at row15_eq i hi, row_at ref15_eq i hi⟩
  · exact ⟨row_at row16_eq i hi, row_at ref16_eq i hi⟩
theorem tab_all : ((List.range 16).all fun n => (List.range 9).all fun i => (List.range 16).all fun m => (List.range 9).all fun j => tab n i != tab m j || (n == m && i == j)) = true := by decide +kernel
theorem tab_inj (n : Nat) (hn : n < 16) (i : Nat) (hi : i < 9) (m : Nat) (hm : m < 16) (j : Nat) (hj : j < 9) (h : tab n i = tab m j) : n = m ∧ i = j := by
  have h1 := List.all_eq_true.1 (List.all_eq_true.1 (List.all_eq_true.1 (List.all_eq_true.1 tab_all n (List.mem_range.2 hn)) i (List.mem_range.2 hi)) m (List.mem_range.2 hm)) j (List.mem_range.2 hj)
  simpa [h] using h1
theorem at_inj (n m : Int) (n1 : 1 ≤ n) (n2 : n ≤ 16) (m1 : 1 ≤ m) (m2 : m ≤ 16) (i j : Nat) (hi : i < 9) (hj : j < 9) (h : atI n i = atI m j) : n = m ∧ i = j := by
  obtain ⟨n', rfl⟩ := Int.eq_ofNat_of_zero_le (show 0 ≤ n by omega)
  obtain ⟨m', rfl⟩ := Int.eq_ofNat_of_zero_le (show 0 ≤ m by omega)
  rw [(at_tab n' i (by omega) (by omega) hi).1, (at_tab m' j (by omega) (by omega) hj).1] at h
  have := tab_inj (n' - 1) (by omega) i hi (m' - 1) (by omega) j hj h
  exact ⟨by omega, this.2⟩
theorem at_ref (n : Int) (n1 : 1 ≤ n) (n2 : n ≤ 16) (i : Nat) (hi : i < 9) : refAtI n i = atI n i := by
  obtain ⟨n', rfl⟩ := Int.eq_ofNat_of_zero_le (show 0 ≤ n by omega)
  have := at_tab n' i (by omega) (by omega) hi
  rw [this.1, this.2]
end Go.Proofs.YtndgjhhhggkdmaaDoor
namespace Go.Proofs.YtndgjhhhggkdmaaDoor
set_option linter.unusedVariables false
open Go.RowKit Go.Proofs.YtndgjhhhggkdmaaDoorW.PrintWords

structure Good (each : Nat) (L : List Pt) : Prop where
  strict : L.Pairwise (fun x y => x.at_ < y.at_)
  ok : NodesOk L
  mem : ∀ y ∈ L, ∃ i : Nat, i < each ∧ y.at_ = atI y.node i
  all : ∀ y ∈ L, ∀ i : Nat, i < each → (⟨atI y.node i, y.node⟩ : Pt) ∈ L
theorem Good.nil (each : Nat) : Good each [] := ⟨.nil, fun y hy => by simp at hy, fun y hy => by simp at hy, fun y hy => by simp at hy⟩
theorem Good.rising {each : Nat} {L : List Pt} (h : Good each L) : Rising L := h.strict.imp (fun e => by omega)
theorem put_strict {L : List Pt} (h : L.Pairwise (fun x y => x.at_ < y.at_)) (x : Pt) (hx : ∀ y ∈ L, y.at_ ≠ x.at_) : (put L x).Pairwise (fun x y => x.at_ < y.at_) := by
  have hR : Rising L := h.imp (fun e => by omega)
  unfold put ins
  rw [List.pairwise_append]
  refine ⟨h.sublist (List.take_sublist _ _), List.pairwise_cons.2 ⟨fun y hy => ?_, h.sublist (List.drop_sublist _ _)⟩, fun y hy z hz => ?_⟩
  · have h1 := mem_drop_ge hR _ hy
    have h2 := hx y (List.mem_of_mem_drop hy)
    omega
  · have h1 := mem_take_lt hR _ hy
    rcases List.mem_cons.1 hz with rfl | hz
    · omega
    · have := mem_drop_ge hR _ hz
      omega
theorem Good.add {each : Nat} {L : List Pt} (h : Good each L) (he : each ≤ 9) {nd : Int} (n1 : 1 ≤ nd) (n2 : nd ≤ 16) (hq : hasN L nd = false) : Good each (addTo L nd each) := by
  have hnn : ∀ y ∈ L, y.node ≠ nd := fun y hy e => by
    have := has_iff.2 ⟨y, hy, e⟩
    rw [hq] at this
    cases this
  have hs : ∀ i, i ≤ each → (addTo L nd i).Pairwise (fun x y => x.at_ < y.at_) := by
    intro i
    induction i with
    | zero => exact fun _ => h.strict
    | succ i ih =>
      intro hi
      refine put_strict (ih (by omega)) _ fun y hy e => ?_
      have e' : y.at_ = atI nd i := e
      rcases mem_addTo.1 hy with hy | ⟨j, hj, rfl⟩
      · obtain ⟨j, hj, e2⟩ := h.mem y hy
        have hn := h.ok y hy
        rw [e2] at e'
        exact hnn y hy (at_inj _ _ hn.1 hn.2 n1 n2 j i (by omega) (by omega) e').1
      · have := (at_inj _ _ n1 n2 n1 n2 j i (by omega) (by omega) e').2
        omega
  refine ⟨hs each (Nat.le_refl _), addTo_ok h.ok n1 n2 each, fun y hy => ?_, fun y hy i hi => ?_⟩
  · rcases mem_addTo.1 hy with hy | ⟨j, hj, rfl⟩
    · exact h.mem y hy
    · exact ⟨j, hj, rfl⟩
  · rcases mem_addTo.1 hy with hy | ⟨j, hj, rfl⟩
    · exact mem_addTo.2 (.inl (h.all y hy i hi))
    · exact mem_addTo.2 (.inr ⟨i, hi, rfl⟩)
theorem Good.addR {each : Nat} {L : List Pt} (h : Good each L) (he : each ≤ 9) (nd : Int) : Good each (addR each L nd) := by
  unfold Go.Proofs.YtndgjhhhggkdmaaDoor.addR
  split
  · rename_i hh
    exact h.add he hh.1 hh.2.1 hh.2.2
  · exact h
theorem Good.drop {each : Nat} {L : List Pt} (h : Good each L) (nd : Int) : Good each (dropN L nd) := by
  refine ⟨h.strict.sublist List.filter_sublist, dropN_ok h.ok nd, fun y hy => h.mem y (List.mem_filter.1 hy).1, fun y hy i hi => ?_⟩
  obtain ⟨h1, h2⟩ := List.mem_filter.1 hy
  exact List.mem_filter.2 ⟨h.all y h1 i hi, h2⟩

/-- How far it is from a hash to a place, going up, round about. -/
def far (h a : Int) : Int := IntKind.u64.wrap (a - h)
theorem far_eq (h a : Int) : far h a = (a - h) % 18446744073709551616 := IntKind.wrap_u64 _
theorem at_bd (n i : Int) : 0 ≤ atI n i ∧ atI n i < 18446744073709551616 := by unfold atI; exact mixI_bd _
theorem Good.bd {each : Nat} {L : List Pt} (h : Good each L) {j : Nat} (hj : j < L.length) : 0 ≤ (pget L j).at_ ∧ (pget L j).at_ < 18446744073709551616 := by
  rw [pget_eq hj]
  obtain ⟨i, _, e⟩ := h.mem _ (List.getElem_mem hj)
  rw [e]
  exact at_bd _ _
/-- The point that is met at step j. -/
def met (L : List Pt) (h : Int) (j : Nat) : Pt := pget L ((nextN L h + j) % L.length)
theorem met_far {each : Nat} {L : List Pt} (hg : Good each L) {h : Int} (h0 : 0 ≤ h) (h1 : h < 18446744073709551616) {j k : Nat} (hjk : j < k) (hk : k < L.length) : far h (met L h j).at_ < far h (met L h k).at_ := by
  have hN := nextN_le L h
  have hT := nextN_take L h hg.rising
  have hst : ∀ a b, a < b → b < L.length → (pget L a).at_ < (pget L b).at_ := fun a b hab hb => by
    rw [pget_eq hb, pget_eq (by omega)]
    exact List.pairwise_iff_getElem.1 hg.strict a b (by omega) hb hab
  have idx : ∀ j, j < L.length → (nextN L h + j < L.length ∧ (nextN L h + j) % L.length = nextN L h + j) ∨ (L.length ≤ nextN L h + j ∧ (nextN L h + j) % L.length = nextN L h + j - L.length) := fun j hj => by
    rcases Nat.lt_or_ge (nextN L h + j) L.length with h2 | h2
    · exact .inl ⟨h2, Nat.mod_eq_of_lt h2⟩
    · refine .inr ⟨h2, ?_⟩
      rw [Nat.mod_eq_sub_mod h2, Nat.mod_eq_of_lt (by omega)]
  unfold met
  rw [far_eq, far_eq]
  rcases idx j (by omega) with ⟨j1, j2⟩ | ⟨j1, j2⟩ <;> rcases idx k hk with ⟨k1, k2⟩ | ⟨k1, k2⟩ <;> rw [j2, k2]
  · have b1 := hg.bd j1
    have b2 := hg.bd k1
    have s := hst _ _ (show nextN L h + j < nextN L h + k by omega) k1
    have t1 := mt (hT _ j1).1 (by omega)
    omega
  · have b1 := hg.bd j1
    have b2 := hg.bd (show nextN L h + k - L.length < L.length by omega)
    have t1 := mt (hT _ j1).1 (by omega)
    have t2 := (hT _ (show nextN L h + k - L.length < L.length by omega)).2 (by omega)
    have s := hst _ _ (show nextN L h + k - L.length < nextN L h + j by omega) j1
    omega
  · omega
  · have b1 := hg.bd (show nextN L h + j - L.length < L.length by omega)
    have b2 := hg.bd (show nextN L h + k - L.length < L.length by omega)
    have t1 := (hT _ (show nextN L h + j - L.length < L.length by omega)).2 (by omega)
    have t2 := (hT _ (show nextN L h + k - L.length < L.length by omega)).2 (by omega)
    have s := hst _ _ (show nextN L h + j - L.length < nextN L h + k - L.length by omega) (by omega)
    omega

/-- How far it is to a node's next point. -/
def wayTo (h n : Int) : Nat → Int
  | 0 => far h (refAtI n 0)
  | i + 1 => if far h (refAtI n i) < wayTo h n i then far h (refAtI n i) else wayTo h n i
theorem wayTo_le (h n : Int) : ∀ (i j : Nat), j < i → wayTo h n i ≤ far h (refAtI n j)
  | i + 1, j, hj => by
    rw [wayTo]
    by_cases e : j = i
    · subst e
      split <;> omega
    · have := wayTo_le h n i j (by omega)
      split <;> omega
theorem wayTo_hit (h n : Int) : ∀ i : Nat, 0 < i → ∃ j : Nat, j < i ∧ wayTo h n i = far h (refAtI n j)
  | 1, _ => ⟨0, by omega, by rw [wayTo, wayTo]; simp⟩
  | i + 2, _ => by
    rw [wayTo]
    by_cases hc : far h (refAtI n (i + 1 : Nat)) < wayTo h n (i + 1)
    · exact ⟨i + 1, by omega, by rw [if_pos hc]⟩
    · obtain ⟨j, hj, e⟩ := wayTo_hit h n (i + 1) (by omega)
      exact ⟨j, by omega, by rw [if_neg hc, e]⟩
theorem way_le {each : Nat} {L : List Pt} (hg : Good each L) (he : each ≤ 9) {h : Int} {j : Nat} (hj : j < L.length) : wayTo h (met L h j).node each ≤ far h (met L h j).at_ := by
  have hm : (nextN L h + j) % L.length < L.length := Nat.mod_lt _ (by omega)
  have hy : met L h j ∈ L := by unfold met; rw [pget_eq hm]; exact List.getElem_mem hm
  obtain ⟨i, hi, e⟩ := hg.mem _ hy
  have hn := hg.ok _ hy
  have := wayTo_le h (met L h j).node each i hi
  rw [at_ref _ hn.1 hn.2 i (by omega), ← e] at this
  exact this
theorem way_hit {each : Nat} {L : List Pt} (hg : Good each L) (h0 : 0 < each) (he : each ≤ 9) {h n : Int} (hn : hasN L n = true) : ∃ j, j < L.length ∧ (met L h j).node = n ∧ wayTo h n each = far h (met L h j).at_ := by
  obtain ⟨y, hy, rfl⟩ := has_iff.1 hn
  obtain ⟨i, hi, e⟩ := wayTo_hit h y.node each h0
  have hok := hg.ok y hy
  obtain ⟨m, hm, em⟩ := List.getElem_of_mem (hg.all y hy i hi)
  have hr : nextN L h % L.length < L.length := Nat.mod_lt _ (by omega)
  refine ⟨(m + L.length - nextN L h % L.length) % L.length, Nat.mod_lt _ (by omega), ?_⟩
  have hmm : (nextN L h + (m + L.length - nextN L h % L.length) % L.length) % L.length = m := by
    rw [Nat.add_mod, Nat.mod_mod, ← Nat.add_mod, show nextN L h + (m + L.length - nextN L h % L.length) = m + L.length * (nextN L h / L.length + 1) by
      have := Nat.div_add_mod (nextN L h) L.length
      rw [Nat.mul_add]
      omega, Nat.add_mul_mod_self_left, Nat.mod_eq_of_lt hm]
  unfold met
  rw [hmm, pget_eq hm, em]
  exact ⟨rfl, by rw [e, at_ref _ hok.1 hok.2 i (by omega)]⟩
/-- The nodes that are met are the nearer ones first. -/
theorem ded_way {each : Nat} {L : List Pt} (hg : Good each L) (h0 : 0 < each) (he : each ≤ 9) {h : Int} (hb0 : 0 ≤ h) (hb1 : h < 18446744073709551616) : ∀ i, i ≤ L.length → (ded L (nextN L h) i).Pairwise (fun a b => wayTo h a each < wayTo h b each)
  | 0, _ => .nil
  | i + 1, hi => by
    have ih := ded_way hg h0 he hb0 hb1 i (by omega)
    rw [ded]
    split
    · exact ih
    · rename_i hnot
      have hnot' : (met L h i).node ∉ ded L (nextN L h) i := hnot
      rw [List.pairwise_append]
      refine ⟨ih, List.pairwise_singleton _ _, fun a ha b hb => ?_⟩
      rw [List.mem_singleton.1 hb]
      show wayTo h a each < wayTo h (met L h i).node each
      obtain ⟨j, hj, e⟩ := (mem_ded L _ a i).1 ha
      have e' : (met L h j).node = a := e
      have hm : (nextN L h + i) % L.length < L.length := Nat.mod_lt _ (by omega)
      have hy : met L h i ∈ L := by unfold met; rw [pget_eq hm]; exact List.getElem_mem hm
      obtain ⟨k, hk, ek, ew⟩ := way_hit (h := h) hg h0 he (has_iff.2 ⟨_, hy, rfl⟩)
      have hki : i ≤ k := by
        rcases Nat.lt_or_ge k i with hlt | hge
        · exact absurd ((mem_ded L _ _ i).2 ⟨k, hlt, ek⟩) hnot'
        · exact hge
      rw [ew]
      have h1 := way_le hg he (h := h) (show j < L.length by omega)
      rw [e'] at h1
      have h2 := met_far hg hb0 hb1 (show j < k by omega) hk
      omega
end Go.Proofs.YtndgjhhhggkdmaaDoor
namespace Go.Proofs.YtndgjhhhggkdmaaDoor
set_option linter.unusedVariables false
open Go.RowKit Go.Proofs.YtndgjhhhggkdmaaDoorW.PrintWords

/-- The nearest of some nodes that is not among others, as the document looks for it. -/
def pickTo (D : Int → Int) (out L : List Int) : Nat → Int
  | 0 => 0
  | i + 1 => if iget L i ∈ out then pickTo D out L i else if pickTo D out L i = 0 then iget L i else if D (iget L i) < D (pickTo D out L i) then iget L i else pickTo D out L i
def sel (D : Int → Int) (L : List Int) : Nat → List Int
  | 0 => []
  | i + 1 => sel D L i ++ [pickTo D (sel D L i) L L.length]
theorem sel_len (D : Int → Int) (L : List Int) : ∀ i, (sel D L i).length = i
  | 0 => rfl
  | i + 1 => by rw [sel, List.length_append, sel_len D L i]; rfl
/-- What pickTo finds: the one of them that is nearer than all others. -/
theorem pick_min {D : Int → Int} {out L : List Int} {b : Int} (hb : b ∈ L) (hbo : b ∉ out) (h0 : ∀ n ∈ L, n ≠ 0) (hmin : ∀ n ∈ L, n ∉ out → n ≠ b → D b < D n) : ∀ i, i ≤ L.length → (b ∈ L.take i → pickTo D out L i = b) ∧ (b ∉ L.take i → pickTo D out L i = 0 ∨ (pickTo D out L i ∈ L ∧ pickTo D out L i ∉ out ∧ pickTo D out L i ≠ b))
  | 0, _ => ⟨fun h => by simp at h, fun _ => .inl rfl⟩
  | i + 1, hi => by
    obtain ⟨i1, i2⟩ := pick_min hb hbo h0 hmin i (by omega)
    have hlt : i < L.length := by omega
    have hm : iget L i ∈ L := by rw [iget_eq hlt]; exact List.getElem_mem hlt
    rw [take_i hlt, pickTo]
    refine ⟨fun h => ?_, fun h => ?_⟩
    · by_cases hin : b ∈ L.take i
      · have hp := i1 hin
        rw [hp]
        by_cases h1 : iget L i ∈ out
        · rw [if_pos h1]
        · rw [if_neg h1, if_neg (h0 b hb)]
          by_cases h2 : iget L i = b
          · rw [h2]; split <;> rfl
          · have := hmin _ hm h1 h2
            rw [if_neg (by omega)]
      · have he : b = iget L i := by
          rcases List.mem_append.1 h with h | h
          · exact absurd h hin
          · exact List.mem_singleton.1 h
        rw [← he, if_neg hbo]
        rcases i2 hin with h1 | ⟨h1, h2, h3⟩
        · rw [if_pos h1]
        · rw [if_neg (h0 _ h1), if_pos (hmin _ h1 h2 h3)]
    · have hnin : b ∉ L.take i := fun e => h (List.mem_append.2 (.inl e))
      have hne : iget L i ≠ b := fun e => h (List.mem_append.2 (.inr (by rw [e]; exact List.mem_singleton.2 rfl)))
      have ih := i2 hnin
      by_cases h1 : iget L i ∈ out
      · rw [if_pos h1]; exact ih
      · rw [if_neg h1]
        by_cases h2 : pickTo D out L i = 0
        · rw [if_pos h2]; exact .inr ⟨hm, h1, hne⟩
        · rw [if_neg h2]
          split
          · exact .inr ⟨hm, h1, hne⟩
          · exact ih
/-- The document's way of looking for the nearest ones gives any list of these nodes that is in that order. -/
theorem sel_eq {D : Int → Int} {L T : List Int} (hT : T.Pairwise (fun a b => D a < D b)) (hmem : ∀ x, x ∈ T ↔ x ∈ L) (h0 : ∀ n ∈ L, n ≠ 0) (hnd : T.Nodup) : ∀ i, i ≤ T.length → sel D L i = T.take i
  | 0, _ => rfl
  | i + 1, hi => by
    have ih := sel_eq hT hmem h0 hnd i (by omega)
    have hlt : i < T.length := by omega
    rw [sel, ih, List.take_succ_eq_append_getElem hlt]
    congr 2
    have hb : T[i] ∈ L := (hmem _).1 (List.getElem_mem hlt)
    have hbo : T[i] ∉ T.take i := by
      intro h
      obtain ⟨j, hj, e⟩ := List.getElem_of_mem h
      have hj2 : j < i := by simp at hj; omega
      have := List.pairwise_iff_getElem.1 hnd j i (by omega) hlt hj2
      simp at e
      exact this e
    refine ((pick_min hb hbo h0 (fun n hn hno hne => ?_) L.length (Nat.le_refl _)).1 (by rw [List.take_length]; exact hb))
    obtain ⟨j, hj, rfl⟩ := List.getElem_of_mem ((hmem n).2 hn)
    rcases Nat.lt_or_ge j i with h1 | h1
    · exact absurd (List.mem_take_iff_getElem.2 ⟨j, by omega, rfl⟩) hno
    · have h2 : i < j := by
        rcases Nat.lt_or_eq_of_le h1 with h2 | h2
        · exact h2
        · exact absurd (by simp [h2]) hne
      exact List.pairwise_iff_getElem.1 hT i j hlt hj h2
def refOwners (each : Nat) (L : List Int) (h most : Int) : List Int := sel (fun n => wayTo h n each) L (min most.toNat L.length)
theorem owners_ref {each : Nat} {P : List Pt} (hg : Good each P) (h0 : 0 < each) (he : each ≤ 9) {h : Int} (hb0 : 0 ≤ h) (hb1 : h < 18446744073709551616) (most : Int) : ownersN P h most = refOwners each (nodesN P 17) h most := by
  have hl := ded_len hg.ok (nextN P h)
  rw [owners_take, refOwners, ← hl, sel_eq (ded_way hg h0 he hb0 hb1 P.length (Nat.le_refl _)) (fun x => by rw [mem_ded_all, mem_nodes hg.ok]) (fun n hn => ?_) (ded_nodup _ _ _) _ (Nat.min_le_right _ _), List.take_eq_take_iff]
  · omega
  · obtain ⟨y, hy, rfl⟩ := has_iff.1 ((mem_nodes hg.ok n).1 hn)
    have := (hg.ok y hy).1
    omega

/-! the printed functions -/
theorem refhas_ge (l : List Int) (a : Int) (hl : l.length < 9223372036854775807) (k : Nat) (hk : l.length < k) : PR.butteryref02_Has.f k l a = some (decide (a ∈ l)) := by
  unfold PR.butteryref02_Has.f
  have := has_f l a hl l.length k 0 (by omega) (by omega)
  simpa using this
theorem way_run (h n : Int) (each : Nat) (he : each ≤ 64) (L : List Int) : ∀ m k i, i + m = each → m < k → PR.butteryref22_way.l0 k h n (wayTo h n i) i each L = some (wayTo h n each)
  | 0, k + 1, i, h1, h2 => by
    rw [PR.butteryref22_way.l0, if_neg (by omega), show i = each by omega]
  | m + 1, k + 1, i, h1, h2 => by
    have hw : wrap64 ((i : Int) + 1) = ((i + 1 : Nat) : Int) := by unfold wrap64; omega
    have ih := way_run h n each he L m k (i + 1) (by omega) (by omega)
    rw [PR.butteryref22_way.l0, if_pos (by omega), refat_f, Option.bind_some, Option.bind_some, hw]
    rw [wayTo] at ih
    by_cases hc : far h (refAtI n i) < wayTo h n i
    · rw [if_pos hc] at ih
      have hc' : IntKind.u64.wrap (refAtI n i - h) < wayTo h n i := hc
      rw [if_pos hc']
      exact ih
    · rw [if_neg hc] at ih
      have hc' : ¬ IntKind.u64.wrap (refAtI n i - h) < wayTo h n i := hc
      rw [if_neg hc']
      exact ih
theorem way_f (h n : Int) (each : Nat) (he : each ≤ 64) (L : List Int) (k : Nat) (hk : each < k) : PR.butteryref22_way.f k each L h n = some (wayTo h n each) := by
  unfold PR.butteryref22_way.f
  rw [show (0 : Int) = ((0 : Nat) : Int) from rfl, refat_f, Option.bind_some]
  exact way_run h n each he L each k 0 (by omega) hk
theorem pick_run (most h : Int) (each : Nat) (he : each ≤ 64) (L out : List Int) (hL : L.length ≤ 100) (ho : out.length ≤ 100) (R : List Int) (hnext : ∃ K, ∀ k, K ≤ k → PR.butteryref22_Owners.l0 k most h (out ++ [pickTo (fun n => wayTo h n each) out L L.length]) each L = some R) :
    ∀ m i, i + m = L.length → ∃ K, ∀ k, K ≤ k → PR.butteryref22_Owners.l1 k most h out (pickTo (fun n => wayTo h n each) out L i) i each L = some R
  | 0, i, h1 => by
    obtain ⟨K, hK⟩ := hnext
    refine ⟨K + 1, fun k hk => ?_⟩
    obtain ⟨k, rfl⟩ : ∃ k', k = k' + 1 := ⟨k - 1, by omega⟩
    have e : i = L.length := by omega
    rw [PR.butteryref22_Owners.l1, if_neg (by omega), if_pos (by omega), e]
    exact hK k (by omega)
  | m + 1, i, h1 => by
    obtain ⟨K, hK⟩ := pick_run most h each he L out hL ho R hnext m (i + 1) (by omega)
    refine ⟨K + 300, fun k hk => ?_⟩
    obtain ⟨k, rfl⟩ : ∃ k', k = k' + 1 := ⟨k - 1, by omega⟩
    have hi : i < L.length := by omega
    have hr : rd L (i : Int) = iget L i := by simp [rd, iget]
    have hw : wrap64 ((i : Int) + 1) = ((i + 1 : Nat) : Int) := by unfold wrap64; omega
    have ih := hK k (by omega)
    rw [pickTo] at ih
    rw [PR.butteryref22_Owners.l1, if_pos (by omega), if_pos (by omega), hr, refhas_ge out _ (by omega) k (by omega), Option.bind_some, hw]
    by_cases h2 : iget L i ∈ out
    · rw [if_pos h2] at ih
      rw [if_pos (decide_eq_true h2)]
      exact ih
    · rw [if_neg h2] at ih
      rw [if_neg (by simp [h2])]
      by_cases h3 : pickTo (fun n => wayTo h n each) out L i = 0
      · rw [if_pos h3] at ih
        rw [if_pos h3]
        exact ih
      · rw [if_neg h3] at ih
        rw [if_neg h3, way_f h _ each he L k (by omega), Option.bind_some, way_f h _ each he L k (by omega), Option.bind_some]
        by_cases h4 : wayTo h (iget L i) each < wayTo h (pickTo (fun n => wayTo h n each) out L i) each
        · rw [if_pos h4] at ih
          rw [if_pos h4]
          exact ih
        · rw [if_neg h4] at ih
          rw [if_neg h4]
          exact ih
theorem sel_run (most h : Int) (each : Nat) (he : each ≤ 64) (L : List Int) (hL : L.length ≤ 100) : ∀ m i, i + m = min most.toNat L.length →
    ∃ K, ∀ k, K ≤ k → PR.butteryref22_Owners.l0 k most h (sel (fun n => wayTo h n each) L i) each L = some (refOwners each L h most)
  | 0, i, h1 => by
    refine ⟨3, fun k hk => ?_⟩
    obtain ⟨k, rfl⟩ : ∃ k', k = k' + 2 := ⟨k - 2, by omega⟩
    have hl := sel_len (fun n => wayTo h n each) L i
    have e : sel (fun n => wayTo h n each) L i = refOwners each L h most := by unfold refOwners; rw [← h1]; rfl
    rw [PR.butteryref22_Owners.l0]
    by_cases hc : ((sel (fun n => wayTo h n each) L i).length : Int) < most
    · rw [if_pos hc, PR.butteryref22_Owners.j1, if_neg (by simp; omega), e]
    · rw [if_neg hc, PR.butteryref22_Owners.j1, if_neg (by simp), e]
  | m + 1, i, h1 => by
    have ih := sel_run most h each he L hL m (i + 1) (by omega)
    have hl := sel_len (fun n => wayTo h n each) L i
    obtain ⟨K, hK⟩ := pick_run most h each he L (sel (fun n => wayTo h n each) L i) hL (by omega) _ ih L.length 0 (by omega)
    refine ⟨K + 2, fun k hk => ?_⟩
    obtain ⟨k, rfl⟩ : ∃ k', k = k' + 2 := ⟨k - 2, by omega⟩
    rw [PR.butteryref22_Owners.l0, if_pos (by omega), PR.butteryref22_Owners.j1, if_pos (decide_eq_true (by omega))]
    exact hK k (by omega)
end Go.Proofs.YtndgjhhhggkdmaaDoor
namespace Go.Proofs.YtndgjhhhggkdmaaDoor
set_option linter.unusedVariables false
open Go.RowKit Go.Proofs.YtndgjhhhggkdmaaDoorW.PrintWords

theorem hashF_bd (l : List UInt8) : 0 ≤ hashF l 14695981039346656037 ∧ hashF l 14695981039346656037 < 18446744073709551616 := by
  rcases List.eq_nil_or_concat l with rfl | ⟨r, c, rfl⟩
  · exact ⟨by decide, by decide⟩
  · rw [List.concat_eq_append, hashF_snoc]
    exact wrapu_bd _
theorem refhash_run (s : ByteArray) (hs : s.size ≤ 9223372036854775807) : ∀ m k i, i + m = s.size → m < k → PR.butteryref07_Hash.l0 k s (hashF (s.data.toList.take i) 14695981039346656037) i = some (hashI s)
  | 0, k + 1, i, h1, h2 => by
    have b := hashF_bd s.data.toList
    rw [PR.butteryref07_Hash.l0, if_neg (by omega), List.take_of_length_le (by simp; omega), refmix_f _ b.1 b.2, Option.bind_some]
    rfl
  | m + 1, k + 1, i, h1, h2 => by
    have hi : i < s.size := by omega
    have hw : wrap64 ((i : Int) + 1) = ((i + 1 : Nat) : Int) := by unfold wrap64; omega
    have ih := refhash_run s hs m k (i + 1) (by omega) (by omega)
    rw [take_snoc s i hi, hashF_snoc] at ih
    have hbt : IntKind.u64.wrap (bt s (i : Int)) = IntKind.u64.wrap (s[i].toNat : Int) := by simp [bt, hi]
    rw [PR.butteryref07_Hash.l0, if_pos (by omega), if_pos (by omega), hw, hbt]
    exact ih
theorem refhash_f (s : ByteArray) (hs : s.size ≤ 9223372036854775807) (k : Nat) (hk : s.size < k) : PR.butteryref07_Hash.f k s = some (hashI s) := by
  unfold PR.butteryref07_Hash.f
  have := refhash_run s hs s.size k 0 (by omega) hk
  exact this
theorem refowners_f (each : Nat) (he : each ≤ 64) (L : List Int) (hL : L.length ≤ 100) (s : ByteArray) (hs : s.size ≤ 9223372036854775807) (most : Int) : ∃ K, ∀ k, K ≤ k → PR.butteryref22_Owners.f k each L s most = some (refOwners each L (hashI s) most) := by
  obtain ⟨K, hK⟩ := sel_run most (hashI s) each he L hL (min most.toNat L.length) 0 (by omega)
  refine ⟨K + s.size + 1, fun k hk => ?_⟩
  unfold PR.butteryref22_Owners.f
  rw [refhash_f s hs k (by omega), Option.bind_some]
  exact hK k (by omega)
theorem refowners_any (each : Nat) (he : each ≤ 64) (A : Option Addr) (c : Nat) (L : List Int) (hL : L.length ≤ 100) (s : ByteArray) (hs : s.size ≤ maxLen) (most : Int) (w : World) (hC : (Kd.int .i64).C w A L.length L) (hc : L.length ≤ c) :
    Calls Tryd.prog 32 #[.agg #[.int .i64 each, .slice A L.length c], .string s, .int .i64 most] w fun e w' => ∃ v, e = .returned v ∧ (Kd.int .i64).R 3 w' w.heap.size (fun _ => True) v (refOwners each L (hashI s) most) ∧ Below w.heap.size w w' := by
  unfold maxLen at hs
  obtain ⟨K, hK⟩ := refowners_f each he L hL s (by omega) most
  exact PR.butteryref22_Owners.calls K each A c L s most _ w hC hc (hK K (Nat.le_refl _))
theorem refowner_any (each : Nat) (he : each ≤ 64) (A : Option Addr) (c : Nat) (L : List Int) (hL : L.length ≤ 100) (s : ByteArray) (hs : s.size ≤ maxLen) (w : World) (hC : (Kd.int .i64).C w A L.length L) (hc : L.length ≤ c) :
    Calls Tryd.prog 19 #[.agg #[.int .i64 each, .slice A L.length c], .string s] w fun e w' => e = .returned (.int .i64 ((refOwners each L (hashI s) 1).headD 0)) ∧ Below w.heap.size w w' := by
  unfold maxLen at hs
  obtain ⟨K, hK⟩ := refowners_f each he L hL s (by omega) 1
  refine PR.butteryref22_Owner.calls K each A c L s _ w hC hc ?_
  unfold PR.butteryref22_Owner.f
  rw [hK K (Nat.le_refl _), Option.bind_some]
  cases h : refOwners each L (hashI s) 1 with
  | nil => simp
  | cons x r =>
    rw [if_neg (by first | (simp; done) | (simp; omega)), if_pos (by first | (simp; done) | (simp; omega))]
    simp [rd]

/-- The document's nodes, another one among them. -/
def refAdd (L : List Int) (nd : Int) : Nat → List Int
  | 0 => []
  | i + 1 => if (i : Int) + 1 = nd ∨ (i : Int) + 1 ∈ L then refAdd L nd i ++ [(i : Int) + 1] else refAdd L nd i
theorem refAdd_len (L : List Int) (nd : Int) : ∀ i, (refAdd L nd i).length ≤ i
  | 0 => by simp [refAdd]
  | i + 1 => by
    have := refAdd_len L nd i
    rw [refAdd]
    split
    · simp; omega
    · omega
def addL (L : List Int) (nd : Int) : List Int := if nd < 1 ∨ 16 < nd then L else if nd ∈ L then L else refAdd L nd 16
def addLC (L : List Int) (nd : Int) : Int := if nd < 1 ∨ 16 < nd then 2 else if nd ∈ L then 13 else 0

/-- What lies while the document's Add goes on. -/
structure AddRel (w wr : World) (each : Int) (lv ov : Value) (out : List Int) : Prop where
  b2 : wr.heap[w.heap.size]? = some (.cells #[.int .i64 each, lv] 32 (0, 0))
  b4 : wr.heap[w.heap.size + 1]? = some (.cells #[.int .i64 0, .slice none 0 0] 32 (0, 0))
  b6 : wr.heap[w.heap.size + 2]? = some (.cells #[.int .i64 each, ov] 32 (0, 0))
  row : (Kd.int .i64).R 3 wr w.heap.size (fun _ => True) ov out
  bel : Below w.heap.size w wr
theorem AddRel.drewN {w wr : World} {each : Int} {lv ov : Value} {out : List Int} (h : AddRel w wr each lv ov out) (n : Nat) : AddRel w (wr.drewN n) each lv ov out :=
  ⟨h.b2, h.b4, h.b6, Kd.R_drewN h.row n, h.bel.trans ((Drawn0.below ⟨n, rfl⟩).mono h.bel.size)⟩
theorem AddRel.push {w wr w1 : World} {each : Int} {lv ov v1 : Value} {out out1 : List Int} (h : AddRel w wr each lv ov out) (hr : (Kd.int .i64).R 3 w1 w.heap.size (fun _ => True) v1 out1) (hb : Below w.heap.size w w1) (hg : wr.grownBy w1 ov.ownBlock) : AddRel w (w1.setCell ⟨w.heap.size + 2, 1, none⟩ v1) each lv v1 out1 := by
  obtain ⟨inner, ho⟩ := Kd.R_own h.row
  have hne : ∀ (k : Nat) (cs : Array Value), wr.heap[k]? = some (.cells cs 32 (0, 0)) → w1.heap[k]? = some (.cells cs 32 (0, 0)) := fun k cs hk => by
    refine (hg.block k (Array.getElem?_eq_some_iff.1 hk).1 fun e => ?_).trans hk
    obtain ⟨cells, hcl⟩ := own_typed ho k e.symm
    rw [hk] at hcl
    simp at hcl
  have e2 := hne _ _ h.b2
  have e4 := hne _ _ h.b4
  have e6 := hne _ _ h.b6
  obtain ⟨inner1, ho1⟩ := Kd.R_own hr
  refine ⟨?_, ?_, ?_, ?_, hb.setCell (by show w.heap.size ≤ w.heap.size + 2; omega) _⟩
  · rw [Below.heap_setCell _ _ _ _ (by show w.heap.size ≠ w.heap.size + 2; omega)]; exact e2
  · rw [Below.heap_setCell _ _ _ _ (by show w.heap.size + 1 ≠ w.heap.size + 2; omega)]; exact e4
  · rw [setCell_eq_setRow w1 _ 1 _ _ _ _ e6]
    exact setRow_heap w1 _ _ _ _ _ e6
  · exact Kd.R_set hr e6 (fun q hq => by
      have : q = 3 := by simpa [Kd.int, Kd.scalar] using hq
      rw [this]; decide) 1 v1
end Go.Proofs.YtndgjhhhggkdmaaDoor
namespace Go.Proofs.YtndgjhhhggkdmaaDoor
set_option linter.unusedVariables false
open Go.RowKit Go.Proofs.YtndgjhhhggkdmaaDoorW.PrintWords

theorem bel2 (w : World) (o1 o2 : Obj) : Below w.heap.size w ((w.alloc o1).alloc o2) := (bel_alloc w o1).trans ((bel_alloc _ o2).mono (by simp))
theorem refNew_any (n : Int) (w : World) :
    Calls Tryd.prog 26 #[.int .i64 n] w fun e w' => ∃ v, e = .returned (.tuple #[.agg #[.int .i64 (if n < 1 ∨ 64 < n then 0 else n), v], .int .i64 (if n < 1 ∨ 64 < n then 2 else 0)]) ∧ (Kd.int .i64).R 3 w' w.heap.size (fun _ => True) v [] ∧ Below w.heap.size w w' := by
  refine PR.butteryref22_New.calls n (if n < 1 ∨ 64 < n then 0 else n) [] (if n < 1 ∨ 64 < n then 2 else 0) w ?_
  unfold PR.butteryref22_New.f
  by_cases h1 : n < 1
  · rw [if_pos h1, if_pos (.inl h1), if_pos (.inl h1)]
  · rw [if_neg h1]
    by_cases h2 : n > 64
    · rw [if_pos h2, if_pos (.inr h2), if_pos (.inr h2)]
    · rw [if_neg h2, if_neg (by omega), if_neg (by omega)]
theorem block_set2 {w : World} {b : Nat} {x y : Value} {t : TypeId} {fr : Nat × Nat} (h : w.heap[b]? = some (.cells #[x, y] t fr)) (u v : Value) : ((w.setCell ⟨b, 0, none⟩ u).setCell ⟨b, 1, none⟩ v).heap[b]? = some (.cells #[u, v] t fr) := by
  rw [setCell_eq_setRow w b 0 _ _ _ _ h, setCell_eq_setRow _ b 1 _ _ _ _ (setRow_heap w b _ _ _ _ h)]
  exact setRow_heap _ b _ _ _ _ (setRow_heap w b _ _ _ _ h)
theorem ring_ne {q : Nat} (hq : q ∈ 3 :: (Kd.int .i64).E) : q ≠ 32 := by
  have : q = 3 := by simpa [Kd.int, Kd.scalar] using hq
  rw [this]; decide
theorem AddRel.fin {w wr : World} {each : Int} {lv ov : Value} {out : List Int} (h : AddRel w wr each lv ov out) :
    ((wr.setCell ⟨w.heap.size + 1, 0, none⟩ (.int .i64 each)).setCell ⟨w.heap.size + 1, 1, none⟩ ov).heap[w.heap.size + 1]? = some (.cells #[.int .i64 each, ov] 32 (0, 0)) ∧
    (Kd.int .i64).R 3 ((wr.setCell ⟨w.heap.size + 1, 0, none⟩ (.int .i64 each)).setCell ⟨w.heap.size + 1, 1, none⟩ ov) w.heap.size (fun _ => True) ov out ∧
    Below w.heap.size w ((wr.setCell ⟨w.heap.size + 1, 0, none⟩ (.int .i64 each)).setCell ⟨w.heap.size + 1, 1, none⟩ ov) := by
  refine ⟨block_set2 h.b4 _ _, ?_, (h.bel.setCell (by show w.heap.size ≤ w.heap.size + 1; omega) _).setCell (by show w.heap.size ≤ w.heap.size + 1; omega) _⟩
  have e : (wr.setCell ⟨w.heap.size + 1, 0, none⟩ (.int .i64 each)).heap[w.heap.size + 1]? = some (.cells #[.int .i64 each, .slice none 0 0] 32 (0, 0)) := by
    rw [setCell_eq_setRow wr _ 0 _ _ _ _ h.b4]
    exact setRow_heap wr _ _ _ _ _ h.b4
  exact Kd.R_set (Kd.R_set h.row h.b4 (fun q hq => ring_ne hq) 0 _) e (fun q hq => ring_ne hq) 1 _
theorem push_cell {wr w1 : World} {b base : Nat} {x ov : Value} {out : List Int} (h : wr.heap[b]? = some (.cells #[x, ov] 32 (0, 0))) (hr : (Kd.int .i64).R 3 wr base (fun _ => True) ov out) (hg : wr.grownBy w1 ov.ownBlock) : w1.cell? ⟨b, 1, none⟩ = some ov ∧ w1.frozen? ⟨b, 1, none⟩ = false := by
  obtain ⟨inner, ho⟩ := Kd.R_own hr
  have e := (hg.block b (Array.getElem?_eq_some_iff.1 h).1 fun e => by
    obtain ⟨cells, hcl⟩ := own_typed ho b e.symm
    rw [h] at hcl
    simp at hcl).trans h
  exact ⟨cell_row e 1, by simp [World.frozen?, e]⟩
theorem at2 (w : World) (o1 o2 : Obj) : ((w.alloc o1).alloc o2).heap[w.heap.size + 1]? = some o2 := by simpa using heap_alloc_new (w.alloc o1) o2

set_option maxHeartbeats 2000000 in
theorem refAdd_any (each : Int) (A : Option Addr) (c : Nat) (L : List Int) (nd : Int) (base : Nat) (w : World) (hR : (Kd.int .i64).R 3 w base (fun _ => True) (.slice A L.length c) L) (hb : base ≤ w.heap.size) (hl : L.length ≤ 100) :
    Calls Tryd.prog 27 #[.agg #[.int .i64 each, .slice A L.length c], .int .i64 nd] w fun e w' => ∃ A' n' c', e = .returned (.tuple #[.agg #[.int .i64 each, .slice A' n' c'], .int .i64 (addLC L nd)]) ∧ (Kd.int .i64).R 3 w' base (fun _ => True) (.slice A' n' c') (addL L nd) ∧ Below w.heap.size w w' := by
  obtain ⟨A1, c1, he, hlc, hC⟩ := Kd.R_reads hR
  injection he with e1 e2 e3
  subst e1
  subst e3
  have HR := Lib.hid hR
  have HC := Lib.hid hC
  clear hR hC e2
  have hc0 : nd < 1 ∨ 16 < nd ∨ (1 ≤ nd ∧ nd ≤ 16) := by omega
  rcases hc0 with h1 | h1 | ⟨h1, h2⟩
  · have ha : addL L nd = L := by unfold addL; rw [if_pos (.inl h1)]
    have hc2 : addLC L nd = 2 := by unfold addLC; rw [if_pos (.inl h1)]
    rw [ha, hc2]
    clear ha hc2
    go_enter Tryd.func27, Tryd.ntmps27
    go_wp2
    refine bodyPost_ret (results_ct rfl _ _ (w.heap.size + 1) 32 #[.int .i64 each, .slice A L.length c] (0, 0) _ rfl (at2 _ _ _) Tryd.underlying32 rfl (by kernel_rfl)) rfl ?_
    exact ⟨_, _, _, rfl, Kd.R_below HR.out (bel2 _ _ _), bel2 _ _ _⟩
  · have ha : addL L nd = L := by unfold addL; rw [if_pos (.inr h1)]
    have hc2 : addLC L nd = 2 := by unfold addLC; rw [if_pos (.inr h1)]
    rw [ha, hc2]
    clear ha hc2
    go_enter Tryd.func27, Tryd.ntmps27
    go_wp2
    refine bodyPost_ret (results_ct rfl _ _ (w.heap.size + 1) 32 #[.int .i64 each, .slice A L.length c] (0, 0) _ rfl (at2 _ _ _) Tryd.underlying32 rfl (by kernel_rfl)) rfl ?_
    exact ⟨_, _, _, rfl, Kd.R_below HR.out (bel2 _ _ _), bel2 _ _ _⟩
  · have hhas := fun w' (hb : Below w.heap.size w w') n => refhas_any A c L n w' (Kd.C_below HC.out hb) hlc (by omega)
    have HHAS := Lib.hid hhas
    clear hhas
    by_cases hin : nd ∈ L
    · have ha : addL L nd = L := by unfold addL; rw [if_neg (by omega), if_pos hin]
      have hc2 : addLC L nd = 13 := by unfold addLC; rw [if_neg (by omega), if_pos hin]
      have hd : decide (nd ∈ L) = true := decide_eq_true hin
      rw [ha, hc2]
      have HIN := Lib.hid hin
      clear ha hc2 hin
      go_enter Tryd.func27, Tryd.ntmps27
      go_wp2_with fail
      refine (HHAS.out _ (bel2 _ _ _) nd).mono ?_
      rintro e w1 ⟨rfl, n1, rfl⟩
      rw [hd]
      clear hd
      go_wp2_with fail
      have hbb := bel2 w (.cells #[.int .i64 each, .slice A L.length c] 32) (.cells #[.int .i64 0, .slice none 0 0] 32)
      have h4 : (((w.alloc (.cells #[.int .i64 each, .slice A L.length c] 32)).alloc (.cells #[.int .i64 0, .slice none 0 0] 32)).drewN n1).heap[w.heap.size + 1]? = some (.cells #[.int .i64 0, .slice none 0 0] 32 (0, 0)) := at2 _ _ _
      have hb2 := hbb.trans ((Drawn0.below ⟨n1, rfl⟩).mono hbb.size)
      have hr2 := Kd.R_drewN (Kd.R_below HR.out hbb) n1
      refine bodyPost_ret (results_ct rfl _ _ (w.heap.size + 1) 32 #[.int .i64 each, .slice A L.length c] (0, 0) _ rfl (block_set2 h4 _ _) Tryd.underlying32 rfl (by kernel_rfl)) rfl ?_
      have e : ((((w.alloc (.cells #[.int .i64 each, .slice A L.length c] 32)).alloc (.cells #[.int .i64 0, .slice none 0 0] 32)).drewN n1).setCell ⟨w.heap.size + 1, 0, none⟩ (.int .i64 each)).heap[w.heap.size + 1]? = some (.cells #[.int .i64 each, .slice none 0 0] 32 (0, 0)) := by
        rw [setCell_eq_setRow _ _ 0 _ _ _ _ h4]
        exact setRow_heap _ _ _ _ _ _ h4
      exact ⟨_, _, _, rfl, Kd.R_set (Kd.R_set hr2 h4 (fun q hq => ring_ne hq) 0 _) e (fun q hq => ring_ne hq) 1 _, (hb2.setCell (by show w.heap.size ≤ w.heap.size + 1; omega) _).setCell (by show w.heap.size ≤ w.heap.size + 1; omega) _⟩
    · have ha : addL L nd = refAdd L nd 16 := by unfold addL; rw [if_neg (by omega), if_neg hin]
      have hc2 : addLC L nd = 0 := by unfold addLC; rw [if_neg (by omega), if_neg hin]
      have hd : decide (nd ∈ L) = false := decide_eq_false hin
      rw [ha, hc2]
      have HIN := Lib.hid hin
      clear ha hc2 hin
      go_enter Tryd.func27, Tryd.ntmps27
      go_wp2_with fail
      refine (HHAS.out _ (bel2 _ _ _) nd).mono ?_
      rintro e w1 ⟨rfl, n1, rfl⟩
      rw [hd]
      clear hd
      go_wp2_with fail
      have H0 : Hid (AddRel w ((((w.alloc (.cells #[.int .i64 each, .slice A L.length c] 32)).alloc (.cells #[.int .i64 0, .slice none 0 0] 32)).drewN n1).alloc (.cells #[.int .i64 each, .slice none 0 0] 32)) each (.slice A L.length c) (.slice none 0 0) (refAdd L nd 0)) := by
        refine ⟨?_, ?_, ?_, Kd.R_nil _ _ _ _ _, ?_⟩
        · exact (Below.heap_alloc _ _ _ (by first | (simp [World.drewN]; done) | (simp [World.drewN]; omega))).trans ((Below.heap_alloc _ _ _ (by simp)).trans (heap_alloc_new _ _))
        · exact (Below.heap_alloc _ _ _ (by first | (simp [World.drewN]; done) | (simp [World.drewN]; omega))).trans (at2 _ _ _)
        · simpa [World.drewN] using heap_alloc_new (((w.alloc (.cells #[.int .i64 each, .slice A L.length c] 32)).alloc (.cells #[.int .i64 0, .slice none 0 0] 32)).drewN n1) (.cells #[.int .i64 each, .slice none 0 0] 32)
        · have hb1 := (bel2 w (.cells #[.int .i64 each, .slice A L.length c] 32) (.cells #[.int .i64 0, .slice none 0 0] 32)).trans ((Drawn0.below ⟨n1, rfl⟩).mono (bel2 w _ _).size)
          exact hb1.trans ((bel_alloc _ _).mono hb1.size)
      go_loopw [7] (fun i wr => ∃ k : Nat, k ≤ 16 ∧ i = .int .i64 ((k : Int) + 1) ∧ Hid (∃ ov, AddRel w wr each (.slice A L.length c) ov (refAdd L nd k))) (fun i _ => 17 - (intOf i).toNat)
      case atStart => exact ⟨0, Nat.zero_le _, rfl, _, H0.out⟩
      case round =>
        obtain ⟨k, hk, rfl, HD⟩ := hrel
        obtain ⟨ov, HD⟩ : ∃ ov, Hid (AddRel w wr each (.slice A L.length c) ov (refAdd L nd k)) := HD.out
        obtain ⟨A6, c6, hov⟩ := Kd.R_slice HD.out.row
        subst hov
        have hrl := refAdd_len L nd k
        by_cases hlt : k < 16
        · have c2 : wr.cell? ⟨w.heap.size, 1, none⟩ = some (.slice A L.length c) := cell_row HD.out.b2 1
          have c6' : wr.cell? ⟨w.heap.size + 2, 1, none⟩ = some (.slice A6 (refAdd L nd k).length c6) := cell_row HD.out.b6 1
          have f6 : wr.frozen? ⟨w.heap.size + 2, 1, none⟩ = false := by simp [World.frozen?, HD.out.b6]
          have hs : refAdd L nd (k + 1) = if (k : Int) + 1 = nd ∨ (k : Int) + 1 ∈ L then refAdd L nd k ++ [(k : Int) + 1] else refAdd L nd k := rfl
          have HS := Lib.hid hs
          clear hs
          by_cases h1 : (k : Int) + 1 = nd
          · have heq : (((k : Int) + 1) == nd) = true := by simpa using h1
            have H1 := Lib.hid h1
            clear h1
            go_wp2_with (at_builtin; refine Kd.R_append (Kd.int .i64) (w0 := w) w.heap.size rfl (.tmp 37) (.tmp 39) 22 3 (.int .i64 0) 8 rfl Tryd.underlying22 info_int rfl (by decide) (by omega) _ (refAdd L nd k) ((k : Int) + 1) [.int .i64 ((k : Int) + 1)] (fun _ => True) (fun _ => False) rfl rfl rfl (fun _ hk => hk.elim) (fun _ _ => trivial) HD.out.row HD.out.bel HD.out.bel.size (by omega) ?_; intro v1 w1 ho hb hg hat; have HO := Lib.hid ho; have HB := Lib.hid hb; have HG := Lib.hid hg; obtain ⟨A1, c1, hv1⟩ := Kd.R_slice ho; rw [List.length_append, List.length_singleton] at hv1; subst hv1; have hp := HD.out.push ho hb hg; have HP := Lib.hid hp; obtain ⟨hx1, hx2⟩ := push_cell HD.out.b6 HD.out.row hg; clear ho hb hg hat hp)
            go_roundw
            case rel => exact ⟨k + 1, by omega, by go_num, _, by rw [HS.out, if_pos (.inl H1.out)]; exact HP.out⟩
            case measure => simp [intOf]; omega
          · have hne : (((k : Int) + 1) == nd) = false := by simpa using h1
            have H1 := Lib.hid h1
            clear h1
            by_cases h2 : (k : Int) + 1 ∈ L
            · have hd : decide ((k : Int) + 1 ∈ L) = true := decide_eq_true h2
              have H2 := Lib.hid h2
              clear h2
              go_wp2_with fail
              refine (HHAS.out wr HD.out.bel _).mono ?_
              rintro e w3 ⟨rfl, n3, rfl⟩
              rw [hd]
              have HD3 := Lib.hid (HD.out.drewN n3)
              clear hd
              go_wp2_with (at_builtin; refine Kd.R_append (Kd.int .i64) (w0 := w) w.heap.size rfl (.tmp 37) (.tmp 39) 22 3 (.int .i64 0) 8 rfl Tryd.underlying22 info_int rfl (by decide) (by omega) _ (refAdd L nd k) ((k : Int) + 1) [.int .i64 ((k : Int) + 1)] (fun _ => True) (fun _ => False) rfl rfl rfl (fun _ hk => hk.elim) (fun _ _ => trivial) HD3.out.row HD3.out.bel HD3.out.bel.size (by omega) ?_; intro v1 w1 ho hb hg hat; have HO := Lib.hid ho; have HB := Lib.hid hb; have HG := Lib.hid hg; obtain ⟨A1, c1, hv1⟩ := Kd.R_slice ho; rw [List.length_append, List.length_singleton] at hv1; subst hv1; have hp := HD3.out.push ho hb hg; have HP := Lib.hid hp; obtain ⟨hx1, hx2⟩ := push_cell HD3.out.b6 HD3.out.row hg; clear ho hb hg hat hp)
              go_roundw
              case rel => exact ⟨k + 1, by omega, by go_num, _, by rw [HS.out, if_pos (.inr H2.out)]; exact HP.out⟩
              case measure => simp [intOf]; omega
            · have hd : decide ((k : Int) + 1 ∈ L) = false := decide_eq_false h2
              have H2 := Lib.hid h2
              clear h2
              go_wp2_with fail
              refine (HHAS.out wr HD.out.bel _).mono ?_
              rintro e w3 ⟨rfl, n3, rfl⟩
              rw [hd]
              clear hd
              go_wp2_with fail
              go_roundw
              case rel => exact ⟨k + 1, by omega, by go_num, _, by rw [HS.out, if_neg (fun e => e.elim H1.out H2.out)]; exact HD.out.drewN n3⟩
              case measure => simp [intOf]; omega
        · obtain rfl : k = 16 := by omega
          have d0 : wr.cell? ⟨w.heap.size + 2, 0, none⟩ = some (.int .i64 each) := cell_row HD.out.b6 0
          have d1 : wr.cell? ⟨w.heap.size + 2, 1, none⟩ = some (.slice A6 (refAdd L nd 16).length c6) := cell_row HD.out.b6 1
          have e0 : wr.cell? ⟨w.heap.size + 1, 0, none⟩ = some (.int .i64 0) := cell_row HD.out.b4 0
          have e1 : wr.cell? ⟨w.heap.size + 1, 1, none⟩ = some (.slice none 0 0) := cell_row HD.out.b4 1
          have f0 : wr.frozen? ⟨w.heap.size + 1, 0, none⟩ = false := by simp [World.frozen?, HD.out.b4]
          have f1 : wr.frozen? ⟨w.heap.size + 1, 1, none⟩ = false := by simp [World.frozen?, HD.out.b4]
          go_wp2_with fail
          refine bodyPost_ret (results_ct rfl _ _ (w.heap.size + 1) 32 #[.int .i64 each, .slice A6 (refAdd L nd 16).length c6] (0, 0) _ rfl HD.out.fin.1 Tryd.underlying32 rfl (by kernel_rfl)) rfl ?_
          exact ⟨_, _, _, rfl, Kd.R_lower HD.out.fin.2.1 hb, HD.out.fin.2.2⟩
end Go.Proofs.YtndgjhhhggkdmaaDoor
namespace Go.Proofs.YtndgjhhhggkdmaaDoor
set_option linter.unusedVariables false
open Go.RowKit Go.Proofs.YtndgjhhhggkdmaaDoorW.PrintWords

def remL (L : List Int) (nd : Int) : List Int := L.filter (fun n => !(n == nd))
def remLC (L : List Int) (nd : Int) : Int := if nd ∈ L then 0 else 9
theorem remL_none {L : List Int} {nd : Int} (h : nd ∉ L) : remL L nd = L := by
  unfold remL
  rw [List.filter_eq_self]
  intro x hx
  have : x ≠ nd := fun e => h (e ▸ hx)
  simp [this]
theorem remL_len (L : List Int) (nd : Int) : (remL L nd).length ≤ L.length := List.length_filter_le _ _
theorem remL_snoc (L : List Int) (nd x : Int) : remL (L ++ [x]) nd = if x = nd then remL L nd else remL L nd ++ [x] := by
  unfold remL
  rw [List.filter_append]
  by_cases h : x = nd <;> simp [h]

end Go.Proofs.YtndgjhhhggkdmaaDoor
namespace Go.Proofs.YtndgjhhhggkdmaaDoor
set_option linter.unusedVariables false
open Go.RowKit Go.Proofs.YtndgjhhhggkdmaaDoorW.PrintWords

theorem has_zero {L : List Pt} (h : NodesOk L) : hasN L 0 = false := by
  cases hq : hasN L 0 with
  | false => rfl
  | true =>
    obtain ⟨y, hy, e⟩ := has_iff.1 hq
    have := h y hy
    omega
theorem link_code {P : List Pt} (h : NodesOk P) (nd : Int) : addLC (nodesN P 17) nd = addC P nd ∧ remLC (nodesN P 17) nd = remC P nd := by
  have hm := mem_nodes h nd
  constructor
  · unfold addLC addC
    by_cases h1 : nd < 1 ∨ 16 < nd
    · rw [if_pos h1, if_pos h1]
    · rw [if_neg h1, if_neg h1]
      by_cases h2 : hasN P nd = true
      · rw [if_pos h2, if_pos (hm.2 h2)]
      · rw [if_neg h2, if_neg (fun e => h2 (hm.1 e))]
  · unfold remLC remC
    by_cases h2 : hasN P nd = true
    · rw [if_pos h2, if_pos (hm.2 h2)]
    · rw [if_neg h2, if_neg (fun e => h2 (hm.1 e))]
theorem has_addTo (P : List Pt) (nd x : Int) {i : Nat} (h : 0 < i) : hasN (addTo P nd i) x = true ↔ x = nd ∨ hasN P x = true := by
  rw [has_iff, has_iff]
  constructor
  · rintro ⟨y, hy, e⟩
    rcases mem_addTo.1 hy with hy | ⟨j, _, rfl⟩
    · exact .inr ⟨y, hy, e⟩
    · exact .inl e.symm
  · rintro (rfl | ⟨y, hy, e⟩)
    · exact ⟨_, mem_addTo.2 (.inr ⟨0, h, rfl⟩), rfl⟩
    · exact ⟨y, mem_addTo.2 (.inl hy), e⟩
theorem link_add {P : List Pt} (h : NodesOk P) {each : Nat} (h0 : 0 < each) (nd : Int) : nodesN (addR each P nd) 17 = addL (nodesN P 17) nd := by
  have hm := mem_nodes h
  unfold addR addL
  by_cases h1 : nd < 1 ∨ 16 < nd
  · rw [if_pos h1, if_neg (by omega)]
  · rw [if_neg h1]
    by_cases h2 : hasN P nd = true
    · rw [if_pos ((hm nd).2 h2), if_neg (by rw [h2]; simp)]
    · have h2' : hasN P nd = false := by simpa using h2
      rw [if_neg (fun e => h2 ((hm nd).1 e)), if_pos ⟨by omega, by omega, h2'⟩]
      have hz : hasN (addTo P nd each) 0 = false := has_zero (addTo_ok h (by omega) (by omega) each)
      have hrec : ∀ k, nodesN (addTo P nd each) (k + 1) = refAdd (nodesN P 17) nd k := by
        intro k
        induction k with
        | zero =>
          rw [nodes_succ, if_neg (by rw [show ((0 : Nat) : Int) = 0 from rfl, hz]; decide)]
          rfl
        | succ k ih =>
          rw [nodes_succ, ih, refAdd]
          have he : (hasN (addTo P nd each) ((k + 1 : Nat) : Int) = true) ↔ ((k : Int) + 1 = nd ∨ (k : Int) + 1 ∈ nodesN P 17) := by
            rw [has_addTo P nd _ h0, hm]
            rfl
          by_cases hc : (k : Int) + 1 = nd ∨ (k : Int) + 1 ∈ nodesN P 17
          · rw [if_pos hc, if_pos (he.2 hc)]; rfl
          · rw [if_neg hc, if_neg (fun e => hc (he.1 e))]
      exact hrec 16
theorem link_rem (P : List Pt) (nd : Int) : nodesN (dropN P nd) 17 = remL (nodesN P 17) nd := by
  unfold nodesN remL
  rw [List.filter_filter]
  refine List.filter_congr fun x _ => ?_
  have : (hasN (dropN P nd) x = true) ↔ ((!(x == nd) && hasN P x) = true) := by
    rw [has_iff, Bool.and_eq_true, has_iff]
    constructor
    · rintro ⟨y, hy, rfl⟩
      obtain ⟨h1, h2⟩ := List.mem_filter.1 hy
      exact ⟨h2, y, h1, rfl⟩
    · rintro ⟨h1, y, hy, rfl⟩
      exact ⟨y, List.mem_filter.2 ⟨hy, h1⟩, rfl⟩
  cases h1 : hasN (dropN P nd) x <;> cases h2 : (!(x == nd) && hasN P x) <;> simp_all

/-- What a law keeps: the ring, and the document's one in a box. -/
structure Both (w0 w : World) (B p each : Nat) (v : Value) (P : List Pt) (q : Nat) (xv : Value) (L : List Int) : Prop where
  st : RSt w0 w B p each v P
  good : Good each P
  box : w.heap[q]? = some (.cells #[.int .i64 each, xv] 32 (0, 0))
  row : (Kd.int .i64).R 3 w B (fun _ => True) xv L
  hq : B ≤ q
namespace Both
variable {w0 w w' w1 : World} {B p each q : Nat} {v v' xv xv' : Value} {P P' : List Pt} {L L' : List Int}
theorem later (h : Both w0 w B p each v P q xv L) (hb : Below w.heap.size w w') : Both w0 w' B p each v P q xv L :=
  ⟨h.st.later hb, h.good, (hb.block q (Array.getElem?_eq_some_iff.1 h.box).1).trans h.box, Kd.R_below h.row hb, h.hq⟩
theorem drewN (h : Both w0 w B p each v P q xv L) (n : Nat) : Both w0 (w.drewN n) B p each v P q xv L := h.later (Drawn0.below ⟨n, rfl⟩)
theorem cell0 (h : Both w0 w B p each v P q xv L) : w.cell? ⟨q, 0, none⟩ = some (.int .i64 each) := cell_row h.box 0
theorem cell1 (h : Both w0 w B p each v P q xv L) : w.cell? ⟨q, 1, none⟩ = some xv := cell_row h.box 1
theorem fro (h : Both w0 w B p each v P q xv L) (j : Nat) : w.frozen? ⟨q, j, none⟩ = false := by simp [World.frozen?, h.box]
theorem ne_ring (h : Both w0 w B p each v P q xv L) : ¬ rgM p v q := by
  rintro (rfl | hv)
  · have h1 := h.st.rg.head
    rw [h.box] at h1
    simp at h1
  · obtain ⟨inner, ho⟩ := Kd.R_own h.st.rg.row
    obtain ⟨cells, hcl⟩ := own_typed ho q hv
    rw [h.box] at hcl
    simp at hcl
/-- The ring has been changed. -/
theorem ring (h : Both w0 w B p each v P q xv L) (hc : Chg (rgM p v) w w') (hs : RSt w0 w' B p each v' P') (hg : Good each P') : Both w0 w' B p each v' P' q xv L :=
  ⟨hs, hg, (hc.block q (Array.getElem?_eq_some_iff.1 h.box).1 h.ne_ring).trans h.box, R_ring h.row h.st.rg hc, h.hq⟩
/-- The document's ring has been changed. -/
theorem setx (h : Both w0 w B p each v P q xv L) (hr : (Kd.int .i64).R 3 w1 B (fun _ => True) xv' L') (hb : Below w.heap.size w w1) : Both w0 ((w1.setCell ⟨q, 0, none⟩ (.int .i64 each)).setCell ⟨q, 1, none⟩ xv') B p each v P q xv' L' := by
  have h1 := h.later hb
  have hpq : p ≠ q := fun e => h1.ne_ring (.inl e.symm)
  have e : (w1.setCell ⟨q, 0, none⟩ (.int .i64 each)).heap[q]? = some (.cells #[.int .i64 each, xv] 32 (0, 0)) := by
    rw [setCell_eq_setRow w1 _ 0 _ _ _ _ h1.box]
    exact setRow_heap w1 _ _ _ _ _ h1.box
  have hoff : ∀ k, k ≠ q → ((w1.setCell ⟨q, 0, none⟩ (.int .i64 each)).setCell ⟨q, 1, none⟩ xv').heap[k]? = w1.heap[k]? := fun k hk => by
    rw [Below.heap_setCell _ _ _ _ hk, Below.heap_setCell _ _ _ _ hk]
  refine ⟨⟨⟨(hoff p hpq).trans h1.st.rg.head, ?_⟩, h1.st.ris, ?_, by simp [World.setCell]; exact h1.st.hb, h1.st.hp, h1.st.he⟩, h1.good, block_set2 h1.box _ _, Kd.R_set (Kd.R_set hr h1.box (fun q hq => ring_ne hq) 0 _) e (fun q hq => ring_ne hq) 1 _, h1.hq⟩
  · refine OwnP.to_R (own_move (OwnP.of_R h1.st.rg.row) fun k hk => hoff k fun e => h1.ne_ring (.inr (e ▸ hk)))
  · exact (h1.st.bel.setCell h1.hq _).setCell h1.hq _
end Both
end Go.Proofs.YtndgjhhhggkdmaaDoor
namespace Go.Proofs.YtndgjhhhggkdmaaDoor
set_option linter.unusedVariables false
open Go.RowKit Go.Proofs.YtndgjhhhggkdmaaDoorW.PrintWords

/-- A ring's points behind more nodes. -/
def adds (each : Nat) (P : List Pt) (l : List Int) : List Pt := l.foldl (addR each) P
/-- What is wrong with the first node that can't be added. -/
def addsC (each : Nat) : List Pt → List Int → Int
  | _, [] => 0
  | P, n :: l => if addC P n = 0 then addsC each (addR each P n) l else addC P n
theorem adds_snoc (each : Nat) (P : List Pt) (l : List Int) (n : Int) : adds each P (l ++ [n]) = addR each (adds each P l) n := by simp [adds]
theorem addsC_append (each : Nat) : ∀ (l m : List Int) (P : List Pt), addsC each P (l ++ m) = if addsC each P l = 0 then addsC each (adds each P l) m else addsC each P l
  | [], m, P => by simp [addsC, adds]
  | n :: l, m, P => by
    rw [List.cons_append, addsC, addsC]
    by_cases h : addC P n = 0
    · rw [if_pos h, if_pos h, addsC_append each l m]
      rfl
    · rw [if_neg h, if_neg h, if_neg h]
theorem addsC_snoc (each : Nat) (P : List Pt) (l : List Int) (n : Int) (h : addsC each P l = 0) : addsC each P (l ++ [n]) = addC (adds each P l) n := by
  rw [addsC_append, if_pos h, addsC]
  by_cases h1 : addC (adds each P l) n = 0
  · rw [if_pos h1, addsC, h1]
  · rw [if_neg h1]
theorem addsC_stop (each : Nat) (P : List Pt) (l : List Int) (k : Nat) (h : addsC each P (l.take k) ≠ 0) : addsC each P l = addsC each P (l.take k) := by
  conv => lhs; rw [← List.take_append_drop k l, addsC_append, if_neg h]
theorem adds_len (each : Nat) : ∀ (l : List Int) (P : List Pt), (adds each P l).length ≤ P.length + l.length * each
  | [], P => by simp [adds]
  | n :: l, P => by
    have h1 := adds_len each l (addR each P n)
    have h2 := addR_len each P n
    show (adds each (addR each P n) l).length ≤ _
    rw [List.length_cons, Nat.add_mul]
    omega
theorem adds_good {each : Nat} (he : each ≤ 9) : ∀ (l : List Int) {P : List Pt}, Good each P → Good each (adds each P l)
  | [], _, h => h
  | n :: l, _, h => adds_good he l (h.addR he n)
theorem addsC_bd (each : Nat) : ∀ (l : List Int) (P : List Pt), addsC each P l = 0 ∨ addsC each P l = 2 ∨ addsC each P l = 13
  | [], P => .inl rfl
  | n :: l, P => by
    rw [addsC]
    by_cases h : addC P n = 0
    · rw [if_pos h]; exact addsC_bd each l _
    · rw [if_neg h]
      unfold addC at h ⊢
      split at h <;> first | (split at h <;> simp_all) | simp_all
/-- The code with which a ring is made with some nodes. -/
def onC (z : Int) (l : List Int) : Int := if z < 1 ∨ 64 < z then 2 else addsC z.toNat [] l

/-- How many of some keys each node has. -/
def loadN (P : List Pt) (ks : List ByteArray) : List Int := (nodesN P 17).map (fun n => shareN P n ks)
def leastF (x : Int) (r : List Int) : Int := r.foldl (fun a b => if b < a then b else a) x
def mostF (x : Int) (r : List Int) : Int := r.foldl (fun a b => if a < b then b else a) x
def leastN : List Int → Int
  | [] => 0
  | x :: r => leastF x r
def mostN : List Int → Int
  | [] => 0
  | x :: r => mostF x r
theorem leastF_snoc (x : Int) (r : List Int) (y : Int) : leastF x (r ++ [y]) = if y < leastF x r then y else leastF x r := by unfold leastF; rw [List.foldl_append]; rfl
theorem mostF_snoc (x : Int) (r : List Int) (y : Int) : mostF x (r ++ [y]) = if mostF x r < y then y else mostF x r := by unfold mostF; rw [List.foldl_append]; rfl
/-- Where a key is asked for while nodes go. -/
def pathN (P : List Pt) (h : Int) (gone : List Int) : List Int := (ownersN P h 16).filter (fun n => !decide (n ∈ gone))
structure Mv where
  key : ByteArray
  from_ : Int
  to_ : Int
/-- Which keys move. -/
def movesN (P Q : List Pt) : List ByteArray → List Mv
  | [] => []
  | k :: r => if ownerN P (hashI k) = ownerN Q (hashI k) then movesN P Q r else ⟨k, ownerN P (hashI k), ownerN Q (hashI k)⟩ :: movesN P Q r
theorem moves_append (P Q : List Pt) : ∀ (l m : List ByteArray), movesN P Q (l ++ m) = movesN P Q l ++ movesN P Q m
  | [], m => rfl
  | k :: r, m => by
    rw [List.cons_append, movesN, movesN, moves_append P Q r m]
    split <;> rfl
theorem moves_snoc (P Q : List Pt) (l : List ByteArray) (k : ByteArray) : movesN P Q (l ++ [k]) = if ownerN P (hashI k) = ownerN Q (hashI k) then movesN P Q l else movesN P Q l ++ [⟨k, ownerN P (hashI k), ownerN Q (hashI k)⟩] := by
  rw [moves_append, movesN]
  split <;> simp [movesN]
theorem moves_len (P Q : List Pt) : ∀ l : List ByteArray, (movesN P Q l).length ≤ l.length
  | [] => Nat.le_refl _
  | k :: r => by
    have := moves_len P Q r
    rw [movesN]
    split <;> simp <;> omega
theorem share_nonneg (P : List Pt) (n : Int) (l : List ByteArray) : 0 ≤ shareN P n l := (share_bd P n l).1
theorem nodes_in {P : List Pt} (h : NodesOk P) {n : Int} (hn : n ∈ nodesN P 17) : 1 ≤ n ∧ n ≤ 16 := by
  obtain ⟨y, hy, rfl⟩ := has_iff.1 ((mem_nodes h n).1 hn)
  exact h y hy
/-- One node more: what moves goes to it. -/
theorem move_one {each : Nat} {P : List Pt} (h : NodesOk P) (h0 : 0 < each) {n : Int} (hc : addC P n = 0) (x : Int) :
    (ownerN (addR each P n) x = n ∨ ownerN (addR each P n) x = ownerN P x) ∧ ownerN P x ≠ n := by
  have h1 : ¬ (n < 1 ∨ 16 < n) := fun e => by rw [addC, if_pos e] at hc; exact absurd hc (by decide)
  have h2 : hasN P n = false := by
    cases hq : hasN P n with
    | false => rfl
    | true => rw [addC, if_neg h1, if_pos hq] at hc; exact absurd hc (by decide)
  rw [(addR_ok_eq each P n (by omega) (by omega) h2).1]
  refine ⟨add_owner P n x each, fun e => ?_⟩
  rw [owner_eq] at e
  by_cases hz : P.length = 0
  · rw [if_pos hz] at e; omega
  · rw [if_neg hz] at e
    have : hasN P n = true := has_iff.2 ⟨_, by rw [pget_eq (Nat.mod_lt _ (by omega))]; exact List.getElem_mem _, e⟩
    rw [h2] at this
    exact absurd this (by decide)
theorem share_moves {P Q : List Pt} {n : Int} (h : ∀ x, (ownerN Q x = n ∨ ownerN Q x = ownerN P x) ∧ ownerN P x ≠ n) : ∀ l : List ByteArray,
    shareN Q n l = (movesN P Q l).length ∧ (movesN Q P l).length = (movesN P Q l).length ∧
    (∀ i (hi : i < (movesN P Q l).length) (hj : i < (movesN Q P l).length), (movesN P Q l)[i].to_ = n ∧ (movesN Q P l)[i].from_ = n ∧ (movesN P Q l)[i].from_ = (movesN Q P l)[i].to_ ∧ (movesN P Q l)[i].key = (movesN Q P l)[i].key)
  | [] => ⟨rfl, rfl, fun i hi => by simp [movesN] at hi⟩
  | k :: r => by
    obtain ⟨h1, h2, h3⟩ := share_moves h r
    obtain ⟨ho, hn⟩ := h (hashI k)
    rw [movesN, movesN, shareN]
    by_cases e : ownerN P (hashI k) = ownerN Q (hashI k)
    · rw [if_pos e, if_pos e.symm, if_neg (by rw [← e]; exact hn), h1]
      exact ⟨by omega, h2, h3⟩
    · have hq : ownerN Q (hashI k) = n := ho.resolve_right (fun e' => e e'.symm)
      rw [if_neg e, if_neg (show ¬ (ownerN Q (hashI k) = ownerN P (hashI k)) from fun e' => e e'.symm), if_pos hq, h1]
      refine ⟨by simp; omega, by simp [h2], fun i hi hj => ?_⟩
      cases i with
      | zero => exact ⟨hq, hq, rfl, rfl⟩
      | succ i => exact h3 i (by simpa using hi) (by simpa using hj)
end Go.Proofs.YtndgjhhhggkdmaaDoor
namespace Go.Proofs.YtndgjhhhggkdmaaDoor
set_option linter.unusedVariables false
open Go.RowKit Go.Proofs.YtndgjhhhggkdmaaDoorW.PrintWords

/-- With enough rounds. -/
def Evt {α : Type} (f : Nat → Option α) (r : α) : Prop := ∃ K, ∀ k, K ≤ k → f k = some r
theorem Evt.succ {α : Type} {f : Nat → Option α} {r : α} (h : ∃ K, ∀ k, K ≤ k → f (k + 1) = some r) : Evt f r := by
  obtain ⟨K, h⟩ := h
  refine ⟨K + 1, fun k hk => ?_⟩
  obtain ⟨j, rfl⟩ : ∃ j, k = j + 1 := ⟨k - 1, by omega⟩
  exact h j (by omega)
theorem wr1 {i n : Nat} (h : i < n) (hn : n < 9223372036854775807) : wrap64 ((i : Int) + 1) = ((i + 1 : Nat) : Int) := by unfold wrap64; omega

section
variable (each : Nat) (L : List Int) (P : List Pt) (ks : List ByteArray)
theorem load_in (hk : ks.length < 1000000) (hL : L.length < 1000000) (how : ∀ s ∈ ks, Evt (fun k => PR.butteryref22_Owner.f k each L s) (ownerN P (hashI s))) (i : Nat) (hi : i < L.length) (out : List Int) (ho : out.length < 1000000) (R : List Int) :
    ∀ (m j : Nat) (n : Int), j + m = ks.length → 0 ≤ n → n ≤ j → Evt (fun k => PR.butteryref34_Load.l0 k ks (out ++ [n + shareN P (iget L i) (ks.drop j)]) ((i + 1 : Nat) : Int) each L) R → Evt (fun k => PR.butteryref34_Load.l1 k ks out i n j each L) R
  | 0, j, n, hj, h0, h1, ⟨K, hK⟩ => by
    refine Evt.succ ⟨K, fun k hk' => ?_⟩
    have := hK k hk'
    rw [List.drop_of_length_le (by omega), show shareN P (iget L i) [] = 0 from rfl, Int.add_zero] at this
    rw [PR.butteryref34_Load.l1, if_neg (by omega), if_pos (by omega), wr1 hi (by omega)]
    exact this
  | m + 1, j, n, hj, h0, h1, hR => by
    have hjl : j < ks.length := by omega
    have hd : ks.drop j = sget ks j :: ks.drop (j + 1) := by rw [List.drop_eq_getElem_cons hjl, sget_eq hjl]
    obtain ⟨K1, h1'⟩ := how (sget ks j) (by rw [sget_eq hjl]; exact List.getElem_mem hjl)
    have hr : rdOf ByteArray.empty ks (j : Int) = sget ks j := by simp [rdOf, sget]
    have hr2 : rd L (i : Int) = iget L i := by simp [rd, iget]
    by_cases he : ownerN P (hashI (sget ks j)) = iget L i
    · obtain ⟨K2, h2⟩ := load_in hk hL how i hi out ho R m (j + 1) (n + 1) (by omega) (by omega) (by omega) (by
        rw [hd, shareN, if_pos he] at hR
        rw [show n + 1 + shareN P (iget L i) (ks.drop (j + 1)) = n + (1 + shareN P (iget L i) (ks.drop (j + 1))) by omega]
        exact hR)
      refine Evt.succ ⟨K1 + K2, fun k hk' => ?_⟩
      have e1 := h1' k (by omega)
      have e2 := h2 k (by omega)
      have hw : wrap64 (n + 1) = n + 1 := by unfold wrap64; omega
      dsimp only at e1 e2 ⊢
      rw [PR.butteryref34_Load.l1, if_pos (by omega), if_pos (by omega), hr, e1, Option.bind_some, if_pos (by omega), if_pos (by omega), hr2, if_pos he, wr1 hjl (by omega), hw]
      exact e2
    · obtain ⟨K2, h2⟩ := load_in hk hL how i hi out ho R m (j + 1) n (by omega) (by omega) (by omega) (by
        rw [hd, shareN, if_neg he] at hR
        rw [show n + shareN P (iget L i) (ks.drop (j + 1)) = n + (0 + shareN P (iget L i) (ks.drop (j + 1))) by omega]
        exact hR)
      refine Evt.succ ⟨K1 + K2, fun k hk' => ?_⟩
      have e1 := h1' k (by omega)
      have e2 := h2 k (by omega)
      dsimp only at e1 e2 ⊢
      rw [PR.butteryref34_Load.l1, if_pos (by omega), if_pos (by omega), hr, e1, Option.bind_some, if_pos (by omega), if_pos (by omega), hr2, if_neg he, wr1 hjl (by omega)]
      exact e2
theorem load_out (hk : ks.length < 1000000) (hL : L.length < 1000000) (how : ∀ s ∈ ks, Evt (fun k => PR.butteryref22_Owner.f k each L s) (ownerN P (hashI s))) :
    ∀ (m i : Nat), i + m = L.length → Evt (fun k => PR.butteryref34_Load.l0 k ks ((L.take i).map (fun n => shareN P n ks)) i each L) (L.map (fun n => shareN P n ks))
  | 0, i, hi => by
    refine Evt.succ ⟨0, fun k _ => ?_⟩
    rw [PR.butteryref34_Load.l0, if_neg (by omega), List.take_of_length_le (by omega)]
  | m + 1, i, hi => by
    have hil : i < L.length := by omega
    obtain ⟨K, hK⟩ := load_in each L P ks hk hL how i hil ((L.take i).map (fun n => shareN P n ks)) (by rw [List.length_map, List.length_take]; omega) (L.map (fun n => shareN P n ks)) ks.length 0 0 (by omega) (by omega) (by omega) (by
      have := load_out hk hL how m (i + 1) (by omega)
      rw [take_i hil, List.map_append, List.map_singleton] at this
      rw [List.drop_zero, Int.zero_add]
      exact this)
    refine Evt.succ ⟨K, fun k hk' => ?_⟩
    have := hK k hk'
    rw [PR.butteryref34_Load.l0, if_pos (by omega)]
    exact this
theorem refload_f (hk : ks.length < 1000000) (hL : L.length < 1000000) (how : ∀ s ∈ ks, Evt (fun k => PR.butteryref22_Owner.f k each L s) (ownerN P (hashI s))) : Evt (fun k => PR.butteryref34_Load.f k each L ks) (L.map (fun n => shareN P n ks)) := by
  have := load_out each L P ks hk hL how L.length 0 (by omega)
  simpa [PR.butteryref34_Load.f] using this
end

/-- The least and the most of the first ones, as the document goes. -/
def leastT (l : List Int) (i : Nat) : Int := leastN (l.take i)
def mostT (l : List Int) (i : Nat) : Int := mostN (l.take i)
theorem least_succ {l : List Int} {i : Nat} (h : i < l.length) : leastT l (i + 1) = if i = 0 ∨ iget l i < leastT l i then iget l i else leastT l i := by
  unfold leastT
  rw [take_i h]
  cases i with
  | zero => simp [leastN, leastF]
  | succ i =>
    cases l with
    | nil => simp at h
    | cons x r =>
      rw [List.take_succ_cons, List.cons_append, leastN, leastF_snoc, leastN]
      simp
theorem most_succ {l : List Int} {i : Nat} (h : i < l.length) (h0 : 0 ≤ iget l i) : mostT l (i + 1) = if mostT l i < iget l i then iget l i else mostT l i := by
  unfold mostT
  rw [take_i h]
  cases i with
  | zero =>
    simp [mostN, mostF]
    omega
  | succ i =>
    cases l with
    | nil => simp at h
    | cons x r => rw [List.take_succ_cons, List.cons_append, mostN, mostF_snoc, mostN]
theorem spread_l (l : List Int) (hl : l.length < 1000000) (h0 : ∀ x ∈ l, 0 ≤ x) : ∀ (m i : Nat), i + m = l.length → Evt (fun k => PR.butteryref34_Spread.l0 k l (leastT l i) (mostT l i) i) (leastN l, mostN l)
  | 0, i, hi => by
    refine Evt.succ ⟨0, fun k _ => ?_⟩
    rw [PR.butteryref34_Spread.l0, if_neg (by omega), leastT, mostT, List.take_of_length_le (by omega)]
  | m + 1, i, hi => by
    have hil : i < l.length := by omega
    have hx : 0 ≤ iget l i := by rw [iget_eq hil]; exact h0 _ (List.getElem_mem hil)
    obtain ⟨K, hK⟩ := spread_l l hl h0 m (i + 1) (by omega)
    rw [least_succ hil, most_succ hil hx] at hK
    have hr : rd l (i : Int) = iget l i := by simp [rd, iget]
    have hj : ∀ (b : Bool), b = decide (i = 0 ∨ iget l i < leastT l i) → ∀ k, K ≤ k → PR.butteryref34_Spread.j1 (k + 1) l (leastT l i) (mostT l i) i b = some (leastN l, mostN l) := by
      intro b hb k hk
      have := hK k hk
      rw [PR.butteryref34_Spread.j1]
      by_cases hc : i = 0 ∨ iget l i < leastT l i
      · rw [if_pos hc] at this
        rw [decide_eq_true hc] at hb
        rw [if_pos hb, if_pos (by omega), if_pos (by omega), hr, wr1 hil (by omega)]
        by_cases hm : mostT l i < iget l i
        · rw [if_pos hm] at this; rw [if_pos hm]; exact this
        · rw [if_neg hm] at this; rw [if_neg hm]; exact this
      · rw [if_neg hc] at this
        rw [decide_eq_false hc] at hb
        rw [if_neg (by rw [hb]; decide), if_pos (by omega), if_pos (by omega), hr, wr1 hil (by omega)]
        by_cases hm : mostT l i < iget l i
        · rw [if_pos hm] at this; rw [if_pos hm]; exact this
        · rw [if_neg hm] at this; rw [if_neg hm]; exact this
    refine Evt.succ ⟨K + 1, fun k hk' => ?_⟩
    obtain ⟨k, rfl⟩ : ∃ j, k = j + 1 := ⟨k - 1, by omega⟩
    rw [PR.butteryref34_Spread.l0, if_pos (by omega)]
    by_cases hz : i = 0
    · rw [if_pos (by omega)]
      exact hj true (decide_eq_true (.inl hz)).symm k (by omega)
    · rw [if_neg (by omega), if_pos (by omega), hr]
      exact hj _ (by simp [hz]) k (by omega)
theorem refspread_f (each : Nat) (L : List Int) (P : List Pt) (ks : List ByteArray) (hk : ks.length < 1000000) (hL : L.length < 1000000) (how : ∀ s ∈ ks, Evt (fun k => PR.butteryref22_Owner.f k each L s) (ownerN P (hashI s))) :
    Evt (fun k => PR.butteryref34_Spread.f k each L ks) (leastN (L.map (fun n => shareN P n ks)), mostN (L.map (fun n => shareN P n ks))) := by
  obtain ⟨K, hK⟩ := refload_f each L P ks hk hL how
  obtain ⟨K2, hK2⟩ := spread_l (L.map (fun n => shareN P n ks)) (by simpa using hL) (fun x hx => by
    obtain ⟨n, _, rfl⟩ := List.mem_map.1 hx
    exact share_nonneg P n ks) _ 0 (Nat.zero_add _)
  refine ⟨K + K2, fun k hk' => ?_⟩
  have h1 := hK k (by omega)
  have h2 := hK2 k (by omega)
  dsimp only at h1 h2 ⊢
  rw [PR.butteryref34_Spread.f, h1, Option.bind_some]
  exact h2
theorem path_l (gone ns : List Int) (hg : gone.length < 1000000) (hn : ns.length < 1000000) : ∀ (m i : Nat), i + m = ns.length → Evt (fun k => PR.butteryref34_Path.l0 k gone ((ns.take i).filter (fun n => !decide (n ∈ gone))) ns i) (ns.filter (fun n => !decide (n ∈ gone)))
  | 0, i, hi => by
    refine Evt.succ ⟨0, fun k _ => ?_⟩
    rw [PR.butteryref34_Path.l0, if_neg (by omega), List.take_of_length_le (by omega)]
  | m + 1, i, hi => by
    have hil : i < ns.length := by omega
    obtain ⟨K, hK⟩ := path_l gone ns hg hn m (i + 1) (by omega)
    rw [take_i hil, List.filter_append] at hK
    have hlen : ((ns.take i).filter (fun n => !decide (n ∈ gone))).length ≤ ns.length := Nat.le_trans (List.length_filter_le _ _) (by rw [List.length_take]; omega)
    have hr : rd ns (i : Int) = iget ns i := by simp [rd, iget]
    refine Evt.succ ⟨K + gone.length + 1, fun k hk' => ?_⟩
    have h1 := hK k (by omega)
    rw [PR.butteryref34_Path.l0, if_pos (by omega), if_pos (by omega), hr, refhas_ge gone (iget ns i) (by omega) k (by omega), Option.bind_some, wr1 hil (by omega)]
    by_cases hin : iget ns i ∈ gone
    · rw [if_pos (decide_eq_true hin)]
      have : [iget ns i].filter (fun n => !decide (n ∈ gone)) = [] := by simp [hin]
      rw [this, List.append_nil] at h1
      exact h1
    · rw [if_neg (by simpa using hin), if_pos (by omega)]
      have : [iget ns i].filter (fun n => !decide (n ∈ gone)) = [iget ns i] := by simp [hin]
      rw [this] at h1
      exact h1
theorem refpath_f (each : Nat) (L : List Int) (s : ByteArray) (gone ns : List Int) (hg : gone.length < 1000000) (hn : ns.length < 1000000) (how : Evt (fun k => PR.butteryref22_Owners.f k each L s 16) ns) :
    Evt (fun k => PR.butteryref34_Path.f k each L s gone) (ns.filter (fun n => !decide (n ∈ gone))) := by
  obtain ⟨K, hK⟩ := how
  obtain ⟨K2, hK2⟩ := path_l gone ns hg hn ns.length 0 (by omega)
  refine ⟨K + K2, fun k hk' => ?_⟩
  have h1 := hK k (by omega)
  have h2 := hK2 k (by omega)
  dsimp only at h1 h2 ⊢
  rw [PR.butteryref34_Path.f, h1, Option.bind_some]
  exact h2
end Go.Proofs.YtndgjhhhggkdmaaDoor
