/- From an argument that reads as a datum: structs of any number of fields; events. -/
import Derived.OpenShut
import Derived.Test.YtgfljpchdiapeaaDoorOpen
import Derived.Test.YtgfljpchdiapeaaDoorG7
namespace Go.Proofs.YtgfljpchdiapeaaDoor
set_option linter.unusedVariables false
set_option linter.unusedSimpArgs false
open Go.RowKit Go.Proofs.YtgfljpchdiapeaaDoorW.PrintWords
structure OpensT (P : Program) (fs : List Field) (o : Nat) {α : Type} (d : Kd α) (ok : α → Prop) : Prop where
  open_ : ∀ {H : Type} {enc : TypeId × Value → H} {w : World} {base : Nat} {spare : Nat → Bool} {held : Bool} {n : Nat} {cs : List Value}, cs.length = o + d.sz → (∀ f ∈ fs, ∃ y, DataW.trod enc P w base spare held n f.type ((cs.drop f.offset).take (P.cellsOf f.type)) = some y) → ∃ a, d.K w a (cs.drop o) ∧ ok a
theorem OpensT.one {P : Program} {f : Field} {o : Nat} {α : Type} {d : Kd α} {ok : α → Prop} (h : Opens P f.type d ok) (ho : f.offset = o) : OpensT P [f] o d ok :=
  ⟨fun hl hf => by
    obtain ⟨y, hy⟩ := hf f List.mem_cons_self
    obtain ⟨a, h1, h2⟩ := h.open_ hy
    rw [ho, ← h.sz, List.take_of_length_le (by rw [List.length_drop, hl]; omega)] at h1
    exact ⟨a, h1, h2⟩⟩
theorem OpensT.cons {P : Program} {f : Field} {fs : List Field} {o : Nat} {α β : Type} {d0 : Kd α} {d1 : Kd β} {ok0 : α → Prop} {ok1 : β → Prop} (h : Opens P f.type d0 ok0) (ho : f.offset = o) (ht : OpensT P fs (o + d0.sz) d1 ok1) : OpensT P (f :: fs) o (Kd.pair d0 d1) (fun x => ok0 x.1 ∧ ok1 x.2) :=
  ⟨fun {H enc w base spare held n cs} hl hf => by
    obtain ⟨y, hy⟩ := hf f List.mem_cons_self
    obtain ⟨a, h1, h2⟩ := h.open_ hy
    obtain ⟨b, h3, h4⟩ := ht.open_ (cs := cs) (by rw [hl]; show o + (d0.sz + d1.sz) = _; omega) (fun g hg => hf g (List.mem_cons_of_mem _ hg))
    rw [ho, ← h.sz] at h1
    refine ⟨(a, b), ⟨_, _, ?_, h1, h3⟩, h2, h4⟩
    rw [← List.drop_drop, List.take_append_drop]⟩
theorem Opens.struct {P : Program} {t : TypeId} {fs : Array Field} {α : Type} {d : Kd α} {ok : α → Prop} (ht : P.underlying t = some (.struct fs)) (hc : P.cellsOf t = d.sz) (h : OpensT P fs.toList 0 d ok) : Opens P t d ok :=
  ⟨hc.symm, fun {H enc w base spare held fuel cs x} hr => by
    obtain ⟨xs, n, _, _, hl, hxs, hf⟩ := DataW.trod_struct ht hr
    obtain ⟨a, h1, h2⟩ := h.open_ (cs := cs) (by rw [hl, hc]; omega) (fun f hm => by
      obtain ⟨j, hj, rfl⟩ := List.getElem_of_mem hm
      have hj' : j < fs.size := by simpa using hj
      have := hf j fs[j] (Array.getElem?_eq_getElem hj')
      rw [List.getElem?_eq_getElem (by omega)] at this
      exact ⟨_, by simpa using this⟩)
    exact ⟨a, by simpa using h1, h2⟩⟩
theorem bI_of : ∀ {xs : List Int}, (∀ x ∈ xs, 0 ≤ x ∧ x ≤ 255) → ∃ b : Bs, bI b = xs
  | [], _ => ⟨[], rfl⟩
  | x :: xs, h => by
    obtain ⟨b, hb⟩ := bI_of (fun y hy => h y (List.mem_cons_of_mem _ hy))
    have hx := h x List.mem_cons_self
    refine ⟨UInt8.ofNat x.toNat :: b, ?_⟩
    show ((UInt8.ofNat x.toNat).toNat : Int) :: bI b = x :: xs
    rw [hb, UInt8.toNat_ofNat_of_lt' (by show x.toNat < 256; omega)]
    congr 1
    omega
def okN (e : PR.S28) : Prop := e.f0.size ≤ maxLen ∧ (Lit.int .i64 e.f1).wf = true ∧ (Lit.int .i64 e.f2).wf = true ∧ (Lit.int .i64 e.f3).wf = true ∧ ((∀ x ∈ e.f4, (Lit.int .u8 x).wf = true) ∧ e.f4.length ≤ maxLen)
def okVv (e : Vv) : Prop := (Lit.int .i64 e.f0).wf = true ∧ (Lit.int .i64 e.f1).wf = true ∧ okN e.f2 ∧ True
theorem opens_event : Opens Tryd.prog 30 PR.k30 okVv := by
  have hi := Opens.int (P := Tryd.prog) (e := 3) (k := .i64) Tryd.underlying3 (by kernel_rfl)
  have hb := Opens.int (P := Tryd.prog) (e := 5) (k := .u8) Tryd.underlying5 (by kernel_rfl)
  have hs := Opens.string (P := Tryd.prog) (e := 9) Tryd.underlying9 (by kernel_rfl)
  have hbo := Opens.bool (P := Tryd.prog) (e := 4) Tryd.underlying4 (by kernel_rfl)
  have hv := Opens.slice (P := Tryd.prog) (t := 26) Tryd.underlying26 (by kernel_rfl) hb
  have hn0 := Opens.struct (P := Tryd.prog) (t := 28) Tryd.underlying28 (by kernel_rfl)
    (OpensT.cons (o := 0) hs rfl (OpensT.cons hi rfl (OpensT.cons hi rfl (OpensT.cons hi rfl (OpensT.one hv rfl)))))
  have hn : Opens Tryd.prog 28 PR.k28 okN := Opens.iso (fun x : PR.S28 => (x.f0, x.f1, x.f2, x.f3, x.f4)) (fun y => ⟨y.1, y.2.1, y.2.2.1, y.2.2.2.1, y.2.2.2.2⟩) (fun _ => rfl) hn0
  have h := Opens.struct (P := Tryd.prog) (t := 30) Tryd.underlying30 (by kernel_rfl)
    (OpensT.cons (o := 0) hi rfl (OpensT.cons hi rfl (OpensT.cons hn rfl (OpensT.one hbo rfl))))
  exact Opens.iso (fun x : Vv => (x.f0, x.f1, x.f2, x.f3)) (fun y => ⟨y.1, y.2.1, y.2.2.1, y.2.2.2⟩) (fun _ => rfl) h
theorem event_of {e : Vv} (h : okVv e) : ∃ d : Ev, evOf d = e ∧ okE d := by
  obtain ⟨h0, h1, ⟨_, h3, h4, h5, h6, _⟩, _⟩ := h
  obtain ⟨v, hv⟩ := bI_of (xs := e.f2.f4) (fun x hx => by have h := bounds_u8 (h6 x hx); omega)
  have bi : ∀ {x : Int}, (Lit.int .i64 x).wf = true → I64 x := fun hx => by have h := bounds_i64 hx; exact ⟨by omega, by omega⟩
  refine ⟨⟨e.f0, e.f1, e.f2.f0.data.toList, e.f2.f1, e.f2.f2, e.f2.f3, v, e.f3⟩, ?_, bi h0, bi h1, bi h3, bi h4, bi h5⟩
  unfold evOf
  dsimp only
  rw [hv, show bsV e.f2.f0.data.toList = e.f2.f0 from by cases e.f2.f0; simp [bsV]]
theorem events_of : ∀ es : List Vv, (∀ e ∈ es, okVv e) → ∃ L : List Ev, L.map evOf = es ∧ ∀ d ∈ L, okE d
  | [], _ => ⟨[], rfl, fun d hd => by simp at hd⟩
  | e :: es, h => by
    obtain ⟨d, h1, h2⟩ := event_of (h e List.mem_cons_self)
    obtain ⟨L, h3, h4⟩ := events_of es (fun x hx => h x (List.mem_cons_of_mem _ hx))
    refine ⟨d :: L, by rw [List.map_cons, h1, h3], fun x hx => ?_⟩
    rcases List.mem_cons.1 hx with rfl | hx
    · exact h2
    · exact h4 x hx
theorem rows_event {w : World} {A : Option Addr} {es : List Vv} (hr : PR.k30.C w A es.length es) (hk : ∀ e ∈ es, okVv e) : ∃ L : List Ev, L.length = es.length ∧ kV.C w A L.length L ∧ ∀ d ∈ L, okE d := by
  obtain ⟨L, rfl, h⟩ := events_of es hk
  refine ⟨L, (List.length_map ..).symm, ?_, h⟩
  have := kV_of hr
  rwa [List.length_map] at this
end Go.Proofs.YtgfljpchdiapeaaDoor
