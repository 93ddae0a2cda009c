/- From an argument that reads as a datum: structs of any number of fields; deeds; bytes. -/
import Derived.OpenShut
import Derived.Test.YtbckbpimabmacaaDoorOpen
import Derived.Test.YtbckbpimabmacaaDoorG9
namespace Go.Proofs.YtbckbpimabmacaaDoor
set_option linter.unusedVariables false
set_option linter.unusedSimpArgs false
open Go.RowKit Go.Proofs.YtbckbpimabmacaaDoorW.PrintWords

/-- The fields of a struct from place o on. -/
structure OpensT (P : Program) (fs : List Field) (o : Nat) {α : Type} (d : Kd α) (ok : α → Prop) : Prop where
  open_ : ∀ {H : Type} {enc : TypeId × Value → H} {w : World} {base : Nat} {spare : Nat → Bool} {held : Bool} {n : Nat} {cs : List Value}, cs.length = o + d.sz → (∀ f ∈ fs, ∃ y, DataW.trod enc P w base spare held n f.type ((cs.drop f.offset).take (P.cellsOf f.type)) = some y) → ∃ a, d.K w a (cs.drop o) ∧ ok a
theorem OpensT.one {P : Program} {f : Field} {o : Nat} {α : Type} {d : Kd α} {ok : α → Prop} (h : Opens P f.type d ok) (ho : f.offset = o) : OpensT P [f] o d ok :=
  ⟨fun hl hf => by
    obtain ⟨y, hy⟩ := hf f List.mem_cons_self
    obtain ⟨a, h1, h2⟩ := h.open_ hy
    rw [ho, ← h.sz, List.take_of_length_le (by rw [List.length_drop, hl]; omega)] at h1
    exact ⟨a, h1, h2⟩⟩
theorem OpensT.cons {P : Program} {f : Field} {fs : List Field} {o : Nat} {α β : Type} {d0 : Kd α} {d1 : Kd β} {ok0 : α → Prop} {ok1 : β → Prop} (h : Opens P f.type d0 ok0) (ho : f.offset = o) (ht : OpensT P fs (o + d0.sz) d1 ok1) : OpensT P (f :: fs) o (Kd.pair d0 d1) (fun x => ok0 x.1 ∧ ok1 x.2) :=
  ⟨fun {H enc w base spare held n cs} hl hf => by
    obtain ⟨y, hy⟩ := hf f List.mem_cons_self
    obtain ⟨a, h1, h2⟩ := h.open_ hy
    obtain ⟨b, h3, h4⟩ := ht.open_ (cs := cs) (by rw [hl]; show o + (d0.sz + d1.sz) = _; omega) (fun g hg => hf g (List.mem_cons_of_mem _ hg))
    rw [ho, ← h.sz] at h1
    refine ⟨(a, b), ⟨_, _, ?_, h1, h3⟩, h2, h4⟩
    rw [← List.drop_drop, List.take_append_drop]⟩
theorem Opens.struct {P : Program} {t : TypeId} {fs : Array Field} {α : Type} {d : Kd α} {ok : α → Prop} (ht : P.underlying t = some (.struct fs)) (hc : P.cellsOf t = d.sz) (h : OpensT P fs.toList 0 d ok) : Opens P t d ok :=
  ⟨hc.symm, fun {H enc w base spare held fuel cs x} hr => by
    obtain ⟨xs, n, _, _, hl, hxs, hf⟩ := DataW.trod_struct ht hr
    obtain ⟨a, h1, h2⟩ := h.open_ (cs := cs) (by rw [hl, hc]; omega) (fun f hm => by
      obtain ⟨j, hj, rfl⟩ := List.getElem_of_mem hm
      have hj' : j < fs.size := by simpa using hj
      have := hf j fs[j] (Array.getElem?_eq_getElem hj')
      rw [List.getElem?_eq_getElem (by omega)] at this
      exact ⟨_, by simpa using this⟩)
    exact ⟨a, by simpa using h1, h2⟩⟩
theorem bI_of : ∀ {xs : List Int}, (∀ x ∈ xs, 0 ≤ x ∧ x ≤ 255) → ∃ b : Bs, bI b = xs
  | [], _ => ⟨[], rfl⟩
  | x :: xs, h => by
    obtain ⟨b, hb⟩ := bI_of (fun y hy => h y (List.mem_cons_of_mem _ hy))
    have hx := h x List.mem_cons_self
    refine ⟨UInt8.ofNat x.toNat :: b, ?_⟩
    show ((UInt8.ofNat x.toNat).toNat : Int) :: bI b = x :: xs
    rw [hb, UInt8.toNat_ofNat_of_lt' (by show x.toNat < 256; omega)]
    congr 1
    omega
def okE (e : De) : Prop := (Lit.int .i64 e.f0).wf = true ∧ (Lit.int .i64 e.f1).wf = true ∧ e.f2.size ≤ maxLen ∧ ((∀ x ∈ e.f3, (Lit.int .u8 x).wf = true) ∧ e.f3.length ≤ maxLen) ∧ (Lit.int .i64 e.f4).wf = true ∧ (Lit.int .i64 e.f5).wf = true ∧ (Lit.int .u8 e.f6).wf = true ∧ (Lit.int .u8 e.f7).wf = true ∧ ((∀ x ∈ e.f8, (Lit.int .i64 x).wf = true) ∧ e.f8.length ≤ maxLen)
theorem opens_deed : Opens Tryd.prog 45 PR.k45 okE := by
  have hi := Opens.int (P := Tryd.prog) (e := 3) (k := .i64) Tryd.underlying3 (by kernel_rfl)
  have hb := Opens.int (P := Tryd.prog) (e := 5) (k := .u8) Tryd.underlying5 (by kernel_rfl)
  have hs := Opens.string (P := Tryd.prog) (e := 9) Tryd.underlying9 (by kernel_rfl)
  have hv := Opens.slice (P := Tryd.prog) (t := 22) Tryd.underlying22 (by kernel_rfl) hb
  have hk := Opens.slice (P := Tryd.prog) (t := 43) Tryd.underlying43 (by kernel_rfl) hi
  have h := Opens.struct (P := Tryd.prog) (t := 45) Tryd.underlying45 (by kernel_rfl)
    (OpensT.cons (o := 0) hi rfl (OpensT.cons hi rfl (OpensT.cons hs rfl (OpensT.cons hv rfl (OpensT.cons hi rfl (OpensT.cons hi rfl (OpensT.cons hb rfl (OpensT.cons hb rfl (OpensT.one hk rfl)))))))))
  exact Opens.iso (fun x : De => (x.f0, x.f1, x.f2, x.f3, x.f4, x.f5, x.f6, x.f7, x.f8)) (fun y => ⟨y.1, y.2.1, y.2.2.1, y.2.2.2.1, y.2.2.2.2.1, y.2.2.2.2.2.1, y.2.2.2.2.2.2.1, y.2.2.2.2.2.2.2.1, y.2.2.2.2.2.2.2.2⟩) (fun _ => rfl) h
theorem deed_of {e : De} (h : okE e) : ∃ d : Dd, deOf d = e ∧ okD d := by
  obtain ⟨h0, h1, _, ⟨h3, _⟩, h4, h5, h6, h7, h8, _⟩ := h
  obtain ⟨v, hv⟩ := bI_of (xs := e.f3) (fun x hx => by have h := bounds_u8 (h3 x hx); omega)
  have bi : ∀ {x : Int}, (Lit.int .i64 x).wf = true → I64 x := fun hx => by have h := bounds_i64 hx; exact ⟨by omega, by omega⟩
  refine ⟨⟨e.f0, e.f1, e.f2.data.toList, v, e.f4, e.f5, e.f6, e.f7, e.f8⟩, ?_, bi h0, bi h1, bi h4, bi h5, ?_, ?_, fun x hx => bi (h8 x hx)⟩
  · unfold deOf
    dsimp only
    rw [hv, show bsV e.f2.data.toList = e.f2 from by cases e.f2; simp [bsV]]
  · exact bounds_u8 h6
  · exact bounds_u8 h7
theorem deeds_of : ∀ es : List De, (∀ e ∈ es, okE e) → ∃ L : List Dd, L.map deOf = es ∧ ∀ d ∈ L, okD d
  | [], _ => ⟨[], rfl, fun d hd => by simp at hd⟩
  | e :: es, h => by
    obtain ⟨d, h1, h2⟩ := deed_of (h e List.mem_cons_self)
    obtain ⟨L, h3, h4⟩ := deeds_of es (fun x hx => h x (List.mem_cons_of_mem _ hx))
    refine ⟨d :: L, by rw [List.map_cons, h1, h3], fun x hx => ?_⟩
    rcases List.mem_cons.1 hx with rfl | hx
    · exact h2
    · exact h4 x hx
/-- Rows that came in are rows of deeds. -/
theorem rows_deed {w : World} {A : Option Addr} {es : List De} (hr : PR.k45.C w A es.length es) (hk : ∀ e ∈ es, okE e) : ∃ L : List Dd, L.length = es.length ∧ kD.C w A L.length L ∧ ∀ d ∈ L, okD d := by
  obtain ⟨L, rfl, h⟩ := deeds_of es hk
  rw [List.length_map] at hr
  refine ⟨L, (List.length_map ..).symm, ⟨rfl, hr.2.1, fun hn => ?_⟩, h⟩
  obtain ⟨ad, e, hc⟩ := hr.2.2 hn
  refine ⟨ad, e, fun j d hj => hc j (deOf d) ?_⟩
  rw [List.getElem?_map, hj]
  rfl
end Go.Proofs.YtbckbpimabmacaaDoor
