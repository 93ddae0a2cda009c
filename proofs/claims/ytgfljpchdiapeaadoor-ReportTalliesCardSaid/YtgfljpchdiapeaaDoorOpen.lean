/- From an argument that reads as a datum to what the print's words say of memory, kind by kind. -/
import Derived.Test.YtgfljpchdiapeaaDoorWWords
import Derived.ChangeArms
import Derived.ChangeShapes
import Derived.Deep.Slices
namespace Go.Proofs.YtgfljpchdiapeaaDoor
set_option linter.unusedVariables false
open Go.RowKit Go.Proofs.YtgfljpchdiapeaaDoorW.PrintWords

/-- Whatever reads as a datum of type e is of the kind d, and is as 'ok' says. -/
structure Opens (P : Program) (e : TypeId) {α : Type} (d : Kd α) (ok : α → Prop) : Prop where
  sz : d.sz = P.cellsOf e
  open_ : ∀ {H : Type} {enc : TypeId × Value → H} {w : World} {base : Nat} {spare : Nat → Bool} {held : Bool} {fuel : Nat} {cs : List Value} {x : DataW H × List MemPlace}, DataW.trod enc P w base spare held fuel e cs = some x → ∃ a, d.K w a cs ∧ ok a

section
variable {P : Program} {e : TypeId}
theorem Opens.int {k : IntKind} (he : P.underlying e = some (.int k)) (hc : P.cellsOf e = 1) : Opens P e (Kd.int k) (fun n => (Lit.int k n).wf = true) :=
  ⟨hc.symm, fun h => by
    obtain ⟨n, hcs, _, hw⟩ := DataW.trod_int he h
    exact ⟨n, hcs, hw⟩⟩
theorem Opens.string (he : P.underlying e = some .string) (hc : P.cellsOf e = 1) : Opens P e Kd.string (fun s => s.size ≤ maxLen) :=
  ⟨hc.symm, fun h => by
    obtain ⟨n, hcs, _, hw⟩ := DataW.trod_string he h
    exact ⟨n, hcs, hw⟩⟩
theorem Opens.bool (he : P.underlying e = some .bool) (hc : P.cellsOf e = 1) : Opens P e Kd.bool (fun _ => True) :=
  ⟨hc.symm, fun h => by
    obtain ⟨n, hcs, _⟩ := DataW.trod_bool he h
    exact ⟨n, hcs, trivial⟩⟩
theorem list_of {α : Type} {Q : Nat → α → Prop} : ∀ n : Nat, (∀ i, i < n → ∃ a, Q i a) → ∃ xs : List α, xs.length = n ∧ ∀ i p, xs[i]? = some p → Q i p
  | 0, _ => ⟨[], rfl, fun i p h => by simp at h⟩
  | n + 1, h => by
    obtain ⟨xs, hl, hx⟩ := list_of n (fun i hi => h i (by omega))
    obtain ⟨a, ha⟩ := h n (by omega)
    refine ⟨xs ++ [a], by simp [hl], fun i p hp => ?_⟩
    rcases Nat.lt_or_ge i xs.length with hi | hi
    · rw [List.getElem?_append_left hi] at hp
      exact hx i p hp
    · have hi' : i = n := by
        have := (List.getElem?_eq_some_iff.1 hp).1
        simp at this
        omega
      subst hi'
      rw [List.getElem?_append_right hi, hl] at hp
      simp at hp
      subst hp
      exact ha
theorem mapM_at {w : World} {a : Addr} : ∀ (l : List Nat) (cs : List Value), l.mapM (fun i => w.cell? (a.add i)) = some cs → cs.length = l.length ∧ ∀ (i j : Nat) (u : Value), l[i]? = some j → cs[i]? = some u → w.cell? (a.add j) = some u
  | [], cs, h => by
    simp at h
    subst h
    exact ⟨rfl, fun i j u h => by simp at h⟩
  | n :: l, cs, h => by
    rw [List.mapM_cons] at h
    simp only [Option.bind_eq_bind, Option.bind_eq_some_iff, Option.pure_def, Option.some.injEq] at h
    obtain ⟨v, hv, vs, hvs, rfl⟩ := h
    obtain ⟨h1, h2⟩ := mapM_at l vs hvs
    refine ⟨by simp [h1], fun i j u hi hu => ?_⟩
    rcases i with _ | i
    · simp at hi hu
      subst hi hu
      exact hv
    · simp at hi hu
      exact h2 i j u hi hu
theorem cells_get {w : World} {base : Nat} {a : Addr} {n : Nat} {cs : List Value} (h : w.cells? base a n = some cs) : cs.length = n ∧ ∀ (i : Nat) (u : Value), cs[i]? = some u → w.cell? (a.add i) = some u := by
  unfold World.cells? at h
  split at h
  · obtain ⟨h1, h2⟩ := mapM_at _ _ h
    refine ⟨by simpa using h1, fun i u hu => h2 i i u ?_ hu⟩
    have := (List.getElem?_eq_some_iff.1 hu).1
    rw [h1] at this
    simp at this
    rw [List.getElem?_range this]
  · cases h
theorem Opens.slice {t : TypeId} {α : Type} {d : Kd α} {ok : α → Prop} (ht : P.underlying t = some (.slice e)) (hc : P.cellsOf t = 1) (hd : Opens P e d ok) : Opens P t (Kd.slice e d) (fun xs => (∀ x ∈ xs, ok x) ∧ xs.length ≤ maxLen) := by
  refine ⟨hc.symm, fun {H enc w base spare held fuel cs x} h => ?_⟩
  rcases DataW.trod_slice ht h with ⟨h0, _⟩ | ⟨a, len, cap, elems, rest, n, _, hcs, _, hb, hl, hm, hlen, hel, _, _⟩
  · exact ⟨[], ⟨none, 0, h0, Nat.le_refl _, rfl, by simp, fun hp => absurd hp (by simp)⟩, ⟨fun x hx => by simp at hx, by simp [maxLen]⟩⟩
  · have each : ∀ i, i < len → ∃ p, ∃ c, w.cells? base (a.add (i * P.cellsOf e)) (P.cellsOf e) = some c ∧ d.K w p c ∧ ok p := fun i hi => by
      have h1 := hel i hi
      rw [List.getElem?_eq_getElem (by omega)] at h1
      obtain ⟨c, hc1, hc2⟩ := Option.bind_eq_some_iff.1 h1
      obtain ⟨p, hp1, hp2⟩ := hd.open_ hc2
      exact ⟨p, c, hc1, hp1, hp2⟩
    obtain ⟨xs, hxl, hx⟩ := list_of len each
    refine ⟨xs, ⟨some a, cap, by rw [hcs, hxl], by omega, rfl, by rw [hxl]; simp only [maxLen] at hm; omega, fun _ => ⟨a, rfl, fun j p hj => ?_⟩⟩, fun x hx' => ?_, by omega⟩
    · obtain ⟨c, h1, h2, h3⟩ := hx j p hj
      obtain ⟨h4, h5⟩ := cells_get h1
      refine ⟨c, by rw [h4, hd.sz], h2, fun i u hu => ?_⟩
      have := h5 i u hu
      rw [hd.sz]
      rw [Go.Deep.add_add] at this
      exact this
    · obtain ⟨j, hj, rfl⟩ := List.getElem_of_mem hx'
      obtain ⟨c, h1, h2, h3⟩ := hx j _ (List.getElem?_eq_getElem hj)
      exact h3
theorem Opens.pair {t : TypeId} {f0 f1 : Field} {α β : Type} {d0 : Kd α} {d1 : Kd β} {ok0 : α → Prop} {ok1 : β → Prop} (ht : P.underlying t = some (.struct #[f0, f1])) (o0 : f0.offset = 0) (o1 : f1.offset = d0.sz) (hc : P.cellsOf t = d0.sz + d1.sz)
    (h0 : Opens P f0.type d0 ok0) (h1 : Opens P f1.type d1 ok1) : Opens P t (Kd.pair d0 d1) (fun x => ok0 x.1 ∧ ok1 x.2) := by
  refine ⟨hc.symm, fun {H enc w base spare held fuel cs x} h => ?_⟩
  obtain ⟨xs, n, _, _, hl, hxs, hf⟩ := DataW.trod_struct ht h
  have hxl : xs.length = 2 := hxs
  have e0 := hf 0 f0 rfl
  have e1 := hf 1 f1 rfl
  rw [List.getElem?_eq_getElem (by omega)] at e0 e1
  obtain ⟨a, ha1, ha2⟩ := h0.open_ e0
  obtain ⟨b, hb1, hb2⟩ := h1.open_ e1
  rw [o0, ← h0.sz, List.drop_zero] at ha1
  rw [o1, ← h1.sz] at hb1
  refine ⟨(a, b), ⟨_, _, ?_, ha1, hb1⟩, ha2, hb2⟩
  rw [List.take_of_length_le (l := cs.drop d0.sz) (by rw [List.length_drop, hl, hc]; omega), List.take_append_drop]
theorem Opens.iso {t : TypeId} {α β : Type} {d : Kd α} {ok : α → Prop} (f : β → α) (g : α → β) (hfg : ∀ a, f (g a) = a) (h : Opens P t d ok) : Opens P t (Kd.iso d f) (fun b => ok (f b)) :=
  ⟨h.sz, fun ht => by
    obtain ⟨a, h1, h2⟩ := h.open_ ht
    exact ⟨g a, by show d.K _ (f (g a)) _; rw [hfg]; exact h1, by rw [hfg]; exact h2⟩⟩
theorem Opens.arg {t : TypeId} {α : Type} {d : Kd α} {ok : List α → Prop} (hs : Opens P t (Kd.slice e d) ok) {H : Type} {enc : TypeId × Value → H} {w : World} {base : Nat} {spare : Nat → Bool} {held : Bool} {A : Option Addr} {n c : Nat} {x : DataW H} {ps : List MemPlace}
    (h : DataW.Trod enc P w base spare held t (.slice A n c) x ps) : ∃ xs : List α, n = xs.length ∧ xs.length ≤ c ∧ d.C w A xs.length xs ∧ ok xs := by
  obtain ⟨fuel, hf⟩ := h
  obtain ⟨xs, ⟨A', c', hcs, hc, hr⟩, ho⟩ := hs.open_ hf
  simp [Value.cells] at hcs
  obtain ⟨rfl, rfl, rfl⟩ := hcs
  exact ⟨xs, rfl, hc, hr, ho⟩
end
end Go.Proofs.YtgfljpchdiapeaaDoor
