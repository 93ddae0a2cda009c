/- What a call may have changed: of the blocks that were there those of which M holds, and no others. -/
import Derived.Test.YtgfljpchdiapeaaDoorProg
import Derived.WalkKit
import Derived.Deep.Draws
namespace Go.Proofs.YtgfljpchdiapeaaDoor
open Go.RowKit

/-- A contract of a callee that leaves the world as it is, met in a region that draws its order. -/
theorem quiet_eq {P : Program} {f : FuncId} {args : Array Value} {w : World} {n : Nat} {v : Value}
    (h : Calls P f args (w.drewN n) fun e w' => e = .returned v ∧ w.drewN n = w') : Calls P f args (w.drewN n) fun e w'' => e = .returned v ∧ ∃ m, w'' = w.drewN m :=
  h.mono fun _ _ ⟨he, hm⟩ => ⟨he, n, hm.symm⟩

theorem list_snoc {α : Type} {P : List α → Prop} (h0 : P []) (h1 : ∀ l a, P l → P (l ++ [a])) (l : List α) : P l := by
  have h : ∀ l : List α, P l.reverse := fun l => by
    induction l with
    | nil => exact h0
    | cons a l ih => rw [List.reverse_cons]; exact h1 _ _ ih
  simpa using h l.reverse
theorem bytes_beq (a b : ByteArray) : (a.toList == b.toList) = true ↔ a = b := by
  rw [beq_iff_eq, ByteArray.toList_eq, ByteArray.toList_eq]
  refine ⟨fun h => ?_, fun h => by rw [h]⟩
  cases a; cases b
  simpa using h

structure Chg (M : Nat → Prop) (w w' : World) : Prop where
  os : w'.os = w.os
  tape : w'.tape = w.tape
  output : w'.output = w.output
  size : w.heap.size ≤ w'.heap.size
  block : ∀ k, k < w.heap.size → ¬ M k → w'.heap[k]? = w.heap[k]?
namespace Chg
variable {M M' : Nat → Prop} {a b c w : World}
theorem refl (M : Nat → Prop) (w : World) : Chg M w w := ⟨rfl, rfl, rfl, Nat.le_refl _, fun _ _ _ => rfl⟩
theorem trans (h : Chg M a b) (k : Chg M b c) : Chg M a c :=
  ⟨k.os.trans h.os, k.tape.trans h.tape, k.output.trans h.output, Nat.le_trans h.size k.size, fun i hi hM => (k.block i (Nat.lt_of_lt_of_le hi h.size) hM).trans (h.block i hi hM)⟩
theorem mono (h : Chg M a b) (hM : ∀ k, k < a.heap.size → M k → M' k) : Chg M' a b := ⟨h.os, h.tape, h.output, h.size, fun k hk hn => h.block k hk (fun hm => hn (hM k hk hm))⟩
theorem drewN (h : Chg M a b) (n : Nat) : Chg M a (b.drewN n) := ⟨h.os, h.tape, h.output, h.size, h.block⟩
theorem alloc (h : Chg M a b) (o : Obj) : Chg M a (b.alloc o) :=
  h.trans ⟨rfl, rfl, rfl, by simp, fun k hk _ => Below.heap_alloc _ _ _ hk⟩
theorem setCell (h : Chg M a b) {p : Addr} (hp : M p.block) (v : Value) : Chg M a (b.setCell p v) :=
  h.trans ⟨rfl, rfl, rfl, by simp [World.setCell], fun k _ hM => Below.heap_setCell _ _ _ _ (fun e => hM (e ▸ hp))⟩
theorem of_below (h : Below a.heap.size a b) : Chg M a b := ⟨h.os, h.tape, h.output, h.size, fun k hk _ => h.block k hk⟩
theorem then_below (h : Chg M a b) (k : Below b.heap.size b c) : Chg M a c := h.trans (of_below k)
theorem below (h : Chg M a b) {B : Nat} (hB : B ≤ a.heap.size) (hM : ∀ k, k < B → ¬ M k) : Below B a b := ⟨h.os, h.tape, h.output, h.size, fun k hk => h.block k (Nat.lt_of_lt_of_le hk hB) (hM k hk)⟩
/-- Below a number, and on by a call that changes what is not below it. -/
theorem _root_.Go.RowKit.Below.chg {B : Nat} {a b c : World} {M : Nat → Prop} (h : Below B a b) (hB : B ≤ b.heap.size) (k : Chg M b c) (hM : ∀ k, k < B → ¬ M k) : Below B a c :=
  h.trans (k.below hB hM)
theorem cell (h : Chg M a b) {p : Addr} (hp : p.block < a.heap.size) (hM : ¬ M p.block) : b.cell? p = a.cell? p := World.cell?_of_block (w := a) (h.block _ hp hM)
end Chg
end Go.Proofs.YtgfljpchdiapeaaDoor
