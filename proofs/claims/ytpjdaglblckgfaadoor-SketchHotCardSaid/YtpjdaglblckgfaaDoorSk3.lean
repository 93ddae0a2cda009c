/- The contract of a new sketch. -/
import Derived.Test.YtpjdaglblckgfaaDoorSk2
import Derived.Test.YtpjdaglblckgfaaDoorErr2
import Derived.StillTailTactics
namespace Go.Proofs.YtpjdaglblckgfaaDoor
set_option linter.unusedVariables false
open Go.RowKit

theorem info_u8 : (Tryd.prog.info? 5).map (fun i => (i.zero, i.size, i.bytes)) = some (some (.int .u8 0), 1, 1) := by kernel_rfl

/-- A sketch that was made just now. -/
def Sk.new (width : Nat) (limit : Int) : Sk := { width := width, row := fun _ _ => 0, total := 0, limit := limit, aged := 0 }

/-- The head of a sketch of which some rows have been made. -/
def newCells (width : Nat) (limit : Int) (b r i : Nat) : Value :=
  if i = 0 then .int .i64 width else if i < 1 + r then .slice (some ⟨b + i, 0, none⟩) width width else if i < 5 then .slice none 0 0 else if i = 6 then .int .i64 limit else .int .i64 0

set_option maxHeartbeats 1000000 in
theorem New_ok (n : Nat) (limit : Int) (w : World) (h1 : 1 ≤ n) (h2 : n ≤ 4096) (l0 : 0 ≤ limit) (l1 : limit ≤ 1099511627776) :
    Calls Tryd.prog 11 #[.int .i64 n, .int .i64 limit] w fun e w' => e = .returned (.tuple #[.pointer (some ⟨w.heap.size, 0, none⟩), .nilIface]) ∧ IsSk w' w.heap.size (fun r => w.heap.size + (1 + r)) (Sk.new n limit) ∧ Below w.heap.size w w' ∧ w'.heap.size = w.heap.size + 5 := by
  have hmk := run_make_row' (P := Tryd.prog) 59 5 (.int .u8 0) 1 Tryd.underlying59 info_u8 rfl .i64 .i64 n (by omega) (by omega)
  go_enter Tryd.func11, Tryd.ntmps11
  go_wp2
  go_loopw [30] (fun i wr => ∃ r : Nat, r ≤ 4 ∧ i = .int .i64 r ∧ Hid (wr.heap.size = w.heap.size + 1 + r ∧ Below w.heap.size w wr ∧ wr.rowIs w.heap.size 62 8 (newCells n limit w.heap.size r) ∧ ∀ j, j < r → wr.rowIs (w.heap.size + (1 + j)) 5 n (fun _ => .int .u8 0))) (fun i _ => 4 - (intOf i).toNat)
  case atStart =>
    refine ⟨0, Nat.zero_le _, rfl, by simp, (Below.refl _ _).alloc (Nat.le_refl _) _, ?_, fun j hj => by omega⟩
    refine (World.rowIs_alloc _ _ _ (newCells n limit w.heap.size 0) fun i hi => ?_)
    rcases i with _ | _ | _ | _ | _ | _ | _ | _ | i <;> first | rfl | (simp at hi; omega)
  case round =>
    obtain ⟨r, hr, rfl, HD⟩ := hrel
    by_cases hlt : r < 4
    · have c1 : wr.cell? ⟨w.heap.size, 1 + r, none⟩ = some (.slice none 0 0) := by
        rw [HD.out.2.2.1.cell (by omega)]
        simp only [newCells]
        rw [if_neg (by omega), if_neg (by omega), if_pos (by omega)]
      have f1 : wr.frozen? ⟨w.heap.size, 1 + r, none⟩ = false := HD.out.2.2.1.frozen _
      have hlt2 : w.heap.size < wr.heap.size := by have := HD.out.1; omega
      go_wp2
      go_region
      go_wp2
      go_roundw
      case rel =>
        refine ⟨r + 1, by omega, by go_num, ?_⟩
        have hz := HD.out.1
        have hz2 : (wr.setCell ⟨w.heap.size, 1 + r, none⟩ (Value.slice (some ⟨wr.heap.size, 0, none⟩) n n)).heap.size = w.heap.size + (1 + r) := by simp [World.setCell]; omega
        refine ⟨by simp [World.setCell]; omega, ((HD.out.2.1.setCell (Nat.le_refl _) _).alloc (by omega) _).drew, ?_, fun j hj => ?_⟩
        · refine ((HD.out.2.2.1.set (1 + r) _).alloc _).drew.congr fun i hi => ?_
          simp only [newCells]
          by_cases e : i = 1 + r
          · subst e
            rw [if_pos rfl, if_neg (by omega), if_pos (by omega)]
            congr 3
            omega
          · rw [if_neg e]
            by_cases e0 : i = 0
            · rw [if_pos e0, if_pos e0]
            · rw [if_neg e0, if_neg e0]
              by_cases e1 : i < 1 + r
              · rw [if_pos e1, if_pos (by omega)]
              · rw [if_neg e1, if_neg (by omega : ¬ i < 1 + (r + 1))]
        · by_cases e : j = r
          · subst e
            have := World.rowIs_made (wr.setCell ⟨w.heap.size, 1 + j, none⟩ (Value.slice (some ⟨wr.heap.size, 0, none⟩) n n)) (.int .u8 0) n 5
            rw [hz2] at this
            exact this
          · exact (((HD.out.2.2.2 j (by omega)).setOther (by show w.heap.size + (1 + j) ≠ w.heap.size; omega) _).alloc _).drew
      case measure => simp [intOf]; omega
    · go_wp2
      go_ret2
      obtain rfl : r = 4 := by omega
      refine ⟨rfl, ⟨h1, h2, HD.out.2.2.1.congr fun i hi => ?_, fun r hr => HD.out.2.2.2 r hr, fun r hr => by omega, fun r s hr hs hne => by omega, fun r k hr hk => by simp [Sk.new]⟩, HD.out.2.1, HD.out.1⟩
      rcases i with _ | _ | _ | _ | _ | _ | _ | _ | i <;> first | rfl | (simp at hi; omega)
end Go.Proofs.YtpjdaglblckgfaaDoor
