/- The contracts of Row, short; a new sketch that can't be. -/
import Derived.Test.YtpjdaglblckgfaaDoorSk3
import Derived.Test.YtpjdaglblckgfaaDoorBase
namespace Go.Proofs.YtpjdaglblckgfaaDoor
set_option linter.unusedVariables false
open Go.RowKit Go.Proofs.YtpjdaglblckgfaaDoorW.PrintWords

set_option maxHeartbeats 1000000 in
theorem New_bad (n : Int) (limit : Int) (w : World) (h : n < 1 ∨ 4096 < n ∨ limit < 0 ∨ 1099511627776 < limit) :
    Calls Tryd.prog 11 #[.int .i64 n, .int .i64 limit] w fun e w' => ∃ op at_, e = .returned (.tuple #[.pointer none, faultV w.heap.size]) ∧ w' = w.alloc (faultO op at_ 2 .nilIface) := by
  have H := Lib.hid h
  clear h
  by_cases h1 : n < 1
  · go_enter Tryd.func11, Tryd.ntmps11
    go_wp2_with (go_at_call 32; refine (new_any _ _ 2 rfl _).mono ?_; rintro e w' ⟨rfl, rfl⟩)
    go_ret2
    exact ⟨_, _, rfl, rfl⟩
  · by_cases h2 : 4096 < n
    · go_enter Tryd.func11, Tryd.ntmps11
      go_wp2_with (go_at_call 32; refine (new_any _ _ 2 rfl _).mono ?_; rintro e w' ⟨rfl, rfl⟩)
      go_ret2
      exact ⟨_, _, rfl, rfl⟩
    · by_cases h3 : limit < 0
      · go_enter Tryd.func11, Tryd.ntmps11
        go_wp2_with (go_at_call 32; refine (new_any _ _ 2 rfl _).mono ?_; rintro e w' ⟨rfl, rfl⟩)
        go_ret2
        exact ⟨_, _, rfl, rfl⟩
      · have h4 : 1099511627776 < limit := by have := H.out; omega
        go_enter Tryd.func11, Tryd.ntmps11
        go_wp2_with (go_at_call 32; refine (new_any _ _ 2 rfl _).mono ?_; rintro e w' ⟨rfl, rfl⟩)
        go_ret2
        exact ⟨_, _, rfl, rfl⟩

def shortB (ss : List ByteArray) : Bool := decide (ss.length ≤ 400 ∧ ∀ s ∈ ss, s.size ≤ 60)

set_option maxHeartbeats 1000000 in
theorem short_any (A : Option Addr) (c : Nat) (ss : List ByteArray) (w : World) (h : Kd.string.C w A ss.length ss) :
    Calls Tryd.prog 9 #[.slice A ss.length c] w fun e w' => e = .returned (.bool (shortB ss)) ∧ w = w' := by
  have H := Lib.hid h
  clear h
  by_cases hl : 400 < ss.length
  · go_enter Tryd.func9, Tryd.ntmps9
    go_wp2
    go_ret
    exact ⟨ret_bool (Eq.symm <| decide_eq_false (by omega)), rfl⟩
  · go_enter Tryd.func9, Tryd.ntmps9
    go_wp2
    go_loop [3] (fun i => ∃ k : Nat, k ≤ ss.length ∧ i = .int .i64 k ∧ Hid (∀ s ∈ ss.take k, s.size ≤ 60)) (fun i => ss.length - (intOf i).toNat)
    case atStart => exact ⟨0, Nat.zero_le _, rfl, fun s hs => by simp at hs⟩
    case round =>
      obtain ⟨k, hk, rfl, HK⟩ := hrel
      by_cases hlt : k < ss.length
      · obtain ⟨ad, hA, hc⟩ := at_str H.out hlt
        subst hA
        by_cases hs : 60 < (sget ss k).size
        · go_wp2
          go_ret
          refine ⟨?_, rfl⟩
          refine ret_bool (Eq.symm <| decide_eq_false ?_)
          rintro ⟨_, h2⟩
          have := h2 ss[k] (List.getElem_mem hlt)
          rw [sget_eq hlt] at hs
          omega
        · go_wp2
          go_round
          case rel =>
            refine ⟨k + 1, by omega, by go_num, ?_⟩
            intro s hm
            rw [take_s hlt] at hm
            rcases List.mem_append.1 hm with hm | hm
            · exact HK.out s hm
            · rw [List.mem_singleton.1 hm]
              omega
          case measure => simp [intOf]; omega
      · go_wp2
        go_ret
        refine ⟨?_, rfl⟩
        refine ret_bool (Eq.symm <| decide_eq_true ⟨by omega, fun s hs => HK.out s ?_⟩)
        rw [List.take_of_length_le (by omega)]
        exact hs

/-- A row of counts, as a list. -/
def Sk.rowL (S : Sk) (r : Nat) : List Int := (List.range S.width).map (S.row r)
theorem Sk.rowL_len (S : Sk) (r : Nat) : (S.rowL r).length = S.width := by simp [Sk.rowL]
theorem Sk.rowL_get (S : Sk) (r k : Nat) (h : k < S.width) : iget (S.rowL r) k = S.row r k := by rw [iget_eq (by rw [S.rowL_len]; exact h)]; simp [Sk.rowL]

theorem Row_out (p : Nat) (i : Int) (w : World) (hi : i < 0 ∨ 4 ≤ i) :
    Calls Tryd.prog 26 #[.pointer (some ⟨p, 0, none⟩), .int .i64 i] w fun e w' => e = .returned (.slice none 0 0) ∧ w = w' := by
  have H := Lib.hid hi
  clear hi
  by_cases h0 : i < 0
  · go_enter Tryd.func26, Tryd.ntmps26
    go_wp2
    go_ret
    exact ⟨rfl, rfl⟩
  · have h1 : 4 ≤ i := by have := H.out; omega
    go_enter Tryd.func26, Tryd.ntmps26
    go_wp2
    go_ret
    exact ⟨rfl, rfl⟩
set_option maxHeartbeats 1000000 in
theorem Row_any (p : Nat) (B : Nat → Nat) (S : Sk) (r : Nat) (hr : r < 4) (w : World) (hS : IsSk w p B S) :
    Calls Tryd.prog 26 #[.pointer (some ⟨p, 0, none⟩), .int .i64 r] w fun e w' => ∃ v, e = .returned v ∧ Kd.R (Kd.int .i64) 3 w' w.heap.size (fun _ => True) v (S.rowL r) ∧ Below w.heap.size w w' := by
  have hw1 := hS.w1
  have hw2 := hS.w2
  have c1 := hS.cell1 hr
  have HS := Lib.hid hS
  clear hS
  go_enter Tryd.func26, Tryd.ntmps26
  go_wp2
  go_loopw [5, 21] (fun v i wr => ∃ k : Nat, k ≤ S.width ∧ i = .int .i64 k ∧ Hid (Kd.R (Kd.int .i64) 3 wr w.heap.size (fun _ => True) v ((S.rowL r).take k) ∧ Below w.heap.size w wr)) (fun _ i _ => S.width - (intOf i).toNat)
  case atStart => exact ⟨0, Nat.zero_le _, rfl, Kd.R_nil _ _ _ _ _, Below.refl _ _⟩
  case round =>
    obtain ⟨k, hk, rfl, HD⟩ := hrel
    by_cases hlt : k < S.width
    · have c2 : wr.cell? ⟨B r, k, none⟩ = some (.int .u8 (S.row r k)) := (HD.out.2.cell (p := ⟨B r, k, none⟩) (HS.out.row r hr).lt).trans ((HS.out.row r hr).cell hlt)
      obtain ⟨b0, b1⟩ := HS.out.bd r k hr hlt
      go_wp2_with (at_builtin; refine Kd.R_append (Kd.int .i64) (w0 := w) w.heap.size rfl (.tmp 25) (.tmp 28) 48 3 (.int .i64 0) 8 rfl Tryd.underlying48 info_int rfl (by decide) (by omega) u5 ((S.rowL r).take k) (S.row r k) [.int .i64 (S.row r k)] (fun _ => True) (fun _ => False) rfl rfl rfl (fun _ hk => hk.elim) (fun _ _ => trivial) HD.out.1 HD.out.2 HD.out.2.size ?aL ?_; (case aL => simp [Sk.rowL_len]; omega); intro v1 w1 ho hb hg hat; have HO := Lib.hid ho; have HB := Lib.hid hb; clear ho hb hg hat)
      go_roundw
      case rel => exact ⟨k + 1, by omega, by go_num, by rw [take_i (by rw [Sk.rowL_len]; exact hlt), Sk.rowL_get _ _ _ hlt]; exact HO.out, HB.out⟩
      case measure => simp [intOf]; omega
    · go_wp2
      go_ret
      refine ⟨_, rfl, ?_, HD.out.2⟩
      have := HD.out.1
      rwa [List.take_of_length_le (by rw [Sk.rowL_len]; omega)] at this
end Go.Proofs.YtpjdaglblckgfaaDoor
