/- DeL Bytes in words: deeds.Quote. Bytes in words, by the document: Quote. Words of bytes read: the document's Unquote. Words of bytes read: deeds.Unquote. -/
import Derived.Shelf.Lays
import Derived.Shelf.Strings.Builder1
import Derived.Shelf.Strings.OnBuilder
import Derived.Shelf.Strings.Split
import Derived.Test.YtgfljpchdiapeaaDoorG1
/-! The library's strings.Builder, Join, Split as this seat's program has them. -/
set_option maxRecDepth 100000
namespace Go.Proofs.YtgfljpchdiapeaaDoor
open Go.Shelf
def lyB_ren : Go.Shelf.Ren := ⟨fun | 167 => 39 | 156 => 35 | 165 => 54 | 166 => 38 | 169 => 40 | 240 => 57 | 241 => 74 | 276 => 75 | 277 => 87 | n => n, fun | 31 => 47 | 9 => 9 | 3 => 3 | 4 => 4 | 0 => 0 | 20 => 20 | 72 => 71 | 76 => 72 | 70 => 69 | 37 => 26 | 75 => 34 | 127 => 98 | 164 => 100 | 5 => 5 | 80 => 75 | n => n, fun | n => n⟩
theorem lyB : Lays.n156 Tryd.prog lyB_ren := { mixed := by kernel_rfl, f156 := Tryd.func35.trans (congrArg some (by kernel_rfl)), f165 := Tryd.func54.trans (congrArg some (by kernel_rfl)), f166 := Tryd.func38.trans (congrArg some (by kernel_rfl)), f169 := Tryd.func40.trans (congrArg some (by kernel_rfl)), f240 := Tryd.func57.trans (congrArg some (by kernel_rfl)), f241 := Tryd.func74.trans (congrArg some (by kernel_rfl)), f276 := Tryd.func75.trans (congrArg some (by kernel_rfl)), f277 := Tryd.func87.trans (congrArg some (by kernel_rfl)), t0 := Tryd.underlying0, a0 := Tryd.isAgg0, z0 := Tryd.sizeOf0, v0 := Tryd.zeroValue0, t3 := Tryd.underlying3, a3 := Tryd.isAgg3, z3 := Tryd.sizeOf3, v3 := Tryd.zeroValue3, t4 := Tryd.underlying4, a4 := Tryd.isAgg4, z4 := Tryd.sizeOf4, v4 := Tryd.zeroValue4, t9 := Tryd.underlying9, a9 := Tryd.isAgg9, z9 := Tryd.sizeOf9, v9 := Tryd.zeroValue9, t20 := Tryd.underlying20, a20 := Tryd.isAgg20, z20 := Tryd.sizeOf20, v20 := Tryd.zeroValue20, t31 := Tryd.underlying47, a31 := Tryd.isAgg47, z31 := Tryd.sizeOf47, v31 := Tryd.zeroValue47, t37 := Tryd.underlying26, a37 := Tryd.isAgg26, z37 := Tryd.sizeOf26, v37 := Tryd.zeroValue26, t70 := Tryd.underlying69, a70 := Tryd.isAgg69, z70 := Tryd.sizeOf69, v70 := Tryd.zeroValue69, t72 := Tryd.underlying71, a72 := Tryd.isAgg71, z72 := Tryd.sizeOf71, v72 := Tryd.zeroValue71, t75 := Tryd.underlying34, a75 := Tryd.isAgg34, z75 := Tryd.sizeOf34, v75 := Tryd.zeroValue34, t76 := Tryd.underlying72, a76 := Tryd.isAgg72, z76 := Tryd.sizeOf72, v76 := Tryd.zeroValue72, t127 := Tryd.underlying98, a127 := Tryd.isAgg98, z127 := Tryd.sizeOf98, v127 := Tryd.zeroValue98, t164 := Tryd.underlying100, a164 := Tryd.isAgg100, z164 := Tryd.sizeOf100, v164 := Tryd.zeroValue100 }
theorem ly166 : Lays.n166 Tryd.prog lyB_ren := { lyB with }
theorem ly167 : Lays.n167 Tryd.prog lyB_ren := { lyB with f167 := Tryd.func39.trans (congrArg some (by kernel_rfl)), t5 := Tryd.underlying5, a5 := Tryd.isAgg5, z5 := Tryd.sizeOf5, v5 := Tryd.zeroValue5 }
theorem ly169 : Lays.n169 Tryd.prog lyB_ren := { lyB with }
theorem lyX : Builder.Extra Tryd.prog lyB_ren where
  sizeBuilder := by kernel_rfl
  liesBuilder := by kernel_rfl
  t5 := Tryd.underlying5
  a5 := Tryd.isAgg5
  z5 := Tryd.sizeOf5
  v5 := Tryd.zeroValue5
  infoByte := by kernel_rfl
  cellsByte := by kernel_rfl
  sizeByte := by kernel_rfl
  neB5 := by decide
def lyS_ren : Go.Shelf.Ren := ⟨fun | 146 => 42 | 221 => 58 | 268 => 76 | 138 => 77 | 143 => 78 | 195 => 88 | 197 => 89 | 218 => 90 | 219 => 91 | 260 => 95 | 217 => 96 | 225 => 97 | 224 => 98 | 267 => 99 | 266 => 101 | 314 => 102 | n => n, fun | 9 => 9 | 31 => 47 | 3 => 3 | 4 => 4 | 0 => 0 | 105 => 142 | 21 => 21 | 5 => 5 | 46 => 95 | 119 => 148 | 139 => 151 | 138 => 150 | 146 => 153 | 51 => 152 | n => n, fun | 1 => 1 | 3 => 2 | 4 => 3 | n => n⟩
theorem lyS : Lays.n146 Tryd.prog lyS_ren := { mixed := by kernel_rfl, f138 := Tryd.func77.trans (congrArg some (by kernel_rfl)), f143 := Tryd.func78.trans (congrArg some (by kernel_rfl)), f146 := Tryd.func42.trans (congrArg some (by kernel_rfl)), f195 := Tryd.func88.trans (congrArg some (by kernel_rfl)), f197 := Tryd.func89.trans (congrArg some (by kernel_rfl)), f217 := Tryd.func96.trans (congrArg some (by kernel_rfl)), f218 := Tryd.func90.trans (congrArg some (by kernel_rfl)), f219 := Tryd.func91.trans (congrArg some (by kernel_rfl)), f221 := Tryd.func58.trans (congrArg some (by kernel_rfl)), f224 := Tryd.func98.trans (congrArg some (by kernel_rfl)), f225 := Tryd.func97.trans (congrArg some (by kernel_rfl)), f260 := Tryd.func95.trans (congrArg some (by kernel_rfl)), f266 := Tryd.func101.trans (congrArg some (by kernel_rfl)), f267 := Tryd.func99.trans (congrArg some (by kernel_rfl)), f268 := Tryd.func76.trans (congrArg some (by kernel_rfl)), f314 := Tryd.func102.trans (congrArg some (by kernel_rfl)), t0 := Tryd.underlying0, a0 := Tryd.isAgg0, z0 := Tryd.sizeOf0, v0 := Tryd.zeroValue0, t3 := Tryd.underlying3, a3 := Tryd.isAgg3, z3 := Tryd.sizeOf3, v3 := Tryd.zeroValue3, t4 := Tryd.underlying4, a4 := Tryd.isAgg4, z4 := Tryd.sizeOf4, v4 := Tryd.zeroValue4, t5 := Tryd.underlying5, a5 := Tryd.isAgg5, z5 := Tryd.sizeOf5, v5 := Tryd.zeroValue5, t9 := Tryd.underlying9, a9 := Tryd.isAgg9, z9 := Tryd.sizeOf9, v9 := Tryd.zeroValue9, t21 := Tryd.underlying21, a21 := Tryd.isAgg21, z21 := Tryd.sizeOf21, v21 := Tryd.zeroValue21, t31 := Tryd.underlying47, a31 := Tryd.isAgg47, z31 := Tryd.sizeOf47, v31 := Tryd.zeroValue47, t46 := Tryd.underlying95, a46 := Tryd.isAgg95, z46 := Tryd.sizeOf95, v46 := Tryd.zeroValue95, t51 := Tryd.underlying152, a51 := Tryd.isAgg152, z51 := Tryd.sizeOf152, v51 := Tryd.zeroValue152, t105 := Tryd.underlying142, a105 := Tryd.isAgg142, z105 := Tryd.sizeOf142, v105 := Tryd.zeroValue142, t119 := Tryd.underlying148, a119 := Tryd.isAgg148, z119 := Tryd.sizeOf148, t138 := Tryd.underlying150, a138 := Tryd.isAgg150, z138 := Tryd.sizeOf150, v138 := Tryd.zeroValue150, t139 := Tryd.underlying151, a139 := Tryd.isAgg151, z139 := Tryd.sizeOf151, v139 := Tryd.zeroValue151, t146 := Tryd.underlying153, a146 := Tryd.isAgg153, z146 := Tryd.sizeOf153, v146 := Tryd.zeroValue153, g1 := by kernel_rfl, g3 := by kernel_rfl, g4 := by kernel_rfl }
end Go.Proofs.YtgfljpchdiapeaaDoor
namespace Go.Proofs.YtgfljpchdiapeaaDoor
set_option linter.unusedVariables false
set_option linter.unusedSimpArgs false
open Go.RowKit Go.Proofs.YtgfljpchdiapeaaDoorW.PrintWords
attribute [local go_sem ↓] Go.wp_at_zero Go.wp_at_succ
def bI (b : Bs) : List Int := b.map fun c => (c.toNat : Int)
theorem bI_len (b : Bs) : (bI b).length = b.length := List.length_map ..
theorem bI_rd (b : Bs) (i : Nat) (h : i < b.length) : rd (bI b) (i : Int) = (b[i].toNat : Int) := by
  unfold rd
  rw [Int.toNat_natCast, bI, List.getD_eq_getElem?_getD, List.getElem?_map, List.getElem?_eq_getElem h]
  rfl
theorem hex_any (n : Nat) (h : n < 16) (w : World) : Calls Tryd.prog 53 #[.int .u8 (n : Int)] w fun e w' => e = .returned (.int .u8 ((hexB n).toNat : Int)) ∧ Below w.heap.size w w' := by
  have e : PR.deeds_hex.f (n : Int) = some ((hexB n).toNat : Int) := by
    have : ∀ n : Nat, n < 16 → PR.deeds_hex.f (n : Int) = some ((hexB n).toNat : Int) := by decide
    exact this n h
  exact (PR.deeds_hex.calls _ _ w e).mono fun e w' ⟨h1, h2⟩ => ⟨h1, h2.below⟩
theorem hex_at (n : Nat) (h : n < 16) (x : Int) (hx : x = (n : Int)) (w : World) : Calls Tryd.prog 53 #[.int .u8 x] w fun e w' => e = .returned (.int .u8 ((hexB n).toNat : Int)) ∧ Below w.heap.size w w' := by
  subst hx
  exact hex_any n h w
theorem owns_below {B : Nat} {e : TypeId} {k : Nat} {v : Value} {n : Nat} {xs : List Value} {w w' : World} (h : w.ownsRow B e k v n xs) (hb : Below w.heap.size w w') : w'.ownsRow B e k v n xs := by
  obtain ⟨h1, h2⟩ := h
  refine ⟨h1, ?_⟩
  rcases h2 with h2 | ⟨g, cap, cur, rfl, h3, h4, h5⟩
  · exact .inl h2
  · exact .inr ⟨g, cap, cur, rfl, h3, (hb.block g (Array.getElem?_eq_some_iff.1 h4).1).trans h4, h5⟩
theorem at_below {T e B b : Nat} {p : Value} {bs : List Value} {w w' : World} (h : Lib.BuilderAt T e B b p bs w) (hb : Below w.heap.size w w') : Lib.BuilderAt T e B b p bs w' := by
  obtain ⟨h1, v, h2, h3, h4⟩ := h
  exact ⟨h1, v, (hb.block b (Array.getElem?_eq_some_iff.1 h2).1).trans h2, owns_below h3 hb, h4⟩
theorem is_below {T e B b : Nat} {bs : List Value} {w w' : World} (h : Lib.IsBuilder T e B b bs w) (hb : Below w.heap.size w w') : Lib.IsBuilder T e B b bs w' := h.imp (at_below · hb) (at_below · hb)
theorem wb_any (B b : Nat) (bs : List Value) (c : Int) (w : World) (h : Lib.IsBuilder 71 5 B b bs w) (hlen : bs.length + 1 ≤ 140737488355328) (hBw : B ≤ w.heap.size) :
    Calls Tryd.prog 39 #[.pointer (some ⟨b, 0, none⟩), .int .u8 c] w fun e w' => e = .returned .nilIface ∧ (Lib.BuilderAt 71 5 B b (.pointer (some ⟨b, 0, none⟩)) (bs ++ [.int .u8 c]) w' ∧ Below B w w') := Any.Builder_WriteByte ly167 lyX B b bs c w h hlen hBw
theorem ws_any (B b : Nat) (bs : List Value) (s : ByteArray) (w : World) (h : Lib.IsBuilder 71 5 B b bs w) (hlen : bs.length + s.size ≤ 140737488355328) (hBw : B ≤ w.heap.size) :
    Calls Tryd.prog 38 #[.pointer (some ⟨b, 0, none⟩), .string s] w fun e w' => e = .returned (.tuple #[.int .i64 s.size, .nilIface]) ∧ (Lib.BuilderAt 71 5 B b (.pointer (some ⟨b, 0, none⟩)) (bs ++ Lib.strCells s) w' ∧ Below B w w') := Any.Builder_WriteString ly166 lyX B b bs s w h hlen hBw
theorem bstr_any (B b : Nat) (l : Bs) (w : World) (h : Lib.IsBuilder 71 5 B b (Lib.byteCells l) w) (hBw : B ≤ w.heap.size) :
    Calls Tryd.prog 40 #[.pointer (some ⟨b, 0, none⟩)] w fun e w' => e = .returned (.string (bsV l)) ∧ Below B w w' := Any.Builder_String_any ly169 lyX B b l w h hBw
theorem bc_snoc (l : Bs) (c : UInt8) : Lib.byteCells l ++ [.int .u8 (c.toNat : Int)] = Lib.byteCells (l ++ [c]) := by simp [Lib.byteCells]
theorem bc_len (l : Bs) : (Lib.byteCells l).length = l.length := by simp [Lib.byteCells]
def wbP (B b : Nat) (l : Bs) (w : World) (e : Ending) (w' : World) : Prop := e = .returned .nilIface ∧ Lib.IsBuilder 71 5 B b (Lib.byteCells l) w' ∧ Below B w w'
theorem wbb {B b : Nat} {l : Bs} {w : World} (h : Lib.IsBuilder 71 5 B b (Lib.byteCells l) w) (hl : l.length ≤ 1000000000) (hB : B ≤ w.heap.size) (c : UInt8) (n : Int) (hn : n = (c.toNat : Int)) :
    Calls Tryd.prog 39 #[.pointer (some ⟨b, 0, none⟩), .int .u8 n] w (wbP B b (l ++ [c]) w) := by
  subst hn
  refine (wb_any B b _ _ w h (by rw [bc_len]; omega) hB).mono fun e w' ⟨h1, h2, h3⟩ => ⟨h1, ?_, h3⟩
  rw [bc_snoc] at h2
  exact .inr h2
theorem q_snoc (l : Bs) (c : UInt8) : (l ++ [c]).flatMap qb = l.flatMap qb ++ qb c := by simp
theorem q_len (l : Bs) : (l.flatMap qb).length ≤ 3 * l.length := by
  induction l with
  | nil => simp
  | cons c r ih =>
    rw [List.flatMap_cons, List.length_append, List.length_cons]
    have : (qb c).length ≤ 3 := by unfold qb; split <;> simp
    omega
theorem cls (c : UInt8) : (c.toNat < 48 ∨ 57 < c.toNat ∧ c.toNat < 65 ∨ 90 < c.toNat ∧ c.toNat < 97 ∨ 122 < c.toNat) ∧ qb c = [37, hexB (c.toNat / 16), hexB (c.toNat % 16)] ∨ (48 ≤ c.toNat ∧ c.toNat ≤ 57 ∨ 65 ≤ c.toNat ∧ c.toNat ≤ 90 ∨ 97 ≤ c.toNat ∧ c.toNat ≤ 122) ∧ qb c = [c] := by
  have e : plainB c = true ∨ plainB c = false := by cases plainB c <;> simp
  rcases e with e | e
  · refine .inr ⟨of_decide_eq_true e, ?_⟩
    rw [qb, e, if_pos rfl]
  · refine .inl ⟨?_, ?_⟩
    · have := of_decide_eq_false e
      omega
    · rw [qb, e, if_neg (by simp)]
set_option maxHeartbeats 4000000 in
set_option maxRecDepth 100000 in
theorem quote_any (b : Bs) (A : Option Addr) (k : Nat) (w : World) (hC : (Kd.int .u8).C w A b.length (bI b)) (hl : Hid (b.length ≤ 100000000)) :
    Calls Tryd.prog 33 #[.slice A b.length k] w (QS w (quoS b)) := by
  have HC := Lib.hid hC
  clear hC
  by_cases h0 : b.length = 0
  · have hb0 : b = [] := List.length_eq_zero_iff.1 h0
    subst hb0
    have k0 : ((0 : Nat) : Int) = 0 := rfl
    go_enter Tryd.func33, Tryd.ntmps33
    go_wp2_with fail
    go_ret
    exact ⟨rfl, Below.refl _ _⟩
  · have k0 : ((b.length : Int) == 0) = false := beq_eq_false_iff_ne.2 (by omega)
    have HQ := Lib.hid (show quoS b = b.flatMap qb by rw [quoS, if_neg (fun e => h0 (by rw [e]; rfl))])
    go_enter Tryd.func33, Tryd.ntmps33
    go_wp2_with fail
    go_loopw [11] (fun iv wr => ∃ i : Nat, i ≤ b.length ∧ iv = .int .i64 i ∧ Hid (Lib.IsBuilder 71 5 w.heap.size w.heap.size (Lib.byteCells ((b.take i).flatMap qb)) wr ∧ Below w.heap.size w wr)) (fun iv _ => b.length - (intOf iv).toNat)
    case atStart => exact ⟨0, Nat.zero_le _, rfl, Lib.fresh_isBuilder _ _ w, (Below.refl _ w).alloc (Nat.le_refl _) _⟩
    case round =>
      obtain ⟨i, hi, rfl, HI⟩ := hrel
      by_cases hlt : i < b.length
      · have i1 : (0 : Int) ≤ (i : Int) := by omega
        have i2 : (i : Int) < (b.length : Int) := by omega
        have hwi : IntKind.i64.wrap ((i : Int) + 1) = (i : Int) + 1 := by rw [IntKind.wrap_i64]; have := hl.out; omega
        obtain ⟨ad, rfl, hcell⟩ := Kd.at_int HC.out (i : Int) i1 i2
        have hcl := (HI.out.2.cell (p := ad.add (i : Int).toNat) (World.block_lt_of_cell? w _ hcell)).trans hcell
        rw [bI_rd b i hlt, Int.toNat_natCast] at hcl
        have HTK := Lib.hid (show (b.take (i + 1)).flatMap qb = (b.take i).flatMap qb ++ qb b[i] by rw [List.take_succ_eq_append_getElem hlt, q_snoc])
        have HLN := Lib.hid (show ((b.take i).flatMap qb).length + 3 ≤ 1000000000 by
          have h1 := q_len (b.take i)
          have h2 := hl.out
          rw [List.length_take] at h1
          omega)
        clear hcell
        generalize b[i] = c at *
        have hc8 := c.toNat_lt
        have HB := Lib.hid HI.out.1
        have HBW := Lib.hid HI.out.2
        clear HI
        generalize (b.take i).flatMap qb = acc at *
        rcases cls c with ⟨hcs, hqb⟩ | ⟨hcs, hqb⟩
        · have HQB := Lib.hid hqb
          clear hqb
          rcases hcs with q | q | q | q
          all_goals
            go_wp2_with fail
            refine (wbb HB.out (by have := HLN.out; omega) HBW.out.size 37 _ rfl).mono ?_
            rintro e w1 ⟨rfl, h1, h2⟩
            have HB1 := Lib.hid h1
            have BW1 := Lib.hid (HBW.out.trans h2)
            clear h1 h2 HB HBW
            go_wp2_with fail
            refine (hex_at (c.toNat / 16) (by omega) _ (by omega) _).mono ?_
            rintro e w2 ⟨rfl, h2⟩
            have HB2 := Lib.hid (is_below HB1.out h2)
            have BW2 := Lib.hid (BW1.out.trans (h2.mono BW1.out.size))
            clear h2 HB1 BW1
            go_wp2_with fail
            refine (wbb HB2.out (by have := HLN.out; simp; omega) BW2.out.size (hexB (c.toNat / 16)) _ rfl).mono ?_
            rintro e w3 ⟨rfl, h1, h2⟩
            have HB3 := Lib.hid h1
            have BW3 := Lib.hid (BW2.out.trans h2)
            clear h1 h2 HB2 BW2
            go_wp2_with fail
            refine (hex_at (c.toNat % 16) (by omega) _ (by omega) _).mono ?_
            rintro e w4 ⟨rfl, h2⟩
            have HB4 := Lib.hid (is_below HB3.out h2)
            have BW4 := Lib.hid (BW3.out.trans (h2.mono BW3.out.size))
            clear h2 HB3 BW3
            go_wp2_with fail
            refine (wbb HB4.out (by have := HLN.out; simp; omega) BW4.out.size (hexB (c.toNat % 16)) _ rfl).mono ?_
            rintro e w5 ⟨rfl, h1, h2⟩
            have HB5 := Lib.hid h1
            have BW5 := Lib.hid (BW4.out.trans h2)
            clear h1 h2 HB4 BW4
            go_wp2_with fail
            go_roundw
            case rel =>
              refine ⟨i + 1, by omega, by go_num, ?_, BW5.out⟩
              have h := HB5.out
              rw [List.append_assoc, List.append_assoc, List.singleton_append, List.singleton_append] at h
              rw [HTK.out, HQB.out]
              exact h
            case measure => simp [intOf]; omega
        · have HQB := Lib.hid hqb
          clear hqb
          rcases hcs with ⟨q1, q2⟩ | ⟨q1, q2⟩ | ⟨q1, q2⟩
          all_goals
            go_wp2_with fail
            refine (wbb HB.out (by have := HLN.out; omega) HBW.out.size c _ rfl).mono ?_
            rintro e w1 ⟨rfl, h1, h2⟩
            have HB1 := Lib.hid h1
            have BW1 := Lib.hid (HBW.out.trans h2)
            clear h1 h2 HB HBW
            go_wp2_with fail
            go_roundw
            case rel => exact ⟨i + 1, by omega, by go_num, by rw [HTK.out, HQB.out]; exact HB1.out, BW1.out⟩
            case measure => simp [intOf]; omega
      · have hi3 : ¬ (i : Int) < (b.length : Int) := by omega
        have HT := Lib.hid (show (b.take i).flatMap qb = b.flatMap qb by rw [List.take_of_length_le (by omega)])
        go_wp2_with (go_at_call 40; refine (bstr_any _ _ _ _ HI.out.1 HI.out.2.size).mono ?_; rintro e w1 ⟨rfl, hb⟩; have B1 := Lib.hid (HI.out.2.trans hb); clear hb)
        all_goals
          go_wp2_with fail
          go_ret
          exact ⟨by rw [HQ.out, HT.out]; rfl, B1.out⟩
theorem plain_any (c : UInt8) (w : World) : Calls Tryd.prog 55 #[.int .u8 (c.toNat : Int)] w fun e w' => e = .returned (.bool (plainB c)) ∧ w' = w := by
  have hc8 := c.toNat_lt
  rcases cls c with ⟨hcs, hqb⟩ | ⟨hcs, hqb⟩
  · have HP := Lib.hid (show plainB c = false from decide_eq_false (by omega))
    clear hqb
    rcases hcs with q | q | q | q
    all_goals
      go_enter Tryd.func55, Tryd.ntmps55
      go_wp2_with fail
      go_ret
      exact ⟨by rw [HP.out]; first | rfl | (simp [*]; done) | (simp; omega) | (simp [*]; omega), rfl⟩
  · have HP := Lib.hid (show plainB c = true from decide_eq_true (by omega))
    clear hqb
    rcases hcs with q | q | q
    all_goals
      go_enter Tryd.func55, Tryd.ntmps55
      go_wp2_with fail
      go_ret
      exact ⟨by rw [HP.out]; first | rfl | (simp [*]; done) | (simp; omega) | (simp [*]; omega), rfl⟩
end Go.Proofs.YtgfljpchdiapeaaDoor
namespace Go.Proofs.YtgfljpchdiapeaaDoor
set_option linter.unusedVariables false
set_option linter.unusedSimpArgs false
open Go.RowKit Go.Proofs.YtgfljpchdiapeaaDoorW.PrintWords
attribute [local go_sem ↓] Go.wp_at_zero Go.wp_at_succ
attribute [local go_sem] bsV_get bsV_size bsV_toList
theorem conv_cells (W : World) (ad : Addr) (l : Bs) (cap : Nat) (h : ∀ (i : Nat) (hi : i < l.length), W.cell? (ad.add i) = some (.int .u8 (l[i].toNat : Int))) :
    (convert 26 9 (.slice (some ad) l.length cap)).run Tryd.prog W = .ok (.string (bsV l)) W := by
  have hl : (loadCells ad l.length).run Tryd.prog W = .ok ((bI l).map (Value.int .u8)).toArray W := by
    have := run_loadCells_list (P := Tryd.prog) W ad ((bI l).map (Value.int .u8)) (fun j v hj => by
      have hjl : j < l.length := by
        have := (List.getElem?_eq_some_iff.1 hj).1
        simpa [bI] using this
      rw [h j hjl]
      rw [bI, List.map_map, List.getElem?_map, List.getElem?_eq_getElem hjl] at hj
      exact hj)
    rw [List.length_map, bI_len] at this
    exact this
  rw [run_convert_bytes_string W 26 9 5 _ l.length cap Tryd.underlying26 Tryd.underlying5 Tryd.underlying9, run_bytesToString W _ l.length cap (bI l) hl, foldl_push_bytes]
  congr 2
  have hm : (fun n : Int => UInt8.ofNat n.toNat) ∘ (fun c : UInt8 => (c.toNat : Int)) = id := funext fun c => UInt8.toNat.inj (by simp)
  have hbi : (bI l).map (fun n => UInt8.ofNat n.toNat) = l := by rw [bI, List.map_map, hm, List.map_id]
  rw [hbi]
  simp [bsV, ByteArray.empty, ByteArray.emptyWithCapacity]
  rfl
theorem cells_of {W : World} {A : Option Addr} {l : Bs} (h : (Kd.int .u8).C W A l.length (bI l)) (hp : 0 < l.length) : ∃ ad, A = some ad ∧ ∀ (i : Nat) (hi : i < l.length), W.cell? (ad.add i) = some (.int .u8 (l[i].toNat : Int)) := by
  obtain ⟨ad, e, _⟩ := Kd.at_int h 0 (by omega) (by omega)
  refine ⟨ad, e, fun i hi => ?_⟩
  obtain ⟨ad', e', h'⟩ := Kd.at_int h (i : Int) (by omega) (by omega)
  rw [e] at e'
  obtain rfl := Option.some.inj e'
  rw [bI_rd l i hi, Int.toNat_natCast] at h'
  exact h'
theorem conv_bs {W : World} {A : Option Addr} {l : Bs} (cap : Nat) (h : (Kd.int .u8).C W A l.length (bI l)) : (convert 26 9 (.slice A l.length cap)).run Tryd.prog W = .ok (.string (bsV l)) W := by
  rcases Nat.eq_zero_or_pos l.length with h0 | h0
  · obtain rfl := List.length_eq_zero_iff.1 h0
    cases A with
    | none => exact run_convert_bytes_nil W 26 5 Tryd.underlying26 Tryd.underlying5 _ _ 9 Tryd.underlying9
    | some ad => exact conv_cells W ad [] cap (fun i hi => absurd hi (by simp))
  · obtain ⟨ad, rfl, hc⟩ := cells_of h h0
    exact conv_cells W ad l cap hc
theorem hex_slice : ∀ k : Nat, k < 16 → ∀ W : World, (Instr.slice 9 (.string ⟨#[48, 49, 50, 51, 52, 53, 54, 55, 56, 57, 97, 98, 99, 100, 101, 102]⟩) (some (.int .i64 (k : Int))) (some (.int .i64 ((k : Int) + 1))) none).run Tryd.prog W = .ok (.string (bsV [hexB k])) W
  | 0, _ => fun W => by kernel_rfl
  | 1, _ => fun W => by kernel_rfl
  | 2, _ => fun W => by kernel_rfl
  | 3, _ => fun W => by kernel_rfl
  | 4, _ => fun W => by kernel_rfl
  | 5, _ => fun W => by kernel_rfl
  | 6, _ => fun W => by kernel_rfl
  | 7, _ => fun W => by kernel_rfl
  | 8, _ => fun W => by kernel_rfl
  | 9, _ => fun W => by kernel_rfl
  | 10, _ => fun W => by kernel_rfl
  | 11, _ => fun W => by kernel_rfl
  | 12, _ => fun W => by kernel_rfl
  | 13, _ => fun W => by kernel_rfl
  | 14, _ => fun W => by kernel_rfl
  | 15, _ => fun W => by kernel_rfl
  | n + 16, h => absurd h (by omega)
theorem q_ne (b : Bs) (h : b ≠ []) : b.flatMap qb ≠ [] := by
  cases b with
  | nil => exact absurd rfl h
  | cons c r =>
    intro e
    have h2 : qb c = [] := (List.append_eq_nil_iff.1 e).1
    unfold qb at h2
    split at h2 <;> cases h2
set_option maxHeartbeats 4000000 in
set_option maxRecDepth 100000 in
theorem refQuote_any (b : Bs) (A : Option Addr) (k : Nat) (w : World) (hC : (Kd.int .u8).C w A b.length (bI b)) (hk : b.length ≤ k) (hl : Hid (b.length ≤ 100000)) :
    Calls Tryd.prog 36 #[.slice A b.length k] w (QS w (quoS b)) := by
  have HC := Lib.hid hC
  clear hC
  go_enter Tryd.func36, Tryd.ntmps36
  go_wp2_with fail
  go_loopw [4, 5] (fun sv iv wr => ∃ i : Nat, i ≤ b.length ∧ iv = .int .i64 i ∧ sv = .string (bsV ((b.take i).flatMap qb)) ∧ Hid (Below w.heap.size w wr)) (fun _ iv _ => b.length - (intOf iv).toNat)
  case atStart => exact ⟨0, Nat.zero_le _, rfl, rfl, Below.refl _ _⟩
  case round =>
    obtain ⟨i, hi, rfl, rfl, HBW⟩ := hrel
    by_cases hlt : i < b.length
    · have i1 : (0 : Int) ≤ (i : Int) := by omega
      have i2 : (i : Int) < (b.length : Int) := by omega
      have i3 : i < k := by omega
      have hwi : IntKind.i64.wrap ((i : Int) + 1) = (i : Int) + 1 := by rw [IntKind.wrap_i64]; have := hl.out; omega
      obtain ⟨ad, rfl, hcell⟩ := cells_of HC.out (by omega)
      have hcl := (HBW.out.cell (p := ad.add i) (World.block_lt_of_cell? w _ (hcell i hlt))).trans (hcell i hlt)
      have HTK := Lib.hid (show (b.take (i + 1)).flatMap qb = (b.take i).flatMap qb ++ qb b[i] by rw [List.take_succ_eq_append_getElem hlt, q_snoc])
      have HLN := Lib.hid (show ((b.take i).flatMap qb).length + 3 ≤ 1000000 by
        have h1 := q_len (b.take i)
        have h2 := hl.out
        rw [List.length_take] at h1
        omega)
      clear hcell
      generalize b[i] = c at *
      have hc8 := c.toNat_lt
      generalize (b.take i).flatMap qb = acc at *
      cases hp : plainB c with
      | true =>
        have HQB := Lib.hid (show qb c = [c] by rw [qb, hp, if_pos rfl])
        have hconv : ∀ cap : Nat, (convert 26 9 (.slice (some (ad.add i)) 1 cap)).run Tryd.prog wr = .ok (.string (bsV [c])) wr := fun cap => conv_cells wr (ad.add i) [c] cap (fun j hj => by
          have hj0 : j = 0 := by simp at hj; omega
          subst hj0
          exact hcl)
        have hadd := add_run acc [c] (by have := HLN.out; simp; omega)
        go_wp2_with (go_at_call 55; refine (plain_any c _).mono ?_; rintro e w1 ⟨rfl, rfl⟩; rw [hp])
        go_roundw
        case rel => exact ⟨i + 1, by omega, by go_num, by rw [HTK.out, HQB.out], HBW.out⟩
        case measure => simp [intOf]; omega
      | false =>
        have HQB := Lib.hid (show qb c = [37, hexB (c.toNat / 16), hexB (c.toNat % 16)] by rw [qb, hp, if_neg (by simp)])
        have hq1 : Int.tdiv (c.toNat : Int) 16 = ((c.toNat / 16 : Nat) : Int) := by rw [Int.tdiv_eq_ediv_of_nonneg (by omega)]; omega
        have hq2 : Int.tmod (c.toNat : Int) 16 = ((c.toNat % 16 : Nat) : Int) := by rw [Int.tmod_eq_emod_of_nonneg (by omega)]; omega
        have d1 : c.toNat / 16 < 16 := by omega
        have d2 : c.toNat % 16 < 16 := by omega
        go_wp2_with (go_at_call 55; refine (plain_any c _).mono ?_; rintro e w1 ⟨rfl, rfl⟩; rw [hp])
        rw [show (c.toNat : Int) / 16 = ((c.toNat / 16 : Nat) : Int) by omega, show (c.toNat : Int) % 16 = ((c.toNat % 16 : Nat) : Int) by omega]
        clear hq1 hq2
        generalize c.toNat / 16 = h1 at *
        generalize c.toNat % 16 = h2 at *
        have hs1 := hex_slice h1 d1
        have hs2 := hex_slice h2 d2
        have hw1 : IntKind.i64.wrap ((h1 : Int) + 1) = (h1 : Int) + 1 := by rw [IntKind.wrap_i64]; omega
        have hw2 : IntKind.i64.wrap ((h2 : Int) + 1) = (h2 : Int) + 1 := by rw [IntKind.wrap_i64]; omega
        have ha1 : ∀ W : World, (Op.stringOp .add (bsV acc) ⟨#[37]⟩).run Tryd.prog W = .ok (.string (bsV (acc ++ [37]))) W := add_run acc [37] (by have := HLN.out; simp; omega)
        have ha2 := add_run (acc ++ [37]) [hexB h1] (by have := HLN.out; simp; omega)
        have ha3 := add_run (acc ++ [37] ++ [hexB h1]) [hexB h2] (by have := HLN.out; simp; omega)
        have HS := Lib.hid (show acc ++ [37] ++ [hexB h1] ++ [hexB h2] = acc ++ [37, hexB h1, hexB h2] by simp)
        generalize acc ++ [37] = s1 at *
        generalize s1 ++ [hexB h1] = s2 at *
        generalize s2 ++ [hexB h2] = s3 at *
        go_region_held3 (fun _ => True) (trivial) (fail)
        all_goals
          go_wp2_with fail
          go_roundw
          case rel => exact ⟨i + 1, by omega, by go_num, by rw [HTK.out, HQB.out, HS.out], HBW.out.trans ((show Below w1.heap.size w1 w1.drew from Drawn0.below ⟨1, rfl⟩).mono HBW.out.size)⟩
          case measure => simp [intOf]; omega
    · have hi3 : ¬ (i : Int) < (b.length : Int) := by omega
      have HT := Lib.hid (show (b.take i).flatMap qb = b.flatMap qb by rw [List.take_of_length_le (by omega)])
      by_cases h0 : b = []
      · have he : (b.take i).flatMap qb = [] := by rw [HT.out, h0]; rfl
        rw [he]
        clear HT he
        subst h0
        go_wp2_with fail
        go_ret
        exact ⟨rfl, HBW.out⟩
      · have hne := q_ne b h0
        rw [HT.out]
        have HQ := Lib.hid (show quoS b = b.flatMap qb by rw [quoS, if_neg h0])
        generalize b.flatMap qb = acc at *
        have hz : acc.isEmpty = false := by cases acc with | nil => exact absurd rfl hne | cons _ _ => rfl
        go_wp2_with fail
        go_ret
        exact ⟨by rw [HQ.out]; rfl, HBW.out⟩
end Go.Proofs.YtgfljpchdiapeaaDoor
namespace Go.Proofs.YtgfljpchdiapeaaDoor
set_option linter.unusedVariables false
set_option linter.unusedSimpArgs false
open Go.RowKit Go.Proofs.YtgfljpchdiapeaaDoorW.PrintWords
attribute [local go_sem ↓] Go.wp_at_zero Go.wp_at_succ
attribute [local go_sem] bsV_get bsV_size bsV_toList
theorem all8 {p : UInt8 → Prop} (h : ∀ n, n < 256 → p (UInt8.ofNat n)) (c : UInt8) : p c := by
  have := h c.toNat c.toNat_lt
  rwa [UInt8.ofNat_toNat] at this
theorem digit_f (c : UInt8) : PR.deeds_digit.f 18 (c.toNat : Int) = some (unhex c : Int) := by
  revert c
  exact all8 (by decide +kernel)
theorem digit_any (c : UInt8) (w : World) : Calls Tryd.prog 83 #[.int .u8 (c.toNat : Int)] w fun e w' => e = .returned (.int .u8 (unhex c : Int)) ∧ Below w.heap.size w w' :=
  (PR.deeds_digit.calls 18 _ _ w (digit_f c)).mono fun e w' ⟨h1, h2⟩ => ⟨h1, h2.below⟩
def refU : Bs → Option Bs
  | [] => some []
  | c :: r => if plainB c = true then (refU r).map (c :: ·) else if c = 37 then (match r with
    | a :: b :: t => if unhex a < 16 ∧ unhex b < 16 ∧ plainB (byteOf a b) = false then (refU t).map (byteOf a b :: ·) else none
    | _ => none) else none
termination_by l => l.length
theorem qb_plain {c : UInt8} (h : plainB c = true) : qb c = [c] := by rw [qb, if_pos h]
theorem qb_not {c : UInt8} (h : plainB c = false) : qb c = [37, hexB (c.toNat / 16), hexB (c.toNat % 16)] := by rw [qb, h, if_neg (by simp)]
theorem byte_parts {a b : UInt8} (ha : unhex a < 16) (hb : unhex b < 16) : (byteOf a b).toNat / 16 = unhex a ∧ (byteOf a b).toNat % 16 = unhex b := by
  unfold byteOf
  rw [UInt8.toNat_ofNat']
  omega
theorem refU_plain {c : UInt8} (h : plainB c = true) (r : Bs) : refU (c :: r) = (refU r).map (c :: ·) := by
  cases r with
  | nil => simp [refU, h]
  | cons x t =>
    cases t with
    | nil =>
      rw [refU, if_pos h]
      intro a b t e; cases e
    | cons y t => rw [refU, if_pos h]
theorem refU_pct (a b : UInt8) (t : Bs) : refU (37 :: a :: b :: t) = if unhex a < 16 ∧ unhex b < 16 ∧ plainB (byteOf a b) = false then (refU t).map (byteOf a b :: ·) else none := by
  rw [refU, if_neg (by rw [pct_plain]; simp), if_pos rfl]
theorem refU_bad {c : UInt8} (h : plainB c = false) (r : Bs) (h2 : c ≠ 37 ∨ r.length < 2) : refU (c :: r) = none := by
  have hp : ¬ plainB c = true := by rw [h]; simp
  cases r with
  | nil =>
    rw [refU, if_neg hp]
    · split <;> rfl
    · intro a b t e; cases e
  | cons x t =>
    cases t with
    | nil =>
      rw [refU, if_neg hp]
      · split <;> rfl
      · intro a b t e; cases e
    | cons y t => rw [refU, if_neg hp, if_neg (h2.resolve_right (by simp))]
theorem refU_q : ∀ b : Bs, refU (b.flatMap qb) = some b
  | [] => by simp [refU]
  | c :: r => by
    have ih := refU_q r
    rw [List.flatMap_cons]
    cases h : plainB c with
    | true =>
      rw [qb_plain h, List.singleton_append, refU_plain h, ih]
      rfl
    | false =>
      have h1 := c.toNat_lt
      rw [qb_not h]
      show refU (37 :: hexB (c.toNat / 16) :: hexB (c.toNat % 16) :: r.flatMap qb) = some (c :: r)
      have h2 : plainB (byteOf (hexB (c.toNat / 16)) (hexB (c.toNat % 16))) = false := by rw [byteOf_hex, h]
      rw [refU_pct, if_pos ⟨by rw [unhex_hex _ (by omega)]; omega, by rw [unhex_hex _ (by omega)]; omega, h2⟩, ih, byteOf_hex]
      rfl
theorem refU_some : ∀ (n : Nat) (s b : Bs), s.length ≤ n → refU s = some b → b.flatMap qb = s
  | _, [], b, _, h => by
    rw [refU] at h
    injection h with h
    rw [← h]
    rfl
  | 0, c :: r, b, hn, _ => absurd hn (by simp)
  | n + 1, c :: r, b, hn, h => by
    rw [List.length_cons] at hn
    cases hp : plainB c with
    | true =>
      rw [refU_plain hp] at h
      cases hr : refU r with
      | none => rw [hr] at h; cases h
      | some t =>
        rw [hr] at h
        injection h with h
        rw [← h, List.flatMap_cons, qb_plain hp, refU_some n r t (by omega) hr]
        rfl
    | false =>
      by_cases h2 : c ≠ 37 ∨ r.length < 2
      · rw [refU_bad hp r h2] at h
        cases h
      · have hc : c = 37 := Decidable.not_not.1 (fun e => h2 (.inl e))
        subst hc
        match r, h, hn, h2 with
        | [], _, _, h2 => exact absurd (.inr (by simp)) h2
        | [_], _, _, h2 => exact absurd (.inr (by simp)) h2
        | x :: y :: t, h, hn, _ =>
          rw [refU_pct] at h
          split at h
          · rename_i hx
            cases hr : refU t with
            | none => rw [hr] at h; cases h
            | some z =>
              rw [hr] at h
              injection h with h
              rw [← h, List.flatMap_cons, qb_not hx.2.2, (byte_parts hx.1 hx.2.1).1, (byte_parts hx.1 hx.2.1).2, hex_unhex _ hx.1, hex_unhex _ hx.2.1, refU_some n t z (by simp at hn; omega) hr]
              rfl
          · cases h
def UnqIs (s b : Bs) (ok : Bool) : Prop := ok = true ∧ unqS s = some b ∨ ok = false ∧ unqS s = none
theorem unq_ref_some {s b : Bs} (h0 : s ≠ [45]) (h : refU s = some b) : UnqIs s b (decide (0 < b.length)) := by
  have e := refU_some _ s b (Nat.le_refl _) h
  by_cases hb : b = []
  · subst hb
    refine .inr ⟨by simp, unqS_no fun b' e' => ?_⟩
    unfold quoS at e'
    split at e'
    · exact h0 e'.symm
    · rename_i hb'
      exact q_ne b' hb' (e'.trans e.symm)
  · refine .inl ⟨decide_eq_true (List.length_pos_iff.2 hb), ?_⟩
    have e2 : quoS b = s := by rw [quoS, if_neg hb, e]
    rw [← e2]
    exact unqS_quo b
theorem unq_ref_none {s : Bs} (h0 : s ≠ [45]) (h : refU s = none) : unqS s = none := unqS_no fun b e => by
  unfold quoS at e
  split at e
  · exact h0 e.symm
  · rw [← e, refU_q] at h
    cases h
theorem wrap64_id {n : Int} (h0 : -9223372036854775808 ≤ n) (h1 : n ≤ 9223372036854775807) : wrap64 n = n := by
  unfold wrap64
  omega
theorem bI_app (a b : Bs) : bI (a ++ b) = bI a ++ bI b := List.map_append ..
end Go.Proofs.YtgfljpchdiapeaaDoor
namespace Go.Proofs.YtgfljpchdiapeaaDoor
set_option linter.unusedVariables false
set_option linter.unusedSimpArgs false
open Go.RowKit Go.Proofs.YtgfljpchdiapeaaDoorW.PrintWords
attribute [local go_sem ↓] Go.wp_at_zero Go.wp_at_succ
attribute [local go_sem] bsV_get bsV_size bsV_toList
theorem decode_nil : decode [] = [] := by rw [decode]
theorem decode_one {c : UInt8} {r : Bs} (h : c ≠ 37 ∨ ∀ a b t, r = a :: b :: t → ¬ (unhex a < 16 ∧ unhex b < 16)) : decode (c :: r) = c :: decode r := by
  cases r with
  | nil => simp [decode]
  | cons x t =>
    cases t with
    | nil => simp [decode]
    | cons y t =>
      rw [decode, if_neg]
      rintro ⟨h1, h2⟩
      rcases h with h | h
      · exact h h1
      · exact h x y t rfl h2
theorem decode_two {a b : UInt8} (t : Bs) (ha : unhex a < 16) (hb : unhex b < 16) : decode (37 :: a :: b :: t) = byteOf a b :: decode t := by rw [decode, if_pos ⟨rfl, ha, hb⟩]
theorem info_u8 : (Tryd.prog.info? 5).map (fun i => (i.zero, i.size, i.bytes)) = some (some (.int .u8 0), 1, 1) := by kernel_rfl
theorem decode_len : ∀ (n : Nat) (s : Bs), s.length ≤ n → (decode s).length ≤ s.length
  | _, [], _ => by simp [decode]
  | 0, c :: r, h => absurd h (by simp)
  | n + 1, c :: r, h => by
    by_cases hq : c ≠ 37 ∨ ∀ a b t, r = a :: b :: t → ¬ (unhex a < 16 ∧ unhex b < 16)
    · rw [decode_one hq, List.length_cons, List.length_cons]
      have := decode_len n r (by simp at h; omega)
      omega
    · have hc : c = 37 := Decidable.not_not.1 (fun e => hq (.inl e))
      subst hc
      match r, h, hq with
      | [], _, hq => exact absurd (.inr (fun a b t e => by cases e)) hq
      | [_], _, hq => exact absurd (.inr (fun a b t e => by cases e)) hq
      | a :: b :: t, h, hq =>
        by_cases hx : unhex a < 16 ∧ unhex b < 16
        · rw [decode_two t hx.1 hx.2]
          have := decode_len n t (by simp at h; omega)
          simp
          omega
        · exact absurd (.inr (fun x y z e => by cases e; exact hx)) hq
theorem digit_m (c : UInt8) (m : Int) (hm : m = (c.toNat : Int)) (w : World) : Calls Tryd.prog 83 #[.int .u8 m] w fun e w' => e = .returned (.int .u8 (unhex c : Int)) ∧ Below w.heap.size w w' := by
  subst hm
  exact digit_any c w
theorem or4 : ∀ x y : Nat, x < 16 → y < 16 → Go.bits .or .u8 ((x : Int) * 16) (y : Int) = ((x * 16 + y : Nat) : Int) := by
  have h : ∀ x : Nat, x < 16 → ∀ y : Nat, y < 16 → Go.bits .or .u8 ((x : Int) * 16) (y : Int) = ((x * 16 + y : Nat) : Int) := by decide +kernel
  exact fun x y hx hy => h x hx y hy
def UnqPost (s : Bs) (w : World) (e : Ending) (w' : World) : Prop := ∃ (v : Value) (b : Bs) (ok : Bool), e = .returned (.tuple #[v, .bool ok]) ∧ UnqIs s b ok ∧ Kd.R (Kd.int .u8) 5 w' w.heap.size (fun _ => True) v (bI b) ∧ Below w.heap.size w w'
set_option maxHeartbeats 4000000 in
set_option maxRecDepth 100000 in
theorem unq_any (s : Bs) (hl : Hid (s.length < 100000000)) (w : World) : Calls Tryd.prog 66 #[.string (bsV s)] w (UnqPost s w) := by
  by_cases h0 : s = [45]
  · subst h0
    go_enter Tryd.func66, Tryd.ntmps66
    go_wp2_with fail
    go_ret2
    exact ⟨.slice none 0 0, [], true, rfl, .inl ⟨rfl, rfl⟩, Kd.R_nil _ _ _ _ _, Below.refl _ _⟩
  · have k0 : (s == [45]) = false := by simpa using h0
    go_enter Tryd.func66, Tryd.ntmps66
    go_wp2_with fail
    go_loopw [4, 5] (fun v iv wr => ∃ (i : Nat) (acc : Bs) (A : Option Addr) (c : Nat), i ≤ s.length ∧ iv = .int .i64 i ∧ v = .slice A acc.length c ∧ Hid (Kd.R (Kd.int .u8) 5 wr w.heap.size (fun _ => True) (.slice A acc.length c) (bI acc) ∧ acc ++ decode (s.drop i) = decode s ∧ acc.length ≤ i ∧ Below w.heap.size w wr)) (fun _ iv _ => s.length - (intOf iv).toNat)
    case atStart => exact ⟨0, [], none, 0, Nat.zero_le _, rfl, rfl, Kd.R_nil _ _ _ _ _, by simp, Nat.le_refl _, Below.refl _ _⟩
    case round =>
      obtain ⟨i, acc, A, c, hi, rfl, rfl, HI⟩ := hrel
      by_cases hlt : i < s.length
      · have i1 : (0 : Int) ≤ (i : Int) := by omega
        have i2 : (i : Int) < (s.length : Int) := by omega
        have hwi : IntKind.i64.wrap ((i : Int) + 1) = (i : Int) + 1 := by rw [IntKind.wrap_i64]; have := hl.out; omega
        have hw2 : IntKind.i64.wrap ((i : Int) + 2) = (i : Int) + 2 := by rw [IntKind.wrap_i64]; have := hl.out; omega
        have hdr : s.drop i = s[i] :: s.drop (i + 1) := List.drop_eq_getElem_cons hlt
        obtain ⟨ch, hch⟩ : ∃ ch, ch = s[i] := ⟨_, rfl⟩
        rw [← hch] at hdr
        have hgi : s[i] = ch := hch.symm
        clear hch
        have HLA := Lib.hid (show acc.length ≤ i ∧ i < 100000000 from ⟨HI.out.2.2.1, by have := hl.out; omega⟩)
        have HLA := Lib.hid (show acc.length ≤ i ∧ i < 100000000 from ⟨HI.out.2.2.1, by have := hl.out; omega⟩)
        have HLA := Lib.hid (show acc.length ≤ i ∧ i < 100000000 from ⟨HI.out.2.2.1, by have := hl.out; omega⟩)
        have HLA := Lib.hid (show acc.length ≤ i ∧ i < 100000000 from ⟨HI.out.2.2.1, by have := hl.out; omega⟩)
        have HLA := Lib.hid (show acc.length ≤ i ∧ i < 100000000 from ⟨HI.out.2.2.1, by have := hl.out; omega⟩)
        have HLA := Lib.hid (show acc.length ≤ i ∧ i < 100000000 from ⟨HI.out.2.2.1, by have := hl.out; omega⟩)
        have HLA := Lib.hid (show acc.length ≤ i ∧ i < 100000000 from ⟨HI.out.2.2.1, by have := hl.out; omega⟩)
        have HLA := Lib.hid (show acc.length ≤ i ∧ i < 100000000 from ⟨HI.out.2.2.1, by have := hl.out; omega⟩)
        have HLA := Lib.hid (show acc.length ≤ i ∧ i < 100000000 from ⟨HI.out.2.2.1, by have := hl.out; omega⟩)
        by_cases hone : ch ≠ 37 ∨ ∀ a b t, s.drop (i + 1) = a :: b :: t → ¬ (unhex a < 16 ∧ unhex b < 16)
        · have HN := Lib.hid (show (acc ++ [ch]) ++ decode (s.drop (i + 1)) = decode s by rw [List.append_assoc, List.singleton_append, ← decode_one hone, ← hdr]; exact HI.out.2.1)
          by_cases hp : ch = 37
          · by_cases h2 : s.length ≤ i + 2
            · have hp2 : ¬ (i : Int) + 2 < (s.length : Int) := by omega
              subst hp
              clear hdr hone
              go_wp2_with (at_builtin; refine Kd.R_append (Kd.int .u8) (w0 := w) (W := wr) w.heap.size rfl (.tmp 57) (.tmp 59) 26 5 (.int .u8 0) 1 rfl Tryd.underlying26 info_u8 rfl (by decide) (by omega) (.slice A acc.length c) (bI acc) ((37 : UInt8).toNat : Int) [.int .u8 ((37 : UInt8).toNat : Int)] (fun _ => True) (fun _ => False) rfl rfl rfl (fun _ hk => hk.elim) (fun _ _ => trivial) HI.out.1 HI.out.2.2.2 HI.out.2.2.2.size (by rw [bI_len]; have := HLA.out; omega) ?_; intro v9 w9 ho9 hb9 hg9 hat9; rw [show bI acc ++ [((37 : UInt8).toNat : Int)] = bI (acc ++ [(37 : UInt8)]) from (bI_app acc [_]).symm] at ho9; obtain ⟨A9, c9, hv9⟩ := Kd.R_slice ho9; rw [bI_len] at hv9; subst hv9; have HO9 := Lib.hid ho9; have HB9 := Lib.hid hb9; clear ho9 hb9 hg9 hat9)
              all_goals
                go_wp2_with fail
                go_roundw
                case rel => exact ⟨i + 1, acc ++ [(37 : UInt8)], A9, c9, by omega, by go_num, by rw [List.length_append]; rfl, HO9.out, HN.out, by rw [List.length_append, List.length_singleton]; have := HLA.out; omega, HB9.out⟩
                case measure => simp [intOf]; omega
            · have hlt1 : i + 1 < s.length := by omega
              have hlt2 : i + 2 < s.length := by omega
              have i3 : (i : Int) + 2 < (s.length : Int) := by omega
              have i4 : (i : Int) + 1 < (s.length : Int) := by omega
              have i5 : (0 : Int) ≤ (i : Int) + 1 := by omega
              have i6 : (0 : Int) ≤ (i : Int) + 2 := by omega
              have hd1 : s.drop (i + 1) = s[i + 1] :: s[i + 2] :: s.drop (i + 3) := by rw [List.drop_eq_getElem_cons hlt1, List.drop_eq_getElem_cons hlt2]
              have hnx : ¬ (unhex s[i + 1] < 16 ∧ unhex s[i + 2] < 16) := hone.resolve_left (fun e => e hp) _ _ _ hd1
              obtain ⟨xa, hxa⟩ : ∃ x, x = s[i + 1] := ⟨_, rfl⟩
              obtain ⟨xb, hxb⟩ : ∃ x, x = s[i + 2] := ⟨_, rfl⟩
              rw [← hxa, ← hxb] at hnx
              have hga : s[i + 1] = xa := hxa.symm
              have hgb : s[i + 2] = xb := hxb.symm
              subst hp
              clear hdr hone hd1 hxa hxb
              by_cases h3 : unhex xa < 16
              · have h4 : ¬ unhex xb < 16 := fun e => hnx ⟨h3, e⟩
                have h3' : (unhex xa : Int) < 16 := by omega
                have h4' : ¬ (unhex xb : Int) < 16 := by omega
                go_wp2_with fail
                refine (digit_any xa _).mono ?_
                rintro e w1 ⟨rfl, h9⟩
                have R1 := Lib.hid (Kd.R_below HI.out.1 h9)
                have B1 := Lib.hid (HI.out.2.2.2.trans (h9.mono HI.out.2.2.2.size))
                clear h9
                go_wp2_with fail
                refine (digit_any xb _).mono ?_
                rintro e w2 ⟨rfl, h9⟩
                have R2 := Lib.hid (Kd.R_below R1.out h9)
                have B2 := Lib.hid (B1.out.trans (h9.mono B1.out.size))
                clear h9
                go_wp2_with (at_builtin; refine Kd.R_append (Kd.int .u8) (w0 := w) (W := w2) w.heap.size rfl (.tmp 57) (.tmp 59) 26 5 (.int .u8 0) 1 rfl Tryd.underlying26 info_u8 rfl (by decide) (by omega) (.slice A acc.length c) (bI acc) ((37 : UInt8).toNat : Int) [.int .u8 ((37 : UInt8).toNat : Int)] (fun _ => True) (fun _ => False) rfl rfl rfl (fun _ hk => hk.elim) (fun _ _ => trivial) R2.out B2.out B2.out.size (by rw [bI_len]; have := HLA.out; omega) ?_; intro v9 w9 ho9 hb9 hg9 hat9; rw [show bI acc ++ [((37 : UInt8).toNat : Int)] = bI (acc ++ [(37 : UInt8)]) from (bI_app acc [_]).symm] at ho9; obtain ⟨A9, c9, hv9⟩ := Kd.R_slice ho9; rw [bI_len] at hv9; subst hv9; have HO9 := Lib.hid ho9; have HB9 := Lib.hid hb9; clear ho9 hb9 hg9 hat9)
                all_goals
                  go_wp2_with fail
                  go_roundw
                  case rel => exact ⟨i + 1, acc ++ [(37 : UInt8)], A9, c9, by omega, by go_num, by rw [List.length_append]; rfl, HO9.out, HN.out, by rw [List.length_append, List.length_singleton]; have := HLA.out; omega, HB9.out⟩
                  case measure => simp [intOf]; omega
              · have h3' : ¬ (unhex xa : Int) < 16 := by omega
                go_wp2_with fail
                refine (digit_any xa _).mono ?_
                rintro e w1 ⟨rfl, h9⟩
                have R1 := Lib.hid (Kd.R_below HI.out.1 h9)
                have B1 := Lib.hid (HI.out.2.2.2.trans (h9.mono HI.out.2.2.2.size))
                clear h9
                go_wp2_with (at_builtin; refine Kd.R_append (Kd.int .u8) (w0 := w) (W := w1) w.heap.size rfl (.tmp 57) (.tmp 59) 26 5 (.int .u8 0) 1 rfl Tryd.underlying26 info_u8 rfl (by decide) (by omega) (.slice A acc.length c) (bI acc) ((37 : UInt8).toNat : Int) [.int .u8 ((37 : UInt8).toNat : Int)] (fun _ => True) (fun _ => False) rfl rfl rfl (fun _ hk => hk.elim) (fun _ _ => trivial) R1.out B1.out B1.out.size (by rw [bI_len]; have := HLA.out; omega) ?_; intro v9 w9 ho9 hb9 hg9 hat9; rw [show bI acc ++ [((37 : UInt8).toNat : Int)] = bI (acc ++ [(37 : UInt8)]) from (bI_app acc [_]).symm] at ho9; obtain ⟨A9, c9, hv9⟩ := Kd.R_slice ho9; rw [bI_len] at hv9; subst hv9; have HO9 := Lib.hid ho9; have HB9 := Lib.hid hb9; clear ho9 hb9 hg9 hat9)
                all_goals
                  go_wp2_with fail
                  go_roundw
                  case rel => exact ⟨i + 1, acc ++ [(37 : UInt8)], A9, c9, by omega, by go_num, by rw [List.length_append]; rfl, HO9.out, HN.out, by rw [List.length_append, List.length_singleton]; have := HLA.out; omega, HB9.out⟩
                  case measure => simp [intOf]; omega
          · have hp1 : ((ch.toNat : Int) == 37) = false := beq_eq_false_iff_ne.2 (fun e => hp (UInt8.toNat_inj.1 (show ch.toNat = 37 by omega)))
            clear hdr hone
            go_wp2_with (at_builtin; refine Kd.R_append (Kd.int .u8) (w0 := w) (W := wr) w.heap.size rfl (.tmp 57) (.tmp 59) 26 5 (.int .u8 0) 1 rfl Tryd.underlying26 info_u8 rfl (by decide) (by omega) (.slice A acc.length c) (bI acc) (ch.toNat : Int) [.int .u8 (ch.toNat : Int)] (fun _ => True) (fun _ => False) rfl rfl rfl (fun _ hk => hk.elim) (fun _ _ => trivial) HI.out.1 HI.out.2.2.2 HI.out.2.2.2.size (by rw [bI_len]; have := HLA.out; omega) ?_; intro v9 w9 ho9 hb9 hg9 hat9; rw [show bI acc ++ [(ch.toNat : Int)] = bI (acc ++ [ch]) from (bI_app acc [_]).symm] at ho9; obtain ⟨A9, c9, hv9⟩ := Kd.R_slice ho9; rw [bI_len] at hv9; subst hv9; have HO9 := Lib.hid ho9; have HB9 := Lib.hid hb9; clear ho9 hb9 hg9 hat9)
            all_goals
              go_wp2_with fail
              go_roundw
              case rel => exact ⟨i + 1, acc ++ [ch], A9, c9, by omega, by go_num, by rw [List.length_append]; rfl, HO9.out, HN.out, by rw [List.length_append, List.length_singleton]; have := HLA.out; omega, HB9.out⟩
              case measure => simp [intOf]; omega
        · have hc : ch = 37 := Decidable.not_not.1 (fun e => hone (.inl e))
          obtain ⟨xa, xb, rest, hd1, h3, h4⟩ : ∃ a b t, s.drop (i + 1) = a :: b :: t ∧ unhex a < 16 ∧ unhex b < 16 := by
            cases hx : s.drop (i + 1) with
            | nil => exact absurd (.inr (fun a b t e => by rw [hx] at e; cases e)) hone
            | cons a r =>
              cases r with
              | nil => exact absurd (.inr (fun a b t e => by rw [hx] at e; cases e)) hone
              | cons b t =>
                by_cases hy : unhex a < 16 ∧ unhex b < 16
                · exact ⟨a, b, t, rfl, hy.1, hy.2⟩
                · exact absurd (.inr (fun a' b' t' e => by rw [hx] at e; cases e; exact hy)) hone
          subst hc
          have hll := congrArg List.length hd1
          rw [List.length_drop, List.length_cons, List.length_cons] at hll
          have hlt1 : i + 1 < s.length := by omega
          have hlt2 : i + 2 < s.length := by omega
          have i3 : (i : Int) + 2 < (s.length : Int) := by omega
          have i4 : (i : Int) + 1 < (s.length : Int) := by omega
          have i5 : (0 : Int) ≤ (i : Int) + 1 := by omega
          have i6 : (0 : Int) ≤ (i : Int) + 2 := by omega
          have hw3 : IntKind.i64.wrap ((i : Int) + 2 + 1) = (i : Int) + 2 + 1 := by rw [IntKind.wrap_i64]; have := hl.out; omega
          have hd2 : s.drop (i + 1) = s[i + 1] :: s[i + 2] :: s.drop (i + 3) := by rw [List.drop_eq_getElem_cons hlt1, List.drop_eq_getElem_cons hlt2]
          have hd3 := hd1.symm.trans hd2
          injection hd3 with hga hd3
          injection hd3 with hgb hd3
          have HN := Lib.hid (show (acc ++ [byteOf xa xb]) ++ decode (s.drop (i + 3)) = decode s by rw [List.append_assoc, List.singleton_append, ← hd3, ← decode_two rest h3 h4, ← hd1, ← hdr]; exact HI.out.2.1)
          replace hga := hga.symm
          replace hgb := hgb.symm
          clear hdr hone hd1 hd2 hd3 hll
          have h3' : (unhex xa : Int) < 16 := by omega
          have h4' : (unhex xb : Int) < 16 := by omega
          go_wp2_with fail
          refine (digit_any xa _).mono ?_
          rintro e w1 ⟨rfl, h9⟩
          have R1 := Lib.hid (Kd.R_below HI.out.1 h9)
          have B1 := Lib.hid (HI.out.2.2.2.trans (h9.mono HI.out.2.2.2.size))
          clear h9
          go_wp2_with fail
          refine (digit_any xb _).mono ?_
          rintro e w2 ⟨rfl, h9⟩
          have R2 := Lib.hid (Kd.R_below R1.out h9)
          have B2 := Lib.hid (B1.out.trans (h9.mono B1.out.size))
          clear h9
          go_wp2_with fail
          have z0 : Hid (Below w2.heap.size w2 w2.drew) := Drawn0.below ⟨1, rfl⟩
          have H1 := Lib.hid (fun W (hW : Below w2.heap.size w2 W) (m : Int) (hm : m = (xa.toNat : Int)) => (digit_m xa m hm W).mono fun e w' (h : _ ∧ Below W.heap.size W w') => (⟨h.1, hW.trans (h.2.mono hW.size)⟩ : e = .returned (.int .u8 (unhex xa : Int)) ∧ Below w2.heap.size w2 w'))
          have H2 := Lib.hid (fun W (hW : Below w2.heap.size w2 W) (m : Int) (hm : m = (xb.toNat : Int)) => (digit_m xb m hm W).mono fun e w' (h : _ ∧ Below W.heap.size W w') => (⟨h.1, hW.trans (h.2.mono hW.size)⟩ : e = .returned (.int .u8 (unhex xb : Int)) ∧ Below w2.heap.size w2 w'))
          have hor := or4 (unhex xa) (unhex xb) h3 h4
          have hby : ((unhex xa * 16 + unhex xb : Nat) : Int) = ((byteOf xa xb).toNat : Int) := by
            unfold byteOf
            rw [UInt8.toNat_ofNat']
            omega
          rw [hby] at hor
          have j1 : ((i : Int) + 1).toNat = i + 1 := by omega
          have j2 : ((i : Int) + 2).toNat = i + 2 := by omega
          have hwm : IntKind.u8.wrap ((unhex xa : Int) * 16) = (unhex xa : Int) * 16 := by rw [IntKind.wrap_u8]; omega
          go_cut [6] (fun cv wx => cv = .int .u8 ((byteOf xa xb).toNat : Int) ∧ Hid (Below w2.heap.size w2 wx))
          case first =>
            go_region_held3 (fun _ => True) (trivial)
              (first
              | (go_at_call 83; ((with_reducible refine (H1.out _ z0.out _ (by first | rfl | simp only [j1, hga])).mono ?_)); rintro e y1 ⟨rfl, hb⟩; have z1 := Lib.hid hb; clear hb)
              | (go_at_call 83; ((with_reducible refine (H2.out _ z1.out _ (by first | rfl | simp only [j2, hgb])).mono ?_)); rintro e y2 ⟨rfl, hb⟩; have z2 := Lib.hid hb; clear hb))
            all_goals
              go_wp2_with fail
              go_meet
              exact ⟨by first | rfl | rw [hwm, hor] | (simp only [hwm, hor]; done) | (simp [*]; done), z2⟩
          case rest =>
            obtain ⟨rfl, BX⟩ := hcut
            obtain ⟨y2, rfl⟩ : ∃ y2 : World, y2 = wc := ⟨_, rfl⟩
            have RY := Lib.hid (Kd.R_below R2.out BX.out)
            have BY := Lib.hid (B2.out.trans (BX.out.mono B2.out.size))
            go_wp2_with (at_builtin; refine Kd.R_append (Kd.int .u8) (w0 := w) (W := y2) w.heap.size rfl (.tmp 57) (.tmp 59) 26 5 (.int .u8 0) 1 rfl Tryd.underlying26 info_u8 rfl (by decide) (by omega) (.slice A acc.length c) (bI acc) ((byteOf xa xb).toNat : Int) [.int .u8 ((byteOf xa xb).toNat : Int)] (fun _ => True) (fun _ => False) rfl rfl rfl (fun _ hk => hk.elim) (fun _ _ => trivial) RY.out BY.out BY.out.size (by rw [bI_len]; have := HLA.out; omega) ?_; intro v9 w9 ho9 hb9 hg9 hat9; rw [show bI acc ++ [((byteOf xa xb).toNat : Int)] = bI (acc ++ [(byteOf xa xb)]) from (bI_app acc [_]).symm] at ho9; obtain ⟨A9, c9, hv9⟩ := Kd.R_slice ho9; rw [bI_len] at hv9; subst hv9; have HO9 := Lib.hid ho9; have HB9 := Lib.hid hb9; clear ho9 hb9 hg9 hat9)
            all_goals
              go_wp2_with fail
              go_roundw
              case rel => exact ⟨i + 3, acc ++ [(byteOf xa xb)], A9, c9, by omega, by go_num, by rw [List.length_append]; rfl, HO9.out, HN.out, by rw [List.length_append, List.length_singleton]; have := HLA.out; omega, HB9.out⟩
              case measure => simp [intOf]; omega
      · have hiL : i = s.length := by omega
        have HD := Lib.hid (show acc = decode s by have := HI.out.2.1; rwa [List.drop_of_length_le (by omega), decode_nil, List.append_nil] at this)
        have hi3 : ¬ (i : Int) < (s.length : Int) := by omega
        by_cases hz : acc.length = 0
        · have hz1 : ¬ (0 : Int) < (acc.length : Int) := by omega
          have HF := Lib.hid (show UnqIs s acc false from .inr ⟨rfl, by rw [unqS, if_neg h0, if_neg (fun e => e.1 (by rw [← HD.out]; exact List.length_eq_zero_iff.1 hz))]⟩)
          go_wp2_with fail
          go_ret2
          exact ⟨_, acc, false, rfl, HF.out, by have h := HI.out.1; rw [hz] at h; exact h, HI.out.2.2.2⟩
        · have hz1 : (0 : Int) < (acc.length : Int) := by omega
          have HLQ := Lib.hid (show acc.length ≤ 100000000 by have := HI.out.2.2.1; have := hl.out; omega)
          have HRC := Lib.hid (show (Kd.int .u8).C wr A acc.length (bI acc) by have h := (Kd.R_reads' HI.out.1).2.2; rwa [bI_len] at h)
          go_wp2_with (go_at_call 33; refine (quote_any acc A c _ HRC.out HLQ.out).mono ?_; rintro e w1 ⟨rfl, hb⟩; have B1 := Lib.hid hb; clear hb)
          all_goals
            by_cases heq : quoS acc = s
            · have HF := Lib.hid (show UnqIs s acc true from .inl ⟨rfl, by rw [unqS, if_neg h0, ← HD.out, if_pos ⟨fun e => hz (by rw [e]; rfl), heq⟩]⟩)
              have hbq : (quoS acc == s) = true := by simpa using heq
              go_wp2_with fail
              go_ret2
              exact ⟨_, acc, (quoS acc == s), rfl, by rw [hbq]; exact HF.out, Kd.R_below HI.out.1 B1.out, HI.out.2.2.2.trans (B1.out.mono HI.out.2.2.2.size)⟩
            · have HF := Lib.hid (show UnqIs s acc false from .inr ⟨rfl, by rw [unqS, if_neg h0, ← HD.out, if_neg (fun e => heq e.2)]⟩)
              have hbq : (quoS acc == s) = false := by simpa using heq
              go_wp2_with fail
              go_ret2
              exact ⟨_, acc, (quoS acc == s), rfl, by rw [hbq]; exact HF.out, Kd.R_below HI.out.1 B1.out, HI.out.2.2.2.trans (B1.out.mono HI.out.2.2.2.size)⟩
end Go.Proofs.YtgfljpchdiapeaaDoor
