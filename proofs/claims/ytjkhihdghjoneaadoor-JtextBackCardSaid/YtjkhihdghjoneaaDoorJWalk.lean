/- What the builder's and utf8's functions return, and the small functions of package jtext. -/
import Derived.Test.YtjkhihdghjoneaaDoorJLays
import Derived.Test.YtjkhihdghjoneaaDoorJTakePlain
import Derived.Shelf.Strings.MapGrows
namespace Go.Proofs.YtjkhihdghjoneaaDoor
open Go.RowKit Go.Lib

abbrev U8 (w : World) : Prop := Lib.Utf8Tabs 0 1 w
theorem U8.below {w w' : World} (h : U8 w) (hb : Below w.heap.size w w') : U8 w' := Utf8Tabs_below h hb
/-- a builder in block b holds the text l -/
abbrev BI (b : Nat) (l : List UInt8) (w : World) : Prop := Lib.IsBuilderF 37 5 b b (Lib.byteCells l) w
theorem BI.alloc {b : Nat} {l : List UInt8} {w : World} (h : BI b l w) (o : Obj) : BI b l (w.alloc o) := Lib.IsBuilderF.alloc h o
theorem BI.below {b : Nat} {l : List UInt8} {w w' : World} (h : BI b l w) (hb : Below w.heap.size w w') : BI b l w' := Lib.IsBuilderF.below h hb
theorem BI.fresh (w : World) : BI w.heap.size [] (w.alloc (.cells #[.pointer none, .slice none 0 0] 37 (0, 0))) := Lib.IsBuilderF.of (Lib.fresh_isBuilder _ _ w)
theorem c_byte (b : Nat) (l : List UInt8) (c : UInt8) (w : World) (h : BI b l w) (hl : l.length ≤ 100000) (hb : b ≤ w.heap.size) :
    Calls Tryd.prog 14 #[.pointer (some ⟨b, 0, none⟩), .int .u8 (c.toNat : Int)] w fun e w' => e = .returned .nilIface ∧ BI b (l ++ [c]) w' ∧ Below b w w' ∧ Lib.OthersKept 5 (some b) w w' := by
  refine (Any.Builder_WriteByte_k layJ167 extraJ b b (Lib.byteCells l) (c.toNat : Int) w h (by rw [Lib.byteCells_length]; omega) hb).mono ?_
  rintro e w' ⟨rfl, h1, h2, h3⟩
  refine ⟨rfl, Or.inr ?_, h2, h3⟩
  rw [Lib.byteCells_append]; exact h1
theorem c_str (b : Nat) (l : List UInt8) (s : ByteArray) (w : World) (h : BI b l w) (hl : l.length + s.size ≤ 100000) (hb : b ≤ w.heap.size) :
    Calls Tryd.prog 16 #[.pointer (some ⟨b, 0, none⟩), .string s] w fun e w' => e = .returned (.tuple #[.int .i64 s.size, .nilIface]) ∧ BI b (l ++ s.data.toList) w' ∧ Below b w w' ∧ Lib.OthersKept 5 (some b) w w' := by
  refine (Any.Builder_WriteString_k layJ166 extraJ b b (Lib.byteCells l) s w h (by rw [Lib.byteCells_length]; omega) hb).mono ?_
  rintro e w' ⟨rfl, h1, h2, h3⟩
  refine ⟨rfl, Or.inr ?_, h2, h3⟩
  rw [Lib.byteCells_append, ← Lib.strCells_eq]; exact h1
theorem c_rune (b : Nat) (l : List UInt8) (r : Int) (h0 : -2147483648 ≤ r) (h1 : r ≤ 2147483647) (w : World) (h : BI b l w) (hl : l.length ≤ 100000) (hb : b ≤ w.heap.size) :
    Calls Tryd.prog 17 #[.pointer (some ⟨b, 0, none⟩), .int .i32 r] w fun e w' => e = .returned (.tuple #[.int .i64 (Lib.runeCells r).length, .nilIface]) ∧ BI b (l ++ Lib.encodeRune r) w' ∧ Below b w w' ∧ Lib.OthersKept 5 (some b) w w' := by
  refine (Any.Builder_WriteRune_k layJ168 extraJ b b (Lib.byteCells l) r h0 h1 w h (by rw [Lib.byteCells_length]; omega) hb).mono ?_
  rintro e w' ⟨rfl, h1, h2, h3⟩
  refine ⟨rfl, Or.inr ?_, h2, h3⟩
  rw [Lib.byteCells_append, Lib.byteCells_encodeRune]; exact h1
theorem c_text (b : Nat) (l : List UInt8) (w : World) (h : BI b l w) (hb : b ≤ w.heap.size) :
    Calls Tryd.prog 18 #[.pointer (some ⟨b, 0, none⟩)] w fun e w' => e = .returned (.string (bs l)) ∧ BI b l w' ∧ Below b w w' :=
  Any.Builder_String_any_f layJ169 extraJ b b l w h hb
theorem c_valid (s : ByteArray) (w : World) (hs : s.size ≤ 1000000) (hu : U8 w) :
    Calls Tryd.prog 21 #[.string s] w fun e w' => e = .returned (.bool (valR s.data.toList)) ∧ Below w.heap.size w w' := by
  have h := Any.utf8_ValidString layJ196 s w (by omega) hu
  rw [valD_eq] at h; exact h
theorem c_decode (s : ByteArray) (w : World) (hs : s.data.toList ≠ []) (hu : U8 w) :
    Calls Tryd.prog 23 #[.string s] w fun e w' => e = .returned (.tuple #[.int .i32 ((Lib.decodeL s.data.toList).1 : Nat), .int .i64 ((rwd s.data.toList : Nat) : Int)]) ∧ Below w.heap.size w w' := by
  have h := Any.utf8_DecodeRuneInString layJ197 s w hu
  have e : Lib.decodeGo s = Lib.decodeL s.data.toList := by
    unfold Lib.decodeGo
    rw [if_neg (by rw [← size_len]; have := List.length_pos_iff.2 hs; omega)]
    have := Lib.decodeL_drop s 0
    rw [List.drop_zero] at this; exact this.symm
  rw [e] at h; exact h

theorem valid (s : ByteArray) (w : World) (hs : s.size ≤ 1000000) (hu : U8 w) :
    Calls Tryd.prog 11 #[.string s] w fun e w' => e = .returned (.bool (valR s.data.toList)) ∧ Below w.heap.size w w' := by
  have c := c_valid s w hs hu
  go_enter Tryd.func11, Tryd.ntmps11
  go_wp2_with fail
  refine c.mono ?_
  rintro e w1 ⟨rfl, hb⟩
  go_wp2_with fail
  go_ret
  exact ⟨rfl, hb⟩
/-- the number of a digit of 16, and whether it is one -/
def hexI (c : UInt8) : Int := match hexV c with | none => 0 | some d => (d : Nat)
theorem digit (c : UInt8) (w : World) :
    Calls Tryd.prog 33 #[.int .u8 (c.toNat : Int)] w fun e w' => e = .returned (.tuple #[.int .i32 (hexI c), .bool (hexV c).isSome]) ∧ w' = w := by
  have hc := c.toNat_lt
  by_cases a1 : 48 ≤ c.toNat ∧ c.toNat ≤ 57
  · have H : Hid (hexI c = ((c.toNat : Int) - 48) ∧ (hexV c).isSome = true) := Lib.hid (by unfold hexI hexV; rw [if_pos a1]; exact ⟨by show ((c.toNat - 48 : Nat) : Int) = _; omega, rfl⟩)
    have t1 : decide ((c.toNat : Int) ≥ 48) = true := decide_eq_true (by omega)
    have t2 : decide ((c.toNat : Int) ≤ 57) = true := decide_eq_true (by omega)
    go_enter Tryd.func33, Tryd.ntmps33
    go_wp2_with fail
    go_ret2
    exact ⟨by rw [H.out.1, H.out.2]; rfl, rfl⟩
  · by_cases a2 : 97 ≤ c.toNat ∧ c.toNat ≤ 102
    · have H : Hid (hexI c = ((c.toNat : Int) - 97) + 10 ∧ (hexV c).isSome = true) := Lib.hid (by unfold hexI hexV; rw [if_neg a1, if_pos a2]; exact ⟨by show ((c.toNat - 87 : Nat) : Int) = _; omega, rfl⟩)
      have t1 : decide ((c.toNat : Int) ≤ 57) = false := decide_eq_false (by omega)
      have t2 : decide ((c.toNat : Int) ≥ 97) = true := decide_eq_true (by omega)
      have t3 : decide ((c.toNat : Int) ≤ 102) = true := decide_eq_true (by omega)
      have t4 : decide ((c.toNat : Int) ≥ 48) = true := decide_eq_true (by omega)
      go_enter Tryd.func33, Tryd.ntmps33
      go_wp2_with fail
      go_ret2
      exact ⟨by rw [H.out.1, H.out.2]; rfl, rfl⟩
    · by_cases a3 : 65 ≤ c.toNat ∧ c.toNat ≤ 70
      · have H : Hid (hexI c = ((c.toNat : Int) - 65) + 10 ∧ (hexV c).isSome = true) := Lib.hid (by unfold hexI hexV; rw [if_neg a1, if_neg a2, if_pos a3]; exact ⟨by show ((c.toNat - 55 : Nat) : Int) = _; omega, rfl⟩)
        have t1 : decide ((c.toNat : Int) ≤ 57) = false := decide_eq_false (by omega)
        have t2 : decide ((c.toNat : Int) ≥ 97) = false := decide_eq_false (by omega)
        have t3 : decide ((c.toNat : Int) ≥ 65) = true := decide_eq_true (by omega)
        have t4 : decide ((c.toNat : Int) ≥ 48) = true := decide_eq_true (by omega)
        have t5 : decide ((c.toNat : Int) ≤ 70) = true := decide_eq_true (by omega)
        go_enter Tryd.func33, Tryd.ntmps33
        go_wp2_with fail
        go_ret2
        exact ⟨by rw [H.out.1, H.out.2]; rfl, rfl⟩
      · have H : Hid (hexI c = 0 ∧ (hexV c).isSome = false) := Lib.hid (by unfold hexI hexV; rw [if_neg a1, if_neg a2, if_neg a3]; exact ⟨rfl, rfl⟩)
        have e1 : (decide ((c.toNat : Int) ≥ 48) && decide ((c.toNat : Int) ≤ 57)) = false := by rw [Bool.and_eq_false_iff, decide_eq_false_iff_not, decide_eq_false_iff_not]; omega
        have e2 : (decide ((c.toNat : Int) ≥ 97) && decide ((c.toNat : Int) ≤ 102)) = false := by rw [Bool.and_eq_false_iff, decide_eq_false_iff_not, decide_eq_false_iff_not]; omega
        have e3 : (decide ((c.toNat : Int) ≥ 65) && decide ((c.toNat : Int) ≤ 70)) = false := by rw [Bool.and_eq_false_iff, decide_eq_false_iff_not, decide_eq_false_iff_not]; omega
        clear a1 a2 a3
        cases b1 : decide ((c.toNat : Int) ≥ 48) <;> cases b2 : decide ((c.toNat : Int) ≤ 57) <;> cases b3 : decide ((c.toNat : Int) ≥ 97) <;> cases b4 : decide ((c.toNat : Int) ≤ 102) <;> cases b5 : decide ((c.toNat : Int) ≥ 65) <;> cases b6 : decide ((c.toNat : Int) ≤ 70) <;>
          first
          | (exfalso; simp only [b1, b2, b3, b4, b5, b6, Bool.and_self, reduceCtorEq] at e1 e2 e3; done)
          | (go_enter Tryd.func33, Tryd.ntmps33
             go_wp2_with fail
             go_ret2
             exact ⟨by rw [H.out.1, H.out.2]; rfl, rfl⟩)
end Go.Proofs.YtjkhihdghjoneaaDoor
