/- Texts as lists of bytes. The kit's contracts of strings.Builder and of utf8.ValidString, laid at this seat. (Printed by wip/genlays.py.) Plain laws: runes and quotes (no program in sight). Plain laws: what is taken of quotes (no program in sight). What the builder's and utf8's functions return, and the small functions of package jtext. The number of the table of powers. Plain laws: what is taken of quotes is valid; it comes back of a text's quotes; it hangs on its own bytes alone (no program in sight). Plain laws: taking hangs on its own bytes alone; a text comes back of its quotes (no program in sight). Plain laws: a valid text comes back of its quotes (no program in sight). Plain laws: what is taken at the start of a text. Values and their JSON: plain words (no program in sight). A value comes back of its JSON: plain words. What is taken may be laid; what is cut is too short: plain words. What is left behind a value is the end of what there was, and the steps that are at hand are enough: plain words. -/
import Derived.Test.YtcmkepkeeahioaaGreatDoorProg
import Derived.WalkKit
import Derived.Below
import Derived.Deep.RegionHeld3
import Derived.BigRegion
import Derived.BigQuiet
import Derived.Outline
import Derived.Lib.Hide
import Derived.WalkMore
import Derived.Scope
import Derived.ScopeJumps
import Derived.OwnWalk
import Derived.WalkSpells
import Derived.WalkLawsBesides
import Derived.Shelf.Strings.BuilderRune
import Derived.Shelf.Strings.BuilderK
import Derived.Shelf.Unicode.ValidAny
import Derived.Shelf.Unicode.DecodeAny
import Derived.Shelf.Strings.MapAny
import Derived.Lib.MapLaws
import Derived.Lib.ValidU
import Derived.Lib.RuneBytes
import Derived.Lib.TrimAscii
import Derived.Shelf.Strings.MapGrows
import GoSem.Claims
import Derived.KernelRfl
import Derived.Lib.ItoaNum
set_option linter.unusedVariables false
set_option linter.unusedSimpArgs false
namespace Go.Proofs.YtcmkepkeeahioaaGreatDoor
open Go.RowKit

/-- a text of a list of bytes -/
def bs (l : List UInt8) : ByteArray := ⟨l.toArray⟩
theorem bs_data (l : List UInt8) : (bs l).data.toList = l := by simp [bs]
theorem bs_size (l : List UInt8) : (bs l).size = l.length := by simp [bs, ByteArray.size]
theorem bs_self (s : ByteArray) : bs s.data.toList = s := by cases s; simp [bs]
theorem size_len (s : ByteArray) : s.data.toList.length = s.size := by simp
theorem bstep {w0 w w' : World} (h : Below w0.heap.size w0 w) (k : Below w.heap.size w w') : Below w0.heap.size w0 w' := h.trans (k.mono h.size)
theorem ret_int {k : IntKind} {a b : Int} (h : a = b) : Ending.returned (.int k a) = .returned (.int k b) := by rw [h]
theorem ret_str {a b : ByteArray} (h : a = b) : Ending.returned (.string a) = .returned (.string b) := by rw [h]
theorem extract_bs (s : ByteArray) (a b : Nat) : s.extract a b = bs ((s.data.toList.take b).drop a) := by
  have h : (s.extract a b).data.toList = (s.data.toList.take b).drop a := by
    rw [ByteArray.data_extract, Array.toList_extract]
    simp [List.drop_take]
  rw [← h, bs_self]
theorem bs_cat (a b : List UInt8) : bs a ++ bs b = bs (a ++ b) := by
  have : (bs a ++ bs b).data.toList = a ++ b := by simp [bs]
  rw [← this, bs_self]
theorem isEmpty_bs (l : List UInt8) : (bs l).toList.isEmpty = l.isEmpty := by
  rw [ByteArray.toList_eq, bs_data]
theorem bs_beq (x y : List UInt8) : ((bs x).toList == (bs y).toList) = decide (x = y) := by
  rw [ByteArray.toList_eq, ByteArray.toList_eq, bs_data, bs_data]
  by_cases h : x = y
  · simp [h]
  · simp [h]
end Go.Proofs.YtcmkepkeeahioaaGreatDoor
namespace Go.Proofs.YtcmkepkeeahioaaGreatDoor
open Go.RowKit

def jren : Go.Shelf.Ren := ⟨fun | 166 => 35 | 167 => 61 | 168 => 83 | 169 => 37 | 240 => 56 | 276 => 78 | 242 => 102 | 278 => 119 | 196 => 63 | 259 => 84 | 197 => 88 | 260 => 104 | n => n, fun | 0 => 0 | 3 => 3 | 4 => 4 | 5 => 5 | 9 => 9 | 12 => 12 | 20 => 20 | 21 => 21 | 37 => 51 | 46 => 75 | 51 => 99 | 53 => 102 | 70 => 79 | 72 => 81 | 75 => 84 | 80 => 88 | 105 => 132 | 119 => 126 | 127 => 105 | 138 => 128 | 139 => 129 | 164 => 119 | n => n, fun | 3 => 0 | 4 => 1 | n => n⟩
theorem layJ166 : Go.Proofs.Lays.n166 Tryz.prog jren := {
  mixed := by kernel_rfl
  f166 := Tryz.func35.trans (congrArg some (by kernel_rfl))
  f240 := Tryz.func56.trans (congrArg some (by kernel_rfl))
  f276 := Tryz.func78.trans (congrArg some (by kernel_rfl))
  t0 := Tryz.underlying0
  a0 := Tryz.isAgg0
  z0 := Tryz.sizeOf0
  v0 := Tryz.zeroValue0
  t3 := Tryz.underlying3
  a3 := Tryz.isAgg3
  z3 := Tryz.sizeOf3
  v3 := Tryz.zeroValue3
  t4 := Tryz.underlying4
  a4 := Tryz.isAgg4
  z4 := Tryz.sizeOf4
  v4 := Tryz.zeroValue4
  t9 := Tryz.underlying9
  a9 := Tryz.isAgg9
  z9 := Tryz.sizeOf9
  v9 := Tryz.zeroValue9
  t20 := Tryz.underlying20
  a20 := Tryz.isAgg20
  z20 := Tryz.sizeOf20
  v20 := Tryz.zeroValue20
  t37 := Tryz.underlying51
  a37 := Tryz.isAgg51
  z37 := Tryz.sizeOf51
  v37 := Tryz.zeroValue51
  t70 := Tryz.underlying79
  a70 := Tryz.isAgg79
  z70 := Tryz.sizeOf79
  v70 := Tryz.zeroValue79
  t72 := Tryz.underlying81
  a72 := Tryz.isAgg81
  z72 := Tryz.sizeOf81
  v72 := Tryz.zeroValue81
  t75 := Tryz.underlying84
  a75 := Tryz.isAgg84
  z75 := Tryz.sizeOf84
  v75 := Tryz.zeroValue84
  t164 := Tryz.underlying119
  a164 := Tryz.isAgg119
  z164 := Tryz.sizeOf119
  v164 := Tryz.zeroValue119
}
theorem layJ167 : Go.Proofs.Lays.n167 Tryz.prog jren := {
  mixed := by kernel_rfl
  f167 := Tryz.func61.trans (congrArg some (by kernel_rfl))
  f240 := Tryz.func56.trans (congrArg some (by kernel_rfl))
  f276 := Tryz.func78.trans (congrArg some (by kernel_rfl))
  t0 := Tryz.underlying0
  a0 := Tryz.isAgg0
  z0 := Tryz.sizeOf0
  v0 := Tryz.zeroValue0
  t4 := Tryz.underlying4
  a4 := Tryz.isAgg4
  z4 := Tryz.sizeOf4
  v4 := Tryz.zeroValue4
  t5 := Tryz.underlying5
  a5 := Tryz.isAgg5
  z5 := Tryz.sizeOf5
  v5 := Tryz.zeroValue5
  t9 := Tryz.underlying9
  a9 := Tryz.isAgg9
  z9 := Tryz.sizeOf9
  v9 := Tryz.zeroValue9
  t20 := Tryz.underlying20
  a20 := Tryz.isAgg20
  z20 := Tryz.sizeOf20
  v20 := Tryz.zeroValue20
  t37 := Tryz.underlying51
  a37 := Tryz.isAgg51
  z37 := Tryz.sizeOf51
  v37 := Tryz.zeroValue51
  t70 := Tryz.underlying79
  a70 := Tryz.isAgg79
  z70 := Tryz.sizeOf79
  v70 := Tryz.zeroValue79
  t72 := Tryz.underlying81
  a72 := Tryz.isAgg81
  z72 := Tryz.sizeOf81
  v72 := Tryz.zeroValue81
  t75 := Tryz.underlying84
  a75 := Tryz.isAgg84
  z75 := Tryz.sizeOf84
  v75 := Tryz.zeroValue84
  t164 := Tryz.underlying119
  a164 := Tryz.isAgg119
  z164 := Tryz.sizeOf119
  v164 := Tryz.zeroValue119
}
theorem layJ168 : Go.Proofs.Lays.n168 Tryz.prog jren := {
  mixed := by kernel_rfl
  f168 := Tryz.func83.trans (congrArg some (by kernel_rfl))
  f240 := Tryz.func56.trans (congrArg some (by kernel_rfl))
  f242 := Tryz.func102.trans (congrArg some (by kernel_rfl))
  f276 := Tryz.func78.trans (congrArg some (by kernel_rfl))
  f278 := Tryz.func119.trans (congrArg some (by kernel_rfl))
  t0 := Tryz.underlying0
  a0 := Tryz.isAgg0
  z0 := Tryz.sizeOf0
  v0 := Tryz.zeroValue0
  t3 := Tryz.underlying3
  a3 := Tryz.isAgg3
  z3 := Tryz.sizeOf3
  v3 := Tryz.zeroValue3
  t4 := Tryz.underlying4
  a4 := Tryz.isAgg4
  z4 := Tryz.sizeOf4
  v4 := Tryz.zeroValue4
  t5 := Tryz.underlying5
  a5 := Tryz.isAgg5
  z5 := Tryz.sizeOf5
  v5 := Tryz.zeroValue5
  t9 := Tryz.underlying9
  a9 := Tryz.isAgg9
  z9 := Tryz.sizeOf9
  v9 := Tryz.zeroValue9
  t20 := Tryz.underlying20
  a20 := Tryz.isAgg20
  z20 := Tryz.sizeOf20
  v20 := Tryz.zeroValue20
  t21 := Tryz.underlying21
  a21 := Tryz.isAgg21
  z21 := Tryz.sizeOf21
  v21 := Tryz.zeroValue21
  t37 := Tryz.underlying51
  a37 := Tryz.isAgg51
  z37 := Tryz.sizeOf51
  v37 := Tryz.zeroValue51
  t46 := Tryz.underlying75
  a46 := Tryz.isAgg75
  z46 := Tryz.sizeOf75
  v46 := Tryz.zeroValue75
  t51 := Tryz.underlying99
  a51 := Tryz.isAgg99
  z51 := Tryz.sizeOf99
  v51 := Tryz.zeroValue99
  t70 := Tryz.underlying79
  a70 := Tryz.isAgg79
  z70 := Tryz.sizeOf79
  v70 := Tryz.zeroValue79
  t72 := Tryz.underlying81
  a72 := Tryz.isAgg81
  z72 := Tryz.sizeOf81
  v72 := Tryz.zeroValue81
  t75 := Tryz.underlying84
  a75 := Tryz.isAgg84
  z75 := Tryz.sizeOf84
  v75 := Tryz.zeroValue84
  t164 := Tryz.underlying119
  a164 := Tryz.isAgg119
  z164 := Tryz.sizeOf119
  v164 := Tryz.zeroValue119
}
theorem layJ169 : Go.Proofs.Lays.n169 Tryz.prog jren := {
  mixed := by kernel_rfl
  f169 := Tryz.func37.trans (congrArg some (by kernel_rfl))
  t0 := Tryz.underlying0
  a0 := Tryz.isAgg0
  z0 := Tryz.sizeOf0
  v0 := Tryz.zeroValue0
  t3 := Tryz.underlying3
  a3 := Tryz.isAgg3
  z3 := Tryz.sizeOf3
  v3 := Tryz.zeroValue3
  t9 := Tryz.underlying9
  a9 := Tryz.isAgg9
  z9 := Tryz.sizeOf9
  v9 := Tryz.zeroValue9
  t37 := Tryz.underlying51
  a37 := Tryz.isAgg51
  z37 := Tryz.sizeOf51
  v37 := Tryz.zeroValue51
  t70 := Tryz.underlying79
  a70 := Tryz.isAgg79
  z70 := Tryz.sizeOf79
  v70 := Tryz.zeroValue79
  t72 := Tryz.underlying81
  a72 := Tryz.isAgg81
  z72 := Tryz.sizeOf81
  v72 := Tryz.zeroValue81
  t127 := Tryz.underlying105
  a127 := Tryz.isAgg105
  z127 := Tryz.sizeOf105
  v127 := Tryz.zeroValue105
}
theorem layJ196 : Go.Proofs.Lays.n196 Tryz.prog jren := {
  mixed := by kernel_rfl
  f196 := Tryz.func63.trans (congrArg some (by kernel_rfl))
  f259 := Tryz.func84.trans (congrArg some (by kernel_rfl))
  t0 := Tryz.underlying0
  a0 := Tryz.isAgg0
  z0 := Tryz.sizeOf0
  v0 := Tryz.zeroValue0
  t3 := Tryz.underlying3
  a3 := Tryz.isAgg3
  z3 := Tryz.sizeOf3
  v3 := Tryz.zeroValue3
  t4 := Tryz.underlying4
  a4 := Tryz.isAgg4
  z4 := Tryz.sizeOf4
  v4 := Tryz.zeroValue4
  t5 := Tryz.underlying5
  a5 := Tryz.isAgg5
  z5 := Tryz.sizeOf5
  v5 := Tryz.zeroValue5
  t9 := Tryz.underlying9
  a9 := Tryz.isAgg9
  z9 := Tryz.sizeOf9
  v9 := Tryz.zeroValue9
  t12 := Tryz.underlying12
  a12 := Tryz.isAgg12
  z12 := Tryz.sizeOf12
  v12 := Tryz.zeroValue12
  t46 := Tryz.underlying75
  a46 := Tryz.isAgg75
  z46 := Tryz.sizeOf75
  v46 := Tryz.zeroValue75
  t53 := Tryz.underlying102
  a53 := Tryz.isAgg102
  z53 := Tryz.sizeOf102
  v53 := Tryz.zeroValue102
  t119 := Tryz.underlying126
  a119 := Tryz.isAgg126
  z119 := Tryz.sizeOf126
  t138 := Tryz.underlying128
  a138 := Tryz.isAgg128
  z138 := Tryz.sizeOf128
  v138 := Tryz.zeroValue128
  t139 := Tryz.underlying129
  a139 := Tryz.isAgg129
  z139 := Tryz.sizeOf129
  v139 := Tryz.zeroValue129
  g3 := by kernel_rfl
  g4 := by kernel_rfl
}
theorem layJ197 : Go.Proofs.Lays.n197 Tryz.prog jren := {
  mixed := by kernel_rfl
  f197 := Tryz.func88.trans (congrArg some (by kernel_rfl))
  f260 := Tryz.func104.trans (congrArg some (by kernel_rfl))
  t0 := Tryz.underlying0
  a0 := Tryz.isAgg0
  z0 := Tryz.sizeOf0
  v0 := Tryz.zeroValue0
  t3 := Tryz.underlying3
  a3 := Tryz.isAgg3
  z3 := Tryz.sizeOf3
  v3 := Tryz.zeroValue3
  t4 := Tryz.underlying4
  a4 := Tryz.isAgg4
  z4 := Tryz.sizeOf4
  v4 := Tryz.zeroValue4
  t5 := Tryz.underlying5
  a5 := Tryz.isAgg5
  z5 := Tryz.sizeOf5
  v5 := Tryz.zeroValue5
  t9 := Tryz.underlying9
  a9 := Tryz.isAgg9
  z9 := Tryz.sizeOf9
  v9 := Tryz.zeroValue9
  t21 := Tryz.underlying21
  a21 := Tryz.isAgg21
  z21 := Tryz.sizeOf21
  v21 := Tryz.zeroValue21
  t46 := Tryz.underlying75
  a46 := Tryz.isAgg75
  z46 := Tryz.sizeOf75
  v46 := Tryz.zeroValue75
  t105 := Tryz.underlying132
  a105 := Tryz.isAgg132
  z105 := Tryz.sizeOf132
  v105 := Tryz.zeroValue132
  t119 := Tryz.underlying126
  a119 := Tryz.isAgg126
  z119 := Tryz.sizeOf126
  t138 := Tryz.underlying128
  a138 := Tryz.isAgg128
  z138 := Tryz.sizeOf128
  v138 := Tryz.zeroValue128
  t139 := Tryz.underlying129
  a139 := Tryz.isAgg129
  z139 := Tryz.sizeOf129
  v139 := Tryz.zeroValue129
  g3 := by kernel_rfl
  g4 := by kernel_rfl
}
theorem extraJ : Builder.Extra Tryz.prog jren where
  sizeBuilder := by kernel_rfl
  liesBuilder := by kernel_rfl
  t5 := Tryz.underlying5
  a5 := Tryz.isAgg5
  z5 := Tryz.sizeOf5
  v5 := Tryz.zeroValue5
  infoByte := by kernel_rfl
  cellsByte := by kernel_rfl
  sizeByte := by kernel_rfl
  neB5 := by decide
end Go.Proofs.YtcmkepkeeahioaaGreatDoor
namespace Go.Proofs.YtcmkepkeeahioaaGreatDoor
open Go.RowKit

/-- a text begins with no rune -/
def badR (l : List UInt8) : Prop := (Go.Lib.decodeL l).1 = 65533 ∧ (Go.Lib.decodeL l).2 = 1
instance (l : List UInt8) : Decidable (badR l) := by unfold badR; infer_instance
/-- how many bytes the rune has with which a text begins -/
def rwd (l : List UInt8) : Nat := (Go.Lib.decodeL l).2
theorem rwd_pos (l : List UInt8) : 1 ≤ rwd l := Go.Lib.decodeL_width l
theorem rwd_le (l : List UInt8) (h : l ≠ []) : rwd l ≤ l.length := Go.Lib.decodeL_le l h
theorem drop_lt (l : List UInt8) (h : l ≠ []) : (l.drop (rwd l)).length < l.length := by
  rw [List.length_drop]; have := rwd_pos l; have := List.length_pos_iff.2 h; omega
def valR (l : List UInt8) : Bool := if h : l = [] then true else if badR l then false else valR (l.drop (rwd l))
termination_by l.length
decreasing_by exact drop_lt l h
def stpR (l : List UInt8) : Nat := if h : l = [] then 0 else stpR (l.drop (rwd l)) + 1
termination_by l.length
decreasing_by exact drop_lt l h
theorem valR_nil : valR [] = true := by rw [valR]; rfl
theorem valR_bad (l : List UInt8) (h : l ≠ []) (hb : badR l) : valR l = false := by rw [valR, dif_neg h, if_pos hb]
theorem valR_step (l : List UInt8) (h : l ≠ []) (hb : ¬ badR l) : valR l = valR (l.drop (rwd l)) := by rw [valR, dif_neg h, if_neg hb]
theorem stpR_nil : stpR [] = 0 := by rw [stpR]; rfl
theorem stpR_step (l : List UInt8) (h : l ≠ []) : stpR l = stpR (l.drop (rwd l)) + 1 := by rw [stpR, dif_neg h]
theorem valGo_eq (n : Nat) : ∀ l : List UInt8, l.length ≤ n → Go.Lib.validGoD n l = valR l := by
  induction n with
  | zero => intro l h; rw [List.length_eq_zero_iff.1 (Nat.le_zero.1 h), valR_nil]; rfl
  | succ n ih =>
    intro l h
    show (if l = [] then true else if badR l then false else Go.Lib.validGoD n (l.drop (rwd l))) = _
    by_cases h0 : l = []
    · rw [if_pos h0, h0, valR_nil]
    · rw [if_neg h0]
      by_cases hb : badR l
      · rw [if_pos hb, valR_bad l h0 hb]
      · rw [if_neg hb, valR_step l h0 hb, ih _ (by have := drop_lt l h0; omega)]
theorem valD_eq (l : List UInt8) : Go.Lib.validD l = valR l := valGo_eq _ l (Nat.le_refl _)
/-- how many runes, or -1 -/
def cntR (l : List UInt8) : Int := if valR l = true then (stpR l : Int) else -1
/-- the bytes of a rune beyond ASCII -/
theorem high_bytes (l : List UInt8) (h : l ≠ []) (hb : ¬ badR l) (hh : 128 ≤ (l.getD 0 0).toNat) : ∀ j, j < rwd l → 128 ≤ (l.getD j 0).toNat := by
  unfold badR at hb
  unfold rwd
  rw [Go.Lib.decodeL_N] at hb ⊢
  rcases Go.Lib.decodeN_shape l.length (l.getD 0 0).toNat (l.getD 1 0).toNat (l.getD 2 0).toNat (l.getD 3 0).toNat with ⟨c, e⟩ | ⟨c1, c2, c3, cv, e⟩ | ⟨c1, c2, c3, c4, cv, cs, e⟩ | ⟨c1, c2, c3, c4, c5, cv, cw, e⟩ | e
  · omega
  · rw [e]; intro j hj
    match j, hj with
    | 0, _ => exact hh
    | 1, _ => omega
  · rw [e]; intro j hj
    match j, hj with
    | 0, _ => exact hh
    | 1, _ => omega
    | 2, _ => omega
  · rw [e]; intro j hj
    match j, hj with
    | 0, _ => exact hh
    | 1, _ => omega
    | 2, _ => omega
    | 3, _ => omega
  · rw [e] at hb; exact absurd ⟨rfl, rfl⟩ hb
theorem low_rune (c : UInt8) (t : List UInt8) (h : c.toNat < 128) : Go.Lib.decodeL (c :: t) = (c.toNat, 1) := Go.Lib.decodeL_ascii c t h

/-- a digit of 16 -/
def hexB (n : Nat) : UInt8 := if n < 10 then UInt8.ofNat (48 + n) else UInt8.ofNat (87 + n)
/-- the letter of a mark of two bytes; 0: there is none -/
def shortN (c : Nat) : Nat := if c = 34 ∨ c = 92 then c else if c = 8 then 98 else if c = 9 then 116 else if c = 10 then 110 else if c = 12 then 102 else if c = 13 then 114 else 0
/-- how a byte stands in quotes -/
def qb (c : UInt8) : List UInt8 := if shortN c.toNat ≠ 0 then [92, UInt8.ofNat (shortN c.toNat)] else if c.toNat < 32 then [92, 117, 48, 48, hexB (c.toNat / 16), hexB (c.toNat % 16)] else [c]
def quoL (l : List UInt8) : List UInt8 := 34 :: (l.flatMap qb ++ [34])
theorem qb_high (c : UInt8) (h : 128 ≤ c.toNat) : qb c = [c] := by
  have e : shortN c.toNat = 0 := by
    unfold shortN
    rw [if_neg (by omega), if_neg (by omega), if_neg (by omega), if_neg (by omega), if_neg (by omega), if_neg (by omega)]
  unfold qb
  rw [if_neg (by rw [e]; decide), if_neg (by omega)]
theorem flat_high (l : List UInt8) (h : ∀ c ∈ l, 128 ≤ c.toNat) : l.flatMap qb = l := by
  induction l with
  | nil => rfl
  | cons c t ih =>
    rw [List.flatMap_cons, qb_high c (h c (List.mem_cons_self ..)), ih (fun d hd => h d (List.mem_cons_of_mem _ hd))]; rfl
theorem take_high (l : List UInt8) (h : l ≠ []) (hb : ¬ badR l) (hh : 128 ≤ (l.getD 0 0).toNat) : ∀ c ∈ l.take (rwd l), 128 ≤ c.toNat := by
  intro c hc
  obtain ⟨j, hj, rfl⟩ := List.getElem_of_mem hc
  rw [List.length_take] at hj
  have := high_bytes l h hb hh j (by omega)
  rw [List.getElem_take]
  rwa [List.getD_eq_getElem?_getD, List.getElem?_eq_getElem (by omega)] at this
theorem qb_len (c : UInt8) : (qb c).length ≤ 6 := by
  unfold qb; split
  · show 2 ≤ 6; decide
  · split
    · show 6 ≤ 6; decide
    · show 1 ≤ 6; decide
theorem flat_len (l : List UInt8) : (l.flatMap qb).length ≤ 6 * l.length := by
  induction l with
  | nil => exact Nat.le_refl _
  | cons c t ih => rw [List.flatMap_cons, List.length_append, List.length_cons]; have := qb_len c; omega
end Go.Proofs.YtcmkepkeeahioaaGreatDoor
namespace Go.Proofs.YtcmkepkeeahioaaGreatDoor
open Go.RowKit

def hexV (c : UInt8) : Option Nat := if 48 ≤ c.toNat ∧ c.toNat ≤ 57 then some (c.toNat - 48) else if 97 ≤ c.toNat ∧ c.toNat ≤ 102 then some (c.toNat - 87) else if 65 ≤ c.toNat ∧ c.toNat ≤ 70 then some (c.toNat - 55) else none
theorem hexV_lt (c : UInt8) (d : Nat) (h : hexV c = some d) : d < 16 := by
  unfold hexV at h
  split at h
  · simp at h; omega
  · split at h
    · simp at h; omega
    · split at h
      · simp at h; omega
      · exact absurd h (by simp)
/-- four digits -/
def hex4 : Nat → Nat → List UInt8 → Nat × Nat
  | 0, c, _ => (c, 0)
  | _ + 1, _, [] => (0, 3)
  | k + 1, c, b :: t => match hexV b with | none => (0, 4) | some d => hex4 k (c * 16 + d) t
/-- the code of a mark of four digits: its number, and the error -/
def codeP (l : List UInt8) : Nat × Nat := match l with
  | [] => (0, 3)
  | a :: t => if a ≠ 92 then (0, 4) else match t with
    | [] => (0, 3)
    | b :: u => if b ≠ 117 then (0, 4) else hex4 4 0 u
def pairP (l : List UInt8) : Nat × Nat × Nat :=
  if (codeP l).2 ≠ 0 then (0, 0, (codeP l).2) else if (codeP l).1 < 55296 ∨ 57343 < (codeP l).1 then ((codeP l).1, 6, 0) else if 56320 ≤ (codeP l).1 then (0, 0, 4)
  else if (codeP (l.drop 6)).2 ≠ 0 then (0, 0, (codeP (l.drop 6)).2) else if (codeP (l.drop 6)).1 < 56320 ∨ 57343 < (codeP (l.drop 6)).1 then (0, 0, 4)
  else (65536 + ((codeP l).1 - 55296) * 1024 + ((codeP (l.drop 6)).1 - 56320), 12, 0)
/-- the rune of a mark of two bytes; 0: there is none -/
def escN (c : Nat) : Nat := if c = 34 ∨ c = 92 ∨ c = 47 then c else if c = 98 then 8 else if c = 102 then 12 else if c = 110 then 10 else if c = 114 then 13 else if c = 116 then 9 else 0
def markP (l : List UInt8) : Nat × Nat × Nat := if l.length < 2 then (0, 0, 3) else if escN (l.getD 1 0).toNat ≠ 0 then (escN (l.getD 1 0).toNat, 2, 0) else pairP l

/-- one step of taking: 0: on, so many bytes, and what they tell; 1: the end; 3, 4: an error -/
def stepT (r : List UInt8) : Nat × Nat × List UInt8 :=
  if r.getD 0 0 = 34 then (1, 1, []) else if r.getD 0 0 = 92 then (if (markP r).2.2 = 3 then (3, 0, []) else if (markP r).2.2 ≠ 0 then (4, 0, []) else (0, (markP r).2.1, Go.Lib.encodeRune ((markP r).1 : Nat)))
  else if badR r ∨ (r.getD 0 0).toNat < 32 then (4, 0, []) else (0, rwd r, r.take (rwd r))
def takeR : Nat → List UInt8 → Nat → List UInt8 → List UInt8 × Nat × Nat
  | 0, r, i, _ => ([], i + r.length, 3)
  | f + 1, r, i, acc => if r = [] then ([], i, 3) else if (stepT r).1 = 1 then (acc, i + 1, 0) else if (stepT r).1 = 3 then ([], i + r.length, 3) else if (stepT r).1 = 4 then ([], i, 4)
    else takeR f (r.drop (stepT r).2.1) (i + (stepT r).2.1) (acc ++ (stepT r).2.2)
/-- what is taken at a place: the text, the next place, the error -/
def takeP (l : List UInt8) (at_ : Int) : List UInt8 × Int × Nat :=
  if at_ < 0 ∨ (l.length : Int) < at_ then ([], 0, 2) else if at_ = l.length then ([], at_, 3) else if l.getD at_.toNat 0 ≠ 34 then ([], at_, 4)
  else ((takeR (l.length + 1) (l.drop (at_.toNat + 1)) (at_.toNat + 1) []).1, ((takeR (l.length + 1) (l.drop (at_.toNat + 1)) (at_.toNat + 1) []).2.1 : Nat), (takeR (l.length + 1) (l.drop (at_.toNat + 1)) (at_.toNat + 1) []).2.2)

theorem hex4_len (k : Nat) : ∀ (c : Nat) (l : List UInt8), (hex4 k c l).2 = 0 → k ≤ l.length := by
  induction k with
  | zero => intro c l _; exact Nat.zero_le _
  | succ k ih =>
    intro c l h
    cases l with
    | nil => exact absurd (show (3 : Nat) = 0 from h) (by decide)
    | cons b t =>
      unfold hex4 at h
      cases hb : hexV b with
      | none => rw [hb] at h; exact absurd (show (4 : Nat) = 0 from h) (by decide)
      | some d => rw [hb] at h; have := ih _ _ h; simp; omega
theorem hex4_lt (k : Nat) : ∀ (c : Nat) (l : List UInt8), (hex4 k c l).2 = 0 → (hex4 k c l).1 < (c + 1) * 16 ^ k := by
  induction k with
  | zero => intro c l _; show c < _; omega
  | succ k ih =>
    intro c l h
    cases l with
    | nil => exact absurd (show (3 : Nat) = 0 from h) (by decide)
    | cons b t =>
      unfold hex4 at h ⊢
      cases hb : hexV b with
      | none => rw [hb] at h; exact absurd (show (4 : Nat) = 0 from h) (by decide)
      | some d =>
        rw [hb] at h
        have h1 := ih _ _ h
        have hd := hexV_lt b d hb
        refine Nat.lt_of_lt_of_le h1 ?_
        rw [Nat.pow_succ, Nat.mul_comm (16 ^ k) 16, ← Nat.mul_assoc]
        exact Nat.mul_le_mul_right _ (by omega)
theorem hex4_err (k : Nat) : ∀ (c : Nat) (l : List UInt8), (hex4 k c l).2 = 0 ∨ (hex4 k c l).2 = 3 ∨ (hex4 k c l).2 = 4 := by
  induction k with
  | zero => intro c l; exact .inl rfl
  | succ k ih =>
    intro c l
    cases l with
    | nil => exact .inr (.inl rfl)
    | cons b t =>
      unfold hex4
      cases hb : hexV b with
      | none => exact .inr (.inr rfl)
      | some d => exact ih _ _
theorem codeP_err (l : List UInt8) : (codeP l).2 = 0 ∨ (codeP l).2 = 3 ∨ (codeP l).2 = 4 := by
  unfold codeP
  split
  · exact .inr (.inl rfl)
  · split
    · exact .inr (.inr rfl)
    · split
      · exact .inr (.inl rfl)
      · split
        · exact .inr (.inr rfl)
        · exact hex4_err _ _ _
theorem codeP_ok (l : List UInt8) (h : (codeP l).2 = 0) : 6 ≤ l.length ∧ (codeP l).1 < 65536 := by
  unfold codeP at h ⊢
  cases l with
  | nil => exact absurd h (by decide)
  | cons a t =>
    simp only [] at h ⊢
    by_cases ha : a = 92
    · rw [if_neg (by simp [ha])] at h ⊢
      cases t with
      | nil => exact absurd h (by decide)
      | cons b u =>
        simp only [] at h ⊢
        by_cases hb : b = 117
        · rw [if_neg (by simp [hb])] at h ⊢
          have h1 := hex4_len _ _ _ h
          have h2 := hex4_lt _ _ _ h
          exact ⟨by simp; omega, by omega⟩
        · rw [if_pos hb] at h; exact absurd h (by decide)
    · rw [if_pos ha] at h; exact absurd h (by decide)
def goodR (c : Nat) : Prop := c < 55296 ∨ (57343 < c ∧ c ≤ 1114111)
theorem pairP_ok (l : List UInt8) (h : (pairP l).2.2 = 0) : 6 ≤ (pairP l).2.1 ∧ (pairP l).2.1 ≤ l.length ∧ goodR (pairP l).1 := by
  unfold pairP at h ⊢
  by_cases a1 : (codeP l).2 ≠ 0
  · rw [if_pos a1] at h; exact absurd h a1
  · rw [if_neg a1] at h ⊢
    obtain ⟨l1, l2⟩ := codeP_ok l (by simpa using a1)
    by_cases a2 : (codeP l).1 < 55296 ∨ 57343 < (codeP l).1
    · rw [if_pos a2]
      exact ⟨Nat.le_refl _, l1, by unfold goodR; show (codeP l).1 < 55296 ∨ _; omega⟩
    · rw [if_neg a2] at h ⊢
      by_cases a3 : 56320 ≤ (codeP l).1
      · rw [if_pos a3] at h; exact absurd h (by decide)
      · rw [if_neg a3] at h ⊢
        by_cases a4 : (codeP (l.drop 6)).2 ≠ 0
        · rw [if_pos a4] at h; exact absurd h a4
        · rw [if_neg a4] at h ⊢
          obtain ⟨m1, m2⟩ := codeP_ok _ (by simpa using a4)
          by_cases a5 : (codeP (l.drop 6)).1 < 56320 ∨ 57343 < (codeP (l.drop 6)).1
          · rw [if_pos a5] at h; exact absurd h (by decide)
          · rw [if_neg a5]
            rw [List.length_drop] at m1
            refine ⟨by show 6 ≤ 12; decide, by show 12 ≤ l.length; omega, ?_⟩
            unfold goodR
            show 65536 + _ + _ < 55296 ∨ _
            omega
theorem escN_lt (c : Nat) (h : c < 256) : escN c < 256 := by
  unfold escN
  repeat' split
  all_goals omega
theorem markP_ok (l : List UInt8) (h : (markP l).2.2 = 0) : 2 ≤ (markP l).2.1 ∧ (markP l).2.1 ≤ l.length ∧ goodR (markP l).1 := by
  unfold markP at h ⊢
  by_cases a1 : l.length < 2
  · rw [if_pos a1] at h; exact absurd h (by decide)
  · rw [if_neg a1] at h ⊢
    by_cases a2 : escN (l.getD 1 0).toNat ≠ 0
    · rw [if_pos a2]
      exact ⟨Nat.le_refl _, by show 2 ≤ l.length; omega, .inl (by show escN _ < _; have := escN_lt _ (l.getD 1 0).toNat_lt; omega)⟩
    · rw [if_neg a2] at h ⊢
      obtain ⟨p1, p2, p3⟩ := pairP_ok l h
      exact ⟨by omega, p2, p3⟩

/-- the step goes on: so many bytes, at least one, and no more than there are -/
theorem stepT_on (r : List UInt8) (hr : r ≠ []) (h : (stepT r).1 = 0) : 1 ≤ (stepT r).2.1 ∧ (stepT r).2.1 ≤ r.length := by
  unfold stepT at h ⊢
  by_cases a1 : r.getD 0 0 = 34
  · rw [if_pos a1] at h; exact absurd h (by decide)
  · rw [if_neg a1] at h ⊢
    by_cases a2 : r.getD 0 0 = 92
    · rw [if_pos a2] at h ⊢
      by_cases a3 : (markP r).2.2 = 3
      · rw [if_pos a3] at h; exact absurd h (by decide)
      · rw [if_neg a3] at h ⊢
        by_cases a4 : (markP r).2.2 ≠ 0
        · rw [if_pos a4] at h; exact absurd h (by decide)
        · rw [if_neg a4]
          obtain ⟨p1, p2, _⟩ := markP_ok r (by simpa using a4)
          exact ⟨by show 1 ≤ (markP r).2.1; omega, p2⟩
    · rw [if_neg a2] at h ⊢
      by_cases a3 : badR r ∨ (r.getD 0 0).toNat < 32
      · rw [if_pos a3] at h; exact absurd h (by decide)
      · rw [if_neg a3]; exact ⟨rwd_pos r, rwd_le r hr⟩
theorem stepT_kind (r : List UInt8) : (stepT r).1 = 0 ∨ (stepT r).1 = 1 ∨ (stepT r).1 = 3 ∨ (stepT r).1 = 4 := by
  unfold stepT
  repeat' split
  all_goals simp
theorem takeR_fuel (n : Nat) : ∀ (f g : Nat) (r : List UInt8) (i : Nat) (acc : List UInt8), r.length ≤ n → r.length < f → r.length < g → takeR f r i acc = takeR g r i acc := by
  induction n with
  | zero =>
    intro f g r i acc h hf hg
    have : r = [] := List.length_eq_zero_iff.1 (by omega)
    subst this
    cases f with
    | zero => exact absurd hf (Nat.not_lt_zero _)
    | succ f => cases g with
      | zero => exact absurd hg (Nat.not_lt_zero _)
      | succ g => rfl
  | succ n ih =>
    intro f g r i acc h hf hg
    cases f with
    | zero => exact absurd hf (Nat.not_lt_zero _)
    | succ f => cases g with
      | zero => exact absurd hg (Nat.not_lt_zero _)
      | succ g =>
        unfold takeR
        by_cases h0 : r = []
        · rw [if_pos h0, if_pos h0]
        · rw [if_neg h0, if_neg h0]
          rcases stepT_kind r with hk | hk | hk | hk
          · obtain ⟨s1, s2⟩ := stepT_on r h0 hk
            rw [hk, if_neg (by decide), if_neg (by decide), if_neg (by decide), if_neg (by decide), if_neg (by decide), if_neg (by decide)]
            have hpos := List.length_pos_iff.2 h0
            exact ih f g _ _ _ (by rw [List.length_drop]; omega) (by rw [List.length_drop]; omega) (by rw [List.length_drop]; omega)
          · rw [hk, if_pos rfl, if_pos rfl]
          · rw [hk, if_neg (by decide), if_pos rfl, if_neg (by decide), if_pos rfl]
          · rw [hk, if_neg (by decide), if_neg (by decide), if_pos rfl, if_neg (by decide), if_neg (by decide), if_pos rfl]
end Go.Proofs.YtcmkepkeeahioaaGreatDoor
namespace Go.Proofs.YtcmkepkeeahioaaGreatDoor
open Go.RowKit Go.Lib

abbrev U8 (w : World) : Prop := Lib.Utf8Tabs 0 1 w
theorem U8.below {w w' : World} (h : U8 w) (hb : Below w.heap.size w w') : U8 w' := Utf8Tabs_below h hb
/-- a builder in block b holds the text l -/
abbrev BI (b : Nat) (l : List UInt8) (w : World) : Prop := Lib.IsBuilderF 81 5 b b (Lib.byteCells l) w
theorem BI.alloc {b : Nat} {l : List UInt8} {w : World} (h : BI b l w) (o : Obj) : BI b l (w.alloc o) := Lib.IsBuilderF.alloc h o
theorem BI.below {b : Nat} {l : List UInt8} {w w' : World} (h : BI b l w) (hb : Below w.heap.size w w') : BI b l w' := Lib.IsBuilderF.below h hb
theorem BI.fresh (w : World) : BI w.heap.size [] (w.alloc (.cells #[.pointer none, .slice none 0 0] 81 (0, 0))) := Lib.IsBuilderF.of (Lib.fresh_isBuilder _ _ w)
theorem c_byte (b : Nat) (l : List UInt8) (c : UInt8) (w : World) (h : BI b l w) (hl : l.length ≤ 100000000) (hb : b ≤ w.heap.size) :
    Calls Tryz.prog 61 #[.pointer (some ⟨b, 0, none⟩), .int .u8 (c.toNat : Int)] w fun e w' => e = .returned .nilIface ∧ BI b (l ++ [c]) w' ∧ Below b w w' ∧ Lib.OthersKept 5 (some b) w w' := by
  refine (Any.Builder_WriteByte_k layJ167 extraJ b b (Lib.byteCells l) (c.toNat : Int) w h (by rw [Lib.byteCells_length]; omega) hb).mono ?_
  rintro e w' ⟨rfl, h1, h2, h3⟩
  refine ⟨rfl, Or.inr ?_, h2, h3⟩
  rw [Lib.byteCells_append]; exact h1
theorem c_str (b : Nat) (l : List UInt8) (s : ByteArray) (w : World) (h : BI b l w) (hl : l.length + s.size ≤ 100000000) (hb : b ≤ w.heap.size) :
    Calls Tryz.prog 35 #[.pointer (some ⟨b, 0, none⟩), .string s] w fun e w' => e = .returned (.tuple #[.int .i64 s.size, .nilIface]) ∧ BI b (l ++ s.data.toList) w' ∧ Below b w w' ∧ Lib.OthersKept 5 (some b) w w' := by
  refine (Any.Builder_WriteString_k layJ166 extraJ b b (Lib.byteCells l) s w h (by rw [Lib.byteCells_length]; omega) hb).mono ?_
  rintro e w' ⟨rfl, h1, h2, h3⟩
  refine ⟨rfl, Or.inr ?_, h2, h3⟩
  rw [Lib.byteCells_append, ← Lib.strCells_eq]; exact h1
theorem c_rune (b : Nat) (l : List UInt8) (r : Int) (h0 : -2147483648 ≤ r) (h1 : r ≤ 2147483647) (w : World) (h : BI b l w) (hl : l.length ≤ 100000000) (hb : b ≤ w.heap.size) :
    Calls Tryz.prog 83 #[.pointer (some ⟨b, 0, none⟩), .int .i32 r] w fun e w' => e = .returned (.tuple #[.int .i64 (Lib.runeCells r).length, .nilIface]) ∧ BI b (l ++ Lib.encodeRune r) w' ∧ Below b w w' ∧ Lib.OthersKept 5 (some b) w w' := by
  refine (Any.Builder_WriteRune_k layJ168 extraJ b b (Lib.byteCells l) r h0 h1 w h (by rw [Lib.byteCells_length]; omega) hb).mono ?_
  rintro e w' ⟨rfl, h1, h2, h3⟩
  refine ⟨rfl, Or.inr ?_, h2, h3⟩
  rw [Lib.byteCells_append, Lib.byteCells_encodeRune]; exact h1
theorem c_text (b : Nat) (l : List UInt8) (w : World) (h : BI b l w) (hb : b ≤ w.heap.size) :
    Calls Tryz.prog 37 #[.pointer (some ⟨b, 0, none⟩)] w fun e w' => e = .returned (.string (bs l)) ∧ BI b l w' ∧ Below b w w' :=
  Any.Builder_String_any_f layJ169 extraJ b b l w h hb
theorem c_valid (s : ByteArray) (w : World) (hs : s.size ≤ 1000000) (hu : U8 w) :
    Calls Tryz.prog 63 #[.string s] w fun e w' => e = .returned (.bool (valR s.data.toList)) ∧ Below w.heap.size w w' := by
  have h := Any.utf8_ValidString layJ196 s w (by omega) hu
  rw [valD_eq] at h; exact h
theorem c_decode (s : ByteArray) (w : World) (hs : s.data.toList ≠ []) (hu : U8 w) :
    Calls Tryz.prog 88 #[.string s] w fun e w' => e = .returned (.tuple #[.int .i32 ((Lib.decodeL s.data.toList).1 : Nat), .int .i64 ((rwd s.data.toList : Nat) : Int)]) ∧ Below w.heap.size w w' := by
  have h := Any.utf8_DecodeRuneInString layJ197 s w hu
  have e : Lib.decodeGo s = Lib.decodeL s.data.toList := by
    unfold Lib.decodeGo
    rw [if_neg (by rw [← size_len]; have := List.length_pos_iff.2 hs; omega)]
    have := Lib.decodeL_drop s 0
    rw [List.drop_zero] at this; exact this.symm
  rw [e] at h; exact h

theorem valid (s : ByteArray) (w : World) (hs : s.size ≤ 1000000) (hu : U8 w) :
    Calls Tryz.prog 42 #[.string s] w fun e w' => e = .returned (.bool (valR s.data.toList)) ∧ Below w.heap.size w w' := by
  have c := c_valid s w hs hu
  go_enter Tryz.func42, Tryz.ntmps42
  go_wp2_with fail
  refine c.mono ?_
  rintro e w1 ⟨rfl, hb⟩
  go_wp2_with fail
  go_ret
  exact ⟨rfl, hb⟩
/-- the number of a digit of 16, and whether it is one -/
def hexI (c : UInt8) : Int := match hexV c with | none => 0 | some d => (d : Nat)
theorem digit (c : UInt8) (w : World) :
    Calls Tryz.prog 133 #[.int .u8 (c.toNat : Int)] w fun e w' => e = .returned (.tuple #[.int .i32 (hexI c), .bool (hexV c).isSome]) ∧ w' = w := by
  have hc := c.toNat_lt
  by_cases a1 : 48 ≤ c.toNat ∧ c.toNat ≤ 57
  · have H : Hid (hexI c = ((c.toNat : Int) - 48) ∧ (hexV c).isSome = true) := Lib.hid (by unfold hexI hexV; rw [if_pos a1]; exact ⟨by show ((c.toNat - 48 : Nat) : Int) = _; omega, rfl⟩)
    have t1 : decide ((c.toNat : Int) ≥ 48) = true := decide_eq_true (by omega)
    have t2 : decide ((c.toNat : Int) ≤ 57) = true := decide_eq_true (by omega)
    go_enter Tryz.func133, Tryz.ntmps133
    go_wp2_with fail
    go_ret2
    exact ⟨by rw [H.out.1, H.out.2]; rfl, rfl⟩
  · by_cases a2 : 97 ≤ c.toNat ∧ c.toNat ≤ 102
    · have H : Hid (hexI c = ((c.toNat : Int) - 97) + 10 ∧ (hexV c).isSome = true) := Lib.hid (by unfold hexI hexV; rw [if_neg a1, if_pos a2]; exact ⟨by show ((c.toNat - 87 : Nat) : Int) = _; omega, rfl⟩)
      have t1 : decide ((c.toNat : Int) ≤ 57) = false := decide_eq_false (by omega)
      have t2 : decide ((c.toNat : Int) ≥ 97) = true := decide_eq_true (by omega)
      have t3 : decide ((c.toNat : Int) ≤ 102) = true := decide_eq_true (by omega)
      have t4 : decide ((c.toNat : Int) ≥ 48) = true := decide_eq_true (by omega)
      go_enter Tryz.func133, Tryz.ntmps133
      go_wp2_with fail
      go_ret2
      exact ⟨by rw [H.out.1, H.out.2]; rfl, rfl⟩
    · by_cases a3 : 65 ≤ c.toNat ∧ c.toNat ≤ 70
      · have H : Hid (hexI c = ((c.toNat : Int) - 65) + 10 ∧ (hexV c).isSome = true) := Lib.hid (by unfold hexI hexV; rw [if_neg a1, if_neg a2, if_pos a3]; exact ⟨by show ((c.toNat - 55 : Nat) : Int) = _; omega, rfl⟩)
        have t1 : decide ((c.toNat : Int) ≤ 57) = false := decide_eq_false (by omega)
        have t2 : decide ((c.toNat : Int) ≥ 97) = false := decide_eq_false (by omega)
        have t3 : decide ((c.toNat : Int) ≥ 65) = true := decide_eq_true (by omega)
        have t4 : decide ((c.toNat : Int) ≥ 48) = true := decide_eq_true (by omega)
        have t5 : decide ((c.toNat : Int) ≤ 70) = true := decide_eq_true (by omega)
        go_enter Tryz.func133, Tryz.ntmps133
        go_wp2_with fail
        go_ret2
        exact ⟨by rw [H.out.1, H.out.2]; rfl, rfl⟩
      · have H : Hid (hexI c = 0 ∧ (hexV c).isSome = false) := Lib.hid (by unfold hexI hexV; rw [if_neg a1, if_neg a2, if_neg a3]; exact ⟨rfl, rfl⟩)
        have e1 : (decide ((c.toNat : Int) ≥ 48) && decide ((c.toNat : Int) ≤ 57)) = false := by rw [Bool.and_eq_false_iff, decide_eq_false_iff_not, decide_eq_false_iff_not]; omega
        have e2 : (decide ((c.toNat : Int) ≥ 97) && decide ((c.toNat : Int) ≤ 102)) = false := by rw [Bool.and_eq_false_iff, decide_eq_false_iff_not, decide_eq_false_iff_not]; omega
        have e3 : (decide ((c.toNat : Int) ≥ 65) && decide ((c.toNat : Int) ≤ 70)) = false := by rw [Bool.and_eq_false_iff, decide_eq_false_iff_not, decide_eq_false_iff_not]; omega
        clear a1 a2 a3
        cases b1 : decide ((c.toNat : Int) ≥ 48) <;> cases b2 : decide ((c.toNat : Int) ≤ 57) <;> cases b3 : decide ((c.toNat : Int) ≥ 97) <;> cases b4 : decide ((c.toNat : Int) ≤ 102) <;> cases b5 : decide ((c.toNat : Int) ≥ 65) <;> cases b6 : decide ((c.toNat : Int) ≤ 70) <;>
          first
          | (exfalso; simp only [b1, b2, b3, b4, b5, b6, Bool.and_self, reduceCtorEq] at e1 e2 e3; done)
          | (go_enter Tryz.func133, Tryz.ntmps133
             go_wp2_with fail
             go_ret2
             exact ⟨by rw [H.out.1, H.out.2]; rfl, rfl⟩)
end Go.Proofs.YtcmkepkeeahioaaGreatDoor
namespace Go.Proofs.YtcmkepkeeahioaaGreatDoor
theorem g_pow10 : Tryz.prog.globalNamed "internal/strconv.uint64pow10" = some 5 := by kernel_rfl
end Go.Proofs.YtcmkepkeeahioaaGreatDoor
namespace Go.Proofs.YtcmkepkeeahioaaGreatDoor
open Go.RowKit

theorem dn_two (n b0 b1 b2 b3 : Nat) (h : b0 / 32 = 6) (h1 : 1 < n) (h2 : b1 / 64 = 2) (hv : 128 ≤ b0 % 32 * 64 + b1 % 64) : Go.Lib.decodeN n b0 b1 b2 b3 = (b0 % 32 * 64 + b1 % 64, 2) := by
  unfold Go.Lib.decodeN
  rw [if_neg (by omega), if_pos ⟨h, h1, h2⟩, if_pos hv]
theorem dn_three (n b0 b1 b2 b3 : Nat) (h : b0 / 16 = 14) (h1 : 2 < n) (h2 : b1 / 64 = 2) (h3 : b2 / 64 = 2) (hv : 2048 ≤ b0 % 16 * 4096 + b1 % 64 * 64 + b2 % 64) (hs : b0 % 16 * 4096 + b1 % 64 * 64 + b2 % 64 < 55296 ∨ 57344 ≤ b0 % 16 * 4096 + b1 % 64 * 64 + b2 % 64) :
    Go.Lib.decodeN n b0 b1 b2 b3 = (b0 % 16 * 4096 + b1 % 64 * 64 + b2 % 64, 3) := by
  unfold Go.Lib.decodeN
  rw [if_neg (by omega), if_neg (by omega), if_pos ⟨h, ⟨by omega, h2⟩, h1, h3⟩, if_pos (by omega)]
theorem dn_four (n b0 b1 b2 b3 : Nat) (h : b0 / 8 = 30) (h1 : 3 < n) (h2 : b1 / 64 = 2) (h3 : b2 / 64 = 2) (h4 : b3 / 64 = 2) (hv : 65536 ≤ b0 % 8 * 262144 + b1 % 64 * 4096 + b2 % 64 * 64 + b3 % 64) (hs : b0 % 8 * 262144 + b1 % 64 * 4096 + b2 % 64 * 64 + b3 % 64 ≤ 1114111) :
    Go.Lib.decodeN n b0 b1 b2 b3 = (b0 % 8 * 262144 + b1 % 64 * 4096 + b2 % 64 * 64 + b3 % 64, 4) := by
  unfold Go.Lib.decodeN
  rw [if_neg (by omega), if_neg (by omega), if_neg (by omega), if_pos ⟨h, ⟨by omega, h2⟩, ⟨by omega, h3⟩, h1, h4⟩, if_pos (by omega)]
theorem getD_pre (x t : List UInt8) (w j : Nat) (hj : j < w) (hw : w ≤ x.length) : (x.take w ++ t).getD j 0 = x.getD j 0 := by
  rw [List.getD_eq_getElem?_getD, List.getD_eq_getElem?_getD, List.getElem?_append_left (by rw [List.length_take]; omega), List.getElem?_take, if_pos hj]
/-- a rune is told by its own bytes -/
theorem dec_local (x t : List UInt8) (h : x ≠ []) (hb : ¬ badR x) : Go.Lib.decodeL (x.take (rwd x) ++ t) = Go.Lib.decodeL x := by
  have hw := rwd_le x h
  have hlen : rwd x ≤ (x.take (rwd x) ++ t).length := by rw [List.length_append, List.length_take]; omega
  have g := fun j (hj : j < rwd x) => getD_pre x t (rwd x) j hj hw
  unfold badR at hb
  unfold rwd at hlen g ⊢
  rw [Go.Lib.decodeL_N x] at hb
  rw [Go.Lib.decodeL_N]
  rcases Go.Lib.decodeN_shape x.length (x.getD 0 0).toNat (x.getD 1 0).toNat (x.getD 2 0).toNat (x.getD 3 0).toNat with ⟨c, e⟩ | ⟨c1, c2, c3, cv, e⟩ | ⟨c1, c2, c3, c4, cv, cs, e⟩ | ⟨c1, c2, c3, c4, c5, cv, cw, e⟩ | e
  · have hx : Go.Lib.decodeL x = _ := (Go.Lib.decodeL_N x).trans e
    rw [hx] at hlen g ⊢
    rw [g 0 (by omega), Go.Lib.decodeN_ascii _ _ _ _ _ c]
  · have hx : Go.Lib.decodeL x = _ := (Go.Lib.decodeL_N x).trans e
    rw [hx] at hlen g ⊢
    rw [g 0 (by omega), g 1 (by omega)]
    exact dn_two _ _ _ _ _ c1 (by omega) c3 cv
  · have hx : Go.Lib.decodeL x = _ := (Go.Lib.decodeL_N x).trans e
    rw [hx] at hlen g ⊢
    rw [g 0 (by omega), g 1 (by omega), g 2 (by omega)]
    exact dn_three _ _ _ _ _ c1 (by omega) c3 c4 cv cs
  · have hx : Go.Lib.decodeL x = _ := (Go.Lib.decodeL_N x).trans e
    rw [hx] at hlen g ⊢
    rw [g 0 (by omega), g 1 (by omega), g 2 (by omega), g 3 (by omega)]
    exact dn_four _ _ _ _ _ c1 (by omega) c3 c4 c5 cv cw
  · rw [e] at hb; exact absurd ⟨rfl, rfl⟩ hb
theorem byte_z (z : Int) (h0 : 0 ≤ z) (h1 : z < 256) : (z.toNat.toUInt8).toNat = z.toNat := by
  show (UInt8.ofNat z.toNat).toNat = _
  rw [UInt8.toNat_ofNat']; omega
/-- what a rune is laid as is told as it -/
theorem enc_dec (c : Nat) (h : goodR c) (t : List UInt8) : Go.Lib.decodeL (Go.Lib.encodeRune (c : Int) ++ t) = (c, (Go.Lib.encodeRune (c : Int)).length) := by
  unfold goodR at h
  rw [Go.Lib.decodeL_N]
  unfold Go.Lib.encodeRune
  by_cases a1 : c < 128
  · rw [Go.Lib.encodeRuneZ_one (by omega) (by omega)]
    simp only [List.map_cons, List.map_nil, List.cons_append, List.nil_append, List.getD_cons_zero, List.length_cons, List.length_nil]
    rw [byte_z _ (by omega) (by omega), Int.toNat_natCast, Go.Lib.decodeN_ascii _ _ _ _ _ a1]
  · by_cases a2 : c < 2048
    · rw [Go.Lib.encodeRuneZ_two (by omega) (by omega)]
      simp only [List.map_cons, List.map_nil, List.cons_append, List.nil_append, List.getD_cons_zero, List.getD_cons_succ, List.length_cons, List.length_nil]
      rw [byte_z (192 + (c : Int) / 64) (by omega) (by omega), byte_z (128 + (c : Int) % 64) (by omega) (by omega)]
      rw [dn_two _ _ _ _ _ (by omega) (by omega) (by omega) (by omega)]
      congr 1; omega
    · by_cases a3 : c < 65536
      · rw [Go.Lib.encodeRuneZ_three (by omega)]
        simp only [List.map_cons, List.map_nil, List.cons_append, List.nil_append, List.getD_cons_zero, List.getD_cons_succ, List.length_cons, List.length_nil]
        rw [byte_z (224 + (c : Int) / 4096) (by omega) (by omega), byte_z (128 + (c : Int) / 64 % 64) (by omega) (by omega), byte_z (128 + (c : Int) % 64) (by omega) (by omega)]
        rw [dn_three _ _ _ _ _ (by omega) (by omega) (by omega) (by omega) (by omega) (by omega)]
        congr 1; omega
      · rw [Go.Lib.encodeRuneZ_four (by omega) (by omega)]
        simp only [List.map_cons, List.map_nil, List.cons_append, List.nil_append, List.getD_cons_zero, List.getD_cons_succ, List.length_cons, List.length_nil]
        rw [byte_z (240 + (c : Int) / 262144) (by omega) (by omega), byte_z (128 + (c : Int) / 4096 % 64) (by omega) (by omega), byte_z (128 + (c : Int) / 64 % 64) (by omega) (by omega), byte_z (128 + (c : Int) % 64) (by omega) (by omega)]
        rw [dn_four _ _ _ _ _ (by omega) (by omega) (by omega) (by omega) (by omega) (by omega) (by omega)]
        congr 1; omega
theorem enc_ne (c : Int) : Go.Lib.encodeRune c ≠ [] := by
  intro e
  have h1 : (Go.Lib.encodeRune c).length = (Go.Lib.encodeRuneZ c).length := by unfold Go.Lib.encodeRune; rw [List.length_map]
  have h2 := (Go.Lib.encodeRuneZ_length c).1
  rw [e] at h1; simp at h1; omega
theorem enc_three (c : Nat) (h : c = 65533) : (Go.Lib.encodeRune (c : Int)).length = 3 := by subst h; decide
theorem val_enc (c : Nat) (h : goodR c) (t : List UInt8) : valR (Go.Lib.encodeRune (c : Int) ++ t) = valR t := by
  have hd := enc_dec c h t
  have hb : ¬ badR (Go.Lib.encodeRune (c : Int) ++ t) := by
    unfold badR; rw [hd]; rintro ⟨e1, e2⟩
    have := enc_three c e1
    simp at e2; omega
  rw [valR_step _ (by simp [enc_ne]) hb]
  unfold rwd; rw [hd, List.drop_left]
theorem val_rune (x t : List UInt8) (h : x ≠ []) (hb : ¬ badR x) : valR (x.take (rwd x) ++ t) = valR t := by
  have hd := dec_local x t h hb
  have hb2 : ¬ badR (x.take (rwd x) ++ t) := by unfold badR at hb ⊢; rw [hd]; exact hb
  have hpos := rwd_pos x
  have hle := rwd_le x h
  rw [valR_step _ (by intro e; have := congrArg List.length e; rw [List.length_append, List.length_take, List.length_nil] at this; omega) hb2]
  have e : rwd (x.take (rwd x) ++ t) = (x.take (rwd x)).length := by
    unfold rwd at hd ⊢; rw [hd, List.length_take]; unfold rwd at hle; omega
  rw [e, List.drop_left]

/-- what a step tells is a rune, or runes -/
theorem step_val (r : List UInt8) (hr : r ≠ []) (h : (stepT r).1 = 0) (t : List UInt8) : valR ((stepT r).2.2 ++ t) = valR t := by
  unfold stepT at h ⊢
  by_cases a1 : r.getD 0 0 = 34
  · rw [if_pos a1] at h; exact absurd h (by decide)
  · rw [if_neg a1] at h ⊢
    by_cases a2 : r.getD 0 0 = 92
    · rw [if_pos a2] at h ⊢
      by_cases a3 : (markP r).2.2 = 3
      · rw [if_pos a3] at h; exact absurd h (by decide)
      · rw [if_neg a3] at h ⊢
        by_cases a4 : (markP r).2.2 ≠ 0
        · rw [if_pos a4] at h; exact absurd h (by decide)
        · rw [if_neg a4]
          obtain ⟨_, _, p3⟩ := markP_ok r (by simpa using a4)
          exact val_enc _ p3 t
    · rw [if_neg a2] at h ⊢
      by_cases a3 : badR r ∨ (r.getD 0 0).toNat < 32
      · rw [if_pos a3] at h; exact absurd h (by decide)
      · rw [if_neg a3]; exact val_rune r t hr (fun hb => a3 (.inl hb))
/-- what is taken is valid -/
theorem take_val (f : Nat) : ∀ (r : List UInt8) (i : Nat) (acc t : List UInt8) (n : Nat), takeR f r i acc = (t, n, 0) → ∃ u, t = acc ++ u ∧ valR u = true ∧ i < n ∧ n ≤ i + r.length := by
  induction f with
  | zero => intro r i acc t n h; simp [takeR] at h
  | succ f ih =>
    intro r i acc t n h
    unfold takeR at h
    by_cases h0 : r = []
    · rw [if_pos h0] at h; simp at h
    · rw [if_neg h0] at h
      rcases stepT_kind r with hk | hk | hk | hk
      · rw [hk, if_neg (by decide), if_neg (by decide), if_neg (by decide)] at h
        obtain ⟨s1, s2⟩ := stepT_on r h0 hk
        obtain ⟨u, e, hv, h1, h2⟩ := ih _ _ _ _ _ h
        rw [List.length_drop] at h2
        exact ⟨(stepT r).2.2 ++ u, by rw [e, List.append_assoc], by rw [step_val r h0 hk]; exact hv, by omega, by omega⟩
      · rw [hk, if_pos rfl] at h
        simp only [Prod.mk.injEq] at h
        have := List.length_pos_iff.2 h0
        exact ⟨[], by rw [h.1, List.append_nil], valR_nil, by omega, by omega⟩
      · rw [hk, if_neg (by decide), if_pos rfl] at h; simp at h
      · rw [hk, if_neg (by decide), if_neg (by decide), if_pos rfl] at h; simp at h

end Go.Proofs.YtcmkepkeeahioaaGreatDoor
namespace Go.Proofs.YtcmkepkeeahioaaGreatDoor
open Go.RowKit

theorem stepT_end (r : List UInt8) (h : r.getD 0 0 = 34) : stepT r = (1, 1, []) := by unfold stepT; rw [if_pos h]
end Go.Proofs.YtcmkepkeeahioaaGreatDoor
namespace Go.Proofs.YtcmkepkeeahioaaGreatDoor
open Go.RowKit

theorem enc_low (c : UInt8) (h : c.toNat < 128) : Go.Lib.encodeRune (c.toNat : Int) = [c] := by
  unfold Go.Lib.encodeRune
  rw [Go.Lib.encodeRuneZ_one (by omega) (by omega)]
  simp
theorem short_low (c : Nat) (h : shortN c ≠ 0) : c < 128 := by
  unfold shortN at h
  repeat' split at h
  all_goals omega
theorem val_head (x : List UInt8) (h : x ≠ []) (hv : valR x = true) : ¬ badR x := fun hb => by
  rw [valR_bad x h hb] at hv; exact absurd hv (by decide)
end Go.Proofs.YtcmkepkeeahioaaGreatDoor
namespace Go.Proofs.YtcmkepkeeahioaaGreatDoor
open Go.RowKit

theorem enc_four (c : Int) : (Go.Lib.encodeRune c).length ≤ 4 := by
  have := Go.Lib.encodeRuneZ_length c
  have e : (Go.Lib.encodeRune c).length = (Go.Lib.encodeRuneZ c).length := by unfold Go.Lib.encodeRune; rw [List.length_map]
  omega
theorem stepT_len (r : List UInt8) (hr : r ≠ []) : (stepT r).2.2.length ≤ 4 := by
  unfold stepT
  split
  · exact Nat.zero_le _
  · split
    · split
      · exact Nat.zero_le _
      · split
        · exact Nat.zero_le _
        · exact enc_four _
    · split
      · exact Nat.zero_le _
      · rename_i h
        have hb : ¬ badR r := fun hb => h (.inl hb)
        have := Go.Lib.encode_decode r hr hb
        show (r.take (rwd r)).length ≤ 4
        rw [show r.take (rwd r) = Go.Lib.encodeRune ((Go.Lib.decodeL r).1 : Nat) from this.symm]
        exact enc_four _
theorem take_len (f : Nat) : ∀ (r : List UInt8) (i : Nat) (acc t : List UInt8) (n : Nat), takeR f r i acc = (t, n, 0) → t.length + 4 * i ≤ acc.length + 4 * n := by
  induction f with
  | zero => intro r i acc t n h; simp [takeR] at h
  | succ f ih =>
    intro r i acc t n h
    unfold takeR at h
    by_cases h0 : r = []
    · rw [if_pos h0] at h; simp at h
    · rw [if_neg h0] at h
      rcases stepT_kind r with hk | hk | hk | hk
      · rw [hk, if_neg (by decide), if_neg (by decide), if_neg (by decide)] at h
        obtain ⟨s1, s2⟩ := stepT_on r h0 hk
        have := ih _ _ _ _ _ h
        have := stepT_len r h0
        rw [List.length_append] at *
        omega
      · rw [hk, if_pos rfl] at h
        simp only [Prod.mk.injEq] at h
        obtain ⟨rfl, h2, _⟩ := h
        omega
      · rw [hk, if_neg (by decide), if_pos rfl] at h; simp at h
      · rw [hk, if_neg (by decide), if_neg (by decide), if_pos rfl] at h; simp at h
theorem take0 (l : List UInt8) : takeP l 0 = (if l.length = 0 then (([], 0, 3) : List UInt8 × Int × Nat) else if l.getD 0 0 ≠ 34 then ([], 0, 4) else ((takeR (l.length + 1) (l.drop 1) 1 []).1, ((takeR (l.length + 1) (l.drop 1) 1 []).2.1 : Nat), (takeR (l.length + 1) (l.drop 1) 1 []).2.2)) := by
  unfold takeP
  rw [if_neg (by omega)]
  by_cases h : l.length = 0
  · rw [if_pos (by omega), if_pos h]
  · rw [if_neg (by omega), if_neg h]; rfl
theorem take0_ok (l t : List UInt8) (N : Int) (h : takeP l 0 = (t, N, 0)) : ∃ n : Nat, N = n ∧ valR t = true ∧ 2 ≤ n ∧ n ≤ l.length ∧ l.getD 0 0 = 34 ∧ t.length ≤ 4 * n ∧ takeR (l.length + 1) (l.drop 1) 1 [] = (t, n, 0) := by
  rw [take0] at h
  by_cases h0 : l.length = 0
  · rw [if_pos h0] at h; simp at h
  · rw [if_neg h0] at h
    by_cases h1 : l.getD 0 0 ≠ 34
    · rw [if_pos h1] at h; simp at h
    · rw [if_neg h1] at h
      simp only [Prod.mk.injEq] at h
      obtain ⟨a, b, c⟩ := h
      obtain ⟨n, hn⟩ : ∃ n, (takeR (l.length + 1) (l.drop 1) 1 []).2.1 = n := ⟨_, rfl⟩
      have e : takeR (l.length + 1) (l.drop 1) 1 [] = (t, n, 0) := by
        rw [← a, ← c, ← hn]
      obtain ⟨u, e1, e2, e3, e4⟩ := take_val _ _ _ _ _ _ e
      rw [List.length_drop] at e4
      have hlen := take_len _ _ _ _ _ _ e
      rw [List.length_nil] at hlen
      refine ⟨n, by rw [← b, hn], ?_, by omega, by omega, Classical.not_not.1 h1, by omega, e⟩
      rw [e1]; exact e2
end Go.Proofs.YtcmkepkeeahioaaGreatDoor
namespace Go.Proofs.YtcmkepkeeahioaaGreatDoor
open Go.RowKit
/-- values -/
inductive JV where
  | nul
  | boo (b : Bool)
  | num (n : Int)
  | txt (s : List UInt8)
  | lst (l : List JV)
  | obj (l : List (List UInt8 × JV))
  | bad
/-- what is wrong with a value, so deep -/
def okNum (n : Int) : Bool := decide (-9007199254740991 ≤ n) && decide (n ≤ 9007199254740991)
mutual
def chk : JV → Nat → Nat
  | .nul, _ => 0
  | .boo _, _ => 0
  | .num n, _ => if okNum n = true then 0 else 11
  | .txt s, _ => if valR s = true then 0 else 4
  | .lst l, d => if 4 < d then 20 else if 64 < l.length then 21 else chkL l (d + 1)
  | .obj l, d => if 4 < d then 20 else if 64 < l.length then 21 else chkO [] l (d + 1)
  | .bad, _ => 14
def chkL : List JV → Nat → Nat
  | [], _ => 0
  | v :: t, d => if chk v d ≠ 0 then chk v d else chkL t d
def chkO (prev : List (List UInt8)) : List (List UInt8 × JV) → Nat → Nat
  | [], _ => 0
  | (k, v) :: t, d => if valR k = false then 4 else if k ∈ prev then 22 else if chk v d ≠ 0 then chk v d else chkO (prev ++ [k]) t d
end
mutual
def json : JV → List UInt8
  | .nul => [110, 117, 108, 108]
  | .boo b => if b = true then [116, 114, 117, 101] else [102, 97, 108, 115, 101]
  | .num n => Go.Lib.itoa n
  | .txt s => quoL s
  | .lst l => 91 :: (jsonL true l ++ [93])
  | .obj l => 123 :: (jsonO true l ++ [125])
  | .bad => []
def jsonL (first : Bool) : List JV → List UInt8
  | [] => []
  | v :: t => (if first = true then [] else [44]) ++ json v ++ jsonL false t
def jsonO (first : Bool) : List (List UInt8 × JV) → List UInt8
  | [] => []
  | (k, v) :: t => (if first = true then [] else [44]) ++ quoL k ++ 58 :: json v ++ jsonO false t
end
example : json (.lst [.num 1, .nul, .boo true]) = [91, 49, 44, 110, 117, 108, 108, 44, 116, 114, 117, 101, 93] := by decide +kernel
/-- blanks -/
def blankB (c : UInt8) : Bool := c == 32 || c == 9 || c == 10 || c == 13
def skipB (r : List UInt8) : List UInt8 := r.dropWhile blankB
def digB (c : UInt8) : Bool := decide (48 ≤ c.toNat) && decide (c.toNat ≤ 57)
def numCh (c : UInt8) : Bool := digB c || c == 43 || c == 45 || c == 46 || c == 101 || c == 69
def decW (l : List UInt8) : Nat := l.foldl (fun n c => n * 10 + (c.toNat - 48)) 0
/-- a value taken, what is left, the error (0: none); with an error: what is left from its place on -/
abbrev Res := JV × List UInt8 × Nat
def wordV (r w : List UInt8) (v : JV) : Res := if w.isPrefixOf r then (v, r.drop w.length, 0) else if r.isPrefixOf w then (.nul, [], 3) else (.nul, r, 4)
def txtV (r : List UInt8) : List UInt8 × List UInt8 × Nat := if (takeP r 0).2.2 = 0 then ((takeP r 0).1, r.drop (takeP r 0).2.1.toNat, 0) else ([], r.drop (takeP r 0).2.1.toNat, (takeP r 0).2.2)
/-- the number that stands in a text of signs and digits: 4 of no form, 11 too great -/
def numC (minus : Bool) (w : List UInt8) : Int × Nat :=
  if w = [] ∨ w.all digB = false then (0, 4)
  else if w.head? = some 48 ∧ (1 < w.length ∨ minus = true) then (0, 4)
  else if 9007199254740991 < decW w then (0, 11)
  else (if minus = true then -(decW w : Int) else (decW w : Int), 0)
def numT (m : List UInt8) : Int × Nat := if m.head? = some 45 then numC true m.tail else numC false m
def numV (r : List UInt8) : Res := if (numT (r.takeWhile numCh)).2 = 0 then (.num (numT (r.takeWhile numCh)).1, r.dropWhile numCh, 0) else (.nul, r, (numT (r.takeWhile numCh)).2)
mutual
def valV : Nat → Nat → List UInt8 → Res
  | 0, _, r => (.nul, r, 99)
  | f + 1, d, r =>
    match r with
    | [] => (.nul, [], 3)
    | c :: t =>
      if c = 110 then wordV (c :: t) [110, 117, 108, 108] .nul
      else if c = 102 then wordV (c :: t) [102, 97, 108, 115, 101] (.boo false)
      else if c = 116 then wordV (c :: t) [116, 114, 117, 101] (.boo true)
      else if c = 34 then (if (txtV (c :: t)).2.2 = 0 then (.txt (txtV (c :: t)).1, (txtV (c :: t)).2.1, 0) else (.nul, (txtV (c :: t)).2.1, (txtV (c :: t)).2.2))
      else if c = 91 then (if 4 < d then (.nul, c :: t, 20) else if (skipB t).head? = some 93 then (.lst [], (skipB t).tail, 0) else lstV f d 0 (skipB t) [])
      else if c = 123 then (if 4 < d then (.nul, c :: t, 20) else if (skipB t).head? = some 125 then (.obj [], (skipB t).tail, 0) else objV f d 0 (skipB t) [])
      else if c = 45 ∨ digB c = true then numV (c :: t)
      else (.nul, c :: t, 4)
def lstV : Nat → Nat → Nat → List UInt8 → List JV → Res
  | 0, _, _, r, _ => (.nul, r, 99)
  | f + 1, d, n, r, acc =>
    if n = 64 ∧ r ≠ [] then (.nul, r, 21)
    else if (valV f (d + 1) r).2.2 ≠ 0 then (.nul, (valV f (d + 1) r).2.1, (valV f (d + 1) r).2.2)
    else match skipB (valV f (d + 1) r).2.1 with
      | [] => (.nul, [], 3)
      | c :: t => if c = 93 then (.lst (acc ++ [(valV f (d + 1) r).1]), t, 0) else if c = 44 then lstV f d (n + 1) (skipB t) (acc ++ [(valV f (d + 1) r).1]) else (.nul, c :: t, 4)
def objV : Nat → Nat → Nat → List UInt8 → List (List UInt8 × JV) → Res
  | 0, _, _, r, _ => (.nul, r, 99)
  | f + 1, d, n, r, acc =>
    if n = 64 ∧ r ≠ [] then (.nul, r, 21)
    else if (txtV r).2.2 ≠ 0 then (.nul, (txtV r).2.1, (txtV r).2.2)
    else if (txtV r).1 ∈ acc.map (·.1) then (.nul, r, 22)
    else match skipB (txtV r).2.1 with
      | [] => (.nul, [], 3)
      | c0 :: t0 => if c0 ≠ 58 then (.nul, c0 :: t0, 4) else
        if (valV f (d + 1) (skipB t0)).2.2 ≠ 0 then (.nul, (valV f (d + 1) (skipB t0)).2.1, (valV f (d + 1) (skipB t0)).2.2)
        else match skipB (valV f (d + 1) (skipB t0)).2.1 with
          | [] => (.nul, [], 3)
          | c :: t => if c = 125 then (.obj (acc ++ [((txtV r).1, (valV f (d + 1) (skipB t0)).1)]), t, 0) else if c = 44 then objV f d (n + 1) (skipB t) (acc ++ [((txtV r).1, (valV f (d + 1) (skipB t0)).1)]) else (.nul, c :: t, 4)
end
/-- what is taken of a whole text: the value, the place, the error -/
def takeV (l : List UInt8) : JV × Nat × Nat :=
  if 4096 < l.length then (.nul, 0, 5)
  else
    let r := valV (2 * l.length + 2) 1 (skipB l)
    if r.2.2 ≠ 0 then (.nul, l.length - r.2.1.length, r.2.2)
    else if skipB r.2.1 ≠ [] then (.nul, l.length - (skipB r.2.1).length, 4)
    else (r.1, l.length, 0)
end Go.Proofs.YtcmkepkeeahioaaGreatDoor
namespace Go.Proofs.YtcmkepkeeahioaaGreatDoor
open Go.RowKit
theorem digB_iff (c : UInt8) : digB c = true ↔ 48 ≤ c.toNat ∧ c.toNat ≤ 57 := by unfold digB; simp
theorem decW_ge (l : List UInt8) : ∀ acc, acc ≤ l.foldl (fun n (c : UInt8) => n * 10 + (c.toNat - 48)) acc := by
  induction l with
  | nil => intro acc; exact Nat.le_refl _
  | cons c t ih => intro acc; refine Nat.le_trans ?_ (ih (acc * 10 + (c.toNat - 48))); omega
theorem itoa_shape (n : Int) : Go.Lib.itoa n = (if decide (n < 0) = true then [45] else []) ++ Go.Lib.decDigits n.natAbs := by
  unfold Go.Lib.itoa
  by_cases h : n < 0
  · rw [if_pos h, decide_eq_true h, if_pos rfl]; rfl
  · rw [if_neg h, decide_eq_false h, if_neg (by decide), List.nil_append, show n.toNat = n.natAbs by omega]
theorem okNum_iff (n : Int) : okNum n = true ↔ -9007199254740991 ≤ n ∧ n ≤ 9007199254740991 := by unfold okNum; simp
theorem chkL_cons (v : JV) (t : List JV) (d : Nat) (h : chkL (v :: t) d = 0) : chk v d = 0 ∧ chkL t d = 0 := by
  rw [chkL] at h
  by_cases h1 : chk v d = 0
  · rw [if_neg (fun e => e h1)] at h; exact ⟨h1, h⟩
  · rw [if_pos h1] at h; exact absurd h h1
theorem chkO_cons (prev : List (List UInt8)) (k : List UInt8) (v : JV) (t : List (List UInt8 × JV)) (d : Nat) (h : chkO prev ((k, v) :: t) d = 0) : valR k = true ∧ k ∉ prev ∧ chk v d = 0 ∧ chkO (prev ++ [k]) t d = 0 := by
  rw [chkO] at h
  by_cases h0 : valR k = false
  · rw [if_pos h0] at h; exact absurd h (by decide)
  rw [if_neg h0] at h
  by_cases h2 : k ∈ prev
  · rw [if_pos h2] at h; exact absurd h (by decide)
  rw [if_neg h2] at h
  by_cases h1 : chk v d = 0
  · rw [if_neg (fun e => e h1)] at h; exact ⟨by simpa using h0, h2, h1, h⟩
  · rw [if_pos h1] at h; exact absurd h h1
end Go.Proofs.YtcmkepkeeahioaaGreatDoor
namespace Go.Proofs.YtcmkepkeeahioaaGreatDoor
open Go.RowKit
theorem numC_good (minus : Bool) (w : List UInt8) (h : (numC minus w).2 = 0) : okNum (numC minus w).1 = true := by
  unfold numC at h ⊢
  by_cases h1 : w = [] ∨ w.all digB = false
  · rw [if_pos h1] at h; exact absurd h (by decide)
  rw [if_neg h1] at h ⊢
  by_cases h2 : w.head? = some 48 ∧ (1 < w.length ∨ minus = true)
  · rw [if_pos h2] at h; exact absurd h (by decide)
  rw [if_neg h2] at h ⊢
  by_cases h3 : 9007199254740991 < decW w
  · rw [if_pos h3] at h; exact absurd h (by decide)
  rw [if_neg h3]
  rw [okNum_iff]
  cases minus with
  | true => rw [if_pos rfl]; omega
  | false => rw [if_neg (by decide)]; omega
theorem numT_good (m : List UInt8) (h : (numT m).2 = 0) : okNum (numT m).1 = true := by
  unfold numT at h ⊢
  split at h
  · rename_i e; rw [if_pos e]; exact numC_good _ _ h
  · rename_i e; rw [if_neg e]; exact numC_good _ _ h
theorem txtV_good (r : List UInt8) (h : (txtV r).2.2 = 0) : valR (txtV r).1 = true ∧ (takeP r 0).2.2 = 0 := by
  by_cases e : (takeP r 0).2.2 = 0
  · have h1 : (txtV r).1 = (takeP r 0).1 := by unfold txtV; rw [if_pos e]
    rw [h1]
    obtain ⟨n, -, h2, -⟩ := take0_ok r (takeP r 0).1 (takeP r 0).2.1 (by rw [← e])
    exact ⟨h2, e⟩
  · unfold txtV at h; rw [if_neg e] at h; exact absurd h e
theorem chkL_snoc (v : JV) (d : Nat) : ∀ a : List JV, chkL a d = 0 → chk v d = 0 → chkL (a ++ [v]) d = 0
  | [], _, h => by rw [List.nil_append, chkL, if_neg (fun e => e h), chkL]
  | x :: a, h, hv => by
    obtain ⟨h1, h2⟩ := chkL_cons x a d h
    rw [List.cons_append, chkL, if_neg (fun e => e h1)]
    exact chkL_snoc v d a h2 hv
theorem chkO_snoc (k : List UInt8) (v : JV) (d : Nat) (hk : valR k = true) (hv : chk v d = 0) : ∀ (a : List (List UInt8 × JV)) (prev : List (List UInt8)), chkO prev a d = 0 → k ∉ prev ++ a.map (·.1) → chkO prev (a ++ [(k, v)]) d = 0
  | [], prev, _, hn => by
    rw [List.nil_append, chkO, if_neg (by rw [hk]; decide), if_neg (by simpa using hn), if_neg (fun e => e hv), chkO]
  | (x, y) :: a, prev, h, hn => by
    obtain ⟨h1, h2, h3, h4⟩ := chkO_cons prev x y a d h
    rw [List.cons_append, chkO, if_neg (by rw [h1]; decide), if_neg h2, if_neg (fun e => e h3)]
    exact chkO_snoc k v d hk hv a (prev ++ [x]) h4 (by simpa using hn)
theorem val_nil (f d : Nat) : (valV f d []).2.2 ≠ 0 := by
  cases f with
  | zero => rw [valV]; decide
  | succ f => rw [valV]; decide
theorem word_good (r w : List UInt8) (v : JV) (d : Nat) (hv : chk v d = 0) (v' : JV) (r' : List UInt8) (h : wordV r w v = (v', r', 0)) : chk v' d = 0 := by
  unfold wordV at h
  split at h
  · cases h; exact hv
  · split at h
    · cases h
    · cases h
theorem good_all : ∀ f : Nat, (∀ d r v r', valV f d r = (v, r', 0) → chk v d = 0) ∧
    (∀ d n r acc v r', lstV f d n r acc = (v, r', 0) → ¬ 4 < d → acc.length = n → n ≤ 64 → chkL acc (d + 1) = 0 → chk v d = 0) ∧
    (∀ d n r acc v r', objV f d n r acc = (v, r', 0) → ¬ 4 < d → acc.length = n → n ≤ 64 → chkO [] acc (d + 1) = 0 → chk v d = 0) := by
  intro f
  induction f with
  | zero =>
    refine ⟨fun d r v r' h => ?_, fun d n r acc v r' h => ?_, fun d n r acc v r' h => ?_⟩
    · rw [valV] at h; cases h
    · rw [lstV] at h; cases h
    · rw [objV] at h; cases h
  | succ f ih =>
    obtain ⟨ihv, ihl, iho⟩ := ih
    refine ⟨fun d r v r' h => ?_, fun d n r acc v r' h hd hn hn2 hc => ?_, fun d n r acc v r' h hd hn hn2 hc => ?_⟩
    · cases r with
      | nil => rw [valV] at h; cases h
      | cons c t =>
        rw [valV] at h
        by_cases c1 : c = 110
        · rw [if_pos c1] at h; exact word_good _ _ _ d (by rw [chk]) v r' h
        rw [if_neg c1] at h
        by_cases c2 : c = 102
        · rw [if_pos c2] at h; exact word_good _ _ _ d (by rw [chk]) v r' h
        rw [if_neg c2] at h
        by_cases c3 : c = 116
        · rw [if_pos c3] at h; exact word_good _ _ _ d (by rw [chk]) v r' h
        rw [if_neg c3] at h
        by_cases c4 : c = 34
        · rw [if_pos c4] at h
          by_cases e : (txtV (c :: t)).2.2 = 0
          · rw [if_pos e] at h
            cases h
            rw [chk, (txtV_good _ e).1, if_pos rfl]
          · rw [if_neg e] at h
            exact absurd (congrArg (fun x : Res => x.2.2) h) e
        rw [if_neg c4] at h
        by_cases c5 : c = 91
        · rw [if_pos c5] at h
          by_cases e : 4 < d
          · rw [if_pos e] at h; cases h
          rw [if_neg e] at h
          by_cases e2 : (skipB t).head? = some 93
          · rw [if_pos e2] at h
            cases h
            rw [chk, if_neg e, if_neg (by simp), chkL]
          · rw [if_neg e2] at h
            exact ihl d 0 _ [] v r' h e rfl (by omega) (by rw [chkL])
        rw [if_neg c5] at h
        by_cases c6 : c = 123
        · rw [if_pos c6] at h
          by_cases e : 4 < d
          · rw [if_pos e] at h; cases h
          rw [if_neg e] at h
          by_cases e2 : (skipB t).head? = some 125
          · rw [if_pos e2] at h
            cases h
            rw [chk, if_neg e, if_neg (by simp), chkO]
          · rw [if_neg e2] at h
            exact iho d 0 _ [] v r' h e rfl (by omega) (by rw [chkO])
        rw [if_neg c6] at h
        by_cases c7 : c = 45 ∨ digB c = true
        · rw [if_pos c7] at h
          unfold numV at h
          by_cases e : (numT ((c :: t).takeWhile numCh)).2 = 0
          · rw [if_pos e] at h
            cases h
            rw [chk, numT_good _ e, if_pos rfl]
          · rw [if_neg e] at h
            exact absurd (congrArg (fun x : Res => x.2.2) h) e
        · rw [if_neg c7] at h; cases h
    · rw [lstV] at h
      by_cases e0 : n = 64 ∧ r ≠ []
      · rw [if_pos e0] at h; cases h
      rw [if_neg e0] at h
      by_cases e1 : (valV f (d + 1) r).2.2 = 0
      · rw [if_neg (fun e => e e1)] at h
        have hv := ihv (d + 1) r (valV f (d + 1) r).1 (valV f (d + 1) r).2.1 (by rw [← e1])
        have hr : r ≠ [] := fun e => val_nil f (d + 1) (by rw [← e]; exact e1)
        have hn3 : n < 64 := by
          rcases Nat.lt_or_ge n 64 with h' | h'
          · exact h'
          · exact absurd ⟨by omega, hr⟩ e0
        have hc2 := chkL_snoc _ _ acc hc hv
        cases hs : skipB (valV f (d + 1) r).2.1 with
        | nil => rw [hs] at h; cases h
        | cons c t =>
          rw [hs] at h
          simp only [] at h
          by_cases c1 : c = 93
          · rw [if_pos c1] at h
            cases h
            rw [chk, if_neg hd, if_neg (by rw [List.length_append]; simp; omega)]
            exact hc2
          rw [if_neg c1] at h
          by_cases c2 : c = 44
          · rw [if_pos c2] at h
            exact ihl d (n + 1) _ _ v r' h hd (by rw [List.length_append, hn]; rfl) (by omega) hc2
          · rw [if_neg c2] at h; cases h
      · rw [if_pos e1] at h
        exact absurd (congrArg (fun x : Res => x.2.2) h) e1
    · rw [objV] at h
      by_cases e0 : n = 64 ∧ r ≠ []
      · rw [if_pos e0] at h; cases h
      rw [if_neg e0] at h
      by_cases t1 : (txtV r).2.2 = 0
      · rw [if_neg (fun e => e t1)] at h
        by_cases t2 : (txtV r).1 ∈ acc.map (·.1)
        · rw [if_pos t2] at h; cases h
        rw [if_neg t2] at h
        cases hs0 : skipB (txtV r).2.1 with
        | nil => rw [hs0] at h; cases h
        | cons c0 t0 =>
          rw [hs0] at h
          simp only [] at h
          by_cases c0' : c0 = 58
          · rw [if_neg (fun e => e c0')] at h
            by_cases e1 : (valV f (d + 1) (skipB t0)).2.2 = 0
            · rw [if_neg (fun e => e e1)] at h
              have hv := ihv (d + 1) _ (valV f (d + 1) (skipB t0)).1 (valV f (d + 1) (skipB t0)).2.1 (by rw [← e1])
              have hr : r ≠ [] := fun e => by
                have := (txtV_good r t1).2
                rw [e, take0, if_pos (by rfl)] at this
                exact absurd this (by decide)
              have hn3 : n < 64 := by
                rcases Nat.lt_or_ge n 64 with h' | h'
                · exact h'
                · exact absurd ⟨by omega, hr⟩ e0
              have hc2 := chkO_snoc _ _ _ (txtV_good r t1).1 hv acc [] hc (by simpa using t2)
              cases hs : skipB (valV f (d + 1) (skipB t0)).2.1 with
              | nil => rw [hs] at h; cases h
              | cons c t =>
                rw [hs] at h
                simp only [] at h
                by_cases c1 : c = 125
                · rw [if_pos c1] at h
                  cases h
                  rw [chk, if_neg hd, if_neg (by rw [List.length_append]; simp; omega)]
                  exact hc2
                rw [if_neg c1] at h
                by_cases c2 : c = 44
                · rw [if_pos c2] at h
                  exact iho d (n + 1) _ _ v r' h hd (by rw [List.length_append, hn]; rfl) (by omega) hc2
                · rw [if_neg c2] at h; cases h
            · rw [if_pos e1] at h
              exact absurd (congrArg (fun x : Res => x.2.2) h) e1
          · rw [if_pos c0'] at h; cases h
      · rw [if_pos t1] at h
        exact absurd (congrArg (fun x : Res => x.2.2) h) t1
/-- what was taken may be laid -/
theorem take_good (l : List UInt8) (h : (takeV l).2.2 = 0) : chk (takeV l).1 1 = 0 := by
  unfold takeV at h ⊢
  by_cases h0 : 4096 < l.length
  · rw [if_pos h0] at h; exact absurd h (by decide)
  rw [if_neg h0] at h ⊢
  simp only [] at h ⊢
  by_cases h1 : (valV (2 * l.length + 2) 1 (skipB l)).2.2 = 0
  · rw [if_neg (fun e => e h1)] at h ⊢
    by_cases h2 : skipB (valV (2 * l.length + 2) 1 (skipB l)).2.1 = []
    · rw [if_neg (fun e => e h2)]
      exact (good_all _).1 1 (skipB l) _ (valV (2 * l.length + 2) 1 (skipB l)).2.1 (by rw [← h1])
    · rw [if_pos h2] at h; exact absurd (show (4 : Nat) = 0 from h) (by decide)
  · rw [if_pos h1] at h; exact absurd h h1
end Go.Proofs.YtcmkepkeeahioaaGreatDoor
namespace Go.Proofs.YtcmkepkeeahioaaGreatDoor
open Go.RowKit
theorem takeR_shift (f : Nat) : ∀ (r : List UInt8) (i j : Nat) (acc : List UInt8), takeR f r (i + j) acc = ((takeR f r i acc).1, (takeR f r i acc).2.1 + j, (takeR f r i acc).2.2) := by
  induction f with
  | zero => intro r i j acc; unfold takeR; simp only []; congr 2; omega
  | succ f ih =>
    intro r i j acc
    unfold takeR
    by_cases h0 : r = []
    · rw [if_pos h0, if_pos h0]
    rw [if_neg h0, if_neg h0]
    by_cases h1 : (stepT r).1 = 1
    · rw [if_pos h1, if_pos h1]; simp only []; congr 2; omega
    rw [if_neg h1, if_neg h1]
    by_cases h3 : (stepT r).1 = 3
    · rw [if_pos h3, if_pos h3]; simp only []; congr 2; omega
    rw [if_neg h3, if_neg h3]
    by_cases h4 : (stepT r).1 = 4
    · rw [if_pos h4, if_pos h4]
    rw [if_neg h4, if_neg h4, show i + j + (stepT r).2.1 = i + (stepT r).2.1 + j by omega]
    exact ih _ _ _ _
theorem takeR_range (f : Nat) : ∀ (r : List UInt8) (i : Nat) (acc : List UInt8), i ≤ (takeR f r i acc).2.1 ∧ (takeR f r i acc).2.1 ≤ i + r.length := by
  induction f with
  | zero => intro r i acc; unfold takeR; exact ⟨Nat.le_add_right _ _, Nat.le_refl _⟩
  | succ f ih =>
    intro r i acc
    unfold takeR
    by_cases h0 : r = []
    · rw [if_pos h0]; exact ⟨Nat.le_refl _, Nat.le_add_right _ _⟩
    have hpos := List.length_pos_iff.2 h0
    rw [if_neg h0]
    rcases stepT_kind r with hk | hk | hk | hk
    · obtain ⟨s1, s2⟩ := stepT_on r h0 hk
      rw [hk, if_neg (by decide), if_neg (by decide), if_neg (by decide)]
      obtain ⟨a, b⟩ := ih (r.drop (stepT r).2.1) (i + (stepT r).2.1) (acc ++ (stepT r).2.2)
      rw [List.length_drop] at b
      exact ⟨by omega, by omega⟩
    · rw [hk, if_pos rfl]; exact ⟨Nat.le_succ _, by show i + 1 ≤ _; omega⟩
    · rw [hk, if_neg (by decide), if_pos rfl]; exact ⟨Nat.le_add_right _ _, Nat.le_refl _⟩
    · rw [hk, if_neg (by decide), if_neg (by decide), if_pos rfl]; exact ⟨Nat.le_refl _, Nat.le_add_right _ _⟩
theorem takeP_nat (l : List UInt8) (a : Nat) (ha : a ≤ l.length) : takeP l (a : Int) = if a = l.length then ([], (a : Int), 3) else if l.getD a 0 ≠ 34 then ([], (a : Int), 4) else ((takeR (l.length + 1) (l.drop (a + 1)) (a + 1) []).1, ((takeR (l.length + 1) (l.drop (a + 1)) (a + 1) []).2.1 : Nat), (takeR (l.length + 1) (l.drop (a + 1)) (a + 1) []).2.2) := by
  unfold takeP
  rw [if_neg (by omega), Int.toNat_natCast]
  by_cases h : a = l.length
  · rw [if_pos (by omega), if_pos h]
  · rw [if_neg (by omega), if_neg h]
theorem takeP_zero (r : List UInt8) : 0 ≤ (takeP r 0).2.1 ∧ (takeP r 0).2.1 ≤ r.length ∧ ((takeP r 0).2.2 = 0 → 0 < (takeP r 0).2.1) := by
  have e := takeP_nat r 0 (Nat.zero_le _)
  have e' : takeP r 0 = takeP r ((0 : Nat) : Int) := rfl
  rw [e', e]
  by_cases h1 : 0 = r.length
  · rw [if_pos h1]; exact ⟨Int.le_refl _, by show (0 : Int) ≤ _; omega, fun h => absurd h (by show ¬ (3 = 0); decide)⟩
  rw [if_neg h1]
  by_cases h2 : r.getD 0 0 ≠ 34
  · rw [if_pos h2]; exact ⟨Int.le_refl _, by show (0 : Int) ≤ _; omega, fun h => absurd h (by show ¬ (4 = 0); decide)⟩
  rw [if_neg h2]
  have h := takeR_range (r.length + 1) (r.drop (0 + 1)) (0 + 1) []
  rw [List.length_drop] at h
  generalize (takeR (r.length + 1) (r.drop (0 + 1)) (0 + 1) []).2.1 = n at h ⊢
  exact ⟨by show (0 : Int) ≤ (n : Int); omega, by show (n : Int) ≤ _; omega, fun _ => by show (0 : Int) < (n : Int); omega⟩
/-- what is taken at a place is what is taken of what stands behind it -/
theorem takeP_at (l : List UInt8) (a : Nat) (ha : a ≤ l.length) : takeP l (a : Int) = ((takeP (l.drop a) 0).1, (a : Int) + (takeP (l.drop a) 0).2.1, (takeP (l.drop a) 0).2.2) := by
  have e := takeP_nat (l.drop a) 0 (Nat.zero_le _)
  have e' : takeP (l.drop a) 0 = takeP (l.drop a) ((0 : Nat) : Int) := rfl
  have hd : (l.drop a).length = l.length - a := List.length_drop
  rw [e', e, takeP_nat l a ha]
  by_cases h1 : a = l.length
  · rw [if_pos h1, if_pos (show 0 = (l.drop a).length by omega)]; simp
  rw [if_neg h1, if_neg (show ¬ 0 = (l.drop a).length by omega)]
  have hg : (l.drop a).getD 0 0 = l.getD a 0 := by
    rw [List.getD_eq_getElem?_getD, List.getD_eq_getElem?_getD, List.getElem?_drop]; simp
  rw [hg]
  by_cases h2 : l.getD a 0 ≠ 34
  · rw [if_pos h2, if_pos h2]; simp
  rw [if_neg h2, if_neg h2]
  have e1 : (l.drop a).drop (0 + 1) = l.drop (a + 1) := by rw [List.drop_drop]
  rw [e1]
  have hl : (l.drop (a + 1)).length = l.length - (a + 1) := List.length_drop
  rw [takeR_fuel _ ((l.drop a).length + 1) (l.length + 1) _ _ _ (Nat.le_refl _) (by rw [hl, hd]; omega) (by rw [hl]; omega)]
  generalize l.drop (a + 1) = R
  rw [show a + 1 = (0 + 1) + a by omega, takeR_shift]
  generalize takeR (l.length + 1) R (0 + 1) [] = Q
  simp only [Prod.mk.injEq, true_and, and_true]
  omega
theorem txtV_drop (r : List UInt8) : (txtV r).2.1 = r.drop (takeP r 0).2.1.toNat ∧ (txtV r).2.2 = (takeP r 0).2.2 ∧ ((takeP r 0).2.2 = 0 → (txtV r).1 = (takeP r 0).1) := by
  unfold txtV
  by_cases e : (takeP r 0).2.2 = 0
  · rw [if_pos e]; exact ⟨rfl, e.symm, fun _ => rfl⟩
  · rw [if_neg e]; exact ⟨rfl, rfl, fun h => absurd h e⟩
/-- the text at a place, as the reader takes it -/
theorem txt_at (l : List UInt8) (a : Nat) (ha : a ≤ l.length) : (takeP l (a : Int)).2.2 = (txtV (l.drop a)).2.2 ∧ (takeP l (a : Int)).2.1 = ((l.length - (txtV (l.drop a)).2.1.length : Nat) : Int) ∧ ((txtV (l.drop a)).2.2 = 0 → (takeP l (a : Int)).1 = (txtV (l.drop a)).1) := by
  obtain ⟨h1, h2, h3⟩ := txtV_drop (l.drop a)
  obtain ⟨b1, b2, b3⟩ := takeP_zero (l.drop a)
  rw [takeP_at l a ha]
  refine ⟨h2.symm, ?_, fun h => (h3 (h2 ▸ h)).symm⟩
  rw [h1, List.length_drop]
  have hd : (l.drop a).length = l.length - a := List.length_drop
  rw [hd] at b2 ⊢
  show (a : Int) + _ = _
  generalize (takeP (l.drop a) 0).2.1 = n at b1 b2 ⊢
  omega
theorem txtV_suf (r : List UInt8) : (txtV r).2.1 <:+ r := by rw [(txtV_drop r).1]; exact List.drop_suffix _ _
theorem txtV_less (r : List UInt8) (h : (txtV r).2.2 = 0) : (txtV r).2.1.length < r.length := by
  obtain ⟨h1, h2, h3⟩ := txtV_drop r
  obtain ⟨b1, b2, b3⟩ := takeP_zero r
  have b4 := b3 (h2 ▸ h)
  rw [h1, List.length_drop]
  omega
theorem skipB_suf (r : List UInt8) : skipB r <:+ r := List.dropWhile_suffix _
theorem wordV_suf (r w : List UInt8) (v : JV) : (wordV r w v).2.1 <:+ r := by
  unfold wordV
  split
  · exact List.drop_suffix _ _
  · split
    · exact List.nil_suffix
    · exact List.suffix_refl _
theorem wordV_less (r w : List UInt8) (v : JV) (hr : r ≠ []) (hw : w ≠ []) (h : (wordV r w v).2.2 = 0) : (wordV r w v).2.1.length < r.length := by
  have h1 := List.length_pos_iff.2 hr
  have h2 := List.length_pos_iff.2 hw
  unfold wordV at h ⊢
  split at h
  · rename_i e; rw [if_pos e]; show (r.drop w.length).length < _; rw [List.length_drop]; omega
  · split at h
    · exact absurd h (by show ¬ (3 = 0); decide)
    · exact absurd h (by show ¬ (4 = 0); decide)
theorem wordV_err (r w : List UInt8) (v : JV) : (wordV r w v).2.2 ≠ 99 := by
  unfold wordV
  split
  · simp
  · split <;> simp
theorem txtV_err (r : List UInt8) : (txtV r).2.2 ≠ 99 := by
  rw [(txtV_drop r).2.1]
  unfold takeP
  rw [if_neg (by omega)]
  split
  · decide
  split
  · decide
  have : ∀ (f : Nat) (q : List UInt8) (i : Nat) (acc : List UInt8), (takeR f q i acc).2.2 ≠ 99 := by
    intro f
    induction f with
    | zero => intro q i acc; unfold takeR; simp
    | succ f ih =>
      intro q i acc
      unfold takeR
      split
      · simp
      split
      · simp
      split
      · simp
      split
      · simp
      exact ih _ _ _
  exact this _ _ _ _
theorem numV_suf (r : List UInt8) : (numV r).2.1 <:+ r := by
  unfold numV
  split
  · exact List.dropWhile_suffix _
  · exact List.suffix_refl _
theorem numC_err (m : Bool) (w : List UInt8) : (numC m w).2 ≠ 99 := by
  unfold numC
  split
  · simp
  split
  · simp
  split
  · simp
  · simp
theorem numV_err (r : List UInt8) : (numV r).2.2 ≠ 99 := by
  unfold numV
  split
  · simp
  · show (numT _).2 ≠ 99
    unfold numT
    split <;> exact numC_err _ _
theorem numV_less (r : List UInt8) (h : (numV r).2.2 = 0) : (numV r).2.1.length < r.length := by
  unfold numV at h ⊢
  by_cases e : (numT (r.takeWhile numCh)).2 = 0
  · rw [if_pos e]
    show (r.dropWhile numCh).length < _
    have hl := congrArg List.length (List.takeWhile_append_dropWhile (p := numCh) (l := r))
    rw [List.length_append] at hl
    have : (r.takeWhile numCh).length ≠ 0 := by
      intro h0
      rw [List.length_eq_zero_iff.1 h0] at e
      exact absurd e (by decide)
    omega
  · rw [if_neg e] at h; exact absurd h e
theorem tail_suf (r : List UInt8) : r.tail <:+ r := List.tail_suffix _
/-- the end of what there was; shorter where there is no error; no end of the steps -/
def OkR (r : List UInt8) (need f : Nat) (p : Res) : Prop := p.2.1 <:+ r ∧ (need ≤ f → p.2.2 ≠ 99) ∧ (p.2.2 = 0 → p.2.1.length < r.length)
theorem OkR.none {r q : List UInt8} {need f e : Nat} {v : JV} (h : q <:+ r) (he : e ≠ 0) (h9 : e ≠ 99) : OkR r need f (v, q, e) := ⟨h, fun _ => h9, fun h => absurd h he⟩
theorem OkR.more {r q : List UInt8} {need f need' f' : Nat} {p : Res} (h : OkR q need' f' p) (hq : q <:+ r) (hn : need ≤ f → need' ≤ f') : OkR r need f p :=
  ⟨h.1.trans hq, fun k => h.2.1 (hn k), fun k => Nat.lt_of_lt_of_le (h.2.2 k) hq.length_le⟩
set_option maxHeartbeats 1000000 in
theorem ok_all : ∀ f : Nat, (∀ d r, OkR r (2 * r.length + 1) f (valV f d r)) ∧ (∀ d n r acc, OkR r (2 * r.length + 2) f (lstV f d n r acc)) ∧ (∀ d n r acc, OkR r (2 * r.length + 2) f (objV f d n r acc)) := by
  intro f
  induction f with
  | zero =>
    refine ⟨fun d r => ?_, fun d n r acc => ?_, fun d n r acc => ?_⟩
    · rw [valV]; exact ⟨List.suffix_refl _, fun h => by omega, fun h => absurd h (by show ¬ (99 = 0); decide)⟩
    · rw [lstV]; exact ⟨List.suffix_refl _, fun h => by omega, fun h => absurd h (by show ¬ (99 = 0); decide)⟩
    · rw [objV]; exact ⟨List.suffix_refl _, fun h => by omega, fun h => absurd h (by show ¬ (99 = 0); decide)⟩
  | succ f ih =>
    obtain ⟨ihv, ihl, iho⟩ := ih
    refine ⟨fun d r => ?_, fun d n r acc => ?_, fun d n r acc => ?_⟩
    · cases r with
      | nil => rw [valV]; exact .none List.nil_suffix (by decide) (by decide)
      | cons c t =>
        have hct : (c :: t : List UInt8) ≠ [] := by simp
        have ht : t <:+ c :: t := List.suffix_cons c t
        have hk : skipB t <:+ c :: t := (skipB_suf t).trans ht
        have hkl := hk.length_le
        have hsl := (skipB_suf t).length_le
        rw [valV]
        by_cases c1 : c = 110
        · rw [if_pos c1]; exact ⟨wordV_suf _ _ _, fun _ => wordV_err _ _ _, wordV_less _ _ _ hct (by decide)⟩
        rw [if_neg c1]
        by_cases c2 : c = 102
        · rw [if_pos c2]; exact ⟨wordV_suf _ _ _, fun _ => wordV_err _ _ _, wordV_less _ _ _ hct (by decide)⟩
        rw [if_neg c2]
        by_cases c3 : c = 116
        · rw [if_pos c3]; exact ⟨wordV_suf _ _ _, fun _ => wordV_err _ _ _, wordV_less _ _ _ hct (by decide)⟩
        rw [if_neg c3]
        by_cases c4 : c = 34
        · rw [if_pos c4]
          have h1 := txtV_suf (c :: t)
          have h2 := txtV_less (c :: t)
          have h3 := txtV_err (c :: t)
          by_cases e : (txtV (c :: t)).2.2 = 0
          · rw [if_pos e]; exact ⟨h1, fun _ => (by show (0 : Nat) ≠ 99; decide), fun _ => h2 e⟩
          · rw [if_neg e]; exact ⟨h1, fun _ => h3, fun h => absurd h e⟩
        rw [if_neg c4]
        by_cases c5 : c = 91
        · rw [if_pos c5]
          by_cases e : 4 < d
          · rw [if_pos e]; exact .none (List.suffix_refl _) (by decide) (by decide)
          rw [if_neg e]
          by_cases e2 : (skipB t).head? = some 93
          · rw [if_pos e2]
            have h1 : (skipB t).tail <:+ c :: t := (tail_suf _).trans hk
            have h2 := (tail_suf (skipB t)).length_le
            exact ⟨h1, fun _ => (by show (0 : Nat) ≠ 99; decide), fun _ => by show (skipB t).tail.length < _; rw [List.length_cons]; omega⟩
          · rw [if_neg e2]
            exact (ihl d 0 (skipB t) []).more hk (by rw [List.length_cons]; omega)
        rw [if_neg c5]
        by_cases c6 : c = 123
        · rw [if_pos c6]
          by_cases e : 4 < d
          · rw [if_pos e]; exact .none (List.suffix_refl _) (by decide) (by decide)
          rw [if_neg e]
          by_cases e2 : (skipB t).head? = some 125
          · rw [if_pos e2]
            have h1 : (skipB t).tail <:+ c :: t := (tail_suf _).trans hk
            have h2 := (tail_suf (skipB t)).length_le
            exact ⟨h1, fun _ => (by show (0 : Nat) ≠ 99; decide), fun _ => by show (skipB t).tail.length < _; rw [List.length_cons]; omega⟩
          · rw [if_neg e2]
            exact (iho d 0 (skipB t) []).more hk (by rw [List.length_cons]; omega)
        rw [if_neg c6]
        by_cases c7 : c = 45 ∨ digB c = true
        · rw [if_pos c7]; exact ⟨numV_suf _, fun _ => numV_err _, numV_less _⟩
        · rw [if_neg c7]; exact .none (List.suffix_refl _) (by decide) (by decide)
    · rw [lstV]
      by_cases e0 : n = 64 ∧ r ≠ []
      · rw [if_pos e0]; exact .none (List.suffix_refl _) (by decide) (by decide)
      rw [if_neg e0]
      obtain ⟨v1, v2, v3⟩ := ihv (d + 1) r
      by_cases e1 : (valV f (d + 1) r).2.2 = 0
      · rw [if_neg (fun e => e e1)]
        have hs1 := skipB_suf (valV f (d + 1) r).2.1
        have v4 := v3 e1
        cases hs : skipB (valV f (d + 1) r).2.1 with
        | nil => exact .none List.nil_suffix (by decide) (by decide)
        | cons c t =>
          rw [hs] at hs1
          have h1 : (c :: t) <:+ r := hs1.trans v1
          have h2 : t <:+ r := (List.suffix_cons c t).trans h1
          have h3 := hs1.length_le
          rw [List.length_cons] at h3
          simp only []
          by_cases c1 : c = 93
          · rw [if_pos c1]; exact ⟨h2, fun _ => (by show (0 : Nat) ≠ 99; decide), fun _ => by show t.length < _; omega⟩
          rw [if_neg c1]
          by_cases c2 : c = 44
          · rw [if_pos c2]
            have h4 := (skipB_suf t).length_le
            exact (ihl d (n + 1) (skipB t) _).more ((skipB_suf t).trans h2) (by omega)
          · rw [if_neg c2]; exact .none h1 (by decide) (by decide)
      · rw [if_pos e1]; exact ⟨v1, fun h => v2 (by omega), fun h => absurd h e1⟩
    · rw [objV]
      by_cases e0 : n = 64 ∧ r ≠ []
      · rw [if_pos e0]; exact .none (List.suffix_refl _) (by decide) (by decide)
      rw [if_neg e0]
      have x1 := txtV_suf r
      have x2 := txtV_err r
      have x3 := txtV_less r
      by_cases t1 : (txtV r).2.2 = 0
      · rw [if_neg (fun e => e t1)]
        by_cases t2 : (txtV r).1 ∈ acc.map (·.1)
        · rw [if_pos t2]; exact .none (List.suffix_refl _) (by decide) (by decide)
        rw [if_neg t2]
        have x4 := x3 t1
        have hk0 := skipB_suf (txtV r).2.1
        cases hs0 : skipB (txtV r).2.1 with
        | nil => exact .none List.nil_suffix (by decide) (by decide)
        | cons c0 t0 =>
          rw [hs0] at hk0
          have y1 : (c0 :: t0) <:+ r := hk0.trans x1
          have y2 : t0 <:+ r := (List.suffix_cons c0 t0).trans y1
          have y3 := hk0.length_le
          rw [List.length_cons] at y3
          simp only []
          by_cases c0' : c0 = 58
          · rw [if_neg (fun e => e c0')]
            have y4 := skipB_suf t0
            have y5 := y4.length_le
            obtain ⟨v1, v2, v3⟩ := ihv (d + 1) (skipB t0)
            by_cases e1 : (valV f (d + 1) (skipB t0)).2.2 = 0
            · rw [if_neg (fun e => e e1)]
              have v4 := v3 e1
              have hs1 := skipB_suf (valV f (d + 1) (skipB t0)).2.1
              cases hs : skipB (valV f (d + 1) (skipB t0)).2.1 with
              | nil => exact .none List.nil_suffix (by decide) (by decide)
              | cons c t =>
                rw [hs] at hs1
                have h1 : (c :: t) <:+ r := ((hs1.trans v1).trans y4).trans y2
                have h2 : t <:+ r := (List.suffix_cons c t).trans h1
                have h3 := hs1.length_le
                rw [List.length_cons] at h3
                simp only []
                by_cases c1 : c = 125
                · rw [if_pos c1]; exact ⟨h2, fun _ => (by show (0 : Nat) ≠ 99; decide), fun _ => by show t.length < _; omega⟩
                rw [if_neg c1]
                by_cases c2 : c = 44
                · rw [if_pos c2]
                  have h4 := (skipB_suf t).length_le
                  exact (iho d (n + 1) (skipB t) _).more ((skipB_suf t).trans h2) (by omega)
                · rw [if_neg c2]; exact .none h1 (by decide) (by decide)
            · rw [if_pos e1]; exact ⟨(v1.trans y4).trans y2, fun h => v2 (by omega), fun h => absurd h e1⟩
          · rw [if_pos c0']; exact .none y1 (by decide) (by decide)
      · rw [if_pos t1]; exact ⟨x1, fun _ => x2, fun h => absurd h t1⟩
/-- a text's end stands where its length says -/
theorem suf_drop {l q : List UInt8} (h : q <:+ l) : l.drop (l.length - q.length) = q := (List.suffix_iff_eq_drop.1 h).symm
end Go.Proofs.YtcmkepkeeahioaaGreatDoor
