/- What the helpers of package fields, and of its reference, return. Plain laws: numbers of digits (no program in sight). The number of the table of powers. What the library's variables hold, carried along a call. What Number and Digits of package fields return. Plain functions: ranges of bytes (no program in sight). Regions that draw their order, whose operations read and whose callees may lay blocks of their own: one walk. What titled of package fields returns: strings.Map with a closure that keeps a state. strings.Map with the closure of titled, at an ASCII text. titled, small. Plain laws for names and lines of fields. Plain functions: what a field's line is parsed as (no program in sight). What Parse of package fields returns. -/
import Derived.Test.YtfjdppngeillcaaGreatDoorPs1
import Derived.Lib.AtoiAll
import Derived.Lib.ItoaNum
import Derived.Test.YtfjdppngeillcaaGreatDoorProg
import GoSem.Claims
import Derived.KernelRfl
import Derived.Shelf.Unicode.DecodeSlow
import Derived.Lib.LaidTab
import Derived.WalkSmall
import Derived.Shelf.Strings.MapAny
import Derived.Shelf.Strconv.AtoiAll
import Derived.Sort.Grow
import Derived.Lib.AtoiErrMem
import Derived.Lib.IndexMore
import Derived.BigQuiet
import Derived.OneCell
import Derived.Shelf.Strings.BuilderCap
import Derived.Deep.LoopGhost
import Derived.Deep.DeepMust
import Derived.Deep.DeepFit
import Derived.Deep.DeepCutAuto
import Derived.Lib.SlTrimSet
import Derived.Lib.MapLaws
import Derived.Lib.TrimAscii
import Derived.Shelf.Strings.SlTrimAscii
import Derived.Laws.ResultCell
import Derived.Laws.Rows
import Derived.Laws.NewBlocks
set_option linter.unusedVariables false
namespace Go.Proofs.YtfjdppngeillcaaGreatDoor
open Go.RowKit

theorem digN_iff (x : Nat) (b : Bool) (h : digN x = b) : digN x = b := h
theorem fields_digit (x : Nat) (w : World) : Calls Tryz.prog 132 #[.int .i32 (x : Int)] w fun e w' => e = .returned (.bool (digN x)) ∧ w' = w := by
  by_cases h1 : x < 48
  · have H : Hid (digN x = false) := Lib.hid (by unfold digN; rw [decide_eq_false (by omega)]; rfl)
    go_enter Tryz.func132, Tryz.ntmps132
    go_wp2_with fail
    go_ret
    exact ⟨ret_bool H.out.symm, rfl⟩
  · by_cases h2 : 57 < x
    · have H : Hid (digN x = false) := Lib.hid (by unfold digN; rw [decide_eq_false (show ¬ x ≤ 57 by omega), Bool.and_false])
      have t1 : decide ((x : Int) ≤ 57) = false := by simp; omega
      go_enter Tryz.func132, Tryz.ntmps132
      go_wp2_with fail
      go_ret
      exact ⟨ret_bool H.out.symm, rfl⟩
    · have H : Hid (digN x = true) := Lib.hid (by unfold digN; rw [decide_eq_true (show x ≤ 57 by omega), decide_eq_true (show 48 ≤ x by omega)]; rfl)
      have t1 : decide ((x : Int) ≤ 57) = true := by simp; omega
      go_enter Tryz.func132, Tryz.ntmps132
      go_wp2_with fail
      go_ret
      exact ⟨ret_bool H.out.symm, rfl⟩
theorem fields_named (x : Nat) (w : World) : Calls Tryz.prog 121 #[.int .i32 (x : Int)] w fun e w' => e = .returned (.bool (namedN x)) ∧ w' = w := by
  by_cases h1 : x < 97
  · have hl : letN x = false := by unfold letN; rw [decide_eq_false (by omega)]; rfl
    cases hd : digN x with
    | true =>
      have hcon := fun w => fields_digit x w
      rw [hd] at hcon
      have H : Hid (namedN x = true) := Lib.hid (by unfold namedN; rw [hl, hd]; rfl)
      have Hcon := Lib.hid hcon
      clear hd hcon hl
      go_enter Tryz.func121, Tryz.ntmps121
      go_wp2_with (go_at_call 132; refine (Hcon.out _).mono ?_; rintro e w' ⟨rfl, rfl⟩)
      go_ret
      exact ⟨ret_bool H.out.symm, rfl⟩
    | false =>
      have hcon := fun w => fields_digit x w
      rw [hd] at hcon
      have H : Hid (namedN x = decide ((x : Int) = 45)) := Lib.hid (by
        unfold namedN; rw [hl, hd, Bool.false_or, Bool.false_or, Bool.eq_iff_iff, beq_iff_eq, decide_eq_true_iff]; omega)
      have Hcon := Lib.hid hcon
      clear hd hcon hl
      by_cases h45 : x = 45
      · have t : ((x : Int) == 45) = true := by rw [beq_iff_eq]; omega
        have H2 : Hid (namedN x = true) := Lib.hid (H.out.trans (decide_eq_true (by omega)))
        clear h45 H
        go_enter Tryz.func121, Tryz.ntmps121
        go_wp2_with (go_at_call 132; refine (Hcon.out _).mono ?_; rintro e w' ⟨rfl, rfl⟩)
        go_ret
        exact ⟨ret_bool H2.out.symm, rfl⟩
      · have t : ((x : Int) == 45) = false := by rw [beq_eq_false_iff_ne]; omega
        go_enter Tryz.func121, Tryz.ntmps121
        go_wp2_with (go_at_call 132; refine (Hcon.out _).mono ?_; rintro e w' ⟨rfl, rfl⟩)
        go_ret
        exact ⟨ret_bool (by rw [H.out, decide_eq_false (by omega)]), rfl⟩
  · by_cases h2 : 122 < x
    · have hl : letN x = false := by unfold letN; rw [decide_eq_false (show ¬ x ≤ 122 by omega), Bool.and_false]
      have hd : digN x = false := by unfold digN; rw [decide_eq_false (show ¬ x ≤ 57 by omega), Bool.and_false]
      have H : Hid (namedN x = false) := Lib.hid (by unfold namedN; rw [hl, hd, show (x == 45) = false by rw [beq_eq_false_iff_ne]; omega]; rfl)
      have t1 : decide ((x : Int) ≤ 122) = false := by simp; omega
      have t2 : ((x : Int) == 45) = false := by rw [beq_eq_false_iff_ne]; omega
      have hcon := fun w => fields_digit x w
      rw [hd] at hcon
      have Hcon := Lib.hid hcon
      clear hd hcon hl
      go_enter Tryz.func121, Tryz.ntmps121
      go_wp2_with (go_at_call 132; refine (Hcon.out _).mono ?_; rintro e w' ⟨rfl, rfl⟩)
      go_ret
      exact ⟨ret_bool H.out.symm, rfl⟩
    · have hl : letN x = true := by unfold letN; rw [decide_eq_true (show x ≤ 122 by omega), decide_eq_true (show 97 ≤ x by omega)]; rfl
      have H : Hid (namedN x = true) := Lib.hid (by unfold namedN; rw [hl]; rfl)
      have t1 : decide ((x : Int) ≤ 122) = true := by simp; omega
      clear hl
      go_enter Tryz.func121, Tryz.ntmps121
      go_wp2_with fail
      go_ret
      exact ⟨ret_bool H.out.symm, rfl⟩
theorem all1_digit (x B : Nat) (w : World) (hc : w.cell? ⟨B, 0, none⟩ = some (.func (.func 132) #[] #[])) :
    Calls Tryz.prog 146 #[.int .i32 (x : Int), .pointer (some ⟨B, 0, none⟩)] w fun e w' => e = .returned (.bool (!digN x)) ∧ w' = w := by
  go_enter Tryz.func146, Tryz.ntmps146
  go_wp2_with (go_at_call 132; refine (fields_digit _ _).mono ?_; rintro e w' ⟨rfl, rfl⟩)
  go_ret
  exact ⟨rfl, rfl⟩
theorem all1_named (x B : Nat) (w : World) (hc : w.cell? ⟨B, 0, none⟩ = some (.func (.func 121) #[] #[])) :
    Calls Tryz.prog 146 #[.int .i32 (x : Int), .pointer (some ⟨B, 0, none⟩)] w fun e w' => e = .returned (.bool (!namedN x)) ∧ w' = w := by
  go_enter Tryz.func146, Tryz.ntmps146
  go_wp2_with (go_at_call 121; refine (fields_named _ _).mono ?_; rintro e w' ⟨rfl, rfl⟩)
  go_ret
  exact ⟨rfl, rfl⟩

theorem idx_digit (s : ByteArray) (B : Nat) (w : World) (hB : B < w.heap.size) (hc : w.cell? ⟨B, 0, none⟩ = some (.func (.func 132) #[] #[])) :
    Calls Tryz.prog 102 #[.string s, .func (.func 146) #[] #[.pointer (some ⟨B, 0, none⟩)]] w fun e w' => e = .returned (.int .i64 (Lib.idxFunc (fun x => !digN x) true s)) ∧ Below w.heap.size w w' :=
  Tryz.strings_IndexFunc_grows 146 #[.pointer (some ⟨B, 0, none⟩)] (enters_of Tryz.func146 (by kernel_rfl) rfl) (fun x => !digN x) s w
    (fun W x _ hb => (all1_digit x B W ((hb.cell (p := ⟨B, 0, none⟩) hB).trans hc)).mono fun e w' ⟨he, hw⟩ => ⟨he, hw ▸ Below.refl _ _⟩)
theorem idx_named (s : ByteArray) (B : Nat) (w : World) (hB : B < w.heap.size) (hc : w.cell? ⟨B, 0, none⟩ = some (.func (.func 121) #[] #[])) :
    Calls Tryz.prog 102 #[.string s, .func (.func 146) #[] #[.pointer (some ⟨B, 0, none⟩)]] w fun e w' => e = .returned (.int .i64 (Lib.idxFunc (fun x => !namedN x) true s)) ∧ Below w.heap.size w w' :=
  Tryz.strings_IndexFunc_grows 146 #[.pointer (some ⟨B, 0, none⟩)] (enters_of Tryz.func146 (by kernel_rfl) rfl) (fun x => !namedN x) s w
    (fun W x _ hb => (all1_named x B W ((hb.cell (p := ⟨B, 0, none⟩) hB).trans hc)).mono fun e w' ⟨he, hw⟩ => ⟨he, hw ▸ Below.refl _ _⟩)

theorem all_digit_eq (s : ByteArray) : decide (Lib.idxFunc (fun x => !digN x) true s < 0) = s.data.toList.all (fun c => digN c.toNat) := by
  rw [idx_all _ (fun x h => by rw [digN_ge x h]; rfl)]; simp
theorem all_named_eq (s : ByteArray) : decide (Lib.idxFunc (fun x => !namedN x) true s < 0) = s.data.toList.all (fun c => namedN c.toNat) := by
  rw [idx_all _ (fun x h => by rw [namedN_ge x h]; rfl)]; simp

theorem below_box (w : World) (v : Value) (t : TypeId) : Below w.heap.size w (w.alloc (.cells #[v] t)) := (Below.refl _ _).alloc (Nat.le_refl _) _
theorem box_lt (w : World) (v : Value) (t : TypeId) : w.heap.size < (w.alloc (.cells #[v] t)).heap.size := by simp
theorem box_cell (w : World) (v : Value) (t : TypeId) : (w.alloc (.cells #[v] t)).cell? ⟨w.heap.size, 0, none⟩ = some v := by
  have h : (w.alloc (.cells #[v] t)).heap[w.heap.size]? = some (.cells #[v] t) := by
    show (w.heap.push _)[w.heap.size]? = _
    simp
  unfold World.cell?
  rw [h]; rfl

theorem fields_all_digit (s : ByteArray) (w : World) :
    Calls Tryz.prog 120 #[.string s, .func (.func 132) #[] #[]] w fun e w' => e = .returned (.bool (s.data.toList.all (fun c => digN c.toNat))) ∧ Below w.heap.size w w' := by
  have H := Lib.hid (all_digit_eq s)
  obtain ⟨i, hi⟩ : ∃ i, i = Lib.idxFunc (fun x => !digN x) true s := ⟨_, rfl⟩
  have HI := Lib.hid (fun B w hB hc => hi ▸ idx_digit s B w hB hc)
  rw [← hi] at H
  clear hi
  go_enter Tryz.func120, Tryz.ntmps120
  go_wp2_with fail
  refine (HI.out _ _ (box_lt _ _ _) (box_cell _ _ _)).mono ?_
  rintro e w1 ⟨rfl, hb⟩
  go_wp2_with fail
  go_ret
  exact ⟨ret_bool H.out, bstep (below_box _ _ _) hb⟩
theorem fields_all_named (s : ByteArray) (w : World) :
    Calls Tryz.prog 120 #[.string s, .func (.func 121) #[] #[]] w fun e w' => e = .returned (.bool (s.data.toList.all (fun c => namedN c.toNat))) ∧ Below w.heap.size w w' := by
  have H := Lib.hid (all_named_eq s)
  obtain ⟨i, hi⟩ : ∃ i, i = Lib.idxFunc (fun x => !namedN x) true s := ⟨_, rfl⟩
  have HI := Lib.hid (fun B w hB hc => hi ▸ idx_named s B w hB hc)
  rw [← hi] at H
  clear hi
  go_enter Tryz.func120, Tryz.ntmps120
  go_wp2_with fail
  refine (HI.out _ _ (box_lt _ _ _) (box_cell _ _ _)).mono ?_
  rintro e w1 ⟨rfl, hb⟩
  go_wp2_with fail
  go_ret
  exact ⟨ret_bool H.out, bstep (below_box _ _ _) hb⟩

theorem fields_name (s : ByteArray) (w : World) :
    Calls Tryz.prog 90 #[.string s] w fun e w' => e = .returned (.bool (nameL s.data.toList)) ∧ Below w.heap.size w w' := by
  by_cases he : s.size = 0
  · have H : Hid (nameL s.data.toList = false) := Lib.hid (by
      unfold nameL; rw [List.length_eq_zero_iff.1 (show s.data.toList.length = 0 by rw [size_len]; exact he)]; rfl)
    have t : s.toList.isEmpty = true := by
      rw [ByteArray.toList_eq, List.isEmpty_iff]; exact List.length_eq_zero_iff.1 (by rw [size_len]; exact he)
    go_enter Tryz.func90, Tryz.ntmps90
    go_wp2_with fail
    go_ret
    exact ⟨ret_bool H.out.symm, Below.refl _ _⟩
  · have t : s.toList.isEmpty = false := by
      rw [ByteArray.toList_eq, Bool.eq_false_iff, Ne, List.isEmpty_iff]; intro e; exact he (by rw [← size_len, e]; rfl)
    by_cases h32 : 32 < s.size
    · have H : Hid (nameL s.data.toList = false) := Lib.hid (by
        unfold nameL; rw [decide_eq_false (by rw [size_len]; omega), Bool.and_false, Bool.false_and])
      have t1 : decide ((s.size : Int) ≤ 32) = false := by simp; omega
      go_enter Tryz.func90, Tryz.ntmps90
      go_wp2_with fail
      go_ret
      exact ⟨ret_bool H.out.symm, Below.refl _ _⟩
    · have H : Hid (nameL s.data.toList = s.data.toList.all (fun c => namedN c.toNat)) := Lib.hid (by
        unfold nameL; rw [decide_eq_true (by rw [size_len]; omega), ← ByteArray.toList_eq, t]; rfl)
      have t1 : decide ((s.size : Int) ≤ 32) = true := by simp; omega
      have HA := Lib.hid (fun w => fields_all_named s w)
      obtain ⟨b, hb⟩ : ∃ b, b = s.data.toList.all (fun c => namedN c.toNat) := ⟨_, rfl⟩
      rw [← hb] at H HA
      clear hb
      cases b
      all_goals
        go_enter Tryz.func90, Tryz.ntmps90
        go_wp2_with fail
        refine (HA.out _).mono ?_
        rintro e w1 ⟨rfl, hb1⟩
        go_wp2_with fail
        go_ret
        exact ⟨ret_bool H.out.symm, hb1⟩

theorem fields_plain (s : ByteArray) (w : World) (hs : s.size ≤ 9223372036854775807) :
    Calls Tryz.prog 91 #[.string s] w fun e w' => e = .returned (.bool (s.data.toList.all (fun c => plainB c.toNat))) ∧ w' = w := by
  have hp := fun w => lines_put s w hs
  obtain ⟨L, hL⟩ : ∃ L, L = putLine s := ⟨_, rfl⟩
  rw [← hL] at hp
  cases hb : s.data.toList.all (fun c => plainB c.toNat) with
  | true =>
    obtain ⟨E, hE⟩ : ∃ E, E = putErr s.data.toList := ⟨_, rfl⟩
    have h4 : E ≠ 4 := by rw [hE]; unfold putErr; rw [if_neg (by rw [hb]; decide)]; split <;> decide
    rw [← hE] at hp
    have HP := Lib.hid hp
    have t : ((E : Int) != 4) = true := by rw [bne_iff_ne]; omega
    clear hp hE hb hL h4
    go_enter Tryz.func91, Tryz.ntmps91
    go_wp2_with (go_at_call 63; refine (HP.out _).mono ?_; rintro e w' ⟨rfl, rfl⟩)
    go_ret
    exact ⟨ret_bool rfl, rfl⟩
  | false =>
    rw [show putErr s.data.toList = 4 from if_pos hb] at hp
    have HP := Lib.hid hp
    clear hp hb hL
    go_enter Tryz.func91, Tryz.ntmps91
    go_wp2_with (go_at_call 63; refine (HP.out _).mono ?_; rintro e w' ⟨rfl, rfl⟩)
    go_ret
    exact ⟨ret_bool rfl, rfl⟩
end Go.Proofs.YtfjdppngeillcaaGreatDoor
namespace Go.Proofs.YtfjdppngeillcaaGreatDoor
open Go.RowKit

def stepD (n : Nat) (c : UInt8) : Nat := n * 10 + (c.toNat - 48)
/-- the number that digits spell -/
def decV (l : List UInt8) : Nat := l.foldl stepD 0
def digAll (l : List UInt8) : Bool := l.all (fun c => digN c.toNat)
def lead0 (l : List UInt8) : Bool := decide (1 < l.length) && l.head? == some 48
def numBad (l : List UInt8) : Bool := l.isEmpty || !digAll l || lead0 l
def numE (l : List UInt8) : Nat := if numBad l = true then 4 else if 9007199254740991 < decV l then 11 else 0
def numV (l : List UInt8) : Nat := if numE l = 0 then decV l else 0

theorem digN_bd (n : Nat) (h : digN n = true) : 48 ≤ n ∧ n ≤ 57 := by
  unfold digN at h; simp only [Bool.and_eq_true, decide_eq_true_eq] at h; exact h
theorem digN_not (n : Nat) (h : digN n = false) : n < 48 ∨ 57 < n := by
  unfold digN at h; simp only [Bool.and_eq_false_iff, decide_eq_false_iff_not] at h; omega
theorem digN_mk (n : Nat) (h : 48 ≤ n) (h2 : n ≤ 57) : digN n = true := by
  unfold digN; rw [decide_eq_true h, decide_eq_true h2]; rfl
theorem fold_ge (l : List UInt8) : ∀ acc, acc ≤ l.foldl stepD acc := by
  induction l with
  | nil => intro acc; exact Nat.le_refl _
  | cons c t ih => intro acc; refine Nat.le_trans ?_ (ih (stepD acc c)); unfold stepD; omega
theorem decV_snoc (l : List UInt8) (c : UInt8) : decV (l ++ [c]) = decV l * 10 + (c.toNat - 48) := by
  unfold decV; rw [List.foldl_append]; rfl
theorem decV_take_le (l : List UInt8) (k : Nat) : decV (l.take k) ≤ decV l := by
  have h : decV l = (l.drop k).foldl stepD (decV (l.take k)) := by
    unfold decV; rw [← List.foldl_append, List.take_append_drop]
  rw [h]; exact fold_ge _ _
theorem parse_dec (l : List UInt8) : ∀ acc, acc < 18446744073709551616 → digAll l = true → Go.Lib.parseUint10 acc l = if l.foldl stepD acc < 18446744073709551616 then .ok (l.foldl stepD acc) else .range := by
  induction l with
  | nil => intro acc h _; show Go.Lib.NumEnd.ok acc = if acc < 18446744073709551616 then Go.Lib.NumEnd.ok acc else _; rw [if_pos h]
  | cons c t ih =>
    intro acc h hd
    have hc : digN c.toNat = true ∧ digAll t = true := by unfold digAll at hd; rw [List.all_cons, Bool.and_eq_true] at hd; exact hd
    have hb := digN_bd _ hc.1
    have hg := fold_ge t (stepD acc c)
    show (if 48 ≤ c.toNat ∧ c.toNat ≤ 57 then _ else _) = _
    rw [if_pos hb]
    have e : (c :: t).foldl stepD acc = t.foldl stepD (stepD acc c) := rfl
    rw [e]
    have es : stepD acc c = acc * 10 + (c.toNat - 48) := rfl
    by_cases h1 : 1844674407370955162 ≤ acc
    · rw [if_pos h1, if_neg (by omega)]
    · rw [if_neg h1]
      by_cases h2 : 18446744073709551616 ≤ acc * 10 + (c.toNat - 48)
      · rw [if_pos h2, if_neg (by omega)]
      · rw [if_neg h2]
        exact ih (stepD acc c) (by omega) hc.2
theorem atoi_dec (l : List UInt8) (h0 : l ≠ []) (hd : digAll l = true) : Go.Lib.atoiAll l = if decV l < 9223372036854775808 then .ok (decV l : Int) else .range := by
  cases l with
  | nil => exact absurd rfl h0
  | cons c t =>
    have hc : digN c.toNat = true := by unfold digAll at hd; rw [List.all_cons, Bool.and_eq_true] at hd; exact hd.1
    have hb := digN_bd _ hc
    have hp := parse_dec (c :: t) 0 (by decide) hd
    change Go.Lib.parseUint10 0 (c :: t) = if decV (c :: t) < _ then .ok (decV (c :: t)) else _ at hp
    unfold Go.Lib.atoiAll
    simp only []
    rw [if_neg (show ¬ (c.toNat = 43 ∨ c.toNat = 45) by omega)]
    unfold Go.Lib.parseMag
    rw [if_neg (by simp), hp]
    by_cases h1 : decV (c :: t) < 18446744073709551616
    · rw [if_pos h1]
      by_cases h2 : decV (c :: t) < 9223372036854775808
      · simp only []
        rw [if_pos h2, if_neg (by omega), if_neg (by omega), if_neg (by omega)]
      · simp only []
        rw [if_neg h2, if_pos (by omega)]
    · rw [if_neg h1, if_neg (by omega)]

/-- a number's digits: all digits, no zero ahead of others, and they tell it -/
theorem dec_digit (k : Nat) (h : k < 10) : (UInt8.ofNat (48 + k)).toNat = 48 + k := by
  rw [UInt8.toNat_ofNat']; omega
theorem decDigits_ne (n : Nat) : Go.Lib.decDigits n ≠ [] := by
  rw [Go.Lib.decDigits]; split <;> simp
theorem decDigits_all (n : Nat) : digAll (Go.Lib.decDigits n) = true := by
  induction n using Nat.strongRecOn with
  | ind n ih =>
    rw [Go.Lib.decDigits]
    split
    · rename_i h
      unfold digAll; rw [List.all_cons, dec_digit n h, digN_mk _ (by omega) (by omega)]; rfl
    · have := ih (n / 10) (by omega)
      unfold digAll at this ⊢
      rw [List.all_append, this, List.all_cons, dec_digit (n % 10) (by omega), digN_mk _ (by omega) (by omega)]; rfl
theorem decV_decDigits (n : Nat) : decV (Go.Lib.decDigits n) = n := by
  induction n using Nat.strongRecOn with
  | ind n ih =>
    rw [Go.Lib.decDigits]
    split
    · rename_i h
      show stepD 0 _ = n
      unfold stepD; rw [dec_digit n h]; omega
    · rw [decV_snoc, ih (n / 10) (by omega), dec_digit (n % 10) (by omega)]; omega
theorem decDigits_head (n : Nat) (h : 0 < n) : ∀ c, (Go.Lib.decDigits n).head? = some c → c ≠ 48 := by
  induction n using Nat.strongRecOn with
  | ind n ih =>
    intro c
    rw [Go.Lib.decDigits]
    split
    · rename_i h10
      intro e hc
      simp only [List.head?_cons, Option.some.injEq] at e
      have := dec_digit n h10
      rw [e, hc] at this
      have : (48 : UInt8).toNat = 48 := rfl
      omega
    · intro e
      have hn := decDigits_ne (n / 10)
      refine ih (n / 10) (by omega) (by omega) c ?_
      rw [← e]
      cases hd : Go.Lib.decDigits (n / 10) with
      | nil => exact absurd hd hn
      | cons a t => rfl
theorem numBad_dec (n : Nat) : numBad (Go.Lib.decDigits n) = false := by
  unfold numBad
  rw [decDigits_all]
  have h1 : (Go.Lib.decDigits n).isEmpty = false := by
    rw [Bool.eq_false_iff, Ne, List.isEmpty_iff]; exact decDigits_ne n
  rw [h1]
  unfold lead0
  by_cases h0 : n < 10
  · rw [Go.Lib.decDigits, dif_pos h0]; rfl
  · have : ((Go.Lib.decDigits n).head? == some 48) = false := by
      rw [beq_eq_false_iff_ne]; intro e; exact decDigits_head n (by omega) 48 e rfl
    rw [this, Bool.and_false]; rfl
/-- digits without a zero ahead are the digits of their number -/
theorem lead0_snoc (l : List UInt8) (c : UInt8) (h : lead0 (l ++ [c]) = false) (h0 : l ≠ []) : l.head? ≠ some 48 := by
  intro e
  unfold lead0 at h
  cases l with
  | nil => exact h0 rfl
  | cons a t =>
    simp at e
    subst e
    simp at h
theorem decDigits_pos (l : List UInt8) (h0 : l ≠ []) (hd : digAll l = true) (hl : l.head? ≠ some 48) : 0 < decV l := by
  cases l with
  | nil => exact absurd rfl h0
  | cons c t =>
    have hc : digN c.toNat = true := by unfold digAll at hd; rw [List.all_cons, Bool.and_eq_true] at hd; exact hd.1
    have hb := digN_bd _ hc
    have hne : c.toNat ≠ 48 := by
      intro e; apply hl; rw [List.head?_cons]; congr 1; exact UInt8.toNat_inj.1 e
    have := fold_ge t (stepD 0 c)
    have e : decV (c :: t) = t.foldl stepD (stepD 0 c) := rfl
    have es : stepD 0 c = 0 * 10 + (c.toNat - 48) := rfl
    omega
theorem decDigits_decV (l : List UInt8) (k : Nat) : l.length ≤ k → numBad l = false → Go.Lib.decDigits (decV l) = l := by
  induction k generalizing l with
  | zero =>
    intro hk hb
    have : l = [] := List.length_eq_zero_iff.1 (by omega)
    subst this; simp [numBad] at hb
  | succ k ih =>
    intro hk hb
    unfold numBad at hb
    simp only [Bool.or_eq_false_iff, Bool.not_eq_false'] at hb
    obtain ⟨⟨h1, h2⟩, h3⟩ := hb
    have hne : l ≠ [] := by intro e; rw [e] at h1; exact absurd h1 (by decide)
    obtain ⟨t, c, rfl⟩ : ∃ t c, l = t ++ [c] := ⟨l.dropLast, l.getLast hne, (List.dropLast_concat_getLast hne).symm⟩
    have hc : digAll t = true ∧ digN c.toNat = true := by
      unfold digAll at h2 ⊢; rw [List.all_append, Bool.and_eq_true, List.all_cons, Bool.and_eq_true] at h2; exact ⟨h2.1, h2.2.1⟩
    have hb := digN_bd _ hc.2
    have ec : UInt8.ofNat (48 + (c.toNat - 48)) = c := by
      rw [show 48 + (c.toNat - 48) = c.toNat by omega]; exact UInt8.ofNat_toNat
    rw [decV_snoc]
    by_cases ht : t = []
    · subst ht
      show Go.Lib.decDigits (0 * 10 + (c.toNat - 48)) = [c]
      rw [Go.Lib.decDigits, dif_pos (by omega), Nat.zero_mul, Nat.zero_add, ec]
    · have hl := lead0_snoc t c h3 ht
      have hp := decDigits_pos t ht hc.1 hl
      have hbt : numBad t = false := by
        unfold numBad lead0
        rw [hc.1, (by rw [Bool.eq_false_iff, Ne, List.isEmpty_iff]; exact ht : t.isEmpty = false), (by rw [beq_eq_false_iff_ne]; exact hl : (t.head? == some 48) = false), Bool.and_false]; rfl
      rw [Go.Lib.decDigits, dif_neg (by omega), show (decV t * 10 + (c.toNat - 48)) / 10 = decV t by omega, show (decV t * 10 + (c.toNat - 48)) % 10 = c.toNat - 48 by omega, ec, ih t (by simp at hk; omega) hbt]
end Go.Proofs.YtfjdppngeillcaaGreatDoor
namespace Go.Proofs.YtfjdppngeillcaaGreatDoor
theorem g_pow10 : Tryz.prog.globalNamed "internal/strconv.uint64pow10" = some 3 := by kernel_rfl
end Go.Proofs.YtfjdppngeillcaaGreatDoor
namespace Go.Proofs.YtfjdppngeillcaaGreatDoor
open Go.RowKit

/-- what the library's variables hold, carried along a call -/
structure EnvF (w : World) : Prop where
  m : ∃ m, w.cell? ⟨0, 0, none⟩ = some (.int .i64 m)
  mlt : 0 < w.heap.size
  tabs : Lib.Utf8Tabs 1 2 w
  pow : Go.Lib.TabIs Tryz.prog w "internal/strconv.uint64pow10" .u64 Go.Lib.pow10Tab
  big : 3 < w.heap.size
  rng : ∃ tp p, w.cell? ⟨5, 0, none⟩ = some (.iface tp p)
  rlt : 5 < w.heap.size
theorem EnvF.below {w w' : World} (h : EnvF w) (hb : Below w.heap.size w w') : EnvF w' :=
  ⟨let ⟨m, hm⟩ := h.m; ⟨m, (hb.cell (p := ⟨0, 0, none⟩) h.mlt).trans hm⟩, Nat.lt_of_lt_of_le h.mlt hb.size, Utf8Tabs_below h.tabs hb, var?_below hb g_pow10 h.big h.pow, Nat.lt_of_lt_of_le h.big hb.size,
   let ⟨t, p, hp⟩ := h.rng; ⟨t, p, (hb.cell (p := ⟨5, 0, none⟩) h.rlt).trans hp⟩, Nat.lt_of_lt_of_le h.rlt hb.size⟩

end Go.Proofs.YtfjdppngeillcaaGreatDoor
namespace Go.Proofs.YtfjdppngeillcaaGreatDoor
open Go.RowKit

theorem c_itoa (n : Int) (h0 : -9223372036854775808 ≤ n) (h1 : n ≤ 9223372036854775807) (w : World) (hE : EnvF w) :
    Calls Tryz.prog 86 #[.int .i64 n] w fun e w' => e = .returned (.string (bs (Go.Lib.itoa n))) ∧ Below w.heap.size w w' :=
  (Tryz.strconv_Itoa n h0 h1 w hE.pow).mono fun _ _ ⟨he, k, os, hw⟩ => ⟨he, hw ▸ ⟨rfl, rfl, rfl, by
    show w.heap.size ≤ (w.heap ++ os).size
    simp, fun j hj => by
    show (w.heap ++ os)[j]? = w.heap[j]?
    rw [Array.getElem?_append_left hj]⟩⟩
theorem c_atoi_ok (s : ByteArray) (hs : s.size ≤ 1000000) (v : Int) (h : Go.Lib.atoiAll s.data.toList = .ok v) (w : World) :
    Calls Tryz.prog 131 #[.string s] w fun e w' => e = .returned (.tuple #[.int .i64 v, .nilIface]) ∧ Below w.heap.size w w' :=
  (Tryz.strconv_Atoi_ok s (by omega) v h w).mono fun _ _ ⟨he, hw⟩ => ⟨he, by
    rcases hw with rfl | ⟨t, rfl⟩
    · exact Below.refl _ _
    · exact Go.Lib.bytesWorld_below _ _ _⟩
def NumErr (w : World) (e : Ending) (w' : World) : Prop := ∃ n t a, e = .returned (.tuple #[.int .i64 n, .iface t (.pointer (some a))]) ∧ Below w.heap.size w w'
theorem c_atoi_range (s : ByteArray) (hs : s.size ≤ 1000000) (h : Go.Lib.atoiAll s.data.toList = .range) (w : World) (hE : EnvF w) :
    Calls Tryz.prog 131 #[.string s] w (NumErr w) := by
  obtain ⟨tp, p, hv⟩ := hE.rng
  exact (Tryz.strconv_Atoi_range s (by omega) h _ w hv (.inr ⟨tp, p, rfl⟩)).mono fun _ _ ⟨N, he, _, _, hb⟩ => ⟨_, _, _, he, hb⟩

/-- a number's digits; of none below 0 -/
def digL (n : Int) : List UInt8 := if n < 0 then [] else Go.Lib.decDigits n.toNat
theorem fields_digits (n : Int) (h0 : -9223372036854775808 ≤ n) (h1 : n ≤ 9223372036854775807) (w : World) (hE : EnvF w) :
    Calls Tryz.prog 60 #[.int .i64 n] w fun e w' => e = .returned (.string (bs (digL n))) ∧ Below w.heap.size w w' := by
  by_cases hn : n < 0
  · have H : Hid (digL n = []) := Lib.hid (if_pos hn)
    clear hE
    go_enter Tryz.func60, Tryz.ntmps60
    go_wp2_with fail
    go_ret
    exact ⟨by rw [H.out]; rfl, Below.refl _ _⟩
  · have H : Hid (digL n = Go.Lib.itoa n) := Lib.hid (by unfold digL Go.Lib.itoa; rw [if_neg hn, if_neg hn])
    have HI := Lib.hid (c_itoa n h0 h1 w hE)
    clear hE
    go_enter Tryz.func60, Tryz.ntmps60
    go_wp2_with fail
    refine HI.out.mono ?_
    rintro e w1 ⟨rfl, hb⟩
    go_wp2_with fail
    go_ret
    exact ⟨by rw [H.out]; rfl, hb⟩

theorem numE_bad (l : List UInt8) (h : numBad l = true) : numE l = 4 ∧ numV l = 0 := by
  have h1 : numE l = 4 := if_pos h
  exact ⟨h1, by unfold numV; rw [h1]; rfl⟩
theorem numE_over (l : List UInt8) (h : numBad l = false) (h2 : 9007199254740991 < decV l) : numE l = 11 ∧ numV l = 0 := by
  have h1 : numE l = 11 := by unfold numE; rw [h, if_neg (by decide), if_pos h2]
  exact ⟨h1, by unfold numV; rw [h1]; rfl⟩
theorem numE_ok (l : List UInt8) (h : numBad l = false) (h2 : ¬ 9007199254740991 < decV l) : numE l = 0 ∧ numV l = decV l := by
  have h1 : numE l = 0 := by unfold numE; rw [h, if_neg (by decide), if_neg h2]
  exact ⟨h1, by unfold numV; rw [h1]; rfl⟩
theorem ret_nums {a a' b b' : Int} (h : a = a') (h2 : b = b') : Ending.returned (.tuple #[.int .i64 a, .int .i64 b]) = .returned (.tuple #[.int .i64 a', .int .i64 b']) := by rw [h, h2]
theorem lead0_size (s : ByteArray) (h : 1 < s.size) (h2 : s[0] = 48) : lead0 s.data.toList = true := by
  unfold lead0
  rw [size_len, decide_eq_true h, List.head?_eq_getElem?, List.getElem?_eq_getElem (by rw [size_len]; omega)]
  show ((some s[0]) == some 48) = true
  rw [h2]; rfl
theorem lead0_not (s : ByteArray) (h : ¬ ∃ h : 1 < s.size, s[0] = 48) : lead0 s.data.toList = false := by
  unfold lead0
  by_cases h1 : 1 < s.size
  · rw [size_len, decide_eq_true h1, List.head?_eq_getElem?, List.getElem?_eq_getElem (by rw [size_len]; omega)]
    show (true && (some s[0]) == some 48) = false
    rw [Bool.true_and, beq_eq_false_iff_ne]
    intro e
    exact h ⟨h1, Option.some.inj e⟩
  · rw [size_len, decide_eq_false h1]; rfl

set_option maxRecDepth 100000 in
set_option maxHeartbeats 2000000 in
theorem fields_number (s : ByteArray) (w : World) (hs : s.size ≤ 1000000) (hE : EnvF w) :
    Calls Tryz.prog 97 #[.string s] w fun e w' => e = .returned (.tuple #[.int .i64 (numV s.data.toList), .int .i64 (numE s.data.toList)]) ∧ Below w.heap.size w w' := by
  have HE := Lib.hid hE
  clear hE
  obtain ⟨l, hl⟩ : ∃ l, l = s.data.toList := ⟨_, rfl⟩
  have hsl : l.length = s.size := by rw [hl]; exact size_len s
  have HA := Lib.hid (fun w => fields_all_digit s w)
  have hlead1 := fun h h2 => lead0_size s h h2
  have hlead2 := fun h => lead0_not s h
  have hok := fun v (h : Go.Lib.atoiAll s.data.toList = .ok v) w => c_atoi_ok s hs v h w
  have hrg := fun (h : Go.Lib.atoiAll s.data.toList = .range) w hE => c_atoi_range s hs h w hE
  rw [← hl] at HA hlead1 hlead2 hok hrg ⊢
  by_cases h0 : s.size = 0
  · have H := Lib.hid (numE_bad l (by rw [List.length_eq_zero_iff.1 (show l.length = 0 by omega)]; rfl))
    have t : s.toList.isEmpty = true := by
      rw [ByteArray.toList_eq, List.isEmpty_iff]; exact List.length_eq_zero_iff.1 (by rw [size_len]; exact h0)
    clear hl hsl hlead1 hlead2 hok hrg h0
    go_enter Tryz.func97, Tryz.ntmps97
    go_wp2_with fail
    go_ret2
    exact ⟨ret_nums (by rw [H.out.2]; rfl) (by rw [H.out.1]; rfl), Below.refl _ _⟩
  · have t : s.toList.isEmpty = false := by
      rw [ByteArray.toList_eq, Bool.eq_false_iff, Ne, List.isEmpty_iff]; intro e; exact h0 (by rw [← size_len, e]; rfl)
    have he : l.isEmpty = false := by rw [hl, ← ByteArray.toList_eq]; exact t
    have hne : l ≠ [] := by intro e; rw [e] at he; exact absurd he (by decide)
    have hpos : 0 < s.size := by omega
    clear h0 hl
    cases hd : l.all (fun c => digN c.toNat) with
    | false =>
      have H := Lib.hid (numE_bad l (by unfold numBad digAll; rw [hd]; simp))
      rw [hd] at HA
      clear hsl hlead1 hlead2 hok hrg hd he hne
      go_enter Tryz.func97, Tryz.ntmps97
      go_wp2_with fail
      refine (HA.out _).mono ?_
      rintro e w1 ⟨rfl, hb⟩
      go_wp2_with fail
      go_ret2
      exact ⟨ret_nums (by rw [H.out.2]; rfl) (by rw [H.out.1]; rfl), hb⟩
    | true =>
      rw [hd] at HA
      have hda : digAll l = true := hd
      by_cases h1 : ∃ h : 1 < s.size, s[0] = 48
      · obtain ⟨h1, h48⟩ := h1
        have H := Lib.hid (numE_bad l (by unfold numBad; rw [hlead1 h1 h48, Bool.or_true]))
        have t1 : ((s[0].toNat : Int) == 48) = true := by rw [h48]; rfl
        clear hsl hlead1 hlead2 hok hrg hd he hne hda h48
        go_enter Tryz.func97, Tryz.ntmps97
        go_wp2_with fail
        refine (HA.out _).mono ?_
        rintro e w1 ⟨rfl, hb⟩
        go_wp2_with fail
        go_ret2
        exact ⟨ret_nums (by rw [H.out.2]; rfl) (by rw [H.out.1]; rfl), hb⟩
      · have hbad : numBad l = false := by unfold numBad; rw [he, hda, hlead2 h1]; rfl
        have hat := atoi_dec l hne hda
        have hov := numE_over l hbad
        have hkk := numE_ok l hbad
        by_cases h2 : 1 < s.size
        case' pos =>
          have t1 : ((s[0].toNat : Int) == 48) = false := by
            rw [beq_eq_false_iff_ne]; intro e; exact h1 ⟨h2, UInt8.toNat_inj.1 (by show _ = 48; omega)⟩
        case' neg =>
          have t1 : decide ((s.size : Int) > 1) = false := decide_eq_false (by omega)
        all_goals
          by_cases hbig : decV l < 9223372036854775808
          · rw [if_pos hbig] at hat
            have HK := Lib.hid (fun w => hok _ hat w)
            obtain ⟨n, hn⟩ : ∃ n, n = decV l := ⟨_, rfl⟩
            rw [← hn] at HK hov hkk
            clear hsl hlead1 hlead2 hok hrg hd he hne hda hat hbig hn h1 hbad
            by_cases hm : 9007199254740991 < n
            · have H := Lib.hid (hov hm)
              have t2 : decide ((n : Int) > 9007199254740991) = true := decide_eq_true (by omega)
              clear hov hkk hm
              go_enter Tryz.func97, Tryz.ntmps97
              go_wp2_with fail
              refine (HA.out _).mono ?_
              rintro e w1 ⟨rfl, hb⟩
              go_wp2_with fail
              refine (HK.out _).mono ?_
              rintro e w2 ⟨rfl, hb2⟩
              go_wp2_with fail
              go_ret2
              exact ⟨ret_nums (by rw [H.out.2]; rfl) (by rw [H.out.1]; rfl), bstep hb hb2⟩
            · have H := Lib.hid (hkk hm)
              have t2 : decide ((n : Int) > 9007199254740991) = false := decide_eq_false (by omega)
              clear hov hkk hm
              go_enter Tryz.func97, Tryz.ntmps97
              go_wp2_with fail
              refine (HA.out _).mono ?_
              rintro e w1 ⟨rfl, hb⟩
              go_wp2_with fail
              refine (HK.out _).mono ?_
              rintro e w2 ⟨rfl, hb2⟩
              go_wp2_with fail
              go_ret2
              exact ⟨ret_nums (by rw [H.out.2]) (by rw [H.out.1]; rfl), bstep hb hb2⟩
          · rw [if_neg hbig] at hat
            have HK := Lib.hid (hrg hat)
            have H := Lib.hid (hov (by omega))
            clear hsl hlead1 hlead2 hok hrg hd he hne hda hat hbig h1 hbad hov hkk
            go_enter Tryz.func97, Tryz.ntmps97
            go_wp2_with fail
            refine (HA.out _).mono ?_
            rintro e w1 ⟨rfl, hb⟩
            go_wp2_with fail
            refine (HK.out _ (HE.out.below hb)).mono ?_
            rintro e w2 ⟨n, t, a, rfl, hb2⟩
            go_wp2_with fail
            go_ret2
            exact ⟨ret_nums (by rw [H.out.2]; rfl) (by rw [H.out.1]; rfl), bstep hb hb2⟩
end Go.Proofs.YtfjdppngeillcaaGreatDoor
namespace Go.Proofs.YtfjdppngeillcaaGreatDoor
open Go.RowKit

def mostR : Int := 9007199254740990
/-- may a range be? 8: it may not -/
def rErr (a b : Int) : Nat := if a < 0 ∨ b < a ∨ 9007199254740990 < b then 8 else 0
def rLen (a b : Int) : Int := if rErr a b = 0 then b - a + 1 else 0
theorem rErr_ok (a b : Int) (h : rErr a b = 0) : 0 ≤ a ∧ a ≤ b ∧ b ≤ 9007199254740990 := by
  unfold rErr at h; split at h
  · exact absurd h (by decide)
  · omega
theorem rErr_no (a b : Int) (h : rErr a b ≠ 0) : rErr a b = 8 ∧ (a < 0 ∨ b < a ∨ 9007199254740990 < b) := by
  unfold rErr at h ⊢; split at h
  · rename_i hc; exact ⟨if_pos hc, hc⟩
  · exact absurd rfl h
def asksL : List UInt8 := [98, 121, 116, 101, 115, 61]
def tellsL : List UInt8 := [98, 121, 116, 101, 115, 32]
def textR (a b : Int) : List UInt8 := digL a ++ 45 :: digL b
def askL (a b : Int) : List UInt8 := if rErr a b = 0 then asksL ++ textR a b else []
/-- what stands ahead of a byte -/
def upTo (c : UInt8) (l : List UInt8) : List UInt8 := l.takeWhile (fun x => x != c)
def hasB (c : UInt8) (l : List UInt8) : Bool := decide ((upTo c l).length < l.length)
def behind (c : UInt8) (l : List UInt8) : List UInt8 := l.drop ((upTo c l).length + 1)
theorem upTo_le (c : UInt8) (l : List UInt8) : (upTo c l).length ≤ l.length := (List.takeWhile_prefix _).length_le
theorem upTo_take (c : UInt8) (l : List UInt8) : l.take (upTo c l).length = upTo c l := (List.prefix_iff_eq_take.1 (List.takeWhile_prefix _)).symm
theorem index_one (c : UInt8) (l : List UInt8) : Go.Lib.index l [c] = if (upTo c l).length < l.length then ((upTo c l).length : Int) else -1 := by
  induction l with
  | nil => rfl
  | cons d t ih =>
    unfold Go.Lib.index
    by_cases hc : d = c
    · subst hc
      have : upTo d (d :: t) = [] := by unfold upTo; rw [List.takeWhile_cons_of_neg (by simp)]
      rw [this, if_pos (by simp [List.isPrefixOf]), if_pos (by simp)]; rfl
    · have ha : upTo c (d :: t) = d :: upTo c t := by unfold upTo; rw [List.takeWhile_cons_of_pos (by simpa using hc)]
      rw [if_neg (by simp [List.isPrefixOf]; exact fun h => hc h.symm), ih, ha]
      by_cases hlt : (upTo c t).length < t.length
      · rw [if_pos hlt, if_neg (by rw [beq_iff_eq]; omega), if_pos (by simp; omega)]; simp
      · rw [if_neg hlt, if_pos (by decide), if_neg (by simp; omega)]
theorem cut_one (c : UInt8) (l : List UInt8) : Go.Lib.cut l [c] = if hasB c l = true then (upTo c l, behind c l, true) else (l, [], false) := by
  unfold Go.Lib.cut hasB behind
  rw [index_one]
  by_cases hlt : (upTo c l).length < l.length
  · rw [if_pos hlt, if_pos (by omega), decide_eq_true hlt, if_pos rfl, Int.toNat_natCast, upTo_take]; rfl
  · rw [if_neg hlt, if_neg (by decide), decide_eq_false hlt, if_neg (by decide)]
/-- two numbers: the error of the first that is none -/
def twoE (a b : List UInt8) : Nat := if numE a ≠ 0 then numE a else numE b
/-- what is asked for: from, to, the error -/
def askedOk (l : List UInt8) : Bool := asksL.isPrefixOf l && hasB 45 (l.drop 6)
def askedF (l : List UInt8) : Nat := numV (upTo 45 (l.drop 6))
def askedT (l : List UInt8) : Nat := numV (behind 45 (l.drop 6))
def askedE (l : List UInt8) : Nat := if askedOk l = false then 4 else if twoE (upTo 45 (l.drop 6)) (behind 45 (l.drop 6)) ≠ 0 then twoE (upTo 45 (l.drop 6)) (behind 45 (l.drop 6)) else rErr (askedF l) (askedT l)
def askedA (l : List UInt8) : Int := if askedE l = 0 then (askedF l : Int) else 0
def askedB (l : List UInt8) : Int := if askedE l = 0 then (askedT l : Int) else 0
/-- what is told of so many bytes -/
def toldE (a b t : Int) : Nat := if rErr a b ≠ 0 then rErr a b else if t ≤ b ∨ 9007199254740991 < t then 8 else 0
def toldL (a b t : Int) : List UInt8 := if toldE a b t = 0 then tellsL ++ textR a b ++ 47 :: digL t else []
def tellOk (l : List UInt8) : Bool := tellsL.isPrefixOf l && hasB 45 (l.drop 6) && hasB 47 (behind 45 (l.drop 6))
def tellF (l : List UInt8) : Nat := numV (upTo 45 (l.drop 6))
def tellT (l : List UInt8) : Nat := numV (upTo 47 (behind 45 (l.drop 6)))
def tellN (l : List UInt8) : Nat := numV (behind 47 (behind 45 (l.drop 6)))
def threeE (a b c : List UInt8) : Nat := if numE a ≠ 0 then numE a else if numE b ≠ 0 then numE b else numE c
def tellE (l : List UInt8) : Nat := if tellOk l = false then 4 else if threeE (upTo 45 (l.drop 6)) (upTo 47 (behind 45 (l.drop 6))) (behind 47 (behind 45 (l.drop 6))) ≠ 0 then threeE (upTo 45 (l.drop 6)) (upTo 47 (behind 45 (l.drop 6))) (behind 47 (behind 45 (l.drop 6)))
  else toldE (tellF l) (tellT l) (tellN l)
def tellA (l : List UInt8) : Int := if tellE l = 0 then (tellF l : Int) else 0
def tellB (l : List UInt8) : Int := if tellE l = 0 then (tellT l : Int) else 0
def tellC (l : List UInt8) : Int := if tellE l = 0 then (tellN l : Int) else 0
/-- a range cut to what there is -/
def clipE (a b t : Int) : Nat := if rErr a b ≠ 0 then rErr a b else if t ≤ a then 8 else 0
def clipA (a b t : Int) : Int := if clipE a b t = 0 then a else 0
def clipB (a b t : Int) : Int := if clipE a b t = 0 then (if b < t - 1 then b else t - 1) else 0
end Go.Proofs.YtfjdppngeillcaaGreatDoor
namespace Go.Proofs.YtfjdppngeillcaaGreatDoor
open Go.RowKit

/-- a world that has come of w by reading, drawing and laying blocks -/
structure BelowOf (w : World) where
  world : World
  below : Below w.heap.size w world
instance (w : World) : Inhabited (BelowOf w) := ⟨⟨w, Below.refl _ _⟩⟩
theorem wp_region_quiet_below {P : Program} {id : Nat} {Q : Exit → Act → World → Prop} {a : Act} {w : World} {l : List Oper} (hm : P.follows .mixedOrders = true) (hB : Region.lexB .any l.toArray = true)
    (h : wpQuiet P l.toArray (fun w' => ∃ p : BelowOf w, w' = p.world) (fun a' => ∀ w', (∃ p : BelowOf w, w' = p.world) → Q .normal a' w') l a) : (Code.region id l.toArray true).wp P Q a w :=
  wp_region_quiet (C := fun w' => ∃ p : BelowOf w, w' = p.world) hm hB ⟨⟨w.drew, (Below.refl _ _).drew⟩, rfl⟩ (by simpa using h)
theorem below_of {P : Program} {f : FuncId} {args : Array Value} {w : World} {p : BelowOf w} {v : Value}
    (h : Calls P f args p.world fun e w' => e = .returned v ∧ Below p.world.heap.size p.world w') : Calls P f args p.world fun e w'' => e = .returned v ∧ ∃ q : BelowOf w, w'' = q.world :=
  h.mono fun _ _ ⟨he, hb⟩ => ⟨he, ⟨_, bstep p.below hb⟩, rfl⟩
theorem below_same {P : Program} {f : FuncId} {args : Array Value} {w : World} {p : BelowOf w} {v : Value}
    (h : Calls P f args p.world fun e w' => e = .returned v ∧ w' = p.world) : Calls P f args p.world fun e w'' => e = .returned v ∧ ∃ q : BelowOf w, w'' = q.world :=
  h.mono fun _ _ ⟨he, hw⟩ => ⟨he, p, hw⟩
theorem cell_of {w : World} (p : BelowOf w) {a : Addr} {v : Value} (hb : a.block < w.heap.size) (h : w.cell? a = some v) : p.world.cell? a = some v := (p.below.cell hb).trans h
theorem of_class {w W : World} (h : ∃ p : BelowOf w, W = p.world) : Below w.heap.size w W := let ⟨p, hp⟩ := h; hp ▸ p.below
end Go.Proofs.YtfjdppngeillcaaGreatDoor
namespace Go.Proofs.YtfjdppngeillcaaGreatDoor
open Go.RowKit

def titN (b : Bool) (c : Nat) : Nat := if (b && letN c) = true then c - 32 else c

theorem letN_lo (c : Nat) (h : c < 97) : letN c = false := by unfold letN; rw [decide_eq_false (by omega)]; rfl
theorem letN_hi (c : Nat) (h : 122 < c) : letN c = false := by unfold letN; rw [decide_eq_false (show ¬ c ≤ 122 by omega), Bool.and_false]
theorem letN_in (c : Nat) (h : 97 ≤ c) (h2 : c ≤ 122) : letN c = true := by unfold letN; rw [decide_eq_true h, decide_eq_true h2]; rfl

theorem titled1 (c B : Nat) (b : Bool) (w : World) (hblk : w.heap[B]? = some (.cells #[.bool b] 4 (0, 0))) (hc : c < 128) :
    Calls Tryz.prog 129 #[.int .i32 (c : Int), .pointer (some ⟨B, 0, none⟩)] w fun e w' => e = .returned (.int .i32 (titN b c : Nat)) ∧ w' = w.setCell ⟨B, 0, none⟩ (.bool ((c : Int) == 45)) := by
  have hcell : w.cell? ⟨B, 0, none⟩ = some (.bool b) := by unfold World.cell?; rw [hblk]; rfl
  have hfr : w.frozen? ⟨B, 0, none⟩ = false := by unfold World.frozen?; rw [hblk]; rfl
  cases b
  · have H : Hid (titN false c = c) := Lib.hid rfl
    go_enter Tryz.func129, Tryz.ntmps129
    go_wp2_with fail
    go_ret
    exact ⟨by rw [H.out]; rfl, rfl⟩
  · by_cases h1 : c < 97
    · have H : Hid (titN true c = c) := Lib.hid (by unfold titN; rw [letN_lo c h1]; rfl)
      have t1 : decide ((c : Int) ≥ 97) = false := by simp; omega
      go_enter Tryz.func129, Tryz.ntmps129
      go_wp2_with fail
      go_ret
      exact ⟨by rw [H.out]; rfl, rfl⟩
    · by_cases h2 : 122 < c
      · have H : Hid (titN true c = c) := Lib.hid (by unfold titN; rw [letN_hi c h2]; rfl)
        have t1 : decide ((c : Int) ≤ 122) = false := by simp; omega
        go_enter Tryz.func129, Tryz.ntmps129
        go_wp2_with fail
        go_ret
        exact ⟨by rw [H.out]; rfl, rfl⟩
      · have H : Hid (titN true c = c - 32) := Lib.hid (by unfold titN; rw [letN_in c (by omega) (by omega)]; rfl)
        have t1 : decide ((c : Int) ≤ 122) = true := by simp; omega
        have h3 : 97 ≤ c := by omega
        go_enter Tryz.func129, Tryz.ntmps129
        go_wp2_with fail
        go_ret
        refine ⟨ret_int ?_, rfl⟩
        rw [H.out]; omega

def stB (c : UInt8) : Bool := ((c.toNat : Nat) : Int) == 45
def titL : Bool → List UInt8 → List UInt8
  | _, [] => []
  | b, c :: t => UInt8.ofNat (titN b c.toNat) :: titL (stB c) t
theorem titN_le (b : Bool) (c : Nat) (h : c < 128) : titN b c < 128 := by unfold titN; split <;> omega

theorem builder_keeps {T e : TypeId} {B b c : Nat} {p : Value} {l : List Value} {w : World} (h : Go.Lib.BuilderAtF T e B b p l w) (hc : c < B) (v : Value) : Go.Lib.BuilderAtF T e B b p l (w.setCell ⟨c, 0, none⟩ v) := by
  obtain ⟨hB, x, hx, hown, hne⟩ := h
  have hnc : x.ownBlock ≠ some c := by
    rcases hown.2 with ⟨rfl, _⟩ | ⟨g, cap, cur, fz, rfl, hg, _⟩
    · simp [Value.ownBlock]
    · intro e
      have : g = c := by simpa [Value.ownBlock] using e
      omega
  refine ⟨hB, x, ?_, hown.kept (row := some c) ⟨rfl, rfl, rfl, by simp [World.setCell], fun k _ hk => Below.heap_setCell _ _ _ _ (fun e => hk (by simp [e]))⟩ (Or.inr hnc), hne⟩
  rw [← hx]
  exact Below.heap_setCell _ _ _ _ (show b ≠ c by omega)
theorem isBuilder_keeps {T e : TypeId} {B b c : Nat} {l : List Value} {w : World} (h : Go.Lib.IsBuilderF T e B b l w) (hc : c < B) (v : Value) : Go.Lib.IsBuilderF T e B b l (w.setCell ⟨c, 0, none⟩ v) :=
  h.elim (fun x => .inl (builder_keeps x hc v)) (fun x => .inr (builder_keeps x hc v))

/-- the closure's cell and what lies below it -/
def AtT (w0 : World) (c : Nat) (b : Bool) (w : World) : Prop := w.heap[c]? = some (.cells #[.bool b] 4 (0, 0)) ∧ Below c w0 w
theorem AtT.below {w0 w w' : World} {c B : Nat} {b : Bool} (h : AtT w0 c b w) (hb : Below B w w') (hB : c < B) : AtT w0 c b w' :=
  ⟨(hb.block c hB).trans h.1, h.2.trans (hb.mono (by omega))⟩
theorem AtT.set {w0 w : World} {c : Nat} {b : Bool} (h : AtT w0 c b w) (b' : Bool) : AtT w0 c b' (w.setCell ⟨c, 0, none⟩ (.bool b')) := by
  refine ⟨?_, h.2.setCell (p := ⟨c, 0, none⟩) (Nat.le_refl _) _⟩
  simp [World.setCell, Array.getElem?_modify, h.1]
theorem setCell_other (w : World) (c j : Nat) (v : Value) (h : j ≠ c) : (w.setCell ⟨c, 0, none⟩ v).heap[j]? = w.heap[j]? := Below.heap_setCell _ _ _ _ h
theorem setCell_size (w : World) (c : Nat) (v : Value) : (w.setCell ⟨c, 0, none⟩ v).heap.size = w.heap.size := by simp [World.setCell]
end Go.Proofs.YtfjdppngeillcaaGreatDoor
namespace Go.Proofs.YtfjdppngeillcaaGreatDoor
open Go.RowKit Go.Lib

theorem titL_step (b : Bool) (l : List UInt8) (k : Nat) (h : k < l.length) : titL b (l.drop k) = UInt8.ofNat (titN b l[k].toNat) :: titL (stB l[k]) (l.drop (k + 1)) := by
  rw [List.drop_eq_getElem_cons h]; rfl

theorem c_grow (b n : Nat) (w : World) (hbk : w.heap[b]? = some (.cells #[.pointer none, .slice none 0 0] 68 (0, 0))) (hBw : b ≤ w.heap.size) (hn : n ≤ 281474976710656) :
    Calls Tryz.prog 139 #[.pointer (some ⟨b, 0, none⟩), .int .i64 n] w fun e w' => e = .returned (.tuple #[]) ∧ (Lib.BuilderAt 68 5 b b (.pointer (some ⟨b, 0, none⟩)) [] w' ∧ Below b w w') ∧ ∃ p cap, w'.cell? ⟨b, 1, none⟩ = some (.slice p 0 cap) ∧ n ≤ cap :=
  Any.Builder_Grow_fresh_cap { Tryz.lays230 with } Tryz.Builder_Extra_230 b b n w (Nat.le_refl _) hbk hBw hn
theorem c_writeString (b : Nat) (l : List Value) (s : ByteArray) (w : World) (h : Lib.IsBuilderF 68 5 b b l w) (hlen : l.length + s.size ≤ 140737488355328) (hBw : b ≤ w.heap.size) :
    Calls Tryz.prog 30 #[.pointer (some ⟨b, 0, none⟩), .string s] w fun e w' => e = .returned (.tuple #[.int .i64 s.size, .nilIface]) ∧ (Lib.BuilderAtF 68 5 b b (.pointer (some ⟨b, 0, none⟩)) (l ++ Lib.strCells s) w' ∧ Below b w w' ∧ Lib.OthersKept 5 (some b) w w') ∧ ∀ v0, w.cell? ⟨b, 1, none⟩ = some v0 → ∃ v1, w'.cell? ⟨b, 1, none⟩ = some v1 ∧ v0.capOf ≤ v1.capOf :=
  Any.Builder_WriteString_kc { Tryz.lays230 with } Tryz.Builder_Extra_230 b b l s w h hlen hBw
theorem c_writeByte (b : Nat) (l : List Value) (c : Int) (w : World) (h : Lib.IsBuilderF 68 5 b b l w) (hlen : l.length + 1 ≤ 140737488355328) (hBw : b ≤ w.heap.size) :
    Calls Tryz.prog 142 #[.pointer (some ⟨b, 0, none⟩), .int .u8 c] w fun e w' => e = .returned .nilIface ∧ (Lib.BuilderAtF 68 5 b b (.pointer (some ⟨b, 0, none⟩)) (l ++ [.int .u8 c]) w' ∧ Below b w w' ∧ Lib.OthersKept 5 (some b) w w') :=
  Any.Builder_WriteByte_k { Tryz.lays230 with } Tryz.Builder_Extra_230 b b l c w h hlen hBw
theorem c_writeRune (b : Nat) (l : List Value) (r : Nat) (hr : r < 128) (w : World) (h : Lib.IsBuilderF 68 5 b b l w) (hlen : l.length + 4 ≤ 140737488355328) (hBw : b ≤ w.heap.size) :
    Calls Tryz.prog 140 #[.pointer (some ⟨b, 0, none⟩), .int .i32 (r : Int)] w fun e w' => e = .returned (.tuple #[.int .i64 1, .nilIface]) ∧ (Lib.BuilderAtF 68 5 b b (.pointer (some ⟨b, 0, none⟩)) (l ++ [.int .u8 (r : Int)]) w' ∧ Below b w w' ∧ Lib.OthersKept 5 (some b) w w') := by
  have h := Any.Builder_WriteRune_k { Tryz.lays230 with } Tryz.Builder_Extra_230 b b l (r : Int) (by omega) (by omega) w h hlen hBw
  have e : Lib.runeCells (r : Int) = [.int .u8 (r : Int)] := by unfold Lib.runeCells; rw [Lib.encodeRuneZ_one (by omega) (by omega)]; rfl
  rw [e] at h
  exact h
theorem c_string (b : Nat) (l : List UInt8) (w : World) (h : Lib.IsBuilderF 68 5 b b (Lib.byteCells l) w) (hBw : b ≤ w.heap.size) :
    Calls Tryz.prog 29 #[.pointer (some ⟨b, 0, none⟩)] w fun e w' => e = .returned (.string (bs l)) ∧ (Lib.IsBuilderF 68 5 b b (Lib.byteCells l) w' ∧ Below b w w') :=
  Any.Builder_String_any_f { Tryz.lays230 with } Tryz.Builder_Extra_230 b b l w h hBw
theorem c_cap (b : Nat) (p : Option Addr) (n cap : Nat) (w : World) (c1 : w.cell? ⟨b, 1, none⟩ = some (.slice p n cap)) :
    Calls Tryz.prog 141 #[.pointer (some ⟨b, 0, none⟩)] w fun e w' => e = .returned (.int .i64 cap) ∧ w' = w :=
  Any.Builder_Cap_cell { Tryz.lays230 with } b p n cap w c1
theorem c_runeLen (r : Nat) (hr : r < 128) (w : World) : Calls Tryz.prog 138 #[.int .i32 (r : Int)] w fun e w' => e = .returned (.int .i64 1) ∧ w' = w := by
  have h := Any.utf8_RuneLen { Tryz.lays230 with } (r : Int) w
  have e : Lib.runeLen (r : Int) = 1 := by unfold Lib.runeLen; rw [if_neg (by omega), if_pos (by omega)]
  rw [e] at h
  exact h

set_option maxRecDepth 100000 in
set_option maxHeartbeats 400000 in
theorem map_titled (s : ByteArray) (w : World) (c : Nat) (hs : s.size ≤ 1000000) (hasc : ∀ j (h : j < s.size), s[j].toNat < 128) (hcw : c < w.heap.size) (hcell : w.heap[c]? = some (.cells #[.bool true] 4 (0, 0))) :
    Calls Tryz.prog 114 #[.func (.func 129) #[] #[.pointer (some ⟨c, 0, none⟩)], .string s] w fun e w' => e = .returned (.string (bs (titL true s.data.toList))) ∧ Below c w w' := by
  have eg : ∀ args w, (callFunc 129 args).run Tryz.prog w = .ok (.enter 129 args) w := enters_of Tryz.func129 (by kernel_rfl) rfl
  obtain ⟨ANS, hANS⟩ : ∃ ANS, ANS = titL true s.data.toList := ⟨_, rfl⟩
  have hlen : s.data.toList.length = s.size := size_len s
  rw [← hANS]
  have HASC := Lib.hid hasc
  clear hasc
  go_enter Tryz.func114, Tryz.ntmps114
  go_wp2
  go_loopg [1] s.size (fun gk s1 wx => s1 = .string s ∧ ∃ (k : Nat) (b : Bool), wx.heap[w.heap.size]? = some (.cells #[.pointer none, .slice none 0 0] 68 (0, 0)) ∧ wx.heap[w.heap.size + 1]? = some (.stringIter s k) ∧ AtT w c b wx ∧
    s.data.toList.take k ++ titL b (s.data.toList.drop k) = ANS ∧ s.size ≤ k + gk ∧ k ≤ s.size)
  case atStart =>
    refine ⟨rfl, 0, true, ?_, ?_, ⟨?_, ?_⟩, by rw [hANS]; rfl, by omega, by omega⟩
    · have h1 := heap_alloc_new w (.cells #[.pointer none, .slice none 0 0] 68)
      exact (Below.heap_alloc _ _ _ (by simp)).trans h1
    · have := World.iter_heap (w.alloc (.cells #[.pointer none, .slice none 0 0] 68)) s 0
      simpa using this
    · exact (Below.heap_alloc _ _ _ (by simp; omega)).trans ((Below.heap_alloc _ _ _ (by omega)).trans hcell)
    · exact ((Below.refl c w).alloc (by omega) _).alloc (by simp; omega) _
  case round =>
    obtain ⟨rfl, k, b, hfr, hit, hAt, hsp, hfu, hks⟩ := hrel
    by_cases hlt : k < s.size
    · obtain ⟨g', rfl⟩ : ∃ g', gk = g' + 1 := ⟨gk - 1, by omega⟩
      have hch := HASC.out k hlt
      have hdec := decode_low s k hlt hch
      have hnx : ∀ ty, (Instr.next (.pointer (some ⟨w.heap.size + 1, 0, none⟩)) true ty).run Tryz.prog wr = _ := fun ty => Lib.run_next_any_at wr (w.heap.size + 1) s k ty hit hlt
      rw [hdec] at hnx
      have hst := titL_step b s.data.toList k (by rw [hlen]; exact hlt)
      change titL b (s.data.toList.drop k) = UInt8.ofNat (titN b s[k].toNat) :: titL (stB s[k]) (s.data.toList.drop (k + 1)) at hst
      obtain ⟨ch, hchq⟩ : ∃ ch, ch = s[k] := ⟨_, rfl⟩
      have htk : s.data.toList.take (k + 1) = s.data.toList.take k ++ [ch] := by
        rw [List.take_succ_eq_append_getElem (by rw [hlen]; exact hlt), hchq]; rfl
      rw [← hchq] at hst hch hnx
      have hit2 := Lib.iterAt_heap wr (w.heap.size + 1) s k (k + 1) hit
      have hfr2 : (wr.iterAt (w.heap.size + 1) s (k + 1)).heap[w.heap.size]? = _ := (Lib.iterAt_other wr (w.heap.size + 1) w.heap.size s (k + 1) (by omega)).trans hfr
      have hAt2 : AtT w c b (wr.iterAt (w.heap.size + 1) s (k + 1)) := hAt.below (Lib.below_iterAt (Below.refl (w.heap.size + 1) wr) (Nat.le_refl _) s (k + 1)) (by omega)
      obtain ⟨W, hW⟩ : ∃ W, wr.iterAt (w.heap.size + 1) s (k + 1) = W := ⟨_, rfl⟩
      rw [hW] at hnx hit2 hfr2 hAt2
      have cS := titled1 ch.toNat c b W hAt2.1 hch
      have hAt3 : AtT w c (stB ch) (W.setCell ⟨c, 0, none⟩ (.bool (stB ch))) := hAt2.set (stB ch)
      have hfr3 : (W.setCell ⟨c, 0, none⟩ (.bool (stB ch))).heap[w.heap.size]? = _ := (setCell_other W c w.heap.size (.bool (stB ch)) (by omega)).trans hfr2
      have hit3 : (W.setCell ⟨c, 0, none⟩ (.bool (stB ch))).heap[w.heap.size + 1]? = _ := (setCell_other W c (w.heap.size + 1) (.bool (stB ch)) (by omega)).trans hit2
      have hn1 : ((ch.toNat : Int) != 65533) = true := by rw [bne_iff_ne]; omega
      have hn2 : ((ch.toNat : Int) == 65533) = false := by rw [beq_eq_false_iff_ne]; omega
      have hn3 : ¬ (ch.toNat : Int) = 65533 := by omega
      have hM := titN_le b ch.toNat hch
      obtain ⟨M, hMq⟩ : ∃ M, M = titN b ch.toNat := ⟨_, rfl⟩
      rw [← hMq] at cS hst hM
      obtain ⟨W3, hW3⟩ : ∃ W3, W3 = W.setCell ⟨c, 0, none⟩ (.bool (stB ch)) := ⟨_, rfl⟩
      change Calls _ _ _ _ fun e w' => _ ∧ w' = W.setCell ⟨c, 0, none⟩ (.bool (stB ch)) at cS
      rw [← hW3] at cS hAt3 hfr3 hit3
      clear hit hfr hAt hW hAt2 hfr2 hit2 hMq hW3 hchq hdec
      by_cases hc : M = ch.toNat
      · have HS : Hid (s.data.toList.take (k + 1) ++ titL (stB ch) (s.data.toList.drop (k + 1)) = ANS) := Lib.hid (by
          rw [← hsp, hst, htk, hc, List.append_assoc]; simp)
        subst hc
        clear hst hsp htk
        go_wp2_with (go_at_fn 129; go_must (refine cS.mono ?_; rintro e W' ⟨rfl, rfl⟩))
        go_roundg g'
        case measure => omega
        case rel => exact ⟨rfl, k + 1, stB ch, hfr3, hit3, hAt3, HS.out, by omega, by omega⟩
      · have HS : Hid ((s.data.toList.take k ++ [UInt8.ofNat M]) ++ titL (stB ch) (s.data.toList.drop (k + 1)) = ANS) := Lib.hid (by
          rw [← hsp, hst, List.append_assoc]; rfl)
        have t1 : ((M : Int) == (ch.toNat : Int)) = false := by rw [beq_eq_false_iff_ne]; omega
        have hxs : (s.extract 0 k).size = k := by rw [ByteArray.size_extract]; omega
        have hxd : (s.extract 0 k).data.toList = s.data.toList.take k := by rw [extract_bs, bs_data, List.drop_zero]
        have hMch : ¬ (M : Int) = (ch.toNat : Int) := by omega
        clear hst hsp htk hc
        go_wp2_with fail
        refine cS.mono ?_
        rintro e W' ⟨rfl, rfl⟩
        go_wp2_with fail
        refine (c_runeLen ch.toNat hch _).mono ?_
        rintro e W' ⟨rfl, rfl⟩
        go_wp2_with fail
        have hsz3 : w.heap.size ≤ W'.heap.size := by have := (Array.getElem?_eq_some_iff.1 hfr3).1; omega
        have cG := c_grow w.heap.size (s.size + 4) W' hfr3 hsz3 (by omega)
        rw [show ((s.size + 4 : Nat) : Int) = (s.size : Int) + 4 by omega] at cG
        refine cG.mono ?_
        rintro e W4 ⟨rfl, ⟨h4, b4⟩, p4, cap4, hc4, hcap4⟩
        have hAt4 := hAt3.below b4 hcw
        have hsz4 : w.heap.size ≤ W4.heap.size := by have := b4.size; omega
        clear cG hfr3 hit3 hAt3 cS
        go_wp2_with fail
        refine (c_writeString w.heap.size [] (s.extract 0 k) W4 (Lib.IsBuilderF.of (Or.inr h4)) (by rw [hxs]; simp; omega) hsz4).mono ?_
        rintro e W5 ⟨rfl, ⟨h5, b5, -⟩, hk5⟩
        obtain ⟨v5, hv5, hcap5⟩ := hk5 _ hc4
        have hcap5' : 4 ≤ v5.capOf := by
          have : cap4 ≤ v5.capOf := hcap5
          omega
        have hAt5 := hAt4.below b5 hcw
        have hsz5 : w.heap.size ≤ W5.heap.size := by have := b5.size; omega
        clear hk5 hc4 h4 hAt4 b4 b5 hv5 hcap5 hcap5'
        go_wp2_with fail
        refine (c_writeRune w.heap.size _ M hM W5 (Or.inr h5) (by simp [Lib.strCells_length, hxs]; omega) hsz5).mono ?_
        rintro e W6 ⟨rfl, h6, b6, -⟩
        have hAt6 := hAt5.below b6 hcw
        have hsz6 : w.heap.size ≤ W6.heap.size := by have := b6.size; omega
        have hcells : [] ++ Lib.strCells (s.extract 0 k) ++ [Value.int .u8 (M : Int)] = Lib.byteCells (s.data.toList.take k ++ [UInt8.ofNat M]) := by
          rw [List.nil_append, Lib.strCells_eq, hxd, Lib.byteCells_append]
          congr 1
          unfold Lib.byteCells
          simp [UInt8.toNat_ofNat']
          omega
        rw [hcells] at h6
        obtain ⟨g6, n6, cap6, hc6, hcap6⟩ : ∃ g n cap, W6.cell? ⟨w.heap.size, 1, none⟩ = some (.slice (some ⟨g, 0, none⟩) n cap) ∧ 1 ≤ cap := by
          obtain ⟨_, v6, hv6, hown6, _⟩ := h6
          rcases hown6.2 with ⟨_, h0⟩ | ⟨g6, cap6, _, _, rfl, _, _, _, hnc, _⟩
          · exfalso
            simp [Lib.byteCells] at h0
          · refine ⟨g6, _, cap6, by rw [Lib.cell_of_heap hv6]; rfl, ?_⟩
            have : 1 ≤ (Lib.byteCells (s.data.toList.take k ++ [UInt8.ofNat M])).length := by rw [Lib.byteCells_length]; simp
            omega
        have hcz : ((cap6 : Int) == 0) = false := by rw [beq_eq_false_iff_ne]; omega
        have hBlt : w.heap.size < W6.heap.size := h6.lt
        clear h5 hAt5 hsz5 b6
        go_wp2_with fail
        refine (c_cap w.heap.size _ _ cap6 W6 hc6).mono ?_
        rintro e W' ⟨rfl, rfl⟩
        obtain ⟨s2, hs2⟩ : ∃ s2, s.extract (k + 1) s.size = s2 := ⟨_, rfl⟩
        have hl2 : s2.data.toList = s.data.toList.drop (k + 1) := by rw [← hs2, extract_bs, bs_data, ← hlen, List.take_length]
        have hz2 : s2.size = s.size - (k + 1) := by rw [← size_len, hl2, List.length_drop, hlen]
        have HASC2 : Hid (∀ j (h : j < s2.size), s2[j].toNat < 128) := Lib.hid (fun j h => by
          have := HASC.out (k + 1 + j) (by omega)
          have e : s2[j] = s[k + 1 + j] := by
            have : s2.data.toList[j]'(by rw [size_len]; exact h) = s.data.toList[k + 1 + j]'(by rw [size_len]; omega) := by
              simp only [hl2, List.getElem_drop]
            exact this
          rw [e]; exact this)
        go_wp2_with fail
        go_loopg [] s2.size (fun gk wx => ∃ (p : Nat) (acc : List UInt8) (st : Bool), Lib.IsBuilderF 68 5 w.heap.size w.heap.size (Lib.byteCells acc) wx ∧ wx.heap[W'.heap.size]? = some (.stringIter s2 p) ∧ AtT w c st wx ∧
          acc ++ titL st (s2.data.toList.drop p) = ANS ∧ s2.size ≤ p + gk ∧ p ≤ s2.size ∧ acc.length ≤ k + 1 + p)
        case atStart =>
          refine ⟨0, s.data.toList.take k ++ [UInt8.ofNat M], stB ch, Lib.IsBuilderF.alloc (Or.inr h6) _, World.iter_heap W' s2 0, hAt6.below ((Below.refl W'.heap.size W').alloc (Nat.le_refl _) _) (by omega), ?_, by omega, by omega, ?_⟩
          · rw [List.drop_zero, hl2]; exact HS.out
          · rw [List.length_append, List.length_take, hlen]; simp; omega
        case round =>
          obtain ⟨p, acc, st, hI, hit, hAt, hacc, hfu2, hp2, hal⟩ := hrel
          have hszI : W'.heap.size < wr.heap.size := (Array.getElem?_eq_some_iff.1 hit).1
          by_cases hlt2 : p < s2.size
          · obtain ⟨g2, rfl⟩ : ∃ g2, gk = g2 + 1 := ⟨gk - 1, by omega⟩
            have hch2 := HASC2.out p hlt2
            have hnx : ∀ ty, (Instr.next (.pointer (some ⟨W'.heap.size, 0, none⟩)) true ty).run Tryz.prog wr = _ := fun ty => Lib.run_next_any_at wr W'.heap.size s2 p ty hit hlt2
            rw [decode_low s2 p hlt2 hch2] at hnx
            have hst := titL_step st s2.data.toList p (by rw [size_len]; exact hlt2)
            change titL st (s2.data.toList.drop p) = UInt8.ofNat (titN st s2[p].toNat) :: titL (stB s2[p]) (s2.data.toList.drop (p + 1)) at hst
            obtain ⟨d, hd⟩ : ∃ d, d = s2[p] := ⟨_, rfl⟩
            rw [← hd] at hst hch2 hnx
            have hI2 := hI.iterAt hit (p + 1)
            have hit2 := Lib.iterAt_heap wr W'.heap.size s2 p (p + 1) hit
            have hAt2 : AtT w c st (wr.iterAt W'.heap.size s2 (p + 1)) := hAt.below (Lib.below_iterAt (Below.refl W'.heap.size wr) (Nat.le_refl _) s2 (p + 1)) (by omega)
            obtain ⟨Wa, hWa⟩ : ∃ Wa, wr.iterAt W'.heap.size s2 (p + 1) = Wa := ⟨_, rfl⟩
            rw [hWa] at hnx hI2 hit2 hAt2
            have cS := titled1 d.toNat c st Wa hAt2.1 hch2
            change Calls _ _ _ _ fun e w' => _ ∧ w' = Wa.setCell ⟨c, 0, none⟩ (.bool (stB d)) at cS
            have hAt3 := hAt2.set (stB d)
            have hit3 : (Wa.setCell ⟨c, 0, none⟩ (.bool (stB d))).heap[W'.heap.size]? = _ := (setCell_other Wa c W'.heap.size (.bool (stB d)) (by omega)).trans hit2
            have hI3 := isBuilder_keeps hI2 hcw (.bool (stB d))
            have hN := titN_le st d.toNat hch2
            obtain ⟨N, hNq⟩ : ∃ N, N = titN st d.toNat := ⟨_, rfl⟩
            rw [← hNq] at cS hst hN
            have HS2 : Hid ((acc ++ [UInt8.ofNat N]) ++ titL (stB d) (s2.data.toList.drop (p + 1)) = ANS) := Lib.hid (by
              rw [← hacc, hst, List.append_assoc]; rfl)
            obtain ⟨W3, hW3⟩ : ∃ W3, W3 = Wa.setCell ⟨c, 0, none⟩ (.bool (stB d)) := ⟨_, rfl⟩
            rw [← hW3] at cS hAt3 hit3 hI3
            have hsz3 : W'.heap.size < W3.heap.size := (Array.getElem?_eq_some_iff.1 hit3).1
            have n0 : (0 : Int) ≤ (N : Int) := by omega
            clear hd hI hit hAt hI2 hit2 hAt2 hWa hNq hW3 hst hacc
            go_wp2_with fail
            refine cS.mono ?_
            rintro e W7 ⟨rfl, rfl⟩
            go_wp2_with fail
            refine (c_writeByte w.heap.size _ (N : Int) W7 hI3 (by rw [Lib.byteCells_length]; omega) (by omega)).mono ?_
            rintro e W8 ⟨rfl, h8, b8, k8⟩
            go_wp2_with fail
            go_roundg g2
            case measure => omega
            case rel =>
              refine ⟨p + 1, acc ++ [UInt8.ofNat N], stB d, Or.inr ?_, k8.iter hit3 (by omega), hAt3.below b8 hcw, HS2.out, by omega, by omega, by rw [List.length_append]; simp; omega⟩
              rw [Lib.byteCells_append]
              have e1 : Lib.byteCells [UInt8.ofNat N] = [Value.int .u8 (N : Int)] := by
                unfold Lib.byteCells
                simp [UInt8.toNat_ofNat']
                omega
              rw [e1]; exact h8
          · obtain rfl : p = s2.size := by omega
            have hnx : ∀ ty, (Instr.next (.pointer (some ⟨W'.heap.size, 0, none⟩)) true ty).run Tryz.prog wr = _ := fun ty => Lib.run_next_end_at wr W'.heap.size s2 s2.size ty hit hlt2
            have HS2 : Hid (acc = ANS) := Lib.hid (by rw [← hacc, ← size_len s2, List.drop_length]; exact (List.append_nil _).symm)
            clear hacc hit
            go_wp2_with fail
            refine (c_string w.heap.size acc wr hI (by omega)).mono ?_
            rintro e W8 ⟨rfl, _, b8⟩
            go_wp2_with fail
            go_ret
            exact ⟨ret_str (by rw [HS2.out]), (hAt.below b8 hcw).2⟩
    · obtain rfl : k = s.size := by omega
      have hnx : ∀ ty, (Instr.next (.pointer (some ⟨w.heap.size + 1, 0, none⟩)) true ty).run Tryz.prog wr = _ := fun ty => Lib.run_next_end_at wr (w.heap.size + 1) s s.size ty hit hlt
      have cC : Calls Tryz.prog 141 #[.pointer (some ⟨w.heap.size, 0, none⟩)] wr fun e w' => e = .returned (.int .i64 0) ∧ w' = wr := c_cap w.heap.size none 0 0 wr (by rw [Lib.cell_of_heap hfr]; rfl)
      have HS : Hid (s = bs ANS) := Lib.hid (by rw [← hsp, ← hlen, List.drop_length, List.take_length]; show s = bs (_ ++ []); rw [List.append_nil, bs_self])
      clear hsp
      clear hit hfr
      go_wp2_with fail
      refine cC.mono ?_
      rintro e W' ⟨rfl, rfl⟩
      go_wp2_with fail
      go_ret
      exact ⟨ret_str HS.out, hAt.2⟩
end Go.Proofs.YtfjdppngeillcaaGreatDoor
namespace Go.Proofs.YtfjdppngeillcaaGreatDoor
open Go.RowKit

theorem fields_titled (s : ByteArray) (w : World) (hs : s.size ≤ 1000000) (hasc : ∀ j (h : j < s.size), s[j].toNat < 128) :
    Calls Tryz.prog 94 #[.string s] w fun e w' => e = .returned (.string (bs (titL true s.data.toList))) ∧ Below w.heap.size w w' := by
  have HM := Lib.hid (fun w c => map_titled s w c hs hasc)
  obtain ⟨A, hA⟩ : ∃ A, A = bs (titL true s.data.toList) := ⟨_, rfl⟩
  rw [← hA] at HM ⊢
  clear hasc hA
  go_enter Tryz.func94, Tryz.ntmps94
  go_wp2_with fail
  refine (HM.out _ w.heap.size (box_lt _ _ _) (heap_alloc_new w _)).mono ?_
  rintro e w1 ⟨rfl, hb⟩
  go_wp2_with fail
  go_ret
  exact ⟨rfl, (below_box w _ _).trans hb⟩

/-- a letter as a small one -/
def smallN (c : Nat) : Nat := if 65 ≤ c ∧ c ≤ 90 then c + 32 else c
theorem fields_small (c : Nat) (w : World) (hc : c ≤ 1114111) : Calls Tryz.prog 115 #[.int .i32 (c : Int)] w fun e w' => e = .returned (.int .i32 (smallN c : Nat)) ∧ w' = w := by
  by_cases h1 : c < 65
  · have H : Hid (smallN c = c) := Lib.hid (if_neg (by omega))
    have t : decide ((c : Int) ≥ 65) = false := by simp; omega
    go_enter Tryz.func115, Tryz.ntmps115
    go_wp2_with fail
    go_ret
    exact ⟨by rw [H.out]; rfl, rfl⟩
  · by_cases h2 : 90 < c
    · have H : Hid (smallN c = c) := Lib.hid (if_neg (by omega))
      have t : decide ((c : Int) ≤ 90) = false := by simp; omega
      go_enter Tryz.func115, Tryz.ntmps115
      go_wp2_with fail
      go_ret
      exact ⟨by rw [H.out]; rfl, rfl⟩
    · have H : Hid (smallN c = c + 32) := Lib.hid (if_pos (by omega))
      have t : decide ((c : Int) ≤ 90) = true := by simp; omega
      have h3 : 65 ≤ c := by omega
      go_enter Tryz.func115, Tryz.ntmps115
      go_wp2_with fail
      go_ret
      refine ⟨ret_int ?_, rfl⟩
      rw [H.out]; omega

def gapB (c : UInt8) : Bool := c == 32 || c == 9
end Go.Proofs.YtfjdppngeillcaaGreatDoor
namespace Go.Proofs.YtfjdppngeillcaaGreatDoor
open Go.RowKit
theorem all_at (q : UInt8 → Bool) (s : ByteArray) (k : Nat) (h : k < s.size) (hq : q s[k] = false) : s.data.toList.all q = false := by
  rw [List.all_eq_false]
  exact ⟨s[k], List.getElem_mem (by rw [size_len]; exact h), by simp [hq]⟩
theorem all_of (q : UInt8 → Bool) (s : ByteArray) (h : ∀ j (hj : j < s.size), q s[j] = true) : s.data.toList.all q = true := by
  rw [List.all_eq_true]
  intro c hc
  obtain ⟨k, hk, rfl⟩ := List.getElem_of_mem hc
  exact h k (by rw [← size_len]; exact hk)
theorem upto_step (q : UInt8 → Bool) (s : ByteArray) (k : Nat) (h : ∀ j, j < k → ∀ hj : j < s.size, q (s[j]'hj) = true) (hk : k < s.size) (hq : q s[k] = true) : ∀ j, j < k + 1 → ∀ hj : j < s.size, q (s[j]'hj) = true := by
  intro j hj hjs
  by_cases e : j = k
  · subst e; exact hq
  · exact h j (by omega) hjs

theorem named_cases (n : Nat) : (97 ≤ n ∧ n ≤ 122 ∧ namedN n = true) ∨ (48 ≤ n ∧ n ≤ 57 ∧ namedN n = true) ∨ (n = 45 ∧ namedN n = true) ∨ (n < 48 ∧ n ≠ 45 ∧ namedN n = false) ∨ (57 < n ∧ n < 97 ∧ namedN n = false) ∨ (122 < n ∧ namedN n = false) := by
  unfold namedN letN digN
  simp only [Bool.or_eq_true, Bool.and_eq_true, decide_eq_true_eq, beq_iff_eq, Bool.or_eq_false_iff, Bool.and_eq_false_iff, decide_eq_false_iff_not, beq_eq_false_iff_ne]
  omega
theorem nameL_not (l : List UInt8) (h : l.all (fun c => namedN c.toNat) = false) : nameL l = false := by unfold nameL; rw [h, Bool.and_false]
theorem nameL_len (s : ByteArray) (h : s.data.toList.all (fun c => namedN c.toNat) = true) : nameL s.data.toList = (decide (1 ≤ s.size) && decide (s.size ≤ 32)) := by
  unfold nameL
  rw [h, Bool.and_true, size_len]
  congr 1
  cases hl : s.data.toList with
  | nil => rw [decide_eq_false (by rw [← size_len, hl]; decide)]; rfl
  | cons a t => rw [decide_eq_true (by rw [← size_len, hl]; simp)]; rfl
end Go.Proofs.YtfjdppngeillcaaGreatDoor
namespace Go.Proofs.YtfjdppngeillcaaGreatDoor
open Go.RowKit

def smallB (c : UInt8) : UInt8 := UInt8.ofNat (smallN c.toNat)
/-- what stands ahead of the first colon -/
def ahead (l : List UInt8) : List UInt8 := l.takeWhile (fun c => c != 58)
def gapL : List UInt8 := [32, 9]
def parseName (l : List UInt8) : List UInt8 := (ahead l).map smallB
def parseVal (l : List UInt8) : List UInt8 := Go.Lib.trimS (l.drop ((ahead l).length + 1)) gapL
def plainAll (l : List UInt8) : Bool := l.all (fun c => plainB c.toNat)
def parseOk (l : List UInt8) : Bool := plainAll l && decide ((ahead l).length < l.length) && nameL (parseName l)
def parseN (l : List UInt8) : List UInt8 := if parseOk l = true then parseName l else []
def parseV (l : List UInt8) : List UInt8 := if parseOk l = true then parseVal l else []
def parseE (l : List UInt8) : Nat := if parseOk l = true then 0 else 4

theorem ahead_le (l : List UInt8) : (ahead l).length ≤ l.length := (List.takeWhile_prefix _).length_le
theorem ahead_take (l : List UInt8) : l.take (ahead l).length = ahead l := (List.prefix_iff_eq_take.1 (List.takeWhile_prefix _)).symm
theorem index58 (l : List UInt8) : Go.Lib.index l [58] = if (ahead l).length < l.length then ((ahead l).length : Int) else -1 := by
  induction l with
  | nil => rfl
  | cons c t ih =>
    unfold Go.Lib.index
    by_cases hc : c = 58
    · subst hc
      have : ahead (58 :: t) = [] := by unfold ahead; rw [List.takeWhile_cons_of_neg (by decide)]
      rw [this, if_pos (by simp [List.isPrefixOf]), if_pos (by simp)]; rfl
    · have ha : ahead (c :: t) = c :: ahead t := by unfold ahead; rw [List.takeWhile_cons_of_pos (by simpa using hc)]
      rw [if_neg (by simp [List.isPrefixOf]; exact fun h => hc h.symm), ih, ha]
      by_cases hlt : (ahead t).length < t.length
      · rw [if_pos hlt, if_neg (by rw [beq_iff_eq]; omega), if_pos (by simp; omega)]; simp
      · rw [if_neg hlt, if_pos (by decide), if_neg (by simp; omega)]
theorem cut58 (l : List UInt8) : Go.Lib.cut l [58] = if (ahead l).length < l.length then (ahead l, l.drop ((ahead l).length + 1), true) else (l, [], false) := by
  unfold Go.Lib.cut
  rw [index58]
  by_cases hlt : (ahead l).length < l.length
  · rw [if_pos hlt, if_pos (by omega), if_pos hlt, Int.toNat_natCast, ahead_take]; rfl
  · rw [if_neg hlt, if_neg (by decide), if_neg hlt]

theorem smallN_lt (c : Nat) (h : c < 128) : smallN c < 128 := by
  unfold smallN; split <;> omega
theorem mapD_small (l : List UInt8) (f : Int → Int) (hf : ∀ x : Nat, x < 128 → f x = (smallN x : Nat)) : ∀ h : (∀ c ∈ l, c.toNat < 128), Go.Lib.mapD f l = l.map smallB := by
  induction l with
  | nil => intro _; rfl
  | cons c t ih =>
    intro h
    have hc : c.toNat < 128 := h c (List.mem_cons_self ..)
    have hs := smallN_lt _ hc
    rw [Go.Lib.mapD_step f _ (by simp), Go.Lib.decodeL_ascii c t hc, hf _ hc, if_pos (by omega)]
    have e : Go.Lib.encodeRune ((smallN c.toNat : Nat) : Int) = [smallB c] := by
      unfold Go.Lib.encodeRune
      rw [Go.Lib.encodeRuneZ_one (by omega) (by omega)]
      rfl
    rw [e]
    show smallB c :: Go.Lib.mapD f t = _
    rw [ih (fun d hd => h d (List.mem_cons_of_mem _ hd))]; rfl
theorem plainB_lt (n : Nat) (h : plainB n = true) : n < 128 := by
  unfold plainB at h
  simp only [Bool.or_eq_true, beq_iff_eq, Bool.and_eq_true, decide_eq_true_eq] at h
  omega
theorem plainAll_lt (l : List UInt8) (h : plainAll l = true) : ∀ c ∈ l, c.toNat < 128 := fun c hc => plainB_lt _ (List.all_eq_true.1 h c hc)
theorem ahead_sub (l : List UInt8) (c : UInt8) (h : c ∈ ahead l) : c ∈ l := (List.takeWhile_subset _) h
end Go.Proofs.YtfjdppngeillcaaGreatDoor
namespace Go.Proofs.YtfjdppngeillcaaGreatDoor
open Go.RowKit

theorem c_cut (s : ByteArray) (w : World) (hs : s.size ≤ 1000000) (hE : EnvF w) (A V : ByteArray) (B : Bool)
    (h : Go.Lib.cut s.data.toList [58] = (A.data.toList, V.data.toList, B)) :
    Calls Tryz.prog 113 #[.string s, .string ⟨#[58]⟩] w fun e w' => e = .returned (.tuple #[.string A, .string V, .bool B]) ∧ Below w.heap.size w w' := by
  obtain ⟨m, hm⟩ := hE.m
  have hc := Tryz.strings_Cut s ⟨#[58]⟩ m w (by omega) hm
  refine hc.mono ?_
  rintro e w' ⟨rfl, n, rfl⟩
  refine ⟨?_, (fun n => by induction n with | zero => exact Below.refl _ _ | succ n ih => exact ih.drew : ∀ n, Below w.heap.size w (w.drewN n)) n⟩
  have h2 : Go.Lib.cut s.data.toList (ByteArray.mk #[58]).data.toList = (A.data.toList, V.data.toList, B) := h
  rw [h2]
theorem c_mapSmall (s : ByteArray) (w : World) (hs : s.size ≤ 1000000) (hE : EnvF w) (hasc : ∀ c ∈ s.data.toList, c.toNat < 128) :
    Calls Tryz.prog 114 #[.func (.func 115) #[] #[], .string s] w fun e w' => e = .returned (.string (bs (s.data.toList.map smallB))) ∧ Below w.heap.size w w' := by
  have h := Tryz.strings_Map_grows 115 #[] (enters_of Tryz.func115 (by kernel_rfl) rfl) (fun x => (smallN x.toNat : Nat)) s w (by omega)
    (fun W x hx _ => (fields_small x W hx).mono fun e w' ⟨he, hw⟩ => ⟨he, hw ▸ Below.refl _ _⟩)
    (fun x hx => by unfold smallN; rw [Int.toNat_natCast]; split <;> constructor <;> omega) hE.tabs
  rw [mapD_small s.data.toList _ (fun x hx => by rw [Int.toNat_natCast]) hasc] at h
  exact h
theorem c_trim (s : ByteArray) (w : World) (hs : s.size ≤ 1000000) :
    Calls Tryz.prog 92 #[.string s, .string ⟨#[32, 9]⟩] w fun e w' => e = .returned (.string (bs (Go.Lib.trimS s.data.toList gapL))) ∧ Below w.heap.size w w' :=
  Any.strings_Trim_laid Tryz.lays160 (by kernel_rfl) s ⟨#[32, 9]⟩ w (by omega) (by decide) (Go.Proofs.ascii_of_all (by decide))

/-- a block of two texts -/
structure Two (w : World) (b : Nat) (x y : Value) : Prop where
  c0 : w.cell? ⟨b, 0, none⟩ = some x
  c1 : w.cell? ⟨b, 1, none⟩ = some y
  f0 : w.frozen? ⟨b, 0, none⟩ = false
  f1 : w.frozen? ⟨b, 1, none⟩ = false
theorem two_of {w : World} {b : Nat} {x y : Value} {t : TypeId} (h : w.heap[b]? = some (.cells #[x, y] t (0, 0))) : Two w b x y :=
  ⟨by unfold World.cell?; rw [h]; rfl, by unfold World.cell?; rw [h]; rfl, by unfold World.frozen?; rw [h]; rfl, by unfold World.frozen?; rw [h]; rfl⟩
theorem two_box {w w1 : World} {x y : Value} {t : TypeId} (hb : Below (w.alloc (.cells #[x, y] t)).heap.size (w.alloc (.cells #[x, y] t)) w1) : w1.heap[w.heap.size]? = some (.cells #[x, y] t (0, 0)) :=
  (hb.block _ (by simp)).trans (heap_alloc_new w _)

/-- a result that lies in a block of two texts, and a number -/
theorem ret_field {fn : Func} {R : Ending → World → Prop} {a : Act} {w : World} {b : Nat} {x y E : Value} {p u : Tmp} {ty : TypeId} (hres : fn.results = #[.cell p ty, .tmp u])
    (hload : (loadVar ty ⟨b, 0, none⟩).run Tryz.prog w = .ok (.agg #[x, y]) w)
    (hp : a.tmps.getD p undef = .pointer (some ⟨b, 0, none⟩)) (hE : a.tmps.getD u undef = E) (hdef : a.defers = [])
    (hR : R (.returned (.tuple #[.agg #[x, y], E])) w) : bodyPost Tryz.prog fn R .ret a w := by
  refine bodyPost_ret_by (v := .tuple #[.agg #[x, y], E]) ?_ hdef hR
  rw [results_cell_tmp hres, hp, hE]
  simp [asAddr, hload, Result.andThen]
theorem load_own (w : World) (b : Nat) (t : TypeId) (x y : Value) (h : w.heap[b]? = some (.cells #[x, y] t (0, 0))) : (loadVar 125 ⟨b, 0, none⟩).run Tryz.prog w = .ok (.agg #[x, y]) w :=
  run_loadVar_row w b t 125 #[x, y] (0, 0) _ h Tryz.underlying125 rfl (by kernel_rfl)
theorem load_ref (w : World) (b : Nat) (t : TypeId) (x y : Value) (h : w.heap[b]? = some (.cells #[x, y] t (0, 0))) : (loadVar 143 ⟨b, 0, none⟩).run Tryz.prog w = .ok (.agg #[x, y]) w :=
  run_loadVar_row w b t 143 #[x, y] (0, 0) _ h Tryz.underlying143 rfl (by kernel_rfl)
theorem two_set {w : World} {b : Nat} {x y : Value} {t : TypeId} (h : w.heap[b]? = some (.cells #[x, y] t (0, 0))) (x' y' : Value) :
    ((w.setCell ⟨b, 0, none⟩ x').setCell ⟨b, 1, none⟩ y').heap[b]? = some (.cells #[x', y'] t (0, 0)) := by
  simp [World.setCell, Array.getElem?_modify, h]
theorem two_below {B : Nat} {w0 w : World} (h : Below B w0 w) (b : Nat) (hB : B ≤ b) (x' y' : Value) : Below B w0 ((w.setCell ⟨b, 0, none⟩ x').setCell ⟨b, 1, none⟩ y') :=
  (h.setCell (p := ⟨b, 0, none⟩) hB _).setCell (p := ⟨b, 1, none⟩) hB _

set_option maxRecDepth 100000 in
set_option maxHeartbeats 1000000 in
theorem fields_parse (s : ByteArray) (w : World) (hs : s.size ≤ 1000000) (hE : EnvF w) :
    Calls Tryz.prog 81 #[.string s] w fun e w' => e = .returned (.tuple #[.agg #[.string (bs (parseN s.data.toList)), .string (bs (parseV s.data.toList))], .int .i64 (parseE s.data.toList)]) ∧ Below w.heap.size w w' := by
  have HE := Lib.hid hE
  clear hE
  by_cases hcol : (ahead s.data.toList).length < s.data.toList.length
  · have hcut := cut58 s.data.toList
    rw [if_pos hcol] at hcut
    obtain ⟨A, hA⟩ : ∃ A, A = bs (ahead s.data.toList) := ⟨_, rfl⟩
    obtain ⟨V, hV⟩ : ∃ V, V = bs (s.data.toList.drop ((ahead s.data.toList).length + 1)) := ⟨_, rfl⟩
    have HC := Lib.hid (fun w hE => c_cut s w hs hE A V true (by rw [hcut, hA, hV, bs_data, bs_data]))
    have hsl := size_len s
    have hAl : A.size ≤ 1000000 := by rw [hA, bs_size]; have := ahead_le s.data.toList; omega
    have hVl : V.size ≤ 1000000 := by rw [hV, bs_size, List.length_drop]; omega
    cases hpl : plainAll s.data.toList with
    | false =>
      have HP : Hid (parseN s.data.toList = [] ∧ parseV s.data.toList = [] ∧ parseE s.data.toList = 4) := Lib.hid (by
        have : parseOk s.data.toList = false := by unfold parseOk; rw [hpl]; rfl
        unfold parseN parseV parseE; rw [this]; exact ⟨rfl, rfl, rfl⟩)
      have hfp := fun w => fields_plain s w (by omega)
      rw [show (s.data.toList.all (fun c => plainB c.toNat)) = false from hpl] at hfp
      have HFP := Lib.hid hfp
      clear hcol hcut hpl hfp hsl hA hV hAl hVl
      go_enter Tryz.func81, Tryz.ntmps81
      go_wp2_with fail
      refine (HC.out _ (HE.out.below ((Below.refl _ _).alloc (Nat.le_refl _) _))).mono ?_
      rintro e w1 ⟨rfl, hb1⟩
      obtain ⟨k0, k1, f0, f1⟩ := two_of (two_box hb1)
      go_wp2_with (go_at_call 91; refine (HFP.out _).mono ?_; rintro e w' ⟨rfl, rfl⟩)
      refine ret_field (b := w.heap.size) (x := .string ⟨#[]⟩) (y := .string ⟨#[]⟩) rfl (load_own _ _ _ _ _ (two_set (two_box hb1) _ _)) rfl rfl rfl ?_
      refine ⟨?_, two_below (((Below.refl _ _).alloc (Nat.le_refl _) _).trans (hb1.mono (by simp))) _ (Nat.le_refl _) _ _⟩
      rw [HP.out.1, HP.out.2.1, HP.out.2.2]; rfl
    | true =>
      have hfp := fun w => fields_plain s w (by omega)
      rw [show (s.data.toList.all (fun c => plainB c.toNat)) = true from hpl] at hfp
      have HFP := Lib.hid hfp
      have hasc : ∀ c ∈ A.data.toList, c.toNat < 128 := by
        rw [hA, bs_data]; intro c hc; exact plainAll_lt _ hpl c (ahead_sub _ c hc)
      have hms := fun w hE => c_mapSmall A w hAl hE hasc
      rw [show A.data.toList.map smallB = parseName s.data.toList by rw [hA, bs_data]; rfl] at hms
      have HMS := Lib.hid hms
      have HFN := Lib.hid (fun w => fields_name (bs (parseName s.data.toList)) w)
      have HT := Lib.hid (fun w => c_trim V w hVl)
      have hvv : bs (Go.Lib.trimS V.data.toList gapL) = bs (parseVal s.data.toList) := by rw [hV, bs_data]; rfl
      rw [hvv] at HT
      rw [bs_data] at HFN
      cases hnm : nameL (parseName s.data.toList) with
      | false =>
        have HP : Hid (parseN s.data.toList = [] ∧ parseV s.data.toList = [] ∧ parseE s.data.toList = 4) := Lib.hid (by
          have : parseOk s.data.toList = false := by unfold parseOk; rw [hnm, Bool.and_false]
          unfold parseN parseV parseE; rw [this]; exact ⟨rfl, rfl, rfl⟩)
        rw [hnm] at HFN
        obtain ⟨N, hN⟩ : ∃ N, N = bs (parseName s.data.toList) := ⟨_, rfl⟩
        rw [← hN] at HMS HFN
        clear hcol hcut hpl hfp hsl hA hV hAl hVl hasc hms hvv hnm hN HT
        go_enter Tryz.func81, Tryz.ntmps81
        go_wp2_with fail
        refine (HC.out _ (HE.out.below ((Below.refl _ _).alloc (Nat.le_refl _) _))).mono ?_
        rintro e w1 ⟨rfl, hb1⟩
        have HE1 := Lib.hid ((HE.out.below ((Below.refl _ _).alloc (Nat.le_refl _) _)).below hb1)
        go_wp2_with (go_at_call 91; refine (HFP.out _).mono ?_; rintro e w' ⟨rfl, rfl⟩)
        refine (HMS.out _ HE1.out).mono ?_
        rintro e w2 ⟨rfl, hb2⟩
        go_wp2_with fail
        refine (HFN.out _).mono ?_
        rintro e w3 ⟨rfl, hb3⟩
        have hb13 := bstep hb1 (bstep hb2 hb3)
        clear hb1 hb2 hb3
        obtain ⟨k0, k1, f0, f1⟩ := two_of (two_box hb13)
        go_wp2_with fail
        refine ret_field (b := w.heap.size) (x := .string ⟨#[]⟩) (y := .string ⟨#[]⟩) rfl (load_own _ _ _ _ _ (two_set (two_box hb13) _ _)) rfl rfl rfl ?_
        refine ⟨?_, two_below (((Below.refl _ _).alloc (Nat.le_refl _) _).trans (hb13.mono (by simp))) _ (Nat.le_refl _) _ _⟩
        rw [HP.out.1, HP.out.2.1, HP.out.2.2]; rfl
      | true =>
        have HP : Hid (parseN s.data.toList = parseName s.data.toList ∧ parseV s.data.toList = parseVal s.data.toList ∧ parseE s.data.toList = 0) := Lib.hid (by
          have : parseOk s.data.toList = true := by unfold parseOk; rw [hnm, hpl, decide_eq_true hcol]; rfl
          unfold parseN parseV parseE; rw [this]; exact ⟨rfl, rfl, rfl⟩)
        rw [hnm] at HFN
        obtain ⟨N, hN⟩ : ∃ N, N = bs (parseName s.data.toList) := ⟨_, rfl⟩
        obtain ⟨T, hT⟩ : ∃ T, T = bs (parseVal s.data.toList) := ⟨_, rfl⟩
        rw [← hN] at HMS HFN
        rw [← hT] at HT
        have HNT := Lib.hid (And.intro hN hT)
        clear hcol hcut hpl hfp hsl hA hV hAl hVl hasc hms hvv hnm hN hT
        go_enter Tryz.func81, Tryz.ntmps81
        go_wp2_with fail
        refine (HC.out _ (HE.out.below ((Below.refl _ _).alloc (Nat.le_refl _) _))).mono ?_
        rintro e w1 ⟨rfl, hb1⟩
        have HE1 := Lib.hid ((HE.out.below ((Below.refl _ _).alloc (Nat.le_refl _) _)).below hb1)
        go_wp2_with (go_at_call 91; refine (HFP.out _).mono ?_; rintro e w' ⟨rfl, rfl⟩)
        refine (HMS.out _ HE1.out).mono ?_
        rintro e w2 ⟨rfl, hb2⟩
        go_wp2_with fail
        refine (HFN.out _).mono ?_
        rintro e w3 ⟨rfl, hb3⟩
        go_wp2_with fail
        refine (HT.out _).mono ?_
        rintro e w4 ⟨rfl, hb4⟩
        have hb13 := bstep hb1 (bstep hb2 (bstep hb3 hb4))
        clear hb1 hb2 hb3 hb4
        obtain ⟨k0, k1, f0, f1⟩ := two_of (two_box hb13)
        go_wp2_with fail
        refine ret_field (b := w.heap.size) (x := .string N) (y := .string T) rfl (load_own _ _ _ _ _ (two_set (two_box hb13) _ _)) rfl rfl rfl ?_
        refine ⟨?_, two_below (((Below.refl _ _).alloc (Nat.le_refl _) _).trans (hb13.mono (by simp))) _ (Nat.le_refl _) _ _⟩
        rw [HP.out.1, HP.out.2.1, HP.out.2.2, ← HNT.out.1, ← HNT.out.2]; rfl
  · have hcut := cut58 s.data.toList
    rw [if_neg hcol] at hcut
    have HC := Lib.hid (fun w hE => c_cut s w hs hE s ⟨#[]⟩ false hcut)
    have HP : Hid (parseN s.data.toList = [] ∧ parseV s.data.toList = [] ∧ parseE s.data.toList = 4) := Lib.hid (by
      have : parseOk s.data.toList = false := by unfold parseOk; rw [decide_eq_false hcol, Bool.and_false, Bool.false_and]
      unfold parseN parseV parseE; rw [this]; exact ⟨rfl, rfl, rfl⟩)
    clear hcol hcut
    go_enter Tryz.func81, Tryz.ntmps81
    go_wp2_with fail
    refine (HC.out _ (HE.out.below ((Below.refl _ _).alloc (Nat.le_refl _) _))).mono ?_
    rintro e w1 ⟨rfl, hb1⟩
    obtain ⟨k0, k1, f0, f1⟩ := two_of (two_box hb1)
    go_wp2_with fail
    refine ret_field (b := w.heap.size) (x := .string ⟨#[]⟩) (y := .string ⟨#[]⟩) rfl (load_own _ _ _ _ _ (two_set (two_box hb1) _ _)) rfl rfl rfl ?_
    refine ⟨?_, two_below (((Below.refl _ _).alloc (Nat.le_refl _) _).trans (hb1.mono (by simp))) _ (Nat.le_refl _) _ _⟩
    rw [HP.out.1, HP.out.2.1, HP.out.2.2]; rfl
end Go.Proofs.YtfjdppngeillcaaGreatDoor
