/- Plain facts on the line of a code and what it is parsed as (no program in sight). -/
import Derived.Test.YtnfadmdndefanaaDoorStatusParse
namespace Go.Proofs.YtnfadmdndefanaaDoor
open Go.RowKit

/-- three digits of a code -/
def digs (n : Nat) : List UInt8 := [UInt8.ofNat (48 + n / 100), UInt8.ofNat (48 + n / 10 % 10), UInt8.ofNat (48 + n % 10)]
theorem decDigits_three (n : Nat) (h1 : 100 ≤ n) (h2 : n ≤ 999) : Go.Lib.decDigits n = digs n := by
  rw [Go.Lib.decDigits, dif_neg (by omega), Go.Lib.decDigits, dif_neg (by omega), Go.Lib.decDigits_one (show n / 10 / 10 < 10 by omega)]
  rw [show n / 10 / 10 = n / 100 by omega]
  rfl
theorem digs_digit (n : Nat) (h1 : 100 ≤ n) (h2 : n ≤ 999) : ∀ k, k < 10 → isDigitB (UInt8.ofNat (48 + k)) = true := by
  decide +kernel
theorem toNat_dig (k : Nat) (h : k < 10) : (UInt8.ofNat (48 + k)).toNat = 48 + k := by
  rw [UInt8.toNat_ofNat', Nat.mod_eq_of_lt (by omega)]
theorem digs_num (n : Nat) (h1 : 100 ≤ n) (h2 : n ≤ 999) : numOf (UInt8.ofNat (48 + n / 100)) (UInt8.ofNat (48 + n / 10 % 10)) (UInt8.ofNat (48 + n % 10)) = n := by
  unfold numOf
  rw [toNat_dig _ (by omega), toNat_dig _ (by omega), toNat_dig _ (by omega)]
  omega
theorem dig_plain (k : Nat) (h : k < 10) : plainB (UInt8.ofNat (48 + k)).toNat = true := by
  rw [toNat_dig k h]
  have : ∀ k, k < 10 → plainB (48 + k) = true := by decide
  exact this k h
theorem all_plain (n : Nat) (h1 : 100 ≤ n) (h2 : n ≤ 999) (t : List UInt8) : (versionL ++ digs n ++ t).all (fun c => plainB c.toNat) = t.all (fun c => plainB c.toNat) := by
  rw [List.all_append, List.all_append]
  have e1 : versionL.all (fun c => plainB c.toNat) = true := by decide +kernel
  have e2 : (digs n).all (fun c => plainB c.toNat) = true := by
    unfold digs
    simp only [List.all_cons, List.all_nil]
    rw [dig_plain _ (by omega), dig_plain _ (by omega), dig_plain _ (by omega)]; rfl
  rw [e1, e2, Bool.true_and, Bool.true_and]
theorem putErr_four (l : List UInt8) : putErr l = 4 ↔ l.all (fun c => plainB c.toNat) = false := by
  unfold putErr
  constructor
  · intro h
    split at h
    · assumption
    · split at h <;> exact absurd h (by decide)
  · intro h; rw [if_pos h]

theorem statusOf_line (n : Nat) (h1 : 100 ≤ n) (h2 : n ≤ 599) (t : List UInt8) (ht : t = [] ∨ t.head? = some 32) :
    statusOf (versionL ++ digs n ++ t) = if t.all (fun c => plainB c.toNat) = false then (0, 4) else ((n : Int), 0) := by
  have hp := all_plain n h1 (by omega) t
  by_cases hpl : t.all (fun c => plainB c.toNat) = false
  · rw [if_pos hpl]
    exact status_form _ ((putErr_four _).2 (by rw [hp]; exact hpl))
  · rw [if_neg hpl]
    rw [status_code _ (fun h => hpl (by rw [← hp]; exact (putErr_four _).1 h)) (by
      rw [List.isPrefixOf_iff_prefix, List.append_assoc]; exact List.prefix_append _ _)]
    rw [List.append_assoc, List.drop_append_of_le_length (by decide)]
    have hv : versionL.drop 9 = [] := by decide
    rw [hv, List.nil_append]
    show codeOf (_ :: _ :: _ :: t) = _
    have hd := digs_digit n h1 (by omega)
    rw [codeOf_cons, if_neg (by
      rintro ⟨h3, h4⟩
      rcases ht with h | h
      · exact h3 h
      · exact h4 h), if_neg (by rw [hd _ (by omega), hd _ (by omega), hd _ (by omega)]; decide), digs_num n h1 (by omega), if_neg (by
      have := class_pos (n : Int) (by omega) (by omega); omega)]

theorem statusLine_data (n : Nat) (h1 : 100 ≤ n) (h2 : n ≤ 999) : (statusLine (n : Int)).data.toList = versionL ++ digs n ++ (32 :: (reasonOf (n : Int)).data.toList) := by
  unfold statusLine
  rw [itoa_nonneg _ (by omega), Int.toNat_natCast, decDigits_three n h1 h2]
  simp [ByteArray.data_append]
theorem reason_plain (code : Int) : (reasonOf code).data.toList.all (fun c => plainB c.toNat) = true := by
  unfold reasonOf
  repeat' split
  all_goals decide +kernel
theorem statusLine_len (n : Nat) (h1 : 100 ≤ n) (h2 : n ≤ 999) : (statusLine (n : Int)).size = 13 + (reasonOf (n : Int)).size := by
  rw [← size_len, statusLine_data n h1 h2]; simp [versionL, digs]; omega
theorem status_print_put (n : Nat) (h1 : 100 ≤ n) (h2 : n ≤ 599) : putErr (statusLine (n : Int)).data.toList = 0 := by
  have hl := statusLine_len n h1 (by omega)
  have hr := reason_size (n : Int)
  unfold putErr
  rw [if_neg (by
    rw [statusLine_data n h1 (by omega), all_plain n h1 (by omega), List.all_cons, reason_plain]; decide), if_neg (by rw [size_len]; omega)]
theorem status_print_parse (n : Nat) (h1 : 100 ≤ n) (h2 : n ≤ 599) : statusOf (statusLine (n : Int)).data.toList = ((n : Int), 0) := by
  rw [statusLine_data n h1 (by omega), statusOf_line n h1 h2 _ (.inr rfl), if_neg (by rw [List.all_cons, reason_plain]; decide)]
theorem status_cut12 (n : Nat) (h1 : 100 ≤ n) (h2 : n ≤ 599) : statusOf ((statusLine (n : Int)).extract 0 12).data.toList = ((n : Int), 0) := by
  have e : ((statusLine (n : Int)).extract 0 12).data.toList = versionL ++ digs n ++ [] := by
    rw [extract_bs, bs_data, statusLine_data n h1 (by omega)]; rfl
  rw [e, statusOf_line n h1 h2 [] (.inl rfl)]; rfl
theorem status_cut13 (n : Nat) (h1 : 100 ≤ n) (h2 : n ≤ 599) (words : ByteArray) : statusOf ((statusLine (n : Int)).extract 0 13 ++ words).data.toList = if putErr words.data.toList = 4 then (0, 4) else ((n : Int), 0) := by
  have e : ((statusLine (n : Int)).extract 0 13 ++ words).data.toList = versionL ++ digs n ++ (32 :: words.data.toList) := by
    rw [ByteArray.data_append, Array.toList_append, extract_bs, bs_data, statusLine_data n h1 (by omega)]; rfl
  rw [e, statusOf_line n h1 h2 _ (.inr rfl), List.all_cons, show plainB (32 : UInt8).toNat = true from rfl, Bool.true_and]
  by_cases h : putErr words.data.toList = 4
  · rw [if_pos h, if_pos ((putErr_four _).1 h)]
  · rw [if_neg h, if_neg (fun h' => h ((putErr_four _).2 h'))]
end Go.Proofs.YtnfadmdndefanaaDoor
