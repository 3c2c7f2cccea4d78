/- fault.put and the document's line and Clean. Plain laws: numbers of digits (no program in sight). What Number and Digits of package fields return. Plain functions: ranges of bytes (no program in sight). Regions that draw their order, whose operations read and whose callees may lay blocks of their own: one walk. Slices of fields in memory; what Get of package fields returns. What the law's Own and the reference's Get, Number and Digits of fields return. What Check and text of package ranges, and Check of its reference return. What numbers of package ranges returns. What Asked of package ranges returns. What Ask of package ranges, and Ask, cut, two and Asked of its reference return. -/
import Derived.Test.YtbdmmgmcbecolaaGreatDoorPu4
import Derived.Lib.AtoiAll
import Derived.Lib.ItoaNum
import Derived.Shelf.Strconv.AtoiAll
import Derived.Sort.Grow
import Derived.Lib.AtoiErrMem
import Derived.Lib.IndexMore
import Derived.BigQuiet
import Derived.Laws.Rows
set_option linter.unusedVariables false
set_option linter.unusedSimpArgs false
namespace Go.Proofs.YtbdmmgmcbecolaaGreatDoor
open Go.RowKit
theorem bs_byte (l : List UInt8) (s : ByteArray) (k : Nat) (h : k < s.size) : bs l ++ s.extract k (k + 1) = bs (l ++ [s[k]]) := by
  have e : s.extract k (k + 1) = bs [s[k]] := by
    rw [extract_bs]
    congr 1
    have hl : k < s.data.toList.length := by rw [size_len]; exact h
    rw [List.take_succ_eq_append_getElem hl, List.drop_append_of_le_length (by rw [List.length_take]; omega), List.drop_take]
    simp
    rfl
  rw [e]
  apply ByteArray.ext
  apply Array.toList_inj.1
  simp [bs]
set_option maxRecDepth 100000 in
set_option maxHeartbeats 2000000 in
theorem ref_clean (s : ByteArray) (w : World) (hs : s.size ≤ 1000000) :
    Calls Tryz.prog 100 #[.string s] w fun e w' => e = .returned (.string (bs (cleanL s.data.toList))) ∧ w' = w := by
  go_enter Tryz.func100, Tryz.ntmps100
  go_wp2_with fail
  go_loopg [3, 4] s.size (fun gk s3 s4 wr => ∃ k : Nat, k + gk = s.size ∧ s3 = .string (bs (cleanL (s.data.toList.take k))) ∧ s4 = .int .i64 (k : Int) ∧ wr = w)
  case atStart => exact ⟨0, by omega, rfl, rfl, rfl⟩
  case round =>
    obtain ⟨k, hgk, rfl, rfl, rfl⟩ := hrel
    cases gk with
    | zero =>
      obtain rfl : k = s.size := by omega
      rw [List.take_of_length_le (by rw [size_len]; exact Nat.le_refl _)]
      go_wp2_with fail
      go_ret
      exact ⟨rfl, rfl⟩
    | succ gm =>
      have hk : k < s.size := by omega
      have hkl : k < s.data.toList.length := by rw [size_len]; exact hk
      have hki : (k : Int) < (s.size : Int) := by omega
      have hst := clean_step s.data.toList k hkl
      obtain ⟨b, hbx⟩ : ∃ b : UInt8, s[k]'hk = b := ⟨_, rfl⟩
      have hbl : s.data.toList[k] = b := by rw [← hbx]; rfl
      rw [hbl] at hst
      have hwk : IntKind.i64.wrap ((k : Int) + 1) = (k : Int) + 1 := by rw [IntKind.wrap_i64]; omega
      by_cases hbad : badB b = true
      · rw [if_pos hbad, List.append_nil] at hst
        have HST := Lib.hid hst
        generalize hQ : bs (cleanL (s.data.toList.take k)) = Q
        have HQ := Lib.hid hQ
        clear hst hbl hQ
        unfold badB at hbad
        rw [Bool.or_eq_true, beq_iff_eq, beq_iff_eq] at hbad
        rcases hbad with rfl | rfl
        all_goals
          go_wp2_with fail
          go_roundg gm
          case measure => omega
          case rel => exact ⟨k + 1, by omega, by rw [HST.out, HQ.out], rfl, rfl⟩
      · rw [if_neg hbad] at hst
        have hle : (cleanL (s.data.toList.take k)).length ≤ s.size := Nat.le_trans (cleanL_len _) (by rw [List.length_take, size_len]; omega)
        have hadd := bs_byte (cleanL (s.data.toList.take k)) s k hk
        rw [hbx, ← hst] at hadd
        have HADD := Lib.hid hadd
        have hqs : (bs (cleanL (s.data.toList.take k))).size ≤ s.size := by rw [bs_size]; exact hle
        generalize bs (cleanL (s.data.toList.take k)) = Q at HADD hqs
        have he : (s.extract k (k + 1)).size ≤ 1000000 := by rw [ByteArray.size_extract]; omega
        have padd := fun w => run_string_add_sum (P := Tryz.prog) w Q (s.extract k (k + 1)) (by omega)
        unfold badB at hbad
        rw [Bool.or_eq_true, beq_iff_eq, beq_iff_eq] at hbad
        have h10 : b.toNat ≠ 10 := fun e => hbad (.inl (UInt8.toNat_inj.1 e))
        have h13 : b.toNat ≠ 13 := fun e => hbad (.inr (UInt8.toNat_inj.1 e))
        have t10 : ((b.toNat : Int) != 10) = true := by rw [bne_iff_ne]; omega
        have t13 : ((b.toNat : Int) != 13) = true := by rw [bne_iff_ne]; omega
        have u10 : ¬ ((b.toNat : Int) = 10) := by omega
        have u13 : ¬ ((b.toNat : Int) = 13) := by omega
        have hk1 : (k : Int) + 1 ≤ (s.size : Int) := by omega
        clear hst hbl hbad hadd hle
        go_wp2_with fail
        go_roundg gm
        case measure => omega
        case rel => exact ⟨k + 1, by omega, by rw [← HADD.out], rfl, rfl⟩
theorem put_bytes (s t : ByteArray) (k b l : Nat) (hb : atF s k = (b : Int)) (hl : (takeLine s (b : Int)).size = l) : s.extract 0 b ++ t ++ s.extract (b + l) s.size = bs (putF s k t.data.toList) := by
  apply ByteArray.ext
  apply Array.toList_inj.1
  rw [bs_data]
  unfold putF
  rw [hb, hl, Int.toNat_natCast, ByteArray.data_append, ByteArray.data_append, Array.toList_append, Array.toList_append, Go.Lib.extract_data, Go.Lib.extract_data]
  simp only [List.drop_zero, Nat.sub_zero]
  congr 1
  exact List.take_of_length_le (by rw [List.length_drop, size_len]; omega)
set_option maxRecDepth 100000 in
set_option maxHeartbeats 2000000 in
theorem ref_line (s t : ByteArray) (k : Nat) (w : World) (hs : s.size ≤ 1000000) (ht : t.size ≤ 1000000) (hk : k ≤ 1000000) :
    Calls Tryz.prog 99 #[.string s, .int .i64 (k : Int), .string t] w fun e w' => e = .returned (.string (bs (putF s k t.data.toList))) ∧ Below w.heap.size w w' := by
  have HT := Lib.hid (fun a w => ref_take s a w (by omega))
  obtain ⟨b, hb, hbs⟩ := atF_in s k
  obtain ⟨-, -, -, hl0⟩ := take_in s b hbs
  obtain ⟨l, hl⟩ : ∃ l, (takeLine s (b : Int)).size = l := ⟨_, rfl⟩
  have hR := put_bytes s t k b l hb hl
  rw [hl] at hl0
  have HR := Lib.hid hR
  have HL := Lib.hid hl
  have HBE := Lib.hid hb
  have hbi : (b : Int) ≤ (s.size : Int) := by omega
  have hli : (b : Int) + (l : Int) ≤ (s.size : Int) := by omega
  have hwl : IntKind.i64.wrap ((b : Int) + (l : Int)) = (b : Int) + (l : Int) := by rw [IntKind.wrap_i64]; omega
  have x1 : (s.extract 0 b).size ≤ 1000000 := by rw [ByteArray.size_extract]; omega
  have x2 : (s.extract (b + l) s.size).size ≤ 1000000 := by rw [ByteArray.size_extract]; omega
  have padd1 := fun w => run_string_add_sum (P := Tryz.prog) w (s.extract 0 b) t (by omega)
  have padd2 := fun w => run_string_add_sum (P := Tryz.prog) w (s.extract 0 b ++ t) (s.extract (b + l) s.size) (by rw [ByteArray.size_append]; omega)
  have hn : ((b : Int) + (l : Int)).toNat = b + l := by omega
  clear hR hl hb
  go_enter Tryz.func99, Tryz.ntmps99
  go_wp2_with fail
  go_loopg [7, 8] k (fun gk s7 s8 wr => ∃ i : Nat, i + gk = k ∧ s7 = .int .i64 (atF s i) ∧ s8 = .int .i64 (i : Int) ∧ wr = w)
  case atStart => exact ⟨0, by omega, rfl, rfl, rfl⟩
  case round =>
    obtain ⟨i, hgk, rfl, rfl, rfl⟩ := hrel
    cases gk with
    | zero =>
      obtain rfl : i = k := by omega
      rw [HBE.out]
      go_wp2_with (go_at_call 83; refine (HT.out _ _).mono ?_; rintro e w' ⟨rfl, rfl⟩; have hlz := HL.out; generalize takeLine s (b : Int) = LN at hlz)
      go_quiet (fail)
      go_wp2_with fail
      go_ret
      exact ⟨ret_str HR.out, ⟨rfl, rfl, rfl, Nat.le_refl _, fun _ _ => rfl⟩⟩
    | succ gm =>
      have hki : (i : Int) < (k : Int) := by omega
      have hwk : IntKind.i64.wrap ((i : Int) + 1) = (i : Int) + 1 := by rw [IntKind.wrap_i64]; omega
      clear padd1 padd2
      go_wp2_with (go_at_call 83; refine (HT.out _ _).mono ?_; rintro e w' ⟨rfl, rfl⟩)
      go_roundg gm
      case measure => omega
      case rel => exact ⟨i + 1, by omega, rfl, rfl, rfl⟩
set_option maxRecDepth 100000 in
set_option maxHeartbeats 2000000 in
theorem fault_put (s t : ByteArray) (k : Nat) (w : World) (hs : s.size ≤ 1000000) (ht : t.size ≤ 1000000) (hk : k ≤ 1000000) :
    Calls Tryz.prog 164 #[.string s, .int .i64 (k : Int), .string t] w fun e w' => e = .returned (.string (bs (putF s k t.data.toList))) ∧ Below w.heap.size w w' := by
  have HT := Lib.hid (fun a w => lines_take s a w (by omega))
  obtain ⟨b, hb, hbs⟩ := atF_in s k
  obtain ⟨-, -, -, hl0⟩ := take_in s b hbs
  obtain ⟨l, hl⟩ : ∃ l, (takeLine s (b : Int)).size = l := ⟨_, rfl⟩
  have hR := put_bytes s t k b l hb hl
  rw [hl] at hl0
  have HR := Lib.hid hR
  have HL := Lib.hid hl
  have HBE := Lib.hid hb
  have hbi : (b : Int) ≤ (s.size : Int) := by omega
  have hli : (b : Int) + (l : Int) ≤ (s.size : Int) := by omega
  have hwl : IntKind.i64.wrap ((b : Int) + (l : Int)) = (b : Int) + (l : Int) := by rw [IntKind.wrap_i64]; omega
  have x1 : (s.extract 0 b).size ≤ 1000000 := by rw [ByteArray.size_extract]; omega
  have x2 : (s.extract (b + l) s.size).size ≤ 1000000 := by rw [ByteArray.size_extract]; omega
  have padd1 := fun w => run_string_add_sum (P := Tryz.prog) w (s.extract 0 b) t (by omega)
  have padd2 := fun w => run_string_add_sum (P := Tryz.prog) w (s.extract 0 b ++ t) (s.extract (b + l) s.size) (by rw [ByteArray.size_append]; omega)
  have hn : ((b : Int) + (l : Int)).toNat = b + l := by omega
  clear hR hl hb
  go_enter Tryz.func164, Tryz.ntmps164
  go_wp2_with fail
  go_loopg [7, 12] k (fun gk s7 s8 wr => ∃ i : Nat, i + gk = k ∧ s7 = .int .i64 (atF s i) ∧ s8 = .int .i64 (i : Int) ∧ wr = w)
  case atStart => exact ⟨0, by omega, rfl, rfl, rfl⟩
  case round =>
    obtain ⟨i, hgk, rfl, rfl, rfl⟩ := hrel
    cases gk with
    | zero =>
      obtain rfl : i = k := by omega
      rw [HBE.out]
      go_wp2_with (go_at_call 105; refine (HT.out _ _).mono ?_; rintro e w' ⟨rfl, rfl⟩; have hlz := HL.out; generalize takeLine s (b : Int) = LN at hlz)
      go_quiet (fail)
      go_wp2_with fail
      go_ret
      exact ⟨ret_str HR.out, ⟨rfl, rfl, rfl, Nat.le_refl _, fun _ _ => rfl⟩⟩
    | succ gm =>
      have hki : (i : Int) < (k : Int) := by omega
      have hwk : IntKind.i64.wrap ((i : Int) + 1) = (i : Int) + 1 := by rw [IntKind.wrap_i64]; omega
      clear padd1 padd2
      go_wp2_with (go_at_call 105; refine (HT.out _ _).mono ?_; rintro e w' ⟨rfl, rfl⟩)
      go_roundg gm
      case measure => omega
      case rel => exact ⟨i + 1, by omega, rfl, rfl, rfl⟩
end Go.Proofs.YtbdmmgmcbecolaaGreatDoor
namespace Go.Proofs.YtbdmmgmcbecolaaGreatDoor
open Go.RowKit

def stepD (n : Nat) (c : UInt8) : Nat := n * 10 + (c.toNat - 48)
/-- the number that digits spell -/
def decV (l : List UInt8) : Nat := l.foldl stepD 0
def digAll (l : List UInt8) : Bool := l.all (fun c => digN c.toNat)
def lead0 (l : List UInt8) : Bool := decide (1 < l.length) && l.head? == some 48
def numBad (l : List UInt8) : Bool := l.isEmpty || !digAll l || lead0 l
def numE (l : List UInt8) : Nat := if numBad l = true then 4 else if 9007199254740991 < decV l then 11 else 0
def numV (l : List UInt8) : Nat := if numE l = 0 then decV l else 0

theorem digN_bd (n : Nat) (h : digN n = true) : 48 ≤ n ∧ n ≤ 57 := by
  unfold digN at h; simp only [Bool.and_eq_true, decide_eq_true_eq] at h; exact h
theorem digN_mk (n : Nat) (h : 48 ≤ n) (h2 : n ≤ 57) : digN n = true := by
  unfold digN; rw [decide_eq_true h, decide_eq_true h2]; rfl
theorem fold_ge (l : List UInt8) : ∀ acc, acc ≤ l.foldl stepD acc := by
  induction l with
  | nil => intro acc; exact Nat.le_refl _
  | cons c t ih => intro acc; refine Nat.le_trans ?_ (ih (stepD acc c)); unfold stepD; omega
theorem decV_snoc (l : List UInt8) (c : UInt8) : decV (l ++ [c]) = decV l * 10 + (c.toNat - 48) := by
  unfold decV; rw [List.foldl_append]; rfl
theorem parse_dec (l : List UInt8) : ∀ acc, acc < 18446744073709551616 → digAll l = true → Go.Lib.parseUint10 acc l = if l.foldl stepD acc < 18446744073709551616 then .ok (l.foldl stepD acc) else .range := by
  induction l with
  | nil => intro acc h _; show Go.Lib.NumEnd.ok acc = if acc < 18446744073709551616 then Go.Lib.NumEnd.ok acc else _; rw [if_pos h]
  | cons c t ih =>
    intro acc h hd
    have hc : digN c.toNat = true ∧ digAll t = true := by unfold digAll at hd; rw [List.all_cons, Bool.and_eq_true] at hd; exact hd
    have hb := digN_bd _ hc.1
    have hg := fold_ge t (stepD acc c)
    show (if 48 ≤ c.toNat ∧ c.toNat ≤ 57 then _ else _) = _
    rw [if_pos hb]
    have e : (c :: t).foldl stepD acc = t.foldl stepD (stepD acc c) := rfl
    rw [e]
    have es : stepD acc c = acc * 10 + (c.toNat - 48) := rfl
    by_cases h1 : 1844674407370955162 ≤ acc
    · rw [if_pos h1, if_neg (by omega)]
    · rw [if_neg h1]
      by_cases h2 : 18446744073709551616 ≤ acc * 10 + (c.toNat - 48)
      · rw [if_pos h2, if_neg (by omega)]
      · rw [if_neg h2]
        exact ih (stepD acc c) (by omega) hc.2
theorem atoi_dec (l : List UInt8) (h0 : l ≠ []) (hd : digAll l = true) : Go.Lib.atoiAll l = if decV l < 9223372036854775808 then .ok (decV l : Int) else .range := by
  cases l with
  | nil => exact absurd rfl h0
  | cons c t =>
    have hc : digN c.toNat = true := by unfold digAll at hd; rw [List.all_cons, Bool.and_eq_true] at hd; exact hd.1
    have hb := digN_bd _ hc
    have hp := parse_dec (c :: t) 0 (by decide) hd
    change Go.Lib.parseUint10 0 (c :: t) = if decV (c :: t) < _ then .ok (decV (c :: t)) else _ at hp
    unfold Go.Lib.atoiAll
    simp only []
    rw [if_neg (show ¬ (c.toNat = 43 ∨ c.toNat = 45) by omega)]
    unfold Go.Lib.parseMag
    rw [if_neg (by simp), hp]
    by_cases h1 : decV (c :: t) < 18446744073709551616
    · rw [if_pos h1]
      by_cases h2 : decV (c :: t) < 9223372036854775808
      · simp only []
        rw [if_pos h2, if_neg (by omega), if_neg (by omega), if_neg (by omega)]
      · simp only []
        rw [if_neg h2, if_pos (by omega)]
    · rw [if_neg h1, if_neg (by omega)]

/-- a number's digits: all digits, no zero ahead of others, and they tell it -/
theorem dec_digit (k : Nat) (h : k < 10) : (UInt8.ofNat (48 + k)).toNat = 48 + k := by
  rw [UInt8.toNat_ofNat']; omega
theorem decDigits_ne (n : Nat) : Go.Lib.decDigits n ≠ [] := by
  rw [Go.Lib.decDigits]; split <;> simp
theorem decDigits_all (n : Nat) : digAll (Go.Lib.decDigits n) = true := by
  induction n using Nat.strongRecOn with
  | ind n ih =>
    rw [Go.Lib.decDigits]
    split
    · rename_i h
      unfold digAll; rw [List.all_cons, dec_digit n h, digN_mk _ (by omega) (by omega)]; rfl
    · have := ih (n / 10) (by omega)
      unfold digAll at this ⊢
      rw [List.all_append, this, List.all_cons, dec_digit (n % 10) (by omega), digN_mk _ (by omega) (by omega)]; rfl
end Go.Proofs.YtbdmmgmcbecolaaGreatDoor
namespace Go.Proofs.YtbdmmgmcbecolaaGreatDoor
open Go.RowKit

theorem c_itoa (n : Int) (h0 : -9223372036854775808 ≤ n) (h1 : n ≤ 9223372036854775807) (w : World) (hE : EnvF w) :
    Calls Tryz.prog 152 #[.int .i64 n] w fun e w' => e = .returned (.string (bs (Go.Lib.itoa n))) ∧ Below w.heap.size w w' :=
  (Tryz.strconv_Itoa n h0 h1 w hE.pow).mono fun _ _ ⟨he, k, os, hw⟩ => ⟨he, hw ▸ ⟨rfl, rfl, rfl, by
    show w.heap.size ≤ (w.heap ++ os).size
    simp, fun j hj => by
    show (w.heap ++ os)[j]? = w.heap[j]?
    rw [Array.getElem?_append_left hj]⟩⟩
theorem c_atoi_ok (s : ByteArray) (hs : s.size ≤ 1000000) (v : Int) (h : Go.Lib.atoiAll s.data.toList = .ok v) (w : World) :
    Calls Tryz.prog 141 #[.string s] w fun e w' => e = .returned (.tuple #[.int .i64 v, .nilIface]) ∧ Below w.heap.size w w' :=
  (Tryz.strconv_Atoi_ok s (by omega) v h w).mono fun _ _ ⟨he, hw⟩ => ⟨he, by
    rcases hw with rfl | ⟨t, rfl⟩
    · exact Below.refl _ _
    · exact Go.Lib.bytesWorld_below _ _ _⟩
def NumErr (w : World) (e : Ending) (w' : World) : Prop := ∃ n t a, e = .returned (.tuple #[.int .i64 n, .iface t (.pointer (some a))]) ∧ Below w.heap.size w w'
theorem c_atoi_range (s : ByteArray) (hs : s.size ≤ 1000000) (h : Go.Lib.atoiAll s.data.toList = .range) (w : World) (hE : EnvF w) :
    Calls Tryz.prog 141 #[.string s] w (NumErr w) := by
  obtain ⟨tp, p, hv⟩ := hE.rng
  exact (Tryz.strconv_Atoi_range s (by omega) h _ w hv (.inr ⟨tp, p, rfl⟩)).mono fun _ _ ⟨N, he, _, _, hb⟩ => ⟨_, _, _, he, hb⟩

/-- a number's digits; of none below 0 -/
def digL (n : Int) : List UInt8 := if n < 0 then [] else Go.Lib.decDigits n.toNat
theorem fields_digits (n : Int) (h0 : -9223372036854775808 ≤ n) (h1 : n ≤ 9223372036854775807) (w : World) (hE : EnvF w) :
    Calls Tryz.prog 118 #[.int .i64 n] w fun e w' => e = .returned (.string (bs (digL n))) ∧ Below w.heap.size w w' := by
  by_cases hn : n < 0
  · have H : Hid (digL n = []) := Lib.hid (if_pos hn)
    clear hE
    go_enter Tryz.func118, Tryz.ntmps118
    go_wp2_with fail
    go_ret
    exact ⟨by rw [H.out]; rfl, Below.refl _ _⟩
  · have H : Hid (digL n = Go.Lib.itoa n) := Lib.hid (by unfold digL Go.Lib.itoa; rw [if_neg hn, if_neg hn])
    have HI := Lib.hid (c_itoa n h0 h1 w hE)
    clear hE
    go_enter Tryz.func118, Tryz.ntmps118
    go_wp2_with fail
    refine HI.out.mono ?_
    rintro e w1 ⟨rfl, hb⟩
    go_wp2_with fail
    go_ret
    exact ⟨by rw [H.out]; rfl, hb⟩

theorem numE_bad (l : List UInt8) (h : numBad l = true) : numE l = 4 ∧ numV l = 0 := by
  have h1 : numE l = 4 := if_pos h
  exact ⟨h1, by unfold numV; rw [h1]; rfl⟩
theorem numE_over (l : List UInt8) (h : numBad l = false) (h2 : 9007199254740991 < decV l) : numE l = 11 ∧ numV l = 0 := by
  have h1 : numE l = 11 := by unfold numE; rw [h, if_neg (by decide), if_pos h2]
  exact ⟨h1, by unfold numV; rw [h1]; rfl⟩
theorem numE_ok (l : List UInt8) (h : numBad l = false) (h2 : ¬ 9007199254740991 < decV l) : numE l = 0 ∧ numV l = decV l := by
  have h1 : numE l = 0 := by unfold numE; rw [h, if_neg (by decide), if_neg h2]
  exact ⟨h1, by unfold numV; rw [h1]; rfl⟩
theorem ret_nums {a a' b b' : Int} (h : a = a') (h2 : b = b') : Ending.returned (.tuple #[.int .i64 a, .int .i64 b]) = .returned (.tuple #[.int .i64 a', .int .i64 b']) := by rw [h, h2]
theorem lead0_size (s : ByteArray) (h : 1 < s.size) (h2 : s[0] = 48) : lead0 s.data.toList = true := by
  unfold lead0
  rw [size_len, decide_eq_true h, List.head?_eq_getElem?, List.getElem?_eq_getElem (by rw [size_len]; omega)]
  show ((some s[0]) == some 48) = true
  rw [h2]; rfl
theorem lead0_not (s : ByteArray) (h : ¬ ∃ h : 1 < s.size, s[0] = 48) : lead0 s.data.toList = false := by
  unfold lead0
  by_cases h1 : 1 < s.size
  · rw [size_len, decide_eq_true h1, List.head?_eq_getElem?, List.getElem?_eq_getElem (by rw [size_len]; omega)]
    show (true && (some s[0]) == some 48) = false
    rw [Bool.true_and, beq_eq_false_iff_ne]
    intro e
    exact h ⟨h1, Option.some.inj e⟩
  · rw [size_len, decide_eq_false h1]; rfl

set_option maxRecDepth 100000 in
set_option maxHeartbeats 2000000 in
theorem fields_number (s : ByteArray) (w : World) (hs : s.size ≤ 1000000) (hE : EnvF w) :
    Calls Tryz.prog 108 #[.string s] w fun e w' => e = .returned (.tuple #[.int .i64 (numV s.data.toList), .int .i64 (numE s.data.toList)]) ∧ Below w.heap.size w w' := by
  have HE := Lib.hid hE
  clear hE
  obtain ⟨l, hl⟩ : ∃ l, l = s.data.toList := ⟨_, rfl⟩
  have hsl : l.length = s.size := by rw [hl]; exact size_len s
  have HA := Lib.hid (fun w => fields_all_digit s w)
  have hlead1 := fun h h2 => lead0_size s h h2
  have hlead2 := fun h => lead0_not s h
  have hok := fun v (h : Go.Lib.atoiAll s.data.toList = .ok v) w => c_atoi_ok s hs v h w
  have hrg := fun (h : Go.Lib.atoiAll s.data.toList = .range) w hE => c_atoi_range s hs h w hE
  rw [← hl] at HA hlead1 hlead2 hok hrg ⊢
  by_cases h0 : s.size = 0
  · have H := Lib.hid (numE_bad l (by rw [List.length_eq_zero_iff.1 (show l.length = 0 by omega)]; rfl))
    have t : s.toList.isEmpty = true := by
      rw [ByteArray.toList_eq, List.isEmpty_iff]; exact List.length_eq_zero_iff.1 (by rw [size_len]; exact h0)
    clear hl hsl hlead1 hlead2 hok hrg h0
    go_enter Tryz.func108, Tryz.ntmps108
    go_wp2_with fail
    go_ret2
    exact ⟨ret_nums (by rw [H.out.2]; rfl) (by rw [H.out.1]; rfl), Below.refl _ _⟩
  · have t : s.toList.isEmpty = false := by
      rw [ByteArray.toList_eq, Bool.eq_false_iff, Ne, List.isEmpty_iff]; intro e; exact h0 (by rw [← size_len, e]; rfl)
    have he : l.isEmpty = false := by rw [hl, ← ByteArray.toList_eq]; exact t
    have hne : l ≠ [] := by intro e; rw [e] at he; exact absurd he (by decide)
    have hpos : 0 < s.size := by omega
    clear h0 hl
    cases hd : l.all (fun c => digN c.toNat) with
    | false =>
      have H := Lib.hid (numE_bad l (by unfold numBad digAll; rw [hd]; simp))
      rw [hd] at HA
      clear hsl hlead1 hlead2 hok hrg hd he hne
      go_enter Tryz.func108, Tryz.ntmps108
      go_wp2_with fail
      refine (HA.out _).mono ?_
      rintro e w1 ⟨rfl, hb⟩
      go_wp2_with fail
      go_ret2
      exact ⟨ret_nums (by rw [H.out.2]; rfl) (by rw [H.out.1]; rfl), hb⟩
    | true =>
      rw [hd] at HA
      have hda : digAll l = true := hd
      by_cases h1 : ∃ h : 1 < s.size, s[0] = 48
      · obtain ⟨h1, h48⟩ := h1
        have H := Lib.hid (numE_bad l (by unfold numBad; rw [hlead1 h1 h48, Bool.or_true]))
        have t1 : ((s[0].toNat : Int) == 48) = true := by rw [h48]; rfl
        clear hsl hlead1 hlead2 hok hrg hd he hne hda h48
        go_enter Tryz.func108, Tryz.ntmps108
        go_wp2_with fail
        refine (HA.out _).mono ?_
        rintro e w1 ⟨rfl, hb⟩
        go_wp2_with fail
        go_ret2
        exact ⟨ret_nums (by rw [H.out.2]; rfl) (by rw [H.out.1]; rfl), hb⟩
      · have hbad : numBad l = false := by unfold numBad; rw [he, hda, hlead2 h1]; rfl
        have hat := atoi_dec l hne hda
        have hov := numE_over l hbad
        have hkk := numE_ok l hbad
        by_cases h2 : 1 < s.size
        case' pos =>
          have t1 : ((s[0].toNat : Int) == 48) = false := by
            rw [beq_eq_false_iff_ne]; intro e; exact h1 ⟨h2, UInt8.toNat_inj.1 (by show _ = 48; omega)⟩
        case' neg =>
          have t1 : decide ((s.size : Int) > 1) = false := decide_eq_false (by omega)
        all_goals
          by_cases hbig : decV l < 9223372036854775808
          · rw [if_pos hbig] at hat
            have HK := Lib.hid (fun w => hok _ hat w)
            obtain ⟨n, hn⟩ : ∃ n, n = decV l := ⟨_, rfl⟩
            rw [← hn] at HK hov hkk
            clear hsl hlead1 hlead2 hok hrg hd he hne hda hat hbig hn h1 hbad
            by_cases hm : 9007199254740991 < n
            · have H := Lib.hid (hov hm)
              have t2 : decide ((n : Int) > 9007199254740991) = true := decide_eq_true (by omega)
              clear hov hkk hm
              go_enter Tryz.func108, Tryz.ntmps108
              go_wp2_with fail
              refine (HA.out _).mono ?_
              rintro e w1 ⟨rfl, hb⟩
              go_wp2_with fail
              refine (HK.out _).mono ?_
              rintro e w2 ⟨rfl, hb2⟩
              go_wp2_with fail
              go_ret2
              exact ⟨ret_nums (by rw [H.out.2]; rfl) (by rw [H.out.1]; rfl), bstep hb hb2⟩
            · have H := Lib.hid (hkk hm)
              have t2 : decide ((n : Int) > 9007199254740991) = false := decide_eq_false (by omega)
              clear hov hkk hm
              go_enter Tryz.func108, Tryz.ntmps108
              go_wp2_with fail
              refine (HA.out _).mono ?_
              rintro e w1 ⟨rfl, hb⟩
              go_wp2_with fail
              refine (HK.out _).mono ?_
              rintro e w2 ⟨rfl, hb2⟩
              go_wp2_with fail
              go_ret2
              exact ⟨ret_nums (by rw [H.out.2]) (by rw [H.out.1]; rfl), bstep hb hb2⟩
          · rw [if_neg hbig] at hat
            have HK := Lib.hid (hrg hat)
            have H := Lib.hid (hov (by omega))
            clear hsl hlead1 hlead2 hok hrg hd he hne hda hat hbig h1 hbad hov hkk
            go_enter Tryz.func108, Tryz.ntmps108
            go_wp2_with fail
            refine (HA.out _).mono ?_
            rintro e w1 ⟨rfl, hb⟩
            go_wp2_with fail
            refine (HK.out _ (HE.out.below hb)).mono ?_
            rintro e w2 ⟨n, t, a, rfl, hb2⟩
            go_wp2_with fail
            go_ret2
            exact ⟨ret_nums (by rw [H.out.2]; rfl) (by rw [H.out.1]; rfl), bstep hb hb2⟩
end Go.Proofs.YtbdmmgmcbecolaaGreatDoor
namespace Go.Proofs.YtbdmmgmcbecolaaGreatDoor
open Go.RowKit

/-- may a range be? 8: it may not -/
def rErr (a b : Int) : Nat := if a < 0 ∨ b < a ∨ 9007199254740990 < b then 8 else 0
def rLen (a b : Int) : Int := if rErr a b = 0 then b - a + 1 else 0
theorem rErr_ok (a b : Int) (h : rErr a b = 0) : 0 ≤ a ∧ a ≤ b ∧ b ≤ 9007199254740990 := by
  unfold rErr at h; split at h
  · exact absurd h (by decide)
  · omega
theorem rErr_no (a b : Int) (h : rErr a b ≠ 0) : rErr a b = 8 ∧ (a < 0 ∨ b < a ∨ 9007199254740990 < b) := by
  unfold rErr at h ⊢; split at h
  · rename_i hc; exact ⟨if_pos hc, hc⟩
  · exact absurd rfl h
def asksL : List UInt8 := [98, 121, 116, 101, 115, 61]
def tellsL : List UInt8 := [98, 121, 116, 101, 115, 32]
def textR (a b : Int) : List UInt8 := digL a ++ 45 :: digL b
def askL (a b : Int) : List UInt8 := if rErr a b = 0 then asksL ++ textR a b else []
/-- what stands ahead of a byte -/
def upTo (c : UInt8) (l : List UInt8) : List UInt8 := l.takeWhile (fun x => x != c)
def hasB (c : UInt8) (l : List UInt8) : Bool := decide ((upTo c l).length < l.length)
def behind (c : UInt8) (l : List UInt8) : List UInt8 := l.drop ((upTo c l).length + 1)
theorem upTo_le (c : UInt8) (l : List UInt8) : (upTo c l).length ≤ l.length := (List.takeWhile_prefix _).length_le
theorem upTo_take (c : UInt8) (l : List UInt8) : l.take (upTo c l).length = upTo c l := (List.prefix_iff_eq_take.1 (List.takeWhile_prefix _)).symm
theorem index_one (c : UInt8) (l : List UInt8) : Go.Lib.index l [c] = if (upTo c l).length < l.length then ((upTo c l).length : Int) else -1 := by
  induction l with
  | nil => rfl
  | cons d t ih =>
    unfold Go.Lib.index
    by_cases hc : d = c
    · subst hc
      have : upTo d (d :: t) = [] := by unfold upTo; rw [List.takeWhile_cons_of_neg (by simp)]
      rw [this, if_pos (by simp [List.isPrefixOf]), if_pos (by simp)]; rfl
    · have ha : upTo c (d :: t) = d :: upTo c t := by unfold upTo; rw [List.takeWhile_cons_of_pos (by simpa using hc)]
      rw [if_neg (by simp [List.isPrefixOf]; exact fun h => hc h.symm), ih, ha]
      by_cases hlt : (upTo c t).length < t.length
      · rw [if_pos hlt, if_neg (by rw [beq_iff_eq]; omega), if_pos (by simp; omega)]; simp
      · rw [if_neg hlt, if_pos (by decide), if_neg (by simp; omega)]
theorem cut_one (c : UInt8) (l : List UInt8) : Go.Lib.cut l [c] = if hasB c l = true then (upTo c l, behind c l, true) else (l, [], false) := by
  unfold Go.Lib.cut hasB behind
  rw [index_one]
  by_cases hlt : (upTo c l).length < l.length
  · rw [if_pos hlt, if_pos (by omega), decide_eq_true hlt, if_pos rfl, Int.toNat_natCast, upTo_take]; rfl
  · rw [if_neg hlt, if_neg (by decide), decide_eq_false hlt, if_neg (by decide)]
/-- two numbers: the error of the first that is none -/
def twoE (a b : List UInt8) : Nat := if numE a ≠ 0 then numE a else numE b
/-- what is asked for: from, to, the error -/
def askedOk (l : List UInt8) : Bool := asksL.isPrefixOf l && hasB 45 (l.drop 6)
def askedF (l : List UInt8) : Nat := numV (upTo 45 (l.drop 6))
def askedT (l : List UInt8) : Nat := numV (behind 45 (l.drop 6))
def askedE (l : List UInt8) : Nat := if askedOk l = false then 4 else if twoE (upTo 45 (l.drop 6)) (behind 45 (l.drop 6)) ≠ 0 then twoE (upTo 45 (l.drop 6)) (behind 45 (l.drop 6)) else rErr (askedF l) (askedT l)
def askedA (l : List UInt8) : Int := if askedE l = 0 then (askedF l : Int) else 0
def askedB (l : List UInt8) : Int := if askedE l = 0 then (askedT l : Int) else 0
/-- what is told of so many bytes -/
def toldE (a b t : Int) : Nat := if rErr a b ≠ 0 then rErr a b else if t ≤ b ∨ 9007199254740991 < t then 8 else 0
def toldL (a b t : Int) : List UInt8 := if toldE a b t = 0 then tellsL ++ textR a b ++ 47 :: digL t else []
def tellOk (l : List UInt8) : Bool := tellsL.isPrefixOf l && hasB 45 (l.drop 6) && hasB 47 (behind 45 (l.drop 6))
def tellF (l : List UInt8) : Nat := numV (upTo 45 (l.drop 6))
def tellT (l : List UInt8) : Nat := numV (upTo 47 (behind 45 (l.drop 6)))
def tellN (l : List UInt8) : Nat := numV (behind 47 (behind 45 (l.drop 6)))
def threeE (a b c : List UInt8) : Nat := if numE a ≠ 0 then numE a else if numE b ≠ 0 then numE b else numE c
def tellE (l : List UInt8) : Nat := if tellOk l = false then 4 else if threeE (upTo 45 (l.drop 6)) (upTo 47 (behind 45 (l.drop 6))) (behind 47 (behind 45 (l.drop 6))) ≠ 0 then threeE (upTo 45 (l.drop 6)) (upTo 47 (behind 45 (l.drop 6))) (behind 47 (behind 45 (l.drop 6)))
  else toldE (tellF l) (tellT l) (tellN l)
def tellA (l : List UInt8) : Int := if tellE l = 0 then (tellF l : Int) else 0
def tellB (l : List UInt8) : Int := if tellE l = 0 then (tellT l : Int) else 0
def tellC (l : List UInt8) : Int := if tellE l = 0 then (tellN l : Int) else 0
/-- a range cut to what there is -/
def clipE (a b t : Int) : Nat := if rErr a b ≠ 0 then rErr a b else if t ≤ a then 8 else 0
def clipA (a b t : Int) : Int := if clipE a b t = 0 then a else 0
def clipB (a b t : Int) : Int := if clipE a b t = 0 then (if b < t - 1 then b else t - 1) else 0
end Go.Proofs.YtbdmmgmcbecolaaGreatDoor
namespace Go.Proofs.YtbdmmgmcbecolaaGreatDoor
open Go.RowKit

/-- a world that has come of w by reading, drawing and laying blocks -/
structure BelowOf (w : World) where
  world : World
  below : Below w.heap.size w world
instance (w : World) : Inhabited (BelowOf w) := ⟨⟨w, Below.refl _ _⟩⟩
theorem wp_region_quiet_below {P : Program} {id : Nat} {Q : Exit → Act → World → Prop} {a : Act} {w : World} {l : List Oper} (hm : P.follows .mixedOrders = true) (hB : Region.lexB .any l.toArray = true)
    (h : wpQuiet P l.toArray (fun w' => ∃ p : BelowOf w, w' = p.world) (fun a' => ∀ w', (∃ p : BelowOf w, w' = p.world) → Q .normal a' w') l a) : (Code.region id l.toArray true).wp P Q a w :=
  wp_region_quiet (C := fun w' => ∃ p : BelowOf w, w' = p.world) hm hB ⟨⟨w.drew, (Below.refl _ _).drew⟩, rfl⟩ (by simpa using h)
theorem below_of {P : Program} {f : FuncId} {args : Array Value} {w : World} {p : BelowOf w} {v : Value}
    (h : Calls P f args p.world fun e w' => e = .returned v ∧ Below p.world.heap.size p.world w') : Calls P f args p.world fun e w'' => e = .returned v ∧ ∃ q : BelowOf w, w'' = q.world :=
  h.mono fun _ _ ⟨he, hb⟩ => ⟨he, ⟨_, bstep p.below hb⟩, rfl⟩
theorem below_same {P : Program} {f : FuncId} {args : Array Value} {w : World} {p : BelowOf w} {v : Value}
    (h : Calls P f args p.world fun e w' => e = .returned v ∧ w' = p.world) : Calls P f args p.world fun e w'' => e = .returned v ∧ ∃ q : BelowOf w, w'' = q.world :=
  h.mono fun _ _ ⟨he, hw⟩ => ⟨he, p, hw⟩
theorem cell_of {w : World} (p : BelowOf w) {a : Addr} {v : Value} (hb : a.block < w.heap.size) (h : w.cell? a = some v) : p.world.cell? a = some v := (p.below.cell hb).trans h
theorem of_class {w W : World} (h : ∃ p : BelowOf w, W = p.world) : Below w.heap.size w W := let ⟨p, hp⟩ := h; hp ▸ p.below
end Go.Proofs.YtbdmmgmcbecolaaGreatDoor
namespace Go.Proofs.YtbdmmgmcbecolaaGreatDoor
open Go.RowKit

/-- the slice v reads, in the world w, as the fields fs. -/
def HoldsF (w : World) (v : Value) (fs : List (List UInt8 × List UInt8)) : Prop :=
  ∃ a c, v = .slice a fs.length c ∧ fs.length ≤ c ∧ (fs ≠ [] → ∃ b o, a = some ⟨b, o, none⟩ ∧ b < w.heap.size ∧ ∀ j (hj : j < fs.length), w.cell? ⟨b, o + j * 2, none⟩ = some (.string (bs fs[j].1)) ∧ w.cell? ⟨b, o + j * 2 + 1, none⟩ = some (.string (bs fs[j].2)))
theorem HoldsF.below {w w' : World} {v : Value} {fs : List (List UInt8 × List UInt8)} (h : HoldsF w v fs) (hb : Below w.heap.size w w') : HoldsF w' v fs := by
  obtain ⟨a, c, hv, hc, hx⟩ := h
  refine ⟨a, c, hv, hc, fun hne => ?_⟩
  obtain ⟨b, o, ha, hlt, hcell⟩ := hx hne
  exact ⟨b, o, ha, Nat.lt_of_lt_of_le hlt hb.size, fun j hj => ⟨(hb.cell (p := ⟨b, o + j * 2, none⟩) hlt).trans (hcell j hj).1, (hb.cell (p := ⟨b, o + j * 2 + 1, none⟩) hlt).trans (hcell j hj).2⟩⟩
theorem HoldsF.nil (w : World) (a : Option Addr) (c : Nat) : HoldsF w (.slice a 0 c) [] := ⟨a, c, rfl, Nat.zero_le _, fun h => absurd rfl h⟩

/-- the cells of some fields -/
def fcells : List (List UInt8 × List UInt8) → List Value
  | [] => []
  | f :: t => .string (bs f.1) :: .string (bs f.2) :: fcells t
theorem fcells_length (fs : List (List UInt8 × List UInt8)) : (fcells fs).length = fs.length * 2 := by
  induction fs with
  | nil => rfl
  | cons f t ih => show (fcells t).length + 1 + 1 = (t.length + 1) * 2; omega
theorem fcells_get (fs : List (List UInt8 × List UInt8)) (j : Nat) (hj : j < fs.length) : (fcells fs)[j * 2]? = some (.string (bs fs[j].1)) ∧ (fcells fs)[j * 2 + 1]? = some (.string (bs fs[j].2)) := by
  induction fs generalizing j with
  | nil => exact absurd hj (Nat.not_lt_zero _)
  | cons f t ih =>
    cases j with
    | zero => exact ⟨rfl, rfl⟩
    | succ j =>
      have := ih j (by simp at hj; omega)
      rw [show (j + 1) * 2 = j * 2 + 1 + 1 by omega]
      exact this
theorem fcells_append (a b : List (List UInt8 × List UInt8)) : fcells (a ++ b) = fcells a ++ fcells b := by
  induction a with
  | nil => rfl
  | cons f t ih => show _ :: _ :: fcells (t ++ b) = _; rw [ih]; rfl
theorem HoldsF.of_own {w : World} {base n : Nat} {e : TypeId} {v : Value} {fs : List (List UInt8 × List UInt8)} (h : w.ownsRow base e 2 v n (fcells fs)) : HoldsF w v fs := by
  have hn : fs.length = n := by have := h.1; rw [fcells_length] at this; omega
  subst hn
  rcases h.2 with ⟨rfl, h0⟩ | ⟨g, cap, cur, rfl, hb, hg, hle, hm, hs, ht⟩
  · have : fs = [] := List.eq_nil_of_length_eq_zero h0
    subst this
    exact HoldsF.nil w none 0
  · refine ⟨_, cap, rfl, hle, fun _ => ⟨g, 0, rfl, (Array.getElem?_eq_some_iff.1 hg).1, fun j hj => ?_⟩⟩
    have h1 := h.cells (g := g) rfl (j * 2) _ (fcells_get fs j hj).1
    have h2 := h.cells (g := g) rfl (j * 2 + 1) _ (fcells_get fs j hj).2
    have e0 : ∀ k, (⟨g, 0, none⟩ : Addr).add k = ⟨g, 0 + k, none⟩ := fun k => by unfold Addr.add; split <;> simp_all
    rw [e0] at h1 h2
    exact ⟨h1, h2⟩

/-- the values of a name -/
def hits (fs : List (List UInt8 × List UInt8)) (n : List UInt8) : List (List UInt8) := (fs.filter (fun f => f.1 == n)).map (·.2)
def getE (fs : List (List UInt8 × List UInt8)) (n : List UInt8) : Nat := match hits fs n with | [] => 6 | [_] => 0 | _ => 22
def getS (fs : List (List UInt8 × List UInt8)) (n : List UInt8) : List UInt8 := match hits fs n with | [v] => v | _ => []
theorem hits_step (fs : List (List UInt8 × List UInt8)) (n : List UInt8) (k : Nat) (h : k < fs.length) : hits (fs.take (k + 1)) n = hits (fs.take k) n ++ (if fs[k].1 = n then [fs[k].2] else []) := by
  unfold hits
  rw [List.take_succ_eq_append_getElem h, List.filter_append, List.map_append]
  congr 1
  by_cases e : fs[k].1 = n
  · rw [if_pos e]; simp [e]
  · rw [if_neg e]; simp [e]
theorem hits_prefix (fs : List (List UInt8 × List UInt8)) (n : List UInt8) (k : Nat) : ∃ t, hits fs n = hits (fs.take k) n ++ t := by
  refine ⟨hits (fs.drop k) n, ?_⟩
  unfold hits
  rw [← List.map_append, ← List.filter_append, List.take_append_drop]
def GetSt (fs : List (List UInt8 × List UInt8)) (n : List UInt8) (k : Nat) (x e : Value) : Prop :=
  (hits (fs.take k) n = [] ∧ x = .string ⟨#[]⟩ ∧ e = .int .i64 6) ∨ ∃ v, hits (fs.take k) n = [v] ∧ x = .string (bs v) ∧ e = .int .i64 0
theorem get_end (fs : List (List UInt8 × List UInt8)) (n : List UInt8) (k : Nat) (hk : fs.length ≤ k) (x e : Value) (h : GetSt fs n k x e) : x = .string (bs (getS fs n)) ∧ e = .int .i64 (getE fs n) := by
  have ht : fs.take k = fs := List.take_of_length_le hk
  unfold GetSt at h
  rw [ht] at h
  unfold getS getE
  rcases h with ⟨h, hx, he⟩ | ⟨v, h, hx, he⟩
  · rw [h]; exact ⟨hx, he⟩
  · rw [h]; exact ⟨hx, he⟩
theorem get_twice (fs : List (List UInt8 × List UInt8)) (n : List UInt8) (k : Nat) (hk : k < fs.length) (v : List UInt8) (h : hits (fs.take k) n = [v]) (hn : fs[k].1 = n) : getS fs n = [] ∧ getE fs n = 22 := by
  obtain ⟨t, ht⟩ := hits_prefix fs n (k + 1)
  rw [hits_step fs n k hk, h, if_pos hn] at ht
  unfold getS getE
  rw [ht]
  exact ⟨rfl, rfl⟩
theorem ret_two {x y x' y' : Value} (h : x = x') (h2 : y = y') : Ending.returned (.tuple #[x, y]) = .returned (.tuple #[x', y']) := by rw [h, h2]

set_option maxRecDepth 100000 in
set_option maxHeartbeats 2000000 in
theorem fields_get (v : Value) (fs : List (List UInt8 × List UInt8)) (n : ByteArray) (w : World) (hv : HoldsF w v fs) (hlen : fs.length ≤ 1000000) :
    Calls Tryz.prog 47 #[v, .string n] w fun e w' => e = .returned (.tuple #[.string (bs (getS fs n.data.toList)), .int .i64 (getE fs n.data.toList)]) ∧ Below w.heap.size w w' := by
  obtain ⟨a, c, rfl, hc, hx⟩ := hv
  have HX := Lib.hid hx
  clear hx
  obtain ⟨m, rfl⟩ : ∃ m, n = bs m := ⟨n.data.toList, (bs_self n).symm⟩
  rw [bs_data]
  go_enter Tryz.func47, Tryz.ntmps47
  go_wp2_with fail
  go_loopw [6, 7, 12] (fun x e i wr => ∃ k : Nat, k ≤ fs.length ∧ i = .int .i64 k ∧ Below w.heap.size w wr ∧ GetSt fs m k x e) (fun _ _ i _ => fs.length - (intOf i).toNat)
  case atStart => exact ⟨0, by omega, rfl, Below.refl _ _, .inl ⟨rfl, rfl, rfl⟩⟩
  case round =>
    obtain ⟨k, hk, rfl, hb, hst⟩ := hrel
    by_cases hlt : k < fs.length
    · obtain ⟨b, o, rfl, hbl, hcell⟩ := HX.out (fun e => by rw [e] at hlt; exact absurd hlt (Nat.not_lt_zero _))
      have c0 := (hb.cell (p := ⟨b, o + k * 2, none⟩) hbl).trans (hcell k hlt).1
      have c1 := (hb.cell (p := ⟨b, o + k * 2 + 1, none⟩) hbl).trans (hcell k hlt).2
      have hstep := hits_step fs m k hlt
      have hcmp := bs_beq fs[k].1 m
      clear hcell
      by_cases hn : fs[k].1 = m
      · rw [if_pos hn] at hstep
        rw [decide_eq_true hn] at hcmp
        rcases hst with ⟨h0, rfl, rfl⟩ | ⟨v, h1, rfl, rfl⟩
        · have Hn : Hid (hits (fs.take (k + 1)) m = [fs[k].2]) := Lib.hid (by rw [hstep, h0]; rfl)
          have HF : Hid (fs = fs) := Lib.hid rfl
          clear hstep h0 hn HX
          obtain ⟨X, hX⟩ : ∃ X, X = bs fs[k].1 := ⟨_, rfl⟩
          obtain ⟨y, hy⟩ : ∃ y, y = fs[k].2 := ⟨_, rfl⟩
          rw [← hX] at c0 hcmp
          rw [← hy] at c1 Hn
          clear hX hy
          go_wp2_with fail
          go_roundw
          case rel => exact ⟨k + 1, by omega, by go_num, hb.trans (((Below.refl _ _).alloc (Nat.le_refl _) _).mono hb.size), .inr ⟨y, Hn.out, rfl, rfl⟩⟩
          case measure => simp [intOf]; omega
        · have HE := Lib.hid (get_twice fs m k hlt v h1 hn)
          clear hstep h1 hn HX
          obtain ⟨X, hX⟩ : ∃ X, X = bs fs[k].1 := ⟨_, rfl⟩
          rw [← hX] at c0 hcmp
          clear hX
          go_wp2_with fail
          go_ret2
          exact ⟨ret_two (by rw [HE.out.1]; rfl) (by rw [HE.out.2]; rfl), hb.trans (((Below.refl _ _).alloc (Nat.le_refl _) _).mono hb.size)⟩
      · rw [if_neg hn, List.append_nil] at hstep
        rw [decide_eq_false hn] at hcmp
        have Hst : Hid (GetSt fs m (k + 1) u6 u7) := Lib.hid (by unfold GetSt at hst ⊢; rw [hstep]; exact hst)
        clear hstep hst hn HX
        obtain ⟨X, hX⟩ : ∃ X, X = bs fs[k].1 := ⟨_, rfl⟩
        rw [← hX] at c0 hcmp
        clear hX
        go_wp2_with fail
        go_roundw
        case rel => exact ⟨k + 1, by omega, by go_num, hb.trans (((Below.refl _ _).alloc (Nat.le_refl _) _).mono hb.size), Hst.out⟩
        case measure => simp [intOf]; omega
    · have H := Lib.hid (get_end fs m k (by omega) _ _ hst)
      clear hst
      go_wp2_with fail
      go_ret2
      exact ⟨ret_two H.out.1 H.out.2, hb⟩
end Go.Proofs.YtbdmmgmcbecolaaGreatDoor
namespace Go.Proofs.YtbdmmgmcbecolaaGreatDoor
open Go.RowKit

theorem info_field : (Tryz.prog.info? 161).map (fun i => (i.zero, i.size, i.bytes)) = some (some (.agg #[.string ByteArray.empty, .string ByteArray.empty]), 2, 32) := by kernel_rfl
theorem cell_two_new (w : World) (x y : Value) (t : TypeId) : ∀ j u, [x, y][j]? = some u → (w.alloc (.cells #[x, y] t)).cell? ((⟨w.heap.size, 0, none⟩ : Addr).add j) = some u := by
  intro j u hj
  have hh := heap_alloc_new w (.cells #[x, y] t)
  have e0 : (⟨w.heap.size, 0, none⟩ : Addr).add j = ⟨w.heap.size, 0 + j, none⟩ := by unfold Addr.add; split <;> simp_all
  rw [e0]
  match j, hj with
  | 0, hj => simp at hj; subst hj; unfold World.cell?; rw [hh]; rfl
  | 1, hj => simp at hj; subst hj; unfold World.cell?; rw [hh]; rfl
theorem below_ownF {B : Nat} {w wr w' : World} {base : Nat} {e : TypeId} {size : Nat} {v : Value} {n : Nat} {xs : List Value} (hb : Below B w wr) (hg : wr.grownBy w' v.ownBlock) (hown : wr.ownsRow base e size v n xs) (hB : B ≤ base) (hB2 : B ≤ wr.heap.size) : Below B w w' :=
  hb.grown hg hB2 fun k hk => Nat.le_trans hB (hown.lt k hk).1

/-- where a name stands, told as the reference counts. -/
def RGet (fs : List (List UInt8 × List UInt8)) (m : List UInt8) (k : Nat) (x y : Value) : Prop :=
  ∃ c t : Nat, x = .int .i64 c ∧ y = .int .i64 t ∧ c = (hits (fs.take k) m).length ∧ c ≤ k ∧ (0 < c → ∃ h : t < fs.length, (hits (fs.take k) m).getLast? = some fs[t].2)
theorem hits_all (fs : List (List UInt8 × List UInt8)) (m : List UInt8) (k : Nat) (h : fs.length ≤ k) : hits (fs.take k) m = hits fs m := by rw [List.take_of_length_le h]
set_option maxRecDepth 100000 in
set_option maxHeartbeats 2000000 in
theorem ref_get (v : Value) (fs : List (List UInt8 × List UInt8)) (n : ByteArray) (w : World) (hv : HoldsF w v fs) (hlen : fs.length ≤ 1000000) :
    Calls Tryz.prog 30 #[v, .string n] w fun e w' => e = .returned (.tuple #[.string (bs (getS fs n.data.toList)), .int .i64 (getE fs n.data.toList)]) ∧ w' = w := by
  obtain ⟨a, c, rfl, hc, hx⟩ := hv
  have HX := Lib.hid hx
  clear hx
  obtain ⟨m, rfl⟩ : ∃ m, n = bs m := ⟨n.data.toList, (bs_self n).symm⟩
  rw [bs_data]
  go_enter Tryz.func30, Tryz.ntmps30
  go_wp2_with fail
  go_loop [6, 7, 8] (fun x y i => ∃ k : Nat, k ≤ fs.length ∧ i = .int .i64 k ∧ RGet fs m k x y) (fun _ _ i => fs.length - (intOf i).toNat)
  case atStart => exact ⟨0, by omega, rfl, 0, 0, rfl, rfl, rfl, by omega, fun h => absurd h (Nat.lt_irrefl _)⟩
  case round =>
    obtain ⟨k, hk, rfl, cn, tn, rfl, rfl, hcn, hck, hlast⟩ := hrel
    by_cases hlt : k < fs.length
    · obtain ⟨b, o, rfl, hbl, hcell⟩ := HX.out (fun e => by rw [e] at hlt; exact absurd hlt (Nat.not_lt_zero _))
      have c0 := (hcell k hlt).1
      have hstep := hits_step fs m k hlt
      have hcmp := bs_beq fs[k].1 m
      clear hcell
      by_cases hn : fs[k].1 = m
      · rw [if_pos hn] at hstep
        rw [decide_eq_true hn] at hcmp
        have Hn : Hid (RGet fs m (k + 1) (.int .i64 ((cn + 1 : Nat) : Int)) (.int .i64 (k : Int))) := Lib.hid ⟨cn + 1, k, rfl, rfl, by rw [hstep, List.length_append, ← hcn]; rfl, by omega, fun _ => ⟨hlt, by rw [hstep, List.getLast?_append]; rfl⟩⟩
        clear hstep hn HX hlast hcn
        obtain ⟨X, hX⟩ : ∃ X, X = bs fs[k].1 := ⟨_, rfl⟩
        rw [← hX] at c0 hcmp
        clear hX
        go_wp2_with fail
        go_round
        case rel => exact ⟨k + 1, by omega, by go_num, Hn.out⟩
        case measure => simp [intOf]; omega
      · rw [if_neg hn, List.append_nil] at hstep
        rw [decide_eq_false hn] at hcmp
        have Hn : Hid (RGet fs m (k + 1) (.int .i64 (cn : Int)) (.int .i64 (tn : Int))) := Lib.hid ⟨cn, tn, rfl, rfl, by rw [hstep]; exact hcn, by omega, fun h => by rw [hstep]; exact hlast h⟩
        clear hstep hn HX hlast hcn
        obtain ⟨X, hX⟩ : ∃ X, X = bs fs[k].1 := ⟨_, rfl⟩
        rw [← hX] at c0 hcmp
        clear hX
        go_wp2_with fail
        go_round
        case rel => exact ⟨k + 1, by omega, by go_num, Hn.out⟩
        case measure => simp [intOf]; omega
    · rw [hits_all fs m k (by omega)] at hcn hlast
      by_cases hz : cn = 0
      · have H : Hid (getS fs m = [] ∧ getE fs m = 6) := Lib.hid (by
          have : hits fs m = [] := List.length_eq_zero_iff.1 (by omega)
          unfold getS getE; rw [this]; exact ⟨rfl, rfl⟩)
        have t1 : ((cn : Int) == 0) = true := by rw [hz]; rfl
        clear hz hcn hlast HX
        go_wp2_with fail
        go_ret2
        exact ⟨ret_two (by rw [H.out.1]; rfl) (by rw [H.out.2]; rfl), rfl⟩
      · have t1 : ((cn : Int) == 0) = false := by rw [beq_eq_false_iff_ne]; omega
        by_cases h1 : 1 < cn
        · have H : Hid (getS fs m = [] ∧ getE fs m = 22) := Lib.hid (by
            unfold getS getE
            cases hh : hits fs m with
            | nil => rw [hh] at hcn; simp at hcn; omega
            | cons a t => cases t with
              | nil => rw [hh] at hcn; simp at hcn; omega
              | cons b u => exact ⟨rfl, rfl⟩)
          clear hz hcn hlast HX
          go_wp2_with fail
          go_ret2
          exact ⟨ret_two (by rw [H.out.1]; rfl) (by rw [H.out.2]; rfl), rfl⟩
        · obtain ⟨htl, hl⟩ := hlast (by omega)
          obtain ⟨b, o, rfl, hbl, hcell⟩ := HX.out (fun e => by rw [e] at htl; exact absurd htl (Nat.not_lt_zero _))
          have c1 := (hcell tn htl).2
          have H : Hid (getS fs m = fs[tn].2 ∧ getE fs m = 0) := Lib.hid (by
            unfold getS getE
            cases hh : hits fs m with
            | nil => rw [hh] at hcn; simp at hcn; omega
            | cons a t => cases t with
              | nil => rw [hh] at hl; simp at hl; exact ⟨hl, rfl⟩
              | cons b u => rw [hh] at hcn; simp at hcn; omega)
          clear hz hcn hl HX hcell
          go_wp2_with fail
          go_ret2
          exact ⟨ret_two (by rw [H.out.1]; rfl) (by rw [H.out.2]; rfl), rfl⟩
theorem ref_digitsZ (n : Int) (w : World) (h1 : n ≤ 9223372036854775807) :
    Calls Tryz.prog 95 #[.int .i64 n] w fun e w' => e = .returned (.string (bs (digL n))) ∧ w' = w := by
  by_cases hn : n < 0
  · have H : Hid (digL n = []) := Lib.hid (if_pos hn)
    go_enter Tryz.func95, Tryz.ntmps95
    go_wp2_with fail
    go_ret
    exact ⟨by rw [H.out]; rfl, rfl⟩
  · obtain ⟨k, rfl⟩ := Int.eq_ofNat_of_zero_le (show 0 ≤ n by omega)
    have := ref_digits k k w (Nat.le_refl _) (by omega)
    rw [show digL (k : Int) = Go.Lib.decDigits k from if_neg hn]
    exact this

/-- the reference's reading of a number: what is known behind k digits -/
def RNum (l : List UInt8) (k : Nat) (x y : Value) : Prop := ∃ (n : Nat) (b : Bool), x = .int .i64 n ∧ y = .bool b ∧ n ≤ 9007199254740991 ∧ b = decide (9007199254740991 < decV (l.take k)) ∧ (b = false → n = decV (l.take k))
theorem rnum_step (l : List UInt8) (k n : Nat) (b : Bool) (hk : k < l.length) (hn : n ≤ 9007199254740991) (hb : b = decide (9007199254740991 < decV (l.take k))) (hv : b = false → n = decV (l.take k)) (hd : 48 ≤ l[k].toNat ∧ l[k].toNat ≤ 57) :
    (9007199254740991 < n * 10 + (l[k].toNat - 48) → RNum l (k + 1) (.int .i64 0) (.bool true)) ∧ (¬ 9007199254740991 < n * 10 + (l[k].toNat - 48) → RNum l (k + 1) (.int .i64 ((n * 10 + (l[k].toNat - 48) : Nat) : Int)) (.bool b)) := by
  have hs : decV (l.take (k + 1)) = decV (l.take k) * 10 + (l[k].toNat - 48) := by
    rw [List.take_succ_eq_append_getElem hk, decV_snoc]
  constructor
  · intro h
    refine ⟨0, true, rfl, rfl, by omega, ?_, fun h => absurd h (by decide)⟩
    rw [eq_comm, decide_eq_true_eq, hs]
    cases b with
    | true => have := of_decide_eq_true hb.symm; omega
    | false => have := hv rfl; omega
  · intro h
    refine ⟨_, b, rfl, rfl, by omega, ?_, fun e => by rw [hs, ← hv e]⟩
    cases b with
    | true => have := of_decide_eq_true hb.symm; rw [eq_comm, decide_eq_true_eq, hs]; omega
    | false => have := hv rfl; rw [eq_comm, decide_eq_false_iff_not, hs]; omega

set_option maxRecDepth 100000 in
set_option maxHeartbeats 2000000 in
theorem ref_number (s : ByteArray) (w : World) (hs : s.size ≤ 1000000) :
    Calls Tryz.prog 56 #[.string s] w fun e w' => e = .returned (.tuple #[.int .i64 (numV s.data.toList), .int .i64 (numE s.data.toList)]) ∧ w' = w := by
  obtain ⟨l, hl⟩ : ∃ l, l = s.data.toList := ⟨_, rfl⟩
  have hsl : l.length = s.size := by rw [hl]; exact size_len s
  have hlead1 := fun h h2 => lead0_size s h h2
  have hlead2 := fun h => lead0_not s h
  rw [← hl] at hlead1 hlead2 ⊢
  have HL := Lib.hid hl
  clear hl
  by_cases h0 : s.size = 0
  · have H := Lib.hid (numE_bad l (by rw [List.length_eq_zero_iff.1 (show l.length = 0 by omega)]; rfl))
    have t : ((s.size : Int) == 0) = true := by rw [h0]; rfl
    clear hsl hlead1 hlead2 h0
    go_enter Tryz.func56, Tryz.ntmps56
    go_wp2_with fail
    go_ret2
    exact ⟨ret_nums (by rw [H.out.2]; rfl) (by rw [H.out.1]; rfl), rfl⟩
  · have t : ((s.size : Int) == 0) = false := by rw [beq_eq_false_iff_ne]; omega
    have hpos : 0 < s.size := by omega
    by_cases h1 : ∃ h : 1 < s.size, s[0] = 48
    · obtain ⟨h1, h48⟩ := h1
      have H := Lib.hid (numE_bad l (by unfold numBad; rw [hlead1 h1 h48, Bool.or_true]))
      have t1 : ((s[0].toNat : Int) == 48) = true := by rw [h48]; rfl
      clear hsl hlead1 hlead2 h48 h0
      go_enter Tryz.func56, Tryz.ntmps56
      go_wp2_with fail
      go_ret2
      exact ⟨ret_nums (by rw [H.out.2]; rfl) (by rw [H.out.1]; rfl), rfl⟩
    · have hl0 := Lib.hid (hlead2 h1)
      have hemp : Hid (l.isEmpty = false) := Lib.hid (by rw [Bool.eq_false_iff, Ne, List.isEmpty_iff]; intro e; rw [e] at hsl; simp at hsl; omega)
      clear hlead1 hlead2 h0
      by_cases h2 : 1 < s.size
      case' pos =>
        have t1 : ((s[0].toNat : Int) == 48) = false := by
          rw [beq_eq_false_iff_ne]; intro e; exact h1 ⟨h2, UInt8.toNat_inj.1 (by show _ = 48; omega)⟩
      case' neg =>
        have t1 : decide ((s.size : Int) > 1) = false := decide_eq_false (by omega)
      all_goals
        clear h1
        go_enter Tryz.func56, Tryz.ntmps56
        go_wp2_with fail
        go_loop [4, 5, 6] (fun x y i => ∃ k : Nat, k ≤ s.size ∧ i = .int .i64 k ∧ Hid (digAll (l.take k) = true) ∧ RNum l k x y) (fun _ _ i => s.size - (intOf i).toNat)
        case atStart => exact ⟨0, by omega, rfl, Lib.hid rfl, 0, false, rfl, rfl, by omega, rfl, fun _ => rfl⟩
        case round =>
          obtain ⟨k, hk, rfl, Hd, n, b, rfl, rfl, hn, hb, hv⟩ := hrel
          by_cases hlt : k < s.size
          · have hlk : l[k]'(by omega) = s[k] := by have := HL.out; subst this; rfl
            have hcase : s[k].toNat < 48 ∨ 57 < s[k].toNat ∨ (48 ≤ s[k].toNat ∧ s[k].toNat ≤ 57) := by omega
            have hbadk : digN s[k].toNat = false → numE l = 4 ∧ numV l = 0 := fun hq => numE_bad l (by
              unfold numBad digAll
              rw [show l.all (fun c => digN c.toNat) = false by rw [HL.out]; exact all_at (fun c => digN c.toNat) s k hlt hq]; simp)
            rcases hcase with hc | hc | hc
            · have H := Lib.hid (hbadk (by unfold digN; rw [decide_eq_false (by omega), Bool.false_and]))
              clear hbadk hlk Hd hb hv
              have t2 : decide ((s[k].toNat : Int) < 48) = true := decide_eq_true (by omega)
              go_wp2_with fail
              go_ret2
              exact ⟨ret_nums (by rw [H.out.2]; rfl) (by rw [H.out.1]; rfl), rfl⟩
            · have H := Lib.hid (hbadk (by unfold digN; rw [decide_eq_false (show ¬ s[k].toNat ≤ 57 by omega), Bool.and_false]))
              clear hbadk hlk Hd hb hv
              have t2 : decide ((s[k].toNat : Int) < 48) = false := decide_eq_false (by omega)
              have t3 : decide ((s[k].toNat : Int) > 57) = true := decide_eq_true (by omega)
              go_wp2_with fail
              go_ret2
              exact ⟨ret_nums (by rw [H.out.2]; rfl) (by rw [H.out.1]; rfl), rfl⟩
            · have hst := rnum_step l k n b (by omega) hn hb hv (by rw [hlk]; exact hc)
              rw [hlk] at hst
              have Hd' : Hid (digAll (l.take (k + 1)) = true) := Lib.hid (by
                unfold digAll; rw [List.take_succ_eq_append_getElem (by omega), List.all_append, hlk]
                rw [show (l.take k).all (fun c => digN c.toNat) = true from Hd.out, List.all_cons, digN_mk _ hc.1 hc.2]; rfl)
              obtain ⟨c1, c2⟩ := hc
              have t2 : decide ((s[k].toNat : Int) < 48) = false := decide_eq_false (by omega)
              have t3 : decide ((s[k].toNat : Int) > 57) = false := decide_eq_false (by omega)
              clear hbadk hlk Hd hb hv
              by_cases hbig : 9007199254740991 < n * 10 + (s[k].toNat - 48)
              · have Hn := Lib.hid (hst.1 hbig)
                have t4 : decide ((10 * (n : Int) + (s[k].toNat : Int) - 48) > 9007199254740991) = true := decide_eq_true (by omega)
                clear hst hbig
                go_wp2_with fail
                go_round
                case rel => exact ⟨k + 1, by omega, by go_num, Hd', Hn.out⟩
                case measure => simp [intOf]; omega
              · have Hn := Lib.hid (hst.2 hbig)
                have t4 : decide ((10 * (n : Int) + (s[k].toNat : Int) - 48) > 9007199254740991) = false := decide_eq_false (by omega)
                have Hz : Hid ((10 * (n : Int) + (s[k].toNat : Int) - 48) = ((n * 10 + (s[k].toNat - 48) : Nat) : Int)) := Lib.hid (by omega)
                clear hst hbig
                go_wp2_with fail
                go_round
                case rel => exact ⟨k + 1, by omega, by go_num, Hd', by rw [Hz.out]; exact Hn.out⟩
                case measure => simp [intOf]; omega
          · have hall : l.take k = l := List.take_of_length_le (by omega)
            have hgood : numBad l = false := by
              have := Hd.out
              rw [hall] at this
              unfold numBad; rw [hemp.out, this, hl0.out]; rfl
            rw [hall] at hb hv
            cases b with
            | true =>
              have H := Lib.hid (numE_over l hgood (of_decide_eq_true hb.symm))
              clear hb hv hgood hall Hd
              go_wp2_with fail
              go_ret2
              exact ⟨ret_nums (by rw [H.out.2]; rfl) (by rw [H.out.1]; rfl), rfl⟩
            | false =>
              have H := Lib.hid (numE_ok l hgood (of_decide_eq_false hb.symm))
              have Hv := Lib.hid (hv rfl)
              clear hb hv hgood hall Hd
              go_wp2_with fail
              go_ret2
              exact ⟨ret_nums (by rw [H.out.2, ← Hv.out]) (by rw [H.out.1]; rfl), rfl⟩
end Go.Proofs.YtbdmmgmcbecolaaGreatDoor
namespace Go.Proofs.YtbdmmgmcbecolaaGreatDoor
open Go.RowKit

set_option maxRecDepth 100000 in
theorem ranges_check (a b : Int) (w : World) :
    Calls Tryz.prog 32 #[.agg #[.int .i64 a, .int .i64 b]] w fun e w' => e = .returned (.int .i64 (rErr a b : Nat)) ∧ Below w.heap.size w w' := by
  by_cases h1 : a < 0
  · have H : Hid (rErr a b = 8) := Lib.hid (if_pos (.inl h1))
    have t1 : decide (a < 0) = true := decide_eq_true h1
    go_enter Tryz.func32, Tryz.ntmps32
    go_wp2_with fail
    go_ret
    exact ⟨by rw [H.out]; rfl, (Below.refl _ _).alloc (Nat.le_refl _) _⟩
  have t1 : decide (a < 0) = false := decide_eq_false h1
  by_cases h2 : b < a
  · have H : Hid (rErr a b = 8) := Lib.hid (if_pos (.inr (.inl h2)))
    have t2 : decide (a > b) = true := decide_eq_true h2
    go_enter Tryz.func32, Tryz.ntmps32
    go_wp2_with fail
    go_ret
    exact ⟨by rw [H.out]; rfl, (Below.refl _ _).alloc (Nat.le_refl _) _⟩
  have t2 : decide (a > b) = false := decide_eq_false h2
  by_cases h3 : 9007199254740990 < b
  · have H : Hid (rErr a b = 8) := Lib.hid (if_pos (.inr (.inr h3)))
    have t3 : decide (b > 9007199254740990) = true := decide_eq_true h3
    go_enter Tryz.func32, Tryz.ntmps32
    go_wp2_with fail
    go_ret
    exact ⟨by rw [H.out]; rfl, (Below.refl _ _).alloc (Nat.le_refl _) _⟩
  · have H : Hid (rErr a b = 0) := Lib.hid (if_neg (fun h => h.elim h1 (fun h => h.elim h2 h3)))
    have t3 : decide (b > 9007199254740990) = false := decide_eq_false h3
    go_enter Tryz.func32, Tryz.ntmps32
    go_wp2_with fail
    go_ret
    exact ⟨by rw [H.out]; rfl, (Below.refl _ _).alloc (Nat.le_refl _) _⟩
set_option maxRecDepth 100000 in
theorem ref_rcheck (a b : Int) (w : World) :
    Calls Tryz.prog 40 #[.agg #[.int .i64 a, .int .i64 b]] w fun e w' => e = .returned (.int .i64 (rErr a b : Nat)) ∧ Below w.heap.size w w' := by
  by_cases h1 : a < 0
  · have H : Hid (rErr a b = 8) := Lib.hid (if_pos (.inl h1))
    have t1 : decide (a < 0) = true := decide_eq_true h1
    go_enter Tryz.func40, Tryz.ntmps40
    go_wp2_with fail
    go_ret
    exact ⟨by rw [H.out]; rfl, (Below.refl _ _).alloc (Nat.le_refl _) _⟩
  have t1 : decide (a < 0) = false := decide_eq_false h1
  by_cases h2 : b < a
  · have H : Hid (rErr a b = 8) := Lib.hid (if_pos (.inr (.inl h2)))
    have t2 : decide (a > b) = true := decide_eq_true h2
    go_enter Tryz.func40, Tryz.ntmps40
    go_wp2_with fail
    go_ret
    exact ⟨by rw [H.out]; rfl, (Below.refl _ _).alloc (Nat.le_refl _) _⟩
  have t2 : decide (a > b) = false := decide_eq_false h2
  by_cases h3 : 9007199254740990 < b
  · have H : Hid (rErr a b = 8) := Lib.hid (if_pos (.inr (.inr h3)))
    have t3 : decide (b > 9007199254740990) = true := decide_eq_true h3
    go_enter Tryz.func40, Tryz.ntmps40
    go_wp2_with fail
    go_ret
    exact ⟨by rw [H.out]; rfl, (Below.refl _ _).alloc (Nat.le_refl _) _⟩
  · have H : Hid (rErr a b = 0) := Lib.hid (if_neg (fun h => h.elim h1 (fun h => h.elim h2 h3)))
    have t3 : decide (b > 9007199254740990) = false := decide_eq_false h3
    go_enter Tryz.func40, Tryz.ntmps40
    go_wp2_with fail
    go_ret
    exact ⟨by rw [H.out]; rfl, (Below.refl _ _).alloc (Nat.le_refl _) _⟩
theorem box2 (w : World) (x y : Value) (t : TypeId) : (w.alloc (.cells #[x, y] t)).cell? ⟨w.heap.size, 0, none⟩ = some x ∧ (w.alloc (.cells #[x, y] t)).cell? ⟨w.heap.size, 1, none⟩ = some y := by
  have hh := heap_alloc_new w (.cells #[x, y] t)
  constructor <;> (unfold World.cell?; rw [hh]; rfl)
theorem digL_len (n : Int) (h1 : n ≤ 9223372036854775807) : (digL n).length ≤ 20 := by
  unfold digL; split
  · exact Nat.zero_le _
  · exact decDigits_len _ (by omega)
set_option maxRecDepth 100000 in
set_option maxHeartbeats 1000000 in
theorem ranges_text (a b : Int) (w : World) (hE : EnvF w) (ha0 : -9223372036854775808 ≤ a) (ha : a ≤ 9223372036854775807) (hb0 : -9223372036854775808 ≤ b) (hb : b ≤ 9223372036854775807) :
    Calls Tryz.prog 87 #[.agg #[.int .i64 a, .int .i64 b]] w fun e w' => e = .returned (.string (bs (textR a b))) ∧ Below w.heap.size w w' := by
  have HA := Lib.hid (fun w hE => fields_digits a ha0 ha w hE)
  have HB := Lib.hid (fun w hE => fields_digits b hb0 hb w hE)
  obtain ⟨X, hX⟩ : ∃ X, bs (digL a) = X := ⟨_, rfl⟩
  obtain ⟨Y, hY⟩ : ∃ Y, bs (digL b) = Y := ⟨_, rfl⟩
  have hXs : X.size ≤ 20 := by rw [← hX, bs_size]; exact digL_len a ha
  have hYs : Y.size ≤ 20 := by rw [← hY, bs_size]; exact digL_len b hb
  have HR : Hid ((X ++ ⟨#[45]⟩) ++ Y = bs (textR a b)) := Lib.hid (by
    rw [← hX, ← hY, show (⟨#[45]⟩ : ByteArray) = bs [45] from rfl, bs_cat, bs_cat]
    unfold textR; simp)
  rw [hX] at HA
  rw [hY] at HB
  have padd1 := fun w => run_string_add_sum (P := Tryz.prog) w X ⟨#[45]⟩ (by show _ + 1 ≤ _; omega)
  have padd2 := fun w => run_string_add_sum (P := Tryz.prog) w (X ++ ⟨#[45]⟩) Y (by rw [ByteArray.size_append]; show _ + 1 + _ ≤ _; omega)
  have box := box2 w (.int .i64 a) (.int .i64 b) 28
  have hb0' : Below w.heap.size w (w.alloc (.cells #[.int .i64 a, .int .i64 b] 28)) := (Below.refl _ _).alloc (Nat.le_refl _) _
  have hbl : w.heap.size < (w.alloc (.cells #[.int .i64 a, .int .i64 b] 28)).heap.size := by simp
  have HE := Lib.hid (hE.below hb0')
  clear hE hX hY
  go_enter Tryz.func87, Tryz.ntmps87
  go_wp2_with fail
  generalize hW0 : w.alloc (.cells #[.int .i64 a, .int .i64 b] 28) = W0 at box hb0' hbl HE ⊢
  clear hW0
  have k0 : ∀ p : BelowOf W0, p.world.cell? ⟨w.heap.size, 0, none⟩ = some (.int .i64 a) := fun p => cell_of p hbl box.1
  have k1 : ∀ p : BelowOf W0, p.world.cell? ⟨w.heap.size, 1, none⟩ = some (.int .i64 b) := fun p => cell_of p hbl box.2
  have hb0 := Lib.hid hb0'
  clear box hb0'
  refine wp_region_quiet_below (by kernel_rfl) (by kernel_rfl) ?_
  repeat (go_big_quiet_step ((first
    | (go_at_call 118; exact below_of (HA.out _ (HE.out.below (BelowOf.below _))))
    | (go_at_call 118; exact below_of (HB.out _ (HE.out.below (BelowOf.below _))))
    | fail)))
  refine wpQuiet_nil ?_
  intro W1 hw'
  have hb1 := of_class hw'
  clear hw'
  go_wp2_with fail
  go_ret
  exact ⟨by rw [← HR.out]; rfl, bstep hb0.out hb1⟩
end Go.Proofs.YtbdmmgmcbecolaaGreatDoor
namespace Go.Proofs.YtbdmmgmcbecolaaGreatDoor
open Go.RowKit

theorem own_keep {B : Nat} {e : TypeId} {k : Nat} {v : Value} {n : Nat} {xs : List Value} {w w' : World} (h : w.ownsRow B e k v n xs) (hb : Below w.heap.size w w') : w'.ownsRow B e k v n xs := by
  refine ⟨h.1, ?_⟩
  rcases h.2 with h0 | ⟨g, cap, cur, e1, e2, e3, e4⟩
  · exact .inl h0
  · exact .inr ⟨g, cap, cur, e1, e2, (hb.block g (Array.getElem?_eq_some_iff.1 e3).1).trans e3, e4⟩
def intsV (ns : List Nat) : List Value := ns.map fun (n : Nat) => .int .i64 (n : Int)
theorem intsV_length (ns : List Nat) : (intsV ns).length = ns.length := by simp [intsV]
theorem intsV_append (a b : List Nat) : intsV (a ++ b) = intsV a ++ intsV b := by simp [intsV]
/-- the slice v reads, in the world w, as the numbers ns; it lies behind block B -/
def HoldsI (B : Nat) (w : World) (v : Value) (ns : List Nat) : Prop :=
  ∃ b c, v = .slice (some ⟨b, 0, none⟩) ns.length c ∧ B ≤ b ∧ b < w.heap.size ∧ ns.length ≤ c ∧ ∀ j (hj : j < ns.length), w.cell? ⟨b, j, none⟩ = some (.int .i64 (ns[j] : Int))
theorem HoldsI.of_own {w : World} {base n : Nat} {e : TypeId} {v : Value} {ns : List Nat} (h : w.ownsRow base e 1 v n (intsV ns)) (hne : ns ≠ []) : HoldsI base w v ns := by
  have hn : ns.length = n := by have := h.1; rw [intsV_length, Nat.mul_one] at this; exact this
  subst hn
  rcases h.2 with ⟨rfl, h0⟩ | ⟨g, cap, cur, rfl, hb, hg, hle, hm, hs, ht⟩
  · exact absurd (List.eq_nil_of_length_eq_zero h0) hne
  · refine ⟨g, cap, rfl, hb, (Array.getElem?_eq_some_iff.1 hg).1, hle, fun j hj => ?_⟩
    have := h.cells (g := g) rfl j (.int .i64 (ns[j] : Int)) (by unfold intsV; rw [List.getElem?_map, List.getElem?_eq_getElem hj]; rfl)
    have e0 : (⟨g, 0, none⟩ : Addr).add j = ⟨g, j, none⟩ := by unfold Addr.add; split <;> simp_all
    rwa [e0] at this
theorem info_int : (Tryz.prog.info? 3).map (fun i => (i.zero, i.size, i.bytes)) = some (some (.int .i64 0), 1, 8) := by kernel_rfl
theorem append_int {ops : Array Oper} {rest : List Oper} {o : Oper} {a : Act} {Q : Exit → Act → World → Prop} (w0 : World) (hgd : o.guard = none) (s x : Operand)
    (ho : o.op = .call { callee := .builtin .append, args := #[s, x], argTypes := #[165, 165] })
    (base : Nat) (v : Value) (ns : List Nat) (hs : a.eval s = v) (hown : w0.ownsRow base 3 1 v ns.length (intsV ns))
    (m : Nat) (hx : a.eval x = .slice (some ⟨w0.heap.size, 0, none⟩) 1 1) (hn : ns.length < 2147483648) (hbase : base ≤ w0.heap.size)
    (h : ∀ v' w', w'.ownsRow base 3 1 v' (ns ++ [m]).length (intsV (ns ++ [m])) → w0.grownBy w' v.ownBlock → v' ≠ .slice none 0 0 → wpList Tryz.prog ops Q rest (a.put o.dst v') w') :
    wpList Tryz.prog ops Q (o :: rest) a (w0.alloc (.cells #[.int .i64 (m : Int)] 3)) := by
  obtain ⟨i0, hi, hz0, hz1, hz2⟩ := info_parts info_int
  refine wpList_append_own _ hgd s x 165 ho base 3 i0 _ 1 8 Tryz.underlying165 hi hz0 hz1 hz2 rfl (by decide) v ns.length (intsV ns) hs (hown.alloc _) ⟨w0.heap.size, 0, none⟩ 1 1 [.int .i64 (m : Int)] hx rfl (cell_one_new w0 _ _) (by simp [Value.oneCell']) (by unfold maxLen; omega) (by omega) (by simp; omega) ?_
  intro v' w' h2 h3 h4
  refine h v' w' ?_ ?_ (fun e => by have := (h4.1 e).2; omega)
  · rw [List.length_append, intsV_append]; simpa [intsV] using h2
  · exact ⟨h3.os, h3.tape, h3.output, Nat.le_trans (by simp) h3.size, fun k hk hne => (h3.block k (by simp; omega) hne).trans (heap_alloc_old w0 _ hk)⟩
/-- the first error of some texts that are to be numbers -/
def numsE : List (List UInt8) → Nat
  | [] => 0
  | l :: t => if numE l ≠ 0 then numE l else numsE t
theorem numsE_skip (xs : List (List UInt8)) : ∀ k, (∀ j (hj : j < xs.length), j < k → numE xs[j] = 0) → numsE xs = numsE (xs.drop k) := by
  induction xs with
  | nil => intro k _; simp
  | cons x t ih =>
    intro k h
    cases k with
    | zero => rfl
    | succ k =>
      have h0 := h 0 (by simp) (by omega)
      show (if numE x ≠ 0 then numE x else numsE t) = numsE (t.drop k)
      rw [if_neg (fun hh => hh h0)]
      exact ih k (fun j hj hk => h (j + 1) (by simp; omega) (by omega))
theorem numsE_at (xs : List (List UInt8)) (k : Nat) (hk : k < xs.length) (h : ∀ j (hj : j < xs.length), j < k → numE xs[j] = 0) (hb : numE xs[k] ≠ 0) : numsE xs = numE xs[k] := by
  rw [numsE_skip xs k h, List.drop_eq_getElem_cons hk]
  exact if_pos hb
theorem numsE_all (xs : List (List UInt8)) (h : ∀ j (hj : j < xs.length), numE xs[j] = 0) : numsE xs = 0 := by
  rw [numsE_skip xs xs.length (fun j hj _ => h j hj), List.drop_length]; rfl
def NumsPost (xs : List (List UInt8)) (w : World) (e : Ending) (w' : World) : Prop := ∃ v, e = .returned (.tuple #[v, .int .i64 (numsE xs : Nat)]) ∧ (numsE xs = 0 → HoldsI w.heap.size w' v (xs.map numV)) ∧ Below w.heap.size w w'
set_option maxRecDepth 100000 in
set_option maxHeartbeats 2000000 in
theorem ranges_numbers (v : Value) (xs : List (List UInt8)) (w : World) (hv : HoldsS w v xs) (hne : xs ≠ []) (hlen : xs.length ≤ 1000) (hx : ∀ x ∈ xs, x.length ≤ 1000000) (hE : EnvF w) :
    Calls Tryz.prog 78 #[v] w (NumsPost xs w) := by
  obtain ⟨a, c, rfl, hc, hh⟩ := hv
  obtain ⟨b, o, rfl, hbl, hcell⟩ := hh hne
  have HC := Lib.hid hcell
  have HE := Lib.hid hE
  have HX := Lib.hid hx
  clear hh hcell hE hx
  go_enter Tryz.func78, Tryz.ntmps78
  go_wp2_with fail
  go_loopw [4, 11] (fun u i wr => ∃ k : Nat, k ≤ xs.length ∧ i = .int .i64 k ∧ wr.ownsRow w.heap.size 3 1 u ((xs.take k).map numV).length (intsV ((xs.take k).map numV)) ∧ Below w.heap.size w wr ∧ Hid (∀ j (hj : j < xs.length), j < k → numE xs[j] = 0)) (fun _ i _ => xs.length - (intOf i).toNat)
  case atStart => exact ⟨0, by omega, rfl, by rw [List.take_zero]; exact World.ownsRow_nil _ _ _ _, Below.refl _ _, Lib.hid (fun j hj h => absurd h (Nat.not_lt_zero _))⟩
  case round =>
    obtain ⟨k, hk, rfl, hown, hb, HK⟩ := hrel
    by_cases hlt : k < xs.length
    · have c0 := (hb.cell (p := ⟨b, o + k, none⟩) hbl).trans (HC.out k hlt)
      obtain ⟨S, hS⟩ : ∃ S, bs xs[k] = S := ⟨_, rfl⟩
      have hSd : S.data.toList = xs[k] := by rw [← hS, bs_data]
      have hSs : S.size ≤ 1000000 := by rw [← hS, bs_size]; exact HX.out _ (List.getElem_mem hlt)
      rw [hS] at c0
      have HN := Lib.hid (fun w hE => fields_number S w hSs hE)
      rw [hSd] at HN
      have hkl : ((xs.take k).map numV).length < 2147483648 := by rw [List.length_map, List.length_take]; omega
      have tl : decide ((k : Int) < (xs.length : Int)) = true := decide_eq_true (by omega)
      have HEr := Lib.hid (HE.out.below hb)
      by_cases hz : numE xs[k] = 0
      · rw [hz] at HN
        have HK2 : Hid (∀ j (hj : j < xs.length), j < k + 1 → numE xs[j] = 0) := Lib.hid (fun j hj h => by
          by_cases e : j = k
          · subst e; exact hz
          · exact HK.out j hj (by omega))
        have hstep : Hid ((xs.take (k + 1)).map numV = (xs.take k).map numV ++ [numV xs[k]]) := Lib.hid (by rw [List.take_succ_eq_append_getElem hlt, List.map_append]; rfl)
        clear hz hS hSd HK
        go_wp2_with fail
        refine (HN.out _ HEr.out).mono ?_
        rintro e w1 ⟨rfl, hb1⟩
        have hown1 : w1.ownsRow w.heap.size 3 1 _ ((xs.take k).map numV).length (intsV ((xs.take k).map numV)) := own_keep hown hb1
        have hb2 := bstep hb hb1
        clear hown c0
        go_wp2_with (at_builtin; go_loud (refine append_int w1 (by rfl) _ _ (by rfl) w.heap.size _ ((xs.take k).map numV) (by rfl) hown1 (numV xs[k]) (by rfl) hkl hb2.size ?_); intro v' w2 hown2 hg2 hne2)
        go_roundw
        case rel => exact ⟨k + 1, by omega, by go_num, by rw [hstep.out]; exact hown2, below_ownF hb2 hg2 hown1 (Nat.le_refl _) hb2.size, HK2⟩
        case measure => simp [intOf]; omega
      · have HR : Hid (numsE xs = numE xs[k]) := Lib.hid (numsE_at xs k hlt HK.out hz)
        have tz : ((numE xs[k] : Int) != 0) = true := by rw [bne_iff_ne]; omega
        have hz2 : Hid (numE xs[k] ≠ 0) := Lib.hid hz
        clear hz hS hSd HK
        go_wp2_with fail
        refine (HN.out _ HEr.out).mono ?_
        rintro e w1 ⟨rfl, hb1⟩
        have hb2 := bstep hb hb1
        clear c0 hown
        go_wp2_with fail
        go_ret2
        exact ⟨_, by rw [HR.out]; rfl, fun h => absurd (HR.out ▸ h) hz2.out, hb2⟩
    · have hall : xs.take k = xs := List.take_of_length_le (by omega)
      have HR : Hid (numsE xs = 0) := Lib.hid (numsE_all xs (fun j hj => HK.out j hj (by omega)))
      rw [hall] at hown
      have tl : decide ((k : Int) < (xs.length : Int)) = false := decide_eq_false (by omega)
      clear hall HK
      go_wp2_with fail
      go_ret2
      exact ⟨_, by rw [HR.out]; rfl, fun _ => HoldsI.of_own hown (by simpa using hne), hb⟩
end Go.Proofs.YtbdmmgmcbecolaaGreatDoor
namespace Go.Proofs.YtbdmmgmcbecolaaGreatDoor
open Go.RowKit

theorem load_range (w : World) (b : Nat) (t : TypeId) (x y : Value) (h : w.heap[b]? = some (.cells #[x, y] t (0, 0))) : (loadVar 28 ⟨b, 0, none⟩).run Tryz.prog w = .ok (.agg #[x, y]) w :=
  run_loadVar_row w b t 28 #[x, y] (0, 0) _ h Tryz.underlying28 rfl (by kernel_rfl)
theorem c_cutAt (s : ByteArray) (c : UInt8) (w : World) (hs : s.size ≤ 1000000) (hE : EnvF w) :
    Calls Tryz.prog 77 #[.string s, .string ⟨#[c]⟩] w fun e w' => e = .returned (.tuple #[.string (bs (if hasB c s.data.toList = true then upTo c s.data.toList else s.data.toList)), .string (bs (if hasB c s.data.toList = true then behind c s.data.toList else [])), .bool (hasB c s.data.toList)]) ∧ Below w.heap.size w w' := by
  obtain ⟨m, hm⟩ := hE.m
  refine (Tryz.strings_Cut s ⟨#[c]⟩ m w (by omega) hm).mono ?_
  rintro e w' ⟨rfl, n, rfl⟩
  refine ⟨?_, (fun n => by induction n with | zero => exact Below.refl _ _ | succ n ih => exact ih.drew : ∀ n, Below w.heap.size w (w.drewN n)) n⟩
  have h2 := cut_one c s.data.toList
  have h3 : Go.Lib.cut s.data.toList (ByteArray.mk #[c]).data.toList = Go.Lib.cut s.data.toList [c] := rfl
  rw [h3, h2]
  cases hasB c s.data.toList <;> rfl
theorem c_cutPre (s p : ByteArray) (w : World) :
    Calls Tryz.prog 76 #[.string s, .string p] w fun e w' => e = .returned (.tuple #[.string (bs (Lib.trimPrefix s.data.toList p.data.toList)), .bool (p.data.toList.isPrefixOf s.data.toList)]) ∧ w' = w := Tryz.strings_CutPrefix s p w
theorem numV_le' (l : List UInt8) : numV l ≤ 9007199254740991 := by
  unfold numV
  split
  · rename_i h
    unfold numE at h
    split at h
    · exact absurd h (by decide)
    · split at h
      · exact absurd h (by decide)
      · omega
  · exact Nat.zero_le _
theorem twoE_nums (a b : List UInt8) : numsE [a, b] = twoE a b := by
  show (if numE a ≠ 0 then numE a else if numE b ≠ 0 then numE b else 0) = _
  unfold twoE
  split
  · rfl
  · split <;> omega
theorem askedSplit (l : List UInt8) : askedOk l = (asksL.isPrefixOf l && hasB 45 (if asksL.isPrefixOf l = true then l.drop 6 else l)) := by
  unfold askedOk
  cases h : asksL.isPrefixOf l <;> simp
set_option maxRecDepth 100000 in
set_option maxHeartbeats 2000000 in
theorem ranges_asked (s : ByteArray) (w : World) (hs : s.size ≤ 1000000) (hE : EnvF w) :
    Calls Tryz.prog 194 #[.string s] w fun e w' => e = .returned (.tuple #[.agg #[.int .i64 (askedA s.data.toList), .int .i64 (askedB s.data.toList)], .int .i64 (askedE s.data.toList : Nat)]) ∧ Below w.heap.size w w' := by
  obtain ⟨L, hL⟩ : ∃ L, s.data.toList = L := ⟨_, rfl⟩
  have hLl : L.length ≤ 1000000 := by rw [← hL, size_len]; exact hs
  have HP := Lib.hid (fun w => c_cutPre s ⟨#[98, 121, 116, 101, 115, 61]⟩ w)
  rw [hL] at HP
  rw [hL]
  obtain ⟨R, hR⟩ : ∃ R, bs (Lib.trimPrefix L (ByteArray.mk #[98, 121, 116, 101, 115, 61]).data.toList) = R := ⟨_, rfl⟩
  have hRd : R.data.toList = if asksL.isPrefixOf L = true then L.drop 6 else L := by rw [← hR, bs_data]; rfl
  have hRs : R.size ≤ 1000000 := by rw [← size_len, hRd]; split <;> (try rw [List.length_drop]) <;> omega
  rw [hR, show (ByteArray.mk #[98, 121, 116, 101, 115, 61]).data.toList = asksL from rfl] at HP
  have HC := Lib.hid (fun w hE => c_cutAt R 45 w hRs hE)
  have HE := Lib.hid (hE.below ((Below.refl _ _).alloc (Nat.le_refl _) (.cells #[.int .i64 0, .int .i64 0] 28)))
  have hok := askedSplit L
  rw [← hRd] at hok
  clear hE hR
  cases hp : asksL.isPrefixOf L with
  | false =>
    rw [hp] at HP hok
    have HA : Hid (askedE L = 4 ∧ askedA L = 0 ∧ askedB L = 0) := Lib.hid (by
      have : askedE L = 4 := by unfold askedE; rw [hok]; rfl
      unfold askedA askedB; rw [this]; exact ⟨rfl, rfl, rfl⟩)
    generalize bs (if hasB 45 R.data.toList = true then upTo 45 R.data.toList else R.data.toList) = X at HC
    generalize bs (if hasB 45 R.data.toList = true then behind 45 R.data.toList else []) = Y at HC
    generalize hasB 45 R.data.toList = B at HC
    clear hok hp hRd
    go_enter Tryz.func194, Tryz.ntmps194
    go_wp2_with fail
    refine (HP.out _).mono ?_
    rintro e w' ⟨rfl, rfl⟩
    go_wp2_with fail
    refine (HC.out _ HE.out).mono ?_
    rintro e w1 ⟨rfl, hb1⟩
    obtain ⟨k0, k1, f0, f1⟩ := two_of (two_box hb1)
    go_wp2_with fail
    refine ret_field (b := w.heap.size) (x := .int .i64 0) (y := .int .i64 0) rfl (load_range _ _ _ _ _ (two_set (two_box hb1) _ _)) rfl rfl rfl ?_
    refine ⟨?_, two_below (((Below.refl _ _).alloc (Nat.le_refl _) _).trans (hb1.mono (by simp))) _ (Nat.le_refl _) _ _⟩
    rw [HA.out.1, HA.out.2.1, HA.out.2.2]; rfl
  | true =>
    rw [hp] at HP hok
    rw [hp, if_pos rfl] at hRd
    rw [hRd] at HC
    rw [hRd] at hok
    cases hB : hasB 45 (L.drop 6) with
    | false =>
      rw [hB] at HC hok
      have HA : Hid (askedE L = 4 ∧ askedA L = 0 ∧ askedB L = 0) := Lib.hid (by
        have : askedE L = 4 := by unfold askedE; rw [hok]; rfl
        unfold askedA askedB; rw [this]; exact ⟨rfl, rfl, rfl⟩)
      rw [if_neg (by decide), if_neg (by decide)] at HC
      generalize bs (L.drop 6) = X at HC
      generalize bs [] = Y at HC
      clear hok hp hRd hB
      go_enter Tryz.func194, Tryz.ntmps194
      go_wp2_with fail
      refine (HP.out _).mono ?_
      rintro e w' ⟨rfl, rfl⟩
      go_wp2_with fail
      refine (HC.out _ HE.out).mono ?_
      rintro e w1 ⟨rfl, hb1⟩
      obtain ⟨k0, k1, f0, f1⟩ := two_of (two_box hb1)
      go_wp2_with fail
      refine ret_field (b := w.heap.size) (x := .int .i64 0) (y := .int .i64 0) rfl (load_range _ _ _ _ _ (two_set (two_box hb1) _ _)) rfl rfl rfl ?_
      refine ⟨?_, two_below (((Below.refl _ _).alloc (Nat.le_refl _) _).trans (hb1.mono (by simp))) _ (Nat.le_refl _) _ _⟩
      rw [HA.out.1, HA.out.2.1, HA.out.2.2]; rfl
    | true =>
      rw [hB] at HC hok
      rw [if_pos rfl, if_pos rfl] at HC
      obtain ⟨F, hF⟩ : ∃ F, upTo 45 (L.drop 6) = F := ⟨_, rfl⟩
      obtain ⟨T, hT⟩ : ∃ T, behind 45 (L.drop 6) = T := ⟨_, rfl⟩
      have hFl : F.length ≤ 1000000 := by rw [← hF]; have := upTo_le 45 (L.drop 6); rw [List.length_drop] at this; omega
      have hTl : T.length ≤ 1000000 := by rw [← hT]; unfold behind; rw [List.length_drop, List.length_drop]; omega
      have HA : Hid (askedE L = if twoE F T ≠ 0 then twoE F T else rErr (numV F : Nat) (numV T : Nat)) := Lib.hid (by
        unfold askedE; rw [hok]
        rw [if_neg (by decide)]
        unfold askedF askedT
        rw [hF, hT])
      have HAV : Hid (askedF L = numV F ∧ askedT L = numV T) := Lib.hid (by unfold askedF askedT; rw [hF, hT]; exact ⟨rfl, rfl⟩)
      rw [hF, hT] at HC
      have hnum := ranges_numbers (xs := [F, T]) (hne := by simp) (hlen := by simp) (hx := by intro x hx; simp at hx; rcases hx with rfl | rfl <;> assumption)
      have HN := Lib.hid hnum
      clear hok hp hRd hB hF hT hnum
      by_cases hz : twoE F T = 0
      · have HZ : Hid (numsE [F, T] = 0 ∧ askedE L = rErr (numV F : Nat) (numV T : Nat)) := Lib.hid ⟨(twoE_nums F T).trans hz, by rw [HA.out, if_neg (fun h => h hz)]⟩
        have HF : Hid (∀ b, numV b ≤ 9007199254740991) := Lib.hid numV_le'
        obtain ⟨P, hP⟩ : ∃ P, numV F = P := ⟨_, rfl⟩
        obtain ⟨Q, hQ⟩ : ∃ Q, numV T = Q := ⟨_, rfl⟩
        have hPl := HF.out F
        have hQl := HF.out T
        rw [hP] at HZ HAV hPl
        rw [hQ] at HZ HAV hQl
        have HI : Hid ([F, T].map numV = [P, Q]) := Lib.hid (by rw [← hP, ← hQ]; rfl)
        have HCk := Lib.hid (fun w => ranges_check (P : Int) (Q : Int) w)
        clear hz HA HF hP hQ
        go_enter Tryz.func194, Tryz.ntmps194
        go_wp2_with fail
        refine (HP.out _).mono ?_
        rintro e w' ⟨rfl, rfl⟩
        go_wp2_with fail
        refine (HC.out _ HE.out).mono ?_
        rintro e w1 ⟨rfl, hb1⟩
        have hb1' := Lib.hid hb1
        have hbl : w.heap.size < w1.heap.size := by have := hb1.size; simp at this; omega
        clear hb1
        go_wp2_with fail
        have hS : HoldsS (w1.alloc (.cells #[.string (bs F), .string (bs T)] 9)) (.slice (some ⟨w1.heap.size, 0, none⟩) 2 2) [F, T] := HoldsS.of_block (heap_alloc_new _ _) rfl rfl
        have hbA : Below w1.heap.size w1 (w1.alloc (.cells #[.string (bs F), .string (bs T)] 9)) := (Below.refl _ _).alloc (Nat.le_refl _) _
        refine (HN.out _ _ hS ((HE.out.below hb1'.out).below hbA)).mono ?_
        rintro e w2 ⟨v, rfl, hI, hb2⟩
        rw [HZ.out.1]
        have hI2 := hI HZ.out.1
        rw [HI.out] at hI2
        obtain ⟨g, c, hv, -, hg, -, hcell⟩ := hI2
        have c0 := hcell 0 (by simp)
        have c1 := hcell 1 (by simp)
        have hv2 : v = .slice (some ⟨g, 0, none⟩) 2 c := hv
        clear hcell hv hI
        subst hv2
        have hb2' : Below (w.alloc (.cells #[.int .i64 0, .int .i64 0] 28)).heap.size (w.alloc (.cells #[.int .i64 0, .int .i64 0] 28)) w2 := bstep hb1'.out (bstep hbA hb2)
        clear hb2 hbA hS
        have HB2 := Lib.hid hb2'
        have hw2 : w.heap.size < w2.heap.size := by have := hb2'.size; simp at this; omega
        clear hb2'
        change w2.cell? ⟨g, 0, none⟩ = some (.int .i64 (P : Int)) at c0
        change w2.cell? ⟨g, 1, none⟩ = some (.int .i64 (Q : Int)) at c1
        go_wp2_with fail
        go_region
        all_goals go_wp2_with fail
        have hbR : Below w2.heap.size w2 (w2.alloc (.cells #[.int .i64 (P : Int), .int .i64 (Q : Int)] 28)).drew := ((Below.refl _ _).alloc (Nat.le_refl _) _).drew
        have hnR : (w2.alloc (.cells #[.int .i64 (P : Int), .int .i64 (Q : Int)] 28)).drew.heap[w2.heap.size]? = some (.cells #[.int .i64 (P : Int), .int .i64 (Q : Int)] 28 (0, 0)) := heap_alloc_new w2 _
        have hlR : w2.heap.size < (w2.alloc (.cells #[.int .i64 (P : Int), .int .i64 (Q : Int)] 28)).drew.heap.size := by simp
        refine (HCk.out _).mono ?_
        rintro e w3 ⟨rfl, hb3⟩
        obtain ⟨j0, j1, -, -⟩ := two_of ((hb3.block _ hlR).trans hnR)
        have hb3' : Below (w.alloc (.cells #[.int .i64 0, .int .i64 0] 28)).heap.size (w.alloc (.cells #[.int .i64 0, .int .i64 0] 28)) w3 := bstep HB2.out (bstep hbR hb3)
        obtain ⟨k0, k1, f0, f1⟩ := two_of (two_box hb3')
        clear hb3 hbR hnR hlR c0 c1
        have HB3 := Lib.hid hb3'
        clear hb3'
        by_cases hr : rErr (P : Int) (Q : Int) = 0
        · have HR : Hid (askedE L = 0 ∧ askedA L = (P : Int) ∧ askedB L = (Q : Int)) := Lib.hid (by
            have e1 : askedE L = 0 := by rw [HZ.out.2, hr]
            refine ⟨e1, ?_, ?_⟩
            · unfold askedA; rw [if_pos e1, HAV.out.1]
            · unfold askedB; rw [if_pos e1, HAV.out.2])
          rw [hr]
          clear hr
          go_wp2_with fail
          refine ret_field (b := w.heap.size) (x := .int .i64 (P : Int)) (y := .int .i64 (Q : Int)) rfl (load_range _ _ _ _ _ (two_set (two_box HB3.out) _ _)) rfl rfl rfl ?_
          refine ⟨?_, two_below (((Below.refl _ _).alloc (Nat.le_refl _) _).trans (HB3.out.mono (by simp))) _ (Nat.le_refl _) _ _⟩
          rw [HR.out.1, HR.out.2.1, HR.out.2.2]; rfl
        · have h8 := (rErr_no _ _ hr).1
          have HR : Hid (askedE L = 8 ∧ askedA L = 0 ∧ askedB L = 0) := Lib.hid (by
            have e1 : askedE L = 8 := by rw [HZ.out.2, h8]
            refine ⟨e1, ?_, ?_⟩
            · unfold askedA; rw [e1, if_neg (by decide)]
            · unfold askedB; rw [e1, if_neg (by decide)])
          rw [h8]
          clear hr h8
          go_wp2_with fail
          refine ret_field (b := w.heap.size) (x := .int .i64 0) (y := .int .i64 0) rfl (load_range _ _ _ _ _ (two_set (two_box HB3.out) _ _)) rfl rfl rfl ?_
          refine ⟨?_, two_below (((Below.refl _ _).alloc (Nat.le_refl _) _).trans (HB3.out.mono (by simp))) _ (Nat.le_refl _) _ _⟩
          rw [HR.out.1, HR.out.2.1, HR.out.2.2]; rfl
      · have HZ : Hid (numsE [F, T] = twoE F T ∧ askedE L = twoE F T ∧ askedA L = 0 ∧ askedB L = 0) := Lib.hid (by
          have e1 : askedE L = twoE F T := by rw [HA.out, if_pos hz]
          refine ⟨twoE_nums F T, e1, ?_, ?_⟩
          · unfold askedA; rw [e1, if_neg hz]
          · unfold askedB; rw [e1, if_neg hz])
        have tz : ((twoE F T : Int) != 0) = true := by rw [bne_iff_ne]; omega
        generalize twoE F T = Z at HZ tz
        clear hz HA HAV
        go_enter Tryz.func194, Tryz.ntmps194
        go_wp2_with fail
        refine (HP.out _).mono ?_
        rintro e w' ⟨rfl, rfl⟩
        go_wp2_with fail
        refine (HC.out _ HE.out).mono ?_
        rintro e w1 ⟨rfl, hb1⟩
        have hb1' := Lib.hid hb1
        have hbl : w.heap.size < w1.heap.size := by have := hb1.size; simp at this; omega
        clear hb1
        go_wp2_with fail
        have hS : HoldsS (w1.alloc (.cells #[.string (bs F), .string (bs T)] 9)) (.slice (some ⟨w1.heap.size, 0, none⟩) 2 2) [F, T] := HoldsS.of_block (heap_alloc_new _ _) rfl rfl
        have hbA : Below w1.heap.size w1 (w1.alloc (.cells #[.string (bs F), .string (bs T)] 9)) := (Below.refl _ _).alloc (Nat.le_refl _) _
        refine (HN.out _ _ hS ((HE.out.below hb1'.out).below hbA)).mono ?_
        rintro e w2 ⟨v, rfl, -, hb2⟩
        rw [HZ.out.1]
        have hb2' : Below (w.alloc (.cells #[.int .i64 0, .int .i64 0] 28)).heap.size (w.alloc (.cells #[.int .i64 0, .int .i64 0] 28)) w2 := bstep hb1'.out (bstep hbA hb2)
        obtain ⟨k0, k1, f0, f1⟩ := two_of (two_box hb2')
        clear hb2 hbA hS
        go_wp2_with fail
        refine ret_field (b := w.heap.size) (x := .int .i64 0) (y := .int .i64 0) rfl (load_range _ _ _ _ _ (two_set (two_box hb2') _ _)) rfl rfl rfl ?_
        refine ⟨?_, two_below (((Below.refl _ _).alloc (Nat.le_refl _) _).trans (hb2'.mono (by simp))) _ (Nat.le_refl _) _ _⟩
        rw [HZ.out.2.1, HZ.out.2.2.1, HZ.out.2.2.2]; rfl
end Go.Proofs.YtbdmmgmcbecolaaGreatDoor
namespace Go.Proofs.YtbdmmgmcbecolaaGreatDoor
open Go.RowKit

theorem textR_len (a b : Int) (ha : a ≤ 9223372036854775807) (hb : b ≤ 9223372036854775807) : (textR a b).length ≤ 41 := by
  unfold textR
  have h1 := digL_len a ha
  have h2 := digL_len b hb
  rw [List.length_append, List.length_cons]; omega
theorem box_two {w w1 : World} {x y : Value} {t : TypeId} (hb : Below (w.alloc (.cells #[x, y] t)).heap.size (w.alloc (.cells #[x, y] t)) w1) : w1.cell? ⟨w.heap.size, 0, none⟩ = some x ∧ w1.cell? ⟨w.heap.size, 1, none⟩ = some y :=
  ⟨(two_of (two_box hb)).c0, (two_of (two_box hb)).c1⟩
theorem below_agg2 (w : World) (x y : Value) (t : TypeId) : Below w.heap.size w (w.alloc (.cells #[x, y] t)) := (Below.refl _ _).alloc (Nat.le_refl _) _
theorem ask_ok (a b : Int) (h : rErr a b = 0) (X : ByteArray) (hX : bs (textR a b) = X) : (⟨#[98, 121, 116, 101, 115, 61]⟩ : ByteArray) ++ X = bs (askL a b) := by
  unfold askL
  rw [if_pos h, ← hX]
  exact bs_cat asksL (textR a b)
set_option maxRecDepth 100000 in
set_option maxHeartbeats 1000000 in
theorem ranges_ask (a b : Int) (w : World) (hE : EnvF w) (ha0 : -9223372036854775808 ≤ a) (ha : a ≤ 9223372036854775807) (hb0 : -9223372036854775808 ≤ b) (hb : b ≤ 9223372036854775807) :
    Calls Tryz.prog 59 #[.agg #[.int .i64 a, .int .i64 b]] w fun e w' => e = .returned (.tuple #[.string (bs (askL a b)), .int .i64 (rErr a b : Nat)]) ∧ Below w.heap.size w w' := by
  have HK := Lib.hid (fun w => ranges_check a b w)
  have HT := Lib.hid (fun w hE => ranges_text a b w hE ha0 ha hb0 hb)
  have HE := Lib.hid (hE.below (below_agg2 w (.int .i64 a) (.int .i64 b) 28))
  clear hE
  by_cases hr : rErr a b = 0
  · obtain ⟨X, hX⟩ : ∃ X, bs (textR a b) = X := ⟨_, rfl⟩
    have hXs : X.size ≤ 41 := by rw [← hX, bs_size]; exact textR_len a b ha hb
    have HR := Lib.hid (ask_ok a b hr X hX)
    rw [hX] at HT
    have padd := fun w => run_string_add_sum (P := Tryz.prog) w ⟨#[98, 121, 116, 101, 115, 61]⟩ X (by show 6 + _ ≤ _; omega)
    rw [hr]
    rw [hr] at HK
    clear hr hX
    go_enter Tryz.func59, Tryz.ntmps59
    go_wp2_with fail
    refine (HK.out _).mono ?_
    rintro e w1 ⟨rfl, hb1⟩
    obtain ⟨c0, c1⟩ := box_two hb1
    have HE1 := Lib.hid (HE.out.below hb1)
    have hb1' := bstep (below_agg2 w _ _ _) hb1
    clear hb1
    go_wp2_with fail
    refine (HT.out _ HE1.out).mono ?_
    rintro e w2 ⟨rfl, hb2⟩
    go_wp2_with fail
    go_ret2
    exact ⟨by rw [← HR.out]; rfl, bstep hb1' hb2⟩
  · obtain ⟨h8, -⟩ := rErr_no _ _ hr
    have HR : Hid (askL a b = []) := Lib.hid (by unfold askL; rw [if_neg hr])
    rw [h8]
    rw [h8] at HK
    clear hr h8 HT
    go_enter Tryz.func59, Tryz.ntmps59
    go_wp2_with fail
    refine (HK.out _).mono ?_
    rintro e w1 ⟨rfl, hb1⟩
    go_wp2_with fail
    go_ret2
    exact ⟨by rw [HR.out]; rfl, bstep (below_agg2 w _ _ _) hb1⟩
set_option maxRecDepth 100000 in
set_option maxHeartbeats 1000000 in
theorem ref_ask (a b : Int) (w : World) (ha : a ≤ 9223372036854775807) (hb : b ≤ 9223372036854775807) :
    Calls Tryz.prog 68 #[.agg #[.int .i64 a, .int .i64 b]] w fun e w' => e = .returned (.tuple #[.string (bs (askL a b)), .int .i64 (rErr a b : Nat)]) ∧ Below w.heap.size w w' := by
  have HK := Lib.hid (fun w => ref_rcheck a b w)
  by_cases hr : rErr a b = 0
  · have HA := Lib.hid (fun w => ref_digitsZ a w ha)
    have HB := Lib.hid (fun w => ref_digitsZ b w hb)
    obtain ⟨X, hX⟩ : ∃ X, bs (digL a) = X := ⟨_, rfl⟩
    obtain ⟨Y, hY⟩ : ∃ Y, bs (digL b) = Y := ⟨_, rfl⟩
    have hXs : X.size ≤ 20 := by rw [← hX, bs_size]; exact digL_len a ha
    have hYs : Y.size ≤ 20 := by rw [← hY, bs_size]; exact digL_len b hb
    have HR : Hid (((⟨#[98, 121, 116, 101, 115, 61]⟩ ++ X) ++ ⟨#[45]⟩) ++ Y = bs (askL a b)) := Lib.hid (by
      unfold askL
      rw [if_pos hr, ← hX, ← hY, show (⟨#[98, 121, 116, 101, 115, 61]⟩ : ByteArray) = bs asksL from rfl, show (⟨#[45]⟩ : ByteArray) = bs [45] from rfl, bs_cat, bs_cat, bs_cat]
      unfold textR; simp)
    rw [hX] at HA
    rw [hY] at HB
    have p1 := fun w => run_string_add_sum (P := Tryz.prog) w ⟨#[98, 121, 116, 101, 115, 61]⟩ X (by show 6 + _ ≤ _; omega)
    have p2 := fun w => run_string_add_sum (P := Tryz.prog) w (⟨#[98, 121, 116, 101, 115, 61]⟩ ++ X) ⟨#[45]⟩ (by rw [ByteArray.size_append]; show 6 + _ + 1 ≤ _; omega)
    have p3 := fun w => run_string_add_sum (P := Tryz.prog) w ((⟨#[98, 121, 116, 101, 115, 61]⟩ ++ X) ++ ⟨#[45]⟩) Y (by rw [ByteArray.size_append, ByteArray.size_append]; show 6 + _ + 1 + _ ≤ _; omega)
    rw [hr]
    rw [hr] at HK
    clear hr hX hY
    go_enter Tryz.func68, Tryz.ntmps68
    go_wp2_with fail
    refine (HK.out _).mono ?_
    rintro e w1 ⟨rfl, hb1⟩
    obtain ⟨c0, c1⟩ := box_two hb1
    have hbl : w.heap.size < w1.heap.size := by have := hb1.size; simp at this; omega
    have hb1' := Lib.hid (bstep (below_agg2 w _ _ _) hb1)
    clear hb1
    go_wp2_with fail
    have k0 : ∀ p : BelowOf w1, p.world.cell? ⟨w.heap.size, 0, none⟩ = some (.int .i64 a) := fun p => cell_of p hbl c0
    have k1 : ∀ p : BelowOf w1, p.world.cell? ⟨w.heap.size, 1, none⟩ = some (.int .i64 b) := fun p => cell_of p hbl c1
    clear c0 c1
    refine wp_region_quiet_below (by kernel_rfl) (by kernel_rfl) ?_
    repeat (go_big_quiet_step (fail))
    go_big_quiet_step ((go_at_call 95; exact below_same (HA.out _)))
    repeat (go_big_quiet_step (fail))
    go_big_quiet_step ((go_at_call 95; exact below_same (HB.out _)))
    repeat (go_big_quiet_step (fail))
    refine wpQuiet_nil ?_
    intro W1 hw'
    have hb2 := of_class hw'
    clear hw'
    go_wp2_with fail
    go_ret2
    exact ⟨by rw [← HR.out]; rfl, bstep hb1'.out hb2⟩
  · obtain ⟨h8, -⟩ := rErr_no _ _ hr
    have HR : Hid (askL a b = []) := Lib.hid (by unfold askL; rw [if_neg hr])
    rw [h8]
    rw [h8] at HK
    clear hr h8
    go_enter Tryz.func68, Tryz.ntmps68
    go_wp2_with fail
    refine (HK.out _).mono ?_
    rintro e w1 ⟨rfl, hb1⟩
    go_wp2_with fail
    go_ret2
    exact ⟨by rw [HR.out]; rfl, bstep (below_agg2 w _ _ _) hb1⟩
end Go.Proofs.YtbdmmgmcbecolaaGreatDoor
