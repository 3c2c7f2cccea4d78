/- Plain laws: numbers of digits (no program in sight). The number of the table of powers. What the library's variables hold, carried along a call. What Number and Digits of package fields return. Plain functions: ranges of bytes (no program in sight). Regions that draw their order, whose operations read and whose callees may lay blocks of their own: one walk. What titled of package fields returns: strings.Map with a closure that keeps a state. strings.Map with the closure of titled, at an ASCII text. titled, small. Plain laws for names and lines of fields. Plain functions: what a field's line is parsed as (no program in sight). What Parse of package fields returns. Slices of fields in memory; what Get of package fields returns. A number's digits, as the reference lays them. What the law's Own and the reference's Get, Number and Digits of fields return. What Check and text of package ranges, and Check of its reference return. What numbers of package ranges returns. What Asked of package ranges returns. What Ask of package ranges, and Ask, cut, two and Asked of its reference return. -/
import Derived.Test.YtdihhbkajcngeaaGreatDoorPa1
import Derived.Lib.AtoiAll
import Derived.Lib.ItoaNum
import Derived.Test.YtdihhbkajcngeaaGreatDoorProg
import GoSem.Claims
import Derived.KernelRfl
import Derived.Shelf.Unicode.DecodeSlow
import Derived.Lib.LaidTab
import Derived.WalkSmall
import Derived.Shelf.Strings.MapAny
import Derived.Shelf.Strconv.AtoiAll
import Derived.Sort.Grow
import Derived.Lib.AtoiErrMem
import Derived.Lib.IndexMore
import Derived.BigQuiet
import Derived.OneCell
import Derived.Shelf.Strings.BuilderCap
import Derived.Deep.LoopGhost
import Derived.Deep.DeepMust
import Derived.Deep.DeepFit
import Derived.Deep.DeepCutAuto
import Derived.Lib.SlTrimSet
import Derived.Lib.MapLaws
import Derived.Lib.TrimAscii
import Derived.Shelf.Strings.SlTrimAscii
import Derived.Laws.ResultCell
import Derived.Laws.Rows
import Derived.Laws.NewBlocks
set_option linter.unusedVariables false
namespace Go.Proofs.YtdihhbkajcngeaaGreatDoor
open Go.RowKit

def stepD (n : Nat) (c : UInt8) : Nat := n * 10 + (c.toNat - 48)
/-- the number that digits spell -/
def decV (l : List UInt8) : Nat := l.foldl stepD 0
def digAll (l : List UInt8) : Bool := l.all (fun c => digN c.toNat)
def lead0 (l : List UInt8) : Bool := decide (1 < l.length) && l.head? == some 48
def numBad (l : List UInt8) : Bool := l.isEmpty || !digAll l || lead0 l
def numE (l : List UInt8) : Nat := if numBad l = true then 4 else if 9007199254740991 < decV l then 11 else 0
def numV (l : List UInt8) : Nat := if numE l = 0 then decV l else 0

theorem digN_bd (n : Nat) (h : digN n = true) : 48 ≤ n ∧ n ≤ 57 := by
  unfold digN at h; simp only [Bool.and_eq_true, decide_eq_true_eq] at h; exact h
theorem digN_not (n : Nat) (h : digN n = false) : n < 48 ∨ 57 < n := by
  unfold digN at h; simp only [Bool.and_eq_false_iff, decide_eq_false_iff_not] at h; omega
theorem digN_mk (n : Nat) (h : 48 ≤ n) (h2 : n ≤ 57) : digN n = true := by
  unfold digN; rw [decide_eq_true h, decide_eq_true h2]; rfl
theorem fold_ge (l : List UInt8) : ∀ acc, acc ≤ l.foldl stepD acc := by
  induction l with
  | nil => intro acc; exact Nat.le_refl _
  | cons c t ih => intro acc; refine Nat.le_trans ?_ (ih (stepD acc c)); unfold stepD; omega
theorem decV_snoc (l : List UInt8) (c : UInt8) : decV (l ++ [c]) = decV l * 10 + (c.toNat - 48) := by
  unfold decV; rw [List.foldl_append]; rfl
theorem decV_take_le (l : List UInt8) (k : Nat) : decV (l.take k) ≤ decV l := by
  have h : decV l = (l.drop k).foldl stepD (decV (l.take k)) := by
    unfold decV; rw [← List.foldl_append, List.take_append_drop]
  rw [h]; exact fold_ge _ _
theorem parse_dec (l : List UInt8) : ∀ acc, acc < 18446744073709551616 → digAll l = true → Go.Lib.parseUint10 acc l = if l.foldl stepD acc < 18446744073709551616 then .ok (l.foldl stepD acc) else .range := by
  induction l with
  | nil => intro acc h _; show Go.Lib.NumEnd.ok acc = if acc < 18446744073709551616 then Go.Lib.NumEnd.ok acc else _; rw [if_pos h]
  | cons c t ih =>
    intro acc h hd
    have hc : digN c.toNat = true ∧ digAll t = true := by unfold digAll at hd; rw [List.all_cons, Bool.and_eq_true] at hd; exact hd
    have hb := digN_bd _ hc.1
    have hg := fold_ge t (stepD acc c)
    show (if 48 ≤ c.toNat ∧ c.toNat ≤ 57 then _ else _) = _
    rw [if_pos hb]
    have e : (c :: t).foldl stepD acc = t.foldl stepD (stepD acc c) := rfl
    rw [e]
    have es : stepD acc c = acc * 10 + (c.toNat - 48) := rfl
    by_cases h1 : 1844674407370955162 ≤ acc
    · rw [if_pos h1, if_neg (by omega)]
    · rw [if_neg h1]
      by_cases h2 : 18446744073709551616 ≤ acc * 10 + (c.toNat - 48)
      · rw [if_pos h2, if_neg (by omega)]
      · rw [if_neg h2]
        exact ih (stepD acc c) (by omega) hc.2
theorem atoi_dec (l : List UInt8) (h0 : l ≠ []) (hd : digAll l = true) : Go.Lib.atoiAll l = if decV l < 9223372036854775808 then .ok (decV l : Int) else .range := by
  cases l with
  | nil => exact absurd rfl h0
  | cons c t =>
    have hc : digN c.toNat = true := by unfold digAll at hd; rw [List.all_cons, Bool.and_eq_true] at hd; exact hd.1
    have hb := digN_bd _ hc
    have hp := parse_dec (c :: t) 0 (by decide) hd
    change Go.Lib.parseUint10 0 (c :: t) = if decV (c :: t) < _ then .ok (decV (c :: t)) else _ at hp
    unfold Go.Lib.atoiAll
    simp only []
    rw [if_neg (show ¬ (c.toNat = 43 ∨ c.toNat = 45) by omega)]
    unfold Go.Lib.parseMag
    rw [if_neg (by simp), hp]
    by_cases h1 : decV (c :: t) < 18446744073709551616
    · rw [if_pos h1]
      by_cases h2 : decV (c :: t) < 9223372036854775808
      · simp only []
        rw [if_pos h2, if_neg (by omega), if_neg (by omega), if_neg (by omega)]
      · simp only []
        rw [if_neg h2, if_pos (by omega)]
    · rw [if_neg h1, if_neg (by omega)]

/-- a number's digits: all digits, no zero ahead of others, and they tell it -/
theorem dec_digit (k : Nat) (h : k < 10) : (UInt8.ofNat (48 + k)).toNat = 48 + k := by
  rw [UInt8.toNat_ofNat']; omega
theorem decDigits_ne (n : Nat) : Go.Lib.decDigits n ≠ [] := by
  rw [Go.Lib.decDigits]; split <;> simp
theorem decDigits_all (n : Nat) : digAll (Go.Lib.decDigits n) = true := by
  induction n using Nat.strongRecOn with
  | ind n ih =>
    rw [Go.Lib.decDigits]
    split
    · rename_i h
      unfold digAll; rw [List.all_cons, dec_digit n h, digN_mk _ (by omega) (by omega)]; rfl
    · have := ih (n / 10) (by omega)
      unfold digAll at this ⊢
      rw [List.all_append, this, List.all_cons, dec_digit (n % 10) (by omega), digN_mk _ (by omega) (by omega)]; rfl
theorem decV_decDigits (n : Nat) : decV (Go.Lib.decDigits n) = n := by
  induction n using Nat.strongRecOn with
  | ind n ih =>
    rw [Go.Lib.decDigits]
    split
    · rename_i h
      show stepD 0 _ = n
      unfold stepD; rw [dec_digit n h]; omega
    · rw [decV_snoc, ih (n / 10) (by omega), dec_digit (n % 10) (by omega)]; omega
theorem decDigits_head (n : Nat) (h : 0 < n) : ∀ c, (Go.Lib.decDigits n).head? = some c → c ≠ 48 := by
  induction n using Nat.strongRecOn with
  | ind n ih =>
    intro c
    rw [Go.Lib.decDigits]
    split
    · rename_i h10
      intro e hc
      simp only [List.head?_cons, Option.some.injEq] at e
      have := dec_digit n h10
      rw [e, hc] at this
      have : (48 : UInt8).toNat = 48 := rfl
      omega
    · intro e
      have hn := decDigits_ne (n / 10)
      refine ih (n / 10) (by omega) (by omega) c ?_
      rw [← e]
      cases hd : Go.Lib.decDigits (n / 10) with
      | nil => exact absurd hd hn
      | cons a t => rfl
theorem numBad_dec (n : Nat) : numBad (Go.Lib.decDigits n) = false := by
  unfold numBad
  rw [decDigits_all]
  have h1 : (Go.Lib.decDigits n).isEmpty = false := by
    rw [Bool.eq_false_iff, Ne, List.isEmpty_iff]; exact decDigits_ne n
  rw [h1]
  unfold lead0
  by_cases h0 : n < 10
  · rw [Go.Lib.decDigits, dif_pos h0]; rfl
  · have : ((Go.Lib.decDigits n).head? == some 48) = false := by
      rw [beq_eq_false_iff_ne]; intro e; exact decDigits_head n (by omega) 48 e rfl
    rw [this, Bool.and_false]; rfl
/-- digits without a zero ahead are the digits of their number -/
theorem lead0_snoc (l : List UInt8) (c : UInt8) (h : lead0 (l ++ [c]) = false) (h0 : l ≠ []) : l.head? ≠ some 48 := by
  intro e
  unfold lead0 at h
  cases l with
  | nil => exact h0 rfl
  | cons a t =>
    simp at e
    subst e
    simp at h
theorem decDigits_pos (l : List UInt8) (h0 : l ≠ []) (hd : digAll l = true) (hl : l.head? ≠ some 48) : 0 < decV l := by
  cases l with
  | nil => exact absurd rfl h0
  | cons c t =>
    have hc : digN c.toNat = true := by unfold digAll at hd; rw [List.all_cons, Bool.and_eq_true] at hd; exact hd.1
    have hb := digN_bd _ hc
    have hne : c.toNat ≠ 48 := by
      intro e; apply hl; rw [List.head?_cons]; congr 1; exact UInt8.toNat_inj.1 e
    have := fold_ge t (stepD 0 c)
    have e : decV (c :: t) = t.foldl stepD (stepD 0 c) := rfl
    have es : stepD 0 c = 0 * 10 + (c.toNat - 48) := rfl
    omega
theorem decDigits_decV (l : List UInt8) (k : Nat) : l.length ≤ k → numBad l = false → Go.Lib.decDigits (decV l) = l := by
  induction k generalizing l with
  | zero =>
    intro hk hb
    have : l = [] := List.length_eq_zero_iff.1 (by omega)
    subst this; simp [numBad] at hb
  | succ k ih =>
    intro hk hb
    unfold numBad at hb
    simp only [Bool.or_eq_false_iff, Bool.not_eq_false'] at hb
    obtain ⟨⟨h1, h2⟩, h3⟩ := hb
    have hne : l ≠ [] := by intro e; rw [e] at h1; exact absurd h1 (by decide)
    obtain ⟨t, c, rfl⟩ : ∃ t c, l = t ++ [c] := ⟨l.dropLast, l.getLast hne, (List.dropLast_concat_getLast hne).symm⟩
    have hc : digAll t = true ∧ digN c.toNat = true := by
      unfold digAll at h2 ⊢; rw [List.all_append, Bool.and_eq_true, List.all_cons, Bool.and_eq_true] at h2; exact ⟨h2.1, h2.2.1⟩
    have hb := digN_bd _ hc.2
    have ec : UInt8.ofNat (48 + (c.toNat - 48)) = c := by
      rw [show 48 + (c.toNat - 48) = c.toNat by omega]; exact UInt8.ofNat_toNat
    rw [decV_snoc]
    by_cases ht : t = []
    · subst ht
      show Go.Lib.decDigits (0 * 10 + (c.toNat - 48)) = [c]
      rw [Go.Lib.decDigits, dif_pos (by omega), Nat.zero_mul, Nat.zero_add, ec]
    · have hl := lead0_snoc t c h3 ht
      have hp := decDigits_pos t ht hc.1 hl
      have hbt : numBad t = false := by
        unfold numBad lead0
        rw [hc.1, (by rw [Bool.eq_false_iff, Ne, List.isEmpty_iff]; exact ht : t.isEmpty = false), (by rw [beq_eq_false_iff_ne]; exact hl : (t.head? == some 48) = false), Bool.and_false]; rfl
      rw [Go.Lib.decDigits, dif_neg (by omega), show (decV t * 10 + (c.toNat - 48)) / 10 = decV t by omega, show (decV t * 10 + (c.toNat - 48)) % 10 = c.toNat - 48 by omega, ec, ih t (by simp at hk; omega) hbt]
end Go.Proofs.YtdihhbkajcngeaaGreatDoor
namespace Go.Proofs.YtdihhbkajcngeaaGreatDoor
theorem g_pow10 : Tryz.prog.globalNamed "internal/strconv.uint64pow10" = some 5 := by kernel_rfl
end Go.Proofs.YtdihhbkajcngeaaGreatDoor
namespace Go.Proofs.YtdihhbkajcngeaaGreatDoor
open Go.RowKit

/-- what the library's variables hold, carried along a call -/
structure EnvF (w : World) : Prop where
  m : ∃ m, w.cell? ⟨2, 0, none⟩ = some (.int .i64 m)
  mlt : 2 < w.heap.size
  tabs : Lib.Utf8Tabs 3 4 w
  pow : Go.Lib.TabIs Tryz.prog w "internal/strconv.uint64pow10" .u64 Go.Lib.pow10Tab
  big : 5 < w.heap.size
  rng : ∃ tp p, w.cell? ⟨1, 0, none⟩ = some (.iface tp p)
  rlt : 1 < w.heap.size
theorem EnvF.below {w w' : World} (h : EnvF w) (hb : Below w.heap.size w w') : EnvF w' :=
  ⟨let ⟨m, hm⟩ := h.m; ⟨m, (hb.cell (p := ⟨2, 0, none⟩) h.mlt).trans hm⟩, Nat.lt_of_lt_of_le h.mlt hb.size, Utf8Tabs_below h.tabs hb, var?_below hb g_pow10 h.big h.pow, Nat.lt_of_lt_of_le h.big hb.size,
   let ⟨t, p, hp⟩ := h.rng; ⟨t, p, (hb.cell (p := ⟨1, 0, none⟩) h.rlt).trans hp⟩, Nat.lt_of_lt_of_le h.rlt hb.size⟩

end Go.Proofs.YtdihhbkajcngeaaGreatDoor
namespace Go.Proofs.YtdihhbkajcngeaaGreatDoor
open Go.RowKit

theorem c_itoa (n : Int) (h0 : -9223372036854775808 ≤ n) (h1 : n ≤ 9223372036854775807) (w : World) (hE : EnvF w) :
    Calls Tryz.prog 117 #[.int .i64 n] w fun e w' => e = .returned (.string (bs (Go.Lib.itoa n))) ∧ Below w.heap.size w w' :=
  (Tryz.strconv_Itoa n h0 h1 w hE.pow).mono fun _ _ ⟨he, k, os, hw⟩ => ⟨he, hw ▸ ⟨rfl, rfl, rfl, by
    show w.heap.size ≤ (w.heap ++ os).size
    simp, fun j hj => by
    show (w.heap ++ os)[j]? = w.heap[j]?
    rw [Array.getElem?_append_left hj]⟩⟩
theorem c_atoi_ok (s : ByteArray) (hs : s.size ≤ 1000000) (v : Int) (h : Go.Lib.atoiAll s.data.toList = .ok v) (w : World) :
    Calls Tryz.prog 64 #[.string s] w fun e w' => e = .returned (.tuple #[.int .i64 v, .nilIface]) ∧ Below w.heap.size w w' :=
  (Tryz.strconv_Atoi_ok s (by omega) v h w).mono fun _ _ ⟨he, hw⟩ => ⟨he, by
    rcases hw with rfl | ⟨t, rfl⟩
    · exact Below.refl _ _
    · exact Go.Lib.bytesWorld_below _ _ _⟩
def NumErr (w : World) (e : Ending) (w' : World) : Prop := ∃ n t a, e = .returned (.tuple #[.int .i64 n, .iface t (.pointer (some a))]) ∧ Below w.heap.size w w'
theorem c_atoi_range (s : ByteArray) (hs : s.size ≤ 1000000) (h : Go.Lib.atoiAll s.data.toList = .range) (w : World) (hE : EnvF w) :
    Calls Tryz.prog 64 #[.string s] w (NumErr w) := by
  obtain ⟨tp, p, hv⟩ := hE.rng
  exact (Tryz.strconv_Atoi_range s (by omega) h _ w hv (.inr ⟨tp, p, rfl⟩)).mono fun _ _ ⟨N, he, _, _, hb⟩ => ⟨_, _, _, he, hb⟩

/-- a number's digits; of none below 0 -/
def digL (n : Int) : List UInt8 := if n < 0 then [] else Go.Lib.decDigits n.toNat
theorem numE_bad (l : List UInt8) (h : numBad l = true) : numE l = 4 ∧ numV l = 0 := by
  have h1 : numE l = 4 := if_pos h
  exact ⟨h1, by unfold numV; rw [h1]; rfl⟩
theorem numE_over (l : List UInt8) (h : numBad l = false) (h2 : 9007199254740991 < decV l) : numE l = 11 ∧ numV l = 0 := by
  have h1 : numE l = 11 := by unfold numE; rw [h, if_neg (by decide), if_pos h2]
  exact ⟨h1, by unfold numV; rw [h1]; rfl⟩
theorem numE_ok (l : List UInt8) (h : numBad l = false) (h2 : ¬ 9007199254740991 < decV l) : numE l = 0 ∧ numV l = decV l := by
  have h1 : numE l = 0 := by unfold numE; rw [h, if_neg (by decide), if_neg h2]
  exact ⟨h1, by unfold numV; rw [h1]; rfl⟩
theorem ret_nums {a a' b b' : Int} (h : a = a') (h2 : b = b') : Ending.returned (.tuple #[.int .i64 a, .int .i64 b]) = .returned (.tuple #[.int .i64 a', .int .i64 b']) := by rw [h, h2]
theorem lead0_size (s : ByteArray) (h : 1 < s.size) (h2 : s[0] = 48) : lead0 s.data.toList = true := by
  unfold lead0
  rw [size_len, decide_eq_true h, List.head?_eq_getElem?, List.getElem?_eq_getElem (by rw [size_len]; omega)]
  show ((some s[0]) == some 48) = true
  rw [h2]; rfl
theorem lead0_not (s : ByteArray) (h : ¬ ∃ h : 1 < s.size, s[0] = 48) : lead0 s.data.toList = false := by
  unfold lead0
  by_cases h1 : 1 < s.size
  · rw [size_len, decide_eq_true h1, List.head?_eq_getElem?, List.getElem?_eq_getElem (by rw [size_len]; omega)]
    show (true && (some s[0]) == some 48) = false
    rw [Bool.true_and, beq_eq_false_iff_ne]
    intro e
    exact h ⟨h1, Option.some.inj e⟩
  · rw [size_len, decide_eq_false h1]; rfl

set_option maxRecDepth 100000 in
set_option maxHeartbeats 2000000 in
theorem fields_number (s : ByteArray) (w : World) (hs : s.size ≤ 1000000) (hE : EnvF w) :
    Calls Tryz.prog 52 #[.string s] w fun e w' => e = .returned (.tuple #[.int .i64 (numV s.data.toList), .int .i64 (numE s.data.toList)]) ∧ Below w.heap.size w w' := by
  have HE := Lib.hid hE
  clear hE
  obtain ⟨l, hl⟩ : ∃ l, l = s.data.toList := ⟨_, rfl⟩
  have hsl : l.length = s.size := by rw [hl]; exact size_len s
  have HA := Lib.hid (fun w => fields_all_digit s w)
  have hlead1 := fun h h2 => lead0_size s h h2
  have hlead2 := fun h => lead0_not s h
  have hok := fun v (h : Go.Lib.atoiAll s.data.toList = .ok v) w => c_atoi_ok s hs v h w
  have hrg := fun (h : Go.Lib.atoiAll s.data.toList = .range) w hE => c_atoi_range s hs h w hE
  rw [← hl] at HA hlead1 hlead2 hok hrg ⊢
  by_cases h0 : s.size = 0
  · have H := Lib.hid (numE_bad l (by rw [List.length_eq_zero_iff.1 (show l.length = 0 by omega)]; rfl))
    have t : s.toList.isEmpty = true := by
      rw [ByteArray.toList_eq, List.isEmpty_iff]; exact List.length_eq_zero_iff.1 (by rw [size_len]; exact h0)
    clear hl hsl hlead1 hlead2 hok hrg h0
    go_enter Tryz.func52, Tryz.ntmps52
    go_wp2_with fail
    go_ret2
    exact ⟨ret_nums (by rw [H.out.2]; rfl) (by rw [H.out.1]; rfl), Below.refl _ _⟩
  · have t : s.toList.isEmpty = false := by
      rw [ByteArray.toList_eq, Bool.eq_false_iff, Ne, List.isEmpty_iff]; intro e; exact h0 (by rw [← size_len, e]; rfl)
    have he : l.isEmpty = false := by rw [hl, ← ByteArray.toList_eq]; exact t
    have hne : l ≠ [] := by intro e; rw [e] at he; exact absurd he (by decide)
    have hpos : 0 < s.size := by omega
    clear h0 hl
    cases hd : l.all (fun c => digN c.toNat) with
    | false =>
      have H := Lib.hid (numE_bad l (by unfold numBad digAll; rw [hd]; simp))
      rw [hd] at HA
      clear hsl hlead1 hlead2 hok hrg hd he hne
      go_enter Tryz.func52, Tryz.ntmps52
      go_wp2_with fail
      refine (HA.out _).mono ?_
      rintro e w1 ⟨rfl, hb⟩
      go_wp2_with fail
      go_ret2
      exact ⟨ret_nums (by rw [H.out.2]; rfl) (by rw [H.out.1]; rfl), hb⟩
    | true =>
      rw [hd] at HA
      have hda : digAll l = true := hd
      by_cases h1 : ∃ h : 1 < s.size, s[0] = 48
      · obtain ⟨h1, h48⟩ := h1
        have H := Lib.hid (numE_bad l (by unfold numBad; rw [hlead1 h1 h48, Bool.or_true]))
        have t1 : ((s[0].toNat : Int) == 48) = true := by rw [h48]; rfl
        clear hsl hlead1 hlead2 hok hrg hd he hne hda h48
        go_enter Tryz.func52, Tryz.ntmps52
        go_wp2_with fail
        refine (HA.out _).mono ?_
        rintro e w1 ⟨rfl, hb⟩
        go_wp2_with fail
        go_ret2
        exact ⟨ret_nums (by rw [H.out.2]; rfl) (by rw [H.out.1]; rfl), hb⟩
      · have hbad : numBad l = false := by unfold numBad; rw [he, hda, hlead2 h1]; rfl
        have hat := atoi_dec l hne hda
        have hov := numE_over l hbad
        have hkk := numE_ok l hbad
        by_cases h2 : 1 < s.size
        case' pos =>
          have t1 : ((s[0].toNat : Int) == 48) = false := by
            rw [beq_eq_false_iff_ne]; intro e; exact h1 ⟨h2, UInt8.toNat_inj.1 (by show _ = 48; omega)⟩
        case' neg =>
          have t1 : decide ((s.size : Int) > 1) = false := decide_eq_false (by omega)
        all_goals
          by_cases hbig : decV l < 9223372036854775808
          · rw [if_pos hbig] at hat
            have HK := Lib.hid (fun w => hok _ hat w)
            obtain ⟨n, hn⟩ : ∃ n, n = decV l := ⟨_, rfl⟩
            rw [← hn] at HK hov hkk
            clear hsl hlead1 hlead2 hok hrg hd he hne hda hat hbig hn h1 hbad
            by_cases hm : 9007199254740991 < n
            · have H := Lib.hid (hov hm)
              have t2 : decide ((n : Int) > 9007199254740991) = true := decide_eq_true (by omega)
              clear hov hkk hm
              go_enter Tryz.func52, Tryz.ntmps52
              go_wp2_with fail
              refine (HA.out _).mono ?_
              rintro e w1 ⟨rfl, hb⟩
              go_wp2_with fail
              refine (HK.out _).mono ?_
              rintro e w2 ⟨rfl, hb2⟩
              go_wp2_with fail
              go_ret2
              exact ⟨ret_nums (by rw [H.out.2]; rfl) (by rw [H.out.1]; rfl), bstep hb hb2⟩
            · have H := Lib.hid (hkk hm)
              have t2 : decide ((n : Int) > 9007199254740991) = false := decide_eq_false (by omega)
              clear hov hkk hm
              go_enter Tryz.func52, Tryz.ntmps52
              go_wp2_with fail
              refine (HA.out _).mono ?_
              rintro e w1 ⟨rfl, hb⟩
              go_wp2_with fail
              refine (HK.out _).mono ?_
              rintro e w2 ⟨rfl, hb2⟩
              go_wp2_with fail
              go_ret2
              exact ⟨ret_nums (by rw [H.out.2]) (by rw [H.out.1]; rfl), bstep hb hb2⟩
          · rw [if_neg hbig] at hat
            have HK := Lib.hid (hrg hat)
            have H := Lib.hid (hov (by omega))
            clear hsl hlead1 hlead2 hok hrg hd he hne hda hat hbig h1 hbad hov hkk
            go_enter Tryz.func52, Tryz.ntmps52
            go_wp2_with fail
            refine (HA.out _).mono ?_
            rintro e w1 ⟨rfl, hb⟩
            go_wp2_with fail
            refine (HK.out _ (HE.out.below hb)).mono ?_
            rintro e w2 ⟨n, t, a, rfl, hb2⟩
            go_wp2_with fail
            go_ret2
            exact ⟨ret_nums (by rw [H.out.2]; rfl) (by rw [H.out.1]; rfl), bstep hb hb2⟩
end Go.Proofs.YtdihhbkajcngeaaGreatDoor
namespace Go.Proofs.YtdihhbkajcngeaaGreatDoor
open Go.RowKit

def mostR : Int := 9007199254740990
/-- may a range be? 8: it may not -/
def rErr (a b : Int) : Nat := if a < 0 ∨ b < a ∨ 9007199254740990 < b then 8 else 0
def rLen (a b : Int) : Int := if rErr a b = 0 then b - a + 1 else 0
theorem rErr_ok (a b : Int) (h : rErr a b = 0) : 0 ≤ a ∧ a ≤ b ∧ b ≤ 9007199254740990 := by
  unfold rErr at h; split at h
  · exact absurd h (by decide)
  · omega
theorem rErr_no (a b : Int) (h : rErr a b ≠ 0) : rErr a b = 8 ∧ (a < 0 ∨ b < a ∨ 9007199254740990 < b) := by
  unfold rErr at h ⊢; split at h
  · rename_i hc; exact ⟨if_pos hc, hc⟩
  · exact absurd rfl h
def asksL : List UInt8 := [98, 121, 116, 101, 115, 61]
def tellsL : List UInt8 := [98, 121, 116, 101, 115, 32]
def textR (a b : Int) : List UInt8 := digL a ++ 45 :: digL b
def askL (a b : Int) : List UInt8 := if rErr a b = 0 then asksL ++ textR a b else []
/-- what stands ahead of a byte -/
def upTo (c : UInt8) (l : List UInt8) : List UInt8 := l.takeWhile (fun x => x != c)
def hasB (c : UInt8) (l : List UInt8) : Bool := decide ((upTo c l).length < l.length)
def behind (c : UInt8) (l : List UInt8) : List UInt8 := l.drop ((upTo c l).length + 1)
theorem upTo_le (c : UInt8) (l : List UInt8) : (upTo c l).length ≤ l.length := (List.takeWhile_prefix _).length_le
theorem upTo_take (c : UInt8) (l : List UInt8) : l.take (upTo c l).length = upTo c l := (List.prefix_iff_eq_take.1 (List.takeWhile_prefix _)).symm
theorem index_one (c : UInt8) (l : List UInt8) : Go.Lib.index l [c] = if (upTo c l).length < l.length then ((upTo c l).length : Int) else -1 := by
  induction l with
  | nil => rfl
  | cons d t ih =>
    unfold Go.Lib.index
    by_cases hc : d = c
    · subst hc
      have : upTo d (d :: t) = [] := by unfold upTo; rw [List.takeWhile_cons_of_neg (by simp)]
      rw [this, if_pos (by simp [List.isPrefixOf]), if_pos (by simp)]; rfl
    · have ha : upTo c (d :: t) = d :: upTo c t := by unfold upTo; rw [List.takeWhile_cons_of_pos (by simpa using hc)]
      rw [if_neg (by simp [List.isPrefixOf]; exact fun h => hc h.symm), ih, ha]
      by_cases hlt : (upTo c t).length < t.length
      · rw [if_pos hlt, if_neg (by rw [beq_iff_eq]; omega), if_pos (by simp; omega)]; simp
      · rw [if_neg hlt, if_pos (by decide), if_neg (by simp; omega)]
theorem cut_one (c : UInt8) (l : List UInt8) : Go.Lib.cut l [c] = if hasB c l = true then (upTo c l, behind c l, true) else (l, [], false) := by
  unfold Go.Lib.cut hasB behind
  rw [index_one]
  by_cases hlt : (upTo c l).length < l.length
  · rw [if_pos hlt, if_pos (by omega), decide_eq_true hlt, if_pos rfl, Int.toNat_natCast, upTo_take]; rfl
  · rw [if_neg hlt, if_neg (by decide), decide_eq_false hlt, if_neg (by decide)]
/-- two numbers: the error of the first that is none -/
def twoE (a b : List UInt8) : Nat := if numE a ≠ 0 then numE a else numE b
/-- what is asked for: from, to, the error -/
def askedOk (l : List UInt8) : Bool := asksL.isPrefixOf l && hasB 45 (l.drop 6)
def askedF (l : List UInt8) : Nat := numV (upTo 45 (l.drop 6))
def askedT (l : List UInt8) : Nat := numV (behind 45 (l.drop 6))
def askedE (l : List UInt8) : Nat := if askedOk l = false then 4 else if twoE (upTo 45 (l.drop 6)) (behind 45 (l.drop 6)) ≠ 0 then twoE (upTo 45 (l.drop 6)) (behind 45 (l.drop 6)) else rErr (askedF l) (askedT l)
def askedA (l : List UInt8) : Int := if askedE l = 0 then (askedF l : Int) else 0
def askedB (l : List UInt8) : Int := if askedE l = 0 then (askedT l : Int) else 0
/-- what is told of so many bytes -/
def toldE (a b t : Int) : Nat := if rErr a b ≠ 0 then rErr a b else if t ≤ b ∨ 9007199254740991 < t then 8 else 0
def toldL (a b t : Int) : List UInt8 := if toldE a b t = 0 then tellsL ++ textR a b ++ 47 :: digL t else []
def tellOk (l : List UInt8) : Bool := tellsL.isPrefixOf l && hasB 45 (l.drop 6) && hasB 47 (behind 45 (l.drop 6))
def tellF (l : List UInt8) : Nat := numV (upTo 45 (l.drop 6))
def tellT (l : List UInt8) : Nat := numV (upTo 47 (behind 45 (l.drop 6)))
def tellN (l : List UInt8) : Nat := numV (behind 47 (behind 45 (l.drop 6)))
def threeE (a b c : List UInt8) : Nat := if numE a ≠ 0 then numE a else if numE b ≠ 0 then numE b else numE c
def tellE (l : List UInt8) : Nat := if tellOk l = false then 4 else if threeE (upTo 45 (l.drop 6)) (upTo 47 (behind 45 (l.drop 6))) (behind 47 (behind 45 (l.drop 6))) ≠ 0 then threeE (upTo 45 (l.drop 6)) (upTo 47 (behind 45 (l.drop 6))) (behind 47 (behind 45 (l.drop 6)))
  else toldE (tellF l) (tellT l) (tellN l)
def tellA (l : List UInt8) : Int := if tellE l = 0 then (tellF l : Int) else 0
def tellB (l : List UInt8) : Int := if tellE l = 0 then (tellT l : Int) else 0
def tellC (l : List UInt8) : Int := if tellE l = 0 then (tellN l : Int) else 0
/-- a range cut to what there is -/
def clipE (a b t : Int) : Nat := if rErr a b ≠ 0 then rErr a b else if t ≤ a then 8 else 0
def clipA (a b t : Int) : Int := if clipE a b t = 0 then a else 0
def clipB (a b t : Int) : Int := if clipE a b t = 0 then (if b < t - 1 then b else t - 1) else 0
end Go.Proofs.YtdihhbkajcngeaaGreatDoor
namespace Go.Proofs.YtdihhbkajcngeaaGreatDoor
open Go.RowKit

/-- a world that has come of w by reading, drawing and laying blocks -/
structure BelowOf (w : World) where
  world : World
  below : Below w.heap.size w world
instance (w : World) : Inhabited (BelowOf w) := ⟨⟨w, Below.refl _ _⟩⟩
theorem wp_region_quiet_below {P : Program} {id : Nat} {Q : Exit → Act → World → Prop} {a : Act} {w : World} {l : List Oper} (hm : P.follows .mixedOrders = true) (hB : Region.lexB .any l.toArray = true)
    (h : wpQuiet P l.toArray (fun w' => ∃ p : BelowOf w, w' = p.world) (fun a' => ∀ w', (∃ p : BelowOf w, w' = p.world) → Q .normal a' w') l a) : (Code.region id l.toArray true).wp P Q a w :=
  wp_region_quiet (C := fun w' => ∃ p : BelowOf w, w' = p.world) hm hB ⟨⟨w.drew, (Below.refl _ _).drew⟩, rfl⟩ (by simpa using h)
theorem below_of {P : Program} {f : FuncId} {args : Array Value} {w : World} {p : BelowOf w} {v : Value}
    (h : Calls P f args p.world fun e w' => e = .returned v ∧ Below p.world.heap.size p.world w') : Calls P f args p.world fun e w'' => e = .returned v ∧ ∃ q : BelowOf w, w'' = q.world :=
  h.mono fun _ _ ⟨he, hb⟩ => ⟨he, ⟨_, bstep p.below hb⟩, rfl⟩
theorem below_same {P : Program} {f : FuncId} {args : Array Value} {w : World} {p : BelowOf w} {v : Value}
    (h : Calls P f args p.world fun e w' => e = .returned v ∧ w' = p.world) : Calls P f args p.world fun e w'' => e = .returned v ∧ ∃ q : BelowOf w, w'' = q.world :=
  h.mono fun _ _ ⟨he, hw⟩ => ⟨he, p, hw⟩
theorem cell_of {w : World} (p : BelowOf w) {a : Addr} {v : Value} (hb : a.block < w.heap.size) (h : w.cell? a = some v) : p.world.cell? a = some v := (p.below.cell hb).trans h
theorem of_class {w W : World} (h : ∃ p : BelowOf w, W = p.world) : Below w.heap.size w W := let ⟨p, hp⟩ := h; hp ▸ p.below
end Go.Proofs.YtdihhbkajcngeaaGreatDoor
namespace Go.Proofs.YtdihhbkajcngeaaGreatDoor
open Go.RowKit

def titN (b : Bool) (c : Nat) : Nat := if (b && letN c) = true then c - 32 else c

theorem letN_lo (c : Nat) (h : c < 97) : letN c = false := by unfold letN; rw [decide_eq_false (by omega)]; rfl
theorem letN_hi (c : Nat) (h : 122 < c) : letN c = false := by unfold letN; rw [decide_eq_false (show ¬ c ≤ 122 by omega), Bool.and_false]
theorem letN_in (c : Nat) (h : 97 ≤ c) (h2 : c ≤ 122) : letN c = true := by unfold letN; rw [decide_eq_true h, decide_eq_true h2]; rfl

def stB (c : UInt8) : Bool := ((c.toNat : Nat) : Int) == 45
def titL : Bool → List UInt8 → List UInt8
  | _, [] => []
  | b, c :: t => UInt8.ofNat (titN b c.toNat) :: titL (stB c) t
theorem titN_le (b : Bool) (c : Nat) (h : c < 128) : titN b c < 128 := by unfold titN; split <;> omega

theorem builder_keeps {T e : TypeId} {B b c : Nat} {p : Value} {l : List Value} {w : World} (h : Go.Lib.BuilderAtF T e B b p l w) (hc : c < B) (v : Value) : Go.Lib.BuilderAtF T e B b p l (w.setCell ⟨c, 0, none⟩ v) := by
  obtain ⟨hB, x, hx, hown, hne⟩ := h
  have hnc : x.ownBlock ≠ some c := by
    rcases hown.2 with ⟨rfl, _⟩ | ⟨g, cap, cur, fz, rfl, hg, _⟩
    · simp [Value.ownBlock]
    · intro e
      have : g = c := by simpa [Value.ownBlock] using e
      omega
  refine ⟨hB, x, ?_, hown.kept (row := some c) ⟨rfl, rfl, rfl, by simp [World.setCell], fun k _ hk => Below.heap_setCell _ _ _ _ (fun e => hk (by simp [e]))⟩ (Or.inr hnc), hne⟩
  rw [← hx]
  exact Below.heap_setCell _ _ _ _ (show b ≠ c by omega)
theorem isBuilder_keeps {T e : TypeId} {B b c : Nat} {l : List Value} {w : World} (h : Go.Lib.IsBuilderF T e B b l w) (hc : c < B) (v : Value) : Go.Lib.IsBuilderF T e B b l (w.setCell ⟨c, 0, none⟩ v) :=
  h.elim (fun x => .inl (builder_keeps x hc v)) (fun x => .inr (builder_keeps x hc v))

/-- the closure's cell and what lies below it -/
def AtT (w0 : World) (c : Nat) (b : Bool) (w : World) : Prop := w.heap[c]? = some (.cells #[.bool b] 4 (0, 0)) ∧ Below c w0 w
theorem AtT.below {w0 w w' : World} {c B : Nat} {b : Bool} (h : AtT w0 c b w) (hb : Below B w w') (hB : c < B) : AtT w0 c b w' :=
  ⟨(hb.block c hB).trans h.1, h.2.trans (hb.mono (by omega))⟩
theorem AtT.set {w0 w : World} {c : Nat} {b : Bool} (h : AtT w0 c b w) (b' : Bool) : AtT w0 c b' (w.setCell ⟨c, 0, none⟩ (.bool b')) := by
  refine ⟨?_, h.2.setCell (p := ⟨c, 0, none⟩) (Nat.le_refl _) _⟩
  simp [World.setCell, Array.getElem?_modify, h.1]
theorem setCell_other (w : World) (c j : Nat) (v : Value) (h : j ≠ c) : (w.setCell ⟨c, 0, none⟩ v).heap[j]? = w.heap[j]? := Below.heap_setCell _ _ _ _ h
theorem setCell_size (w : World) (c : Nat) (v : Value) : (w.setCell ⟨c, 0, none⟩ v).heap.size = w.heap.size := by simp [World.setCell]
end Go.Proofs.YtdihhbkajcngeaaGreatDoor
namespace Go.Proofs.YtdihhbkajcngeaaGreatDoor
open Go.RowKit Go.Lib

theorem titL_step (b : Bool) (l : List UInt8) (k : Nat) (h : k < l.length) : titL b (l.drop k) = UInt8.ofNat (titN b l[k].toNat) :: titL (stB l[k]) (l.drop (k + 1)) := by
  rw [List.drop_eq_getElem_cons h]; rfl

theorem c_grow (b n : Nat) (w : World) (hbk : w.heap[b]? = some (.cells #[.pointer none, .slice none 0 0] 143 (0, 0))) (hBw : b ≤ w.heap.size) (hn : n ≤ 281474976710656) :
    Calls Tryz.prog 83 #[.pointer (some ⟨b, 0, none⟩), .int .i64 n] w fun e w' => e = .returned (.tuple #[]) ∧ (Lib.BuilderAt 143 5 b b (.pointer (some ⟨b, 0, none⟩)) [] w' ∧ Below b w w') ∧ ∃ p cap, w'.cell? ⟨b, 1, none⟩ = some (.slice p 0 cap) ∧ n ≤ cap :=
  Any.Builder_Grow_fresh_cap { Tryz.lays230 with } Tryz.Builder_Extra_230 b b n w (Nat.le_refl _) hbk hBw hn
theorem c_writeString (b : Nat) (l : List Value) (s : ByteArray) (w : World) (h : Lib.IsBuilderF 143 5 b b l w) (hlen : l.length + s.size ≤ 140737488355328) (hBw : b ≤ w.heap.size) :
    Calls Tryz.prog 84 #[.pointer (some ⟨b, 0, none⟩), .string s] w fun e w' => e = .returned (.tuple #[.int .i64 s.size, .nilIface]) ∧ (Lib.BuilderAtF 143 5 b b (.pointer (some ⟨b, 0, none⟩)) (l ++ Lib.strCells s) w' ∧ Below b w w' ∧ Lib.OthersKept 5 (some b) w w') ∧ ∀ v0, w.cell? ⟨b, 1, none⟩ = some v0 → ∃ v1, w'.cell? ⟨b, 1, none⟩ = some v1 ∧ v0.capOf ≤ v1.capOf :=
  Any.Builder_WriteString_kc { Tryz.lays230 with } Tryz.Builder_Extra_230 b b l s w h hlen hBw
theorem c_writeByte (b : Nat) (l : List Value) (c : Int) (w : World) (h : Lib.IsBuilderF 143 5 b b l w) (hlen : l.length + 1 ≤ 140737488355328) (hBw : b ≤ w.heap.size) :
    Calls Tryz.prog 87 #[.pointer (some ⟨b, 0, none⟩), .int .u8 c] w fun e w' => e = .returned .nilIface ∧ (Lib.BuilderAtF 143 5 b b (.pointer (some ⟨b, 0, none⟩)) (l ++ [.int .u8 c]) w' ∧ Below b w w' ∧ Lib.OthersKept 5 (some b) w w') :=
  Any.Builder_WriteByte_k { Tryz.lays230 with } Tryz.Builder_Extra_230 b b l c w h hlen hBw
theorem c_writeRune (b : Nat) (l : List Value) (r : Nat) (hr : r < 128) (w : World) (h : Lib.IsBuilderF 143 5 b b l w) (hlen : l.length + 4 ≤ 140737488355328) (hBw : b ≤ w.heap.size) :
    Calls Tryz.prog 85 #[.pointer (some ⟨b, 0, none⟩), .int .i32 (r : Int)] w fun e w' => e = .returned (.tuple #[.int .i64 1, .nilIface]) ∧ (Lib.BuilderAtF 143 5 b b (.pointer (some ⟨b, 0, none⟩)) (l ++ [.int .u8 (r : Int)]) w' ∧ Below b w w' ∧ Lib.OthersKept 5 (some b) w w') := by
  have h := Any.Builder_WriteRune_k { Tryz.lays230 with } Tryz.Builder_Extra_230 b b l (r : Int) (by omega) (by omega) w h hlen hBw
  have e : Lib.runeCells (r : Int) = [.int .u8 (r : Int)] := by unfold Lib.runeCells; rw [Lib.encodeRuneZ_one (by omega) (by omega)]; rfl
  rw [e] at h
  exact h
theorem c_string (b : Nat) (l : List UInt8) (w : World) (h : Lib.IsBuilderF 143 5 b b (Lib.byteCells l) w) (hBw : b ≤ w.heap.size) :
    Calls Tryz.prog 88 #[.pointer (some ⟨b, 0, none⟩)] w fun e w' => e = .returned (.string (bs l)) ∧ (Lib.IsBuilderF 143 5 b b (Lib.byteCells l) w' ∧ Below b w w') :=
  Any.Builder_String_any_f { Tryz.lays230 with } Tryz.Builder_Extra_230 b b l w h hBw
theorem c_cap (b : Nat) (p : Option Addr) (n cap : Nat) (w : World) (c1 : w.cell? ⟨b, 1, none⟩ = some (.slice p n cap)) :
    Calls Tryz.prog 86 #[.pointer (some ⟨b, 0, none⟩)] w fun e w' => e = .returned (.int .i64 cap) ∧ w' = w :=
  Any.Builder_Cap_cell { Tryz.lays230 with } b p n cap w c1
theorem c_runeLen (r : Nat) (hr : r < 128) (w : World) : Calls Tryz.prog 82 #[.int .i32 (r : Int)] w fun e w' => e = .returned (.int .i64 1) ∧ w' = w := by
  have h := Any.utf8_RuneLen { Tryz.lays230 with } (r : Int) w
  have e : Lib.runeLen (r : Int) = 1 := by unfold Lib.runeLen; rw [if_neg (by omega), if_pos (by omega)]
  rw [e] at h
  exact h

end Go.Proofs.YtdihhbkajcngeaaGreatDoor
namespace Go.Proofs.YtdihhbkajcngeaaGreatDoor
open Go.RowKit

/-- a letter as a small one -/
def smallN (c : Nat) : Nat := if 65 ≤ c ∧ c ≤ 90 then c + 32 else c
theorem fields_small (c : Nat) (w : World) (hc : c ≤ 1114111) : Calls Tryz.prog 69 #[.int .i32 (c : Int)] w fun e w' => e = .returned (.int .i32 (smallN c : Nat)) ∧ w' = w := by
  by_cases h1 : c < 65
  · have H : Hid (smallN c = c) := Lib.hid (if_neg (by omega))
    have t : decide ((c : Int) ≥ 65) = false := by simp; omega
    go_enter Tryz.func69, Tryz.ntmps69
    go_wp2_with fail
    go_ret
    exact ⟨by rw [H.out]; rfl, rfl⟩
  · by_cases h2 : 90 < c
    · have H : Hid (smallN c = c) := Lib.hid (if_neg (by omega))
      have t : decide ((c : Int) ≤ 90) = false := by simp; omega
      go_enter Tryz.func69, Tryz.ntmps69
      go_wp2_with fail
      go_ret
      exact ⟨by rw [H.out]; rfl, rfl⟩
    · have H : Hid (smallN c = c + 32) := Lib.hid (if_pos (by omega))
      have t : decide ((c : Int) ≤ 90) = true := by simp; omega
      have h3 : 65 ≤ c := by omega
      go_enter Tryz.func69, Tryz.ntmps69
      go_wp2_with fail
      go_ret
      refine ⟨ret_int ?_, rfl⟩
      rw [H.out]; omega

def gapB (c : UInt8) : Bool := c == 32 || c == 9
end Go.Proofs.YtdihhbkajcngeaaGreatDoor
namespace Go.Proofs.YtdihhbkajcngeaaGreatDoor
open Go.RowKit
theorem all_at (q : UInt8 → Bool) (s : ByteArray) (k : Nat) (h : k < s.size) (hq : q s[k] = false) : s.data.toList.all q = false := by
  rw [List.all_eq_false]
  exact ⟨s[k], List.getElem_mem (by rw [size_len]; exact h), by simp [hq]⟩
theorem all_of (q : UInt8 → Bool) (s : ByteArray) (h : ∀ j (hj : j < s.size), q s[j] = true) : s.data.toList.all q = true := by
  rw [List.all_eq_true]
  intro c hc
  obtain ⟨k, hk, rfl⟩ := List.getElem_of_mem hc
  exact h k (by rw [← size_len]; exact hk)
theorem upto_step (q : UInt8 → Bool) (s : ByteArray) (k : Nat) (h : ∀ j, j < k → ∀ hj : j < s.size, q (s[j]'hj) = true) (hk : k < s.size) (hq : q s[k] = true) : ∀ j, j < k + 1 → ∀ hj : j < s.size, q (s[j]'hj) = true := by
  intro j hj hjs
  by_cases e : j = k
  · subst e; exact hq
  · exact h j (by omega) hjs

theorem named_cases (n : Nat) : (97 ≤ n ∧ n ≤ 122 ∧ namedN n = true) ∨ (48 ≤ n ∧ n ≤ 57 ∧ namedN n = true) ∨ (n = 45 ∧ namedN n = true) ∨ (n < 48 ∧ n ≠ 45 ∧ namedN n = false) ∨ (57 < n ∧ n < 97 ∧ namedN n = false) ∨ (122 < n ∧ namedN n = false) := by
  unfold namedN letN digN
  simp only [Bool.or_eq_true, Bool.and_eq_true, decide_eq_true_eq, beq_iff_eq, Bool.or_eq_false_iff, Bool.and_eq_false_iff, decide_eq_false_iff_not, beq_eq_false_iff_ne]
  omega
theorem nameL_not (l : List UInt8) (h : l.all (fun c => namedN c.toNat) = false) : nameL l = false := by unfold nameL; rw [h, Bool.and_false]
theorem nameL_len (s : ByteArray) (h : s.data.toList.all (fun c => namedN c.toNat) = true) : nameL s.data.toList = (decide (1 ≤ s.size) && decide (s.size ≤ 32)) := by
  unfold nameL
  rw [h, Bool.and_true, size_len]
  congr 1
  cases hl : s.data.toList with
  | nil => rw [decide_eq_false (by rw [← size_len, hl]; decide)]; rfl
  | cons a t => rw [decide_eq_true (by rw [← size_len, hl]; simp)]; rfl
end Go.Proofs.YtdihhbkajcngeaaGreatDoor
namespace Go.Proofs.YtdihhbkajcngeaaGreatDoor
open Go.RowKit

def smallB (c : UInt8) : UInt8 := UInt8.ofNat (smallN c.toNat)
/-- what stands ahead of the first colon -/
def ahead (l : List UInt8) : List UInt8 := l.takeWhile (fun c => c != 58)
def gapL : List UInt8 := [32, 9]
def parseName (l : List UInt8) : List UInt8 := (ahead l).map smallB
def parseVal (l : List UInt8) : List UInt8 := Go.Lib.trimS (l.drop ((ahead l).length + 1)) gapL
def plainAll (l : List UInt8) : Bool := l.all (fun c => plainB c.toNat)
def parseOk (l : List UInt8) : Bool := plainAll l && decide ((ahead l).length < l.length) && nameL (parseName l)
def parseN (l : List UInt8) : List UInt8 := if parseOk l = true then parseName l else []
def parseV (l : List UInt8) : List UInt8 := if parseOk l = true then parseVal l else []
def parseE (l : List UInt8) : Nat := if parseOk l = true then 0 else 4

theorem ahead_le (l : List UInt8) : (ahead l).length ≤ l.length := (List.takeWhile_prefix _).length_le
theorem ahead_take (l : List UInt8) : l.take (ahead l).length = ahead l := (List.prefix_iff_eq_take.1 (List.takeWhile_prefix _)).symm
theorem index58 (l : List UInt8) : Go.Lib.index l [58] = if (ahead l).length < l.length then ((ahead l).length : Int) else -1 := by
  induction l with
  | nil => rfl
  | cons c t ih =>
    unfold Go.Lib.index
    by_cases hc : c = 58
    · subst hc
      have : ahead (58 :: t) = [] := by unfold ahead; rw [List.takeWhile_cons_of_neg (by decide)]
      rw [this, if_pos (by simp [List.isPrefixOf]), if_pos (by simp)]; rfl
    · have ha : ahead (c :: t) = c :: ahead t := by unfold ahead; rw [List.takeWhile_cons_of_pos (by simpa using hc)]
      rw [if_neg (by simp [List.isPrefixOf]; exact fun h => hc h.symm), ih, ha]
      by_cases hlt : (ahead t).length < t.length
      · rw [if_pos hlt, if_neg (by rw [beq_iff_eq]; omega), if_pos (by simp; omega)]; simp
      · rw [if_neg hlt, if_pos (by decide), if_neg (by simp; omega)]
theorem cut58 (l : List UInt8) : Go.Lib.cut l [58] = if (ahead l).length < l.length then (ahead l, l.drop ((ahead l).length + 1), true) else (l, [], false) := by
  unfold Go.Lib.cut
  rw [index58]
  by_cases hlt : (ahead l).length < l.length
  · rw [if_pos hlt, if_pos (by omega), if_pos hlt, Int.toNat_natCast, ahead_take]; rfl
  · rw [if_neg hlt, if_neg (by decide), if_neg hlt]

theorem smallN_lt (c : Nat) (h : c < 128) : smallN c < 128 := by
  unfold smallN; split <;> omega
theorem mapD_small (l : List UInt8) (f : Int → Int) (hf : ∀ x : Nat, x < 128 → f x = (smallN x : Nat)) : ∀ h : (∀ c ∈ l, c.toNat < 128), Go.Lib.mapD f l = l.map smallB := by
  induction l with
  | nil => intro _; rfl
  | cons c t ih =>
    intro h
    have hc : c.toNat < 128 := h c (List.mem_cons_self ..)
    have hs := smallN_lt _ hc
    rw [Go.Lib.mapD_step f _ (by simp), Go.Lib.decodeL_ascii c t hc, hf _ hc, if_pos (by omega)]
    have e : Go.Lib.encodeRune ((smallN c.toNat : Nat) : Int) = [smallB c] := by
      unfold Go.Lib.encodeRune
      rw [Go.Lib.encodeRuneZ_one (by omega) (by omega)]
      rfl
    rw [e]
    show smallB c :: Go.Lib.mapD f t = _
    rw [ih (fun d hd => h d (List.mem_cons_of_mem _ hd))]; rfl
theorem plainB_lt (n : Nat) (h : plainB n = true) : n < 128 := by
  unfold plainB at h
  simp only [Bool.or_eq_true, beq_iff_eq, Bool.and_eq_true, decide_eq_true_eq] at h
  omega
theorem plainAll_lt (l : List UInt8) (h : plainAll l = true) : ∀ c ∈ l, c.toNat < 128 := fun c hc => plainB_lt _ (List.all_eq_true.1 h c hc)
theorem ahead_sub (l : List UInt8) (c : UInt8) (h : c ∈ ahead l) : c ∈ l := (List.takeWhile_subset _) h
end Go.Proofs.YtdihhbkajcngeaaGreatDoor
namespace Go.Proofs.YtdihhbkajcngeaaGreatDoor
open Go.RowKit

theorem c_cut (s : ByteArray) (w : World) (hs : s.size ≤ 1000000) (hE : EnvF w) (A V : ByteArray) (B : Bool)
    (h : Go.Lib.cut s.data.toList [58] = (A.data.toList, V.data.toList, B)) :
    Calls Tryz.prog 66 #[.string s, .string ⟨#[58]⟩] w fun e w' => e = .returned (.tuple #[.string A, .string V, .bool B]) ∧ Below w.heap.size w w' := by
  obtain ⟨m, hm⟩ := hE.m
  have hc := Tryz.strings_Cut s ⟨#[58]⟩ m w (by omega) hm
  refine hc.mono ?_
  rintro e w' ⟨rfl, n, rfl⟩
  refine ⟨?_, (fun n => by induction n with | zero => exact Below.refl _ _ | succ n ih => exact ih.drew : ∀ n, Below w.heap.size w (w.drewN n)) n⟩
  have h2 : Go.Lib.cut s.data.toList (ByteArray.mk #[58]).data.toList = (A.data.toList, V.data.toList, B) := h
  rw [h2]
theorem c_mapSmall (s : ByteArray) (w : World) (hs : s.size ≤ 1000000) (hE : EnvF w) (hasc : ∀ c ∈ s.data.toList, c.toNat < 128) :
    Calls Tryz.prog 68 #[.func (.func 69) #[] #[], .string s] w fun e w' => e = .returned (.string (bs (s.data.toList.map smallB))) ∧ Below w.heap.size w w' := by
  have h := Tryz.strings_Map_grows 69 #[] (enters_of Tryz.func69 (by kernel_rfl) rfl) (fun x => (smallN x.toNat : Nat)) s w (by omega)
    (fun W x hx _ => (fields_small x W hx).mono fun e w' ⟨he, hw⟩ => ⟨he, hw ▸ Below.refl _ _⟩)
    (fun x hx => by unfold smallN; rw [Int.toNat_natCast]; split <;> constructor <;> omega) hE.tabs
  rw [mapD_small s.data.toList _ (fun x hx => by rw [Int.toNat_natCast]) hasc] at h
  exact h
theorem c_trim (s : ByteArray) (w : World) (hs : s.size ≤ 1000000) :
    Calls Tryz.prog 71 #[.string s, .string ⟨#[32, 9]⟩] w fun e w' => e = .returned (.string (bs (Go.Lib.trimS s.data.toList gapL))) ∧ Below w.heap.size w w' :=
  Any.strings_Trim_laid Tryz.lays160 (by kernel_rfl) s ⟨#[32, 9]⟩ w (by omega) (by decide) (Go.Proofs.ascii_of_all (by decide))

/-- a block of two texts -/
structure Two (w : World) (b : Nat) (x y : Value) : Prop where
  c0 : w.cell? ⟨b, 0, none⟩ = some x
  c1 : w.cell? ⟨b, 1, none⟩ = some y
  f0 : w.frozen? ⟨b, 0, none⟩ = false
  f1 : w.frozen? ⟨b, 1, none⟩ = false
theorem two_of {w : World} {b : Nat} {x y : Value} {t : TypeId} (h : w.heap[b]? = some (.cells #[x, y] t (0, 0))) : Two w b x y :=
  ⟨by unfold World.cell?; rw [h]; rfl, by unfold World.cell?; rw [h]; rfl, by unfold World.frozen?; rw [h]; rfl, by unfold World.frozen?; rw [h]; rfl⟩
theorem two_box {w w1 : World} {x y : Value} {t : TypeId} (hb : Below (w.alloc (.cells #[x, y] t)).heap.size (w.alloc (.cells #[x, y] t)) w1) : w1.heap[w.heap.size]? = some (.cells #[x, y] t (0, 0)) :=
  (hb.block _ (by simp)).trans (heap_alloc_new w _)

/-- a result that lies in a block of two texts, and a number -/
theorem ret_field {fn : Func} {R : Ending → World → Prop} {a : Act} {w : World} {b : Nat} {x y E : Value} {p u : Tmp} {ty : TypeId} (hres : fn.results = #[.cell p ty, .tmp u])
    (hload : (loadVar ty ⟨b, 0, none⟩).run Tryz.prog w = .ok (.agg #[x, y]) w)
    (hp : a.tmps.getD p undef = .pointer (some ⟨b, 0, none⟩)) (hE : a.tmps.getD u undef = E) (hdef : a.defers = [])
    (hR : R (.returned (.tuple #[.agg #[x, y], E])) w) : bodyPost Tryz.prog fn R .ret a w := by
  refine bodyPost_ret_by (v := .tuple #[.agg #[x, y], E]) ?_ hdef hR
  rw [results_cell_tmp hres, hp, hE]
  simp [asAddr, hload, Result.andThen]
theorem load_own (w : World) (b : Nat) (t : TypeId) (x y : Value) (h : w.heap[b]? = some (.cells #[x, y] t (0, 0))) : (loadVar 73 ⟨b, 0, none⟩).run Tryz.prog w = .ok (.agg #[x, y]) w :=
  run_loadVar_row w b t 73 #[x, y] (0, 0) _ h Tryz.underlying73 rfl (by kernel_rfl)
theorem load_ref (w : World) (b : Nat) (t : TypeId) (x y : Value) (h : w.heap[b]? = some (.cells #[x, y] t (0, 0))) : (loadVar 70 ⟨b, 0, none⟩).run Tryz.prog w = .ok (.agg #[x, y]) w :=
  run_loadVar_row w b t 70 #[x, y] (0, 0) _ h Tryz.underlying70 rfl (by kernel_rfl)
theorem two_set {w : World} {b : Nat} {x y : Value} {t : TypeId} (h : w.heap[b]? = some (.cells #[x, y] t (0, 0))) (x' y' : Value) :
    ((w.setCell ⟨b, 0, none⟩ x').setCell ⟨b, 1, none⟩ y').heap[b]? = some (.cells #[x', y'] t (0, 0)) := by
  simp [World.setCell, Array.getElem?_modify, h]
theorem two_below {B : Nat} {w0 w : World} (h : Below B w0 w) (b : Nat) (hB : B ≤ b) (x' y' : Value) : Below B w0 ((w.setCell ⟨b, 0, none⟩ x').setCell ⟨b, 1, none⟩ y') :=
  (h.setCell (p := ⟨b, 0, none⟩) hB _).setCell (p := ⟨b, 1, none⟩) hB _

set_option maxRecDepth 100000 in
set_option maxHeartbeats 1000000 in
theorem fields_parse (s : ByteArray) (w : World) (hs : s.size ≤ 1000000) (hE : EnvF w) :
    Calls Tryz.prog 50 #[.string s] w fun e w' => e = .returned (.tuple #[.agg #[.string (bs (parseN s.data.toList)), .string (bs (parseV s.data.toList))], .int .i64 (parseE s.data.toList)]) ∧ Below w.heap.size w w' := by
  have HE := Lib.hid hE
  clear hE
  by_cases hcol : (ahead s.data.toList).length < s.data.toList.length
  · have hcut := cut58 s.data.toList
    rw [if_pos hcol] at hcut
    obtain ⟨A, hA⟩ : ∃ A, A = bs (ahead s.data.toList) := ⟨_, rfl⟩
    obtain ⟨V, hV⟩ : ∃ V, V = bs (s.data.toList.drop ((ahead s.data.toList).length + 1)) := ⟨_, rfl⟩
    have HC := Lib.hid (fun w hE => c_cut s w hs hE A V true (by rw [hcut, hA, hV, bs_data, bs_data]))
    have hsl := size_len s
    have hAl : A.size ≤ 1000000 := by rw [hA, bs_size]; have := ahead_le s.data.toList; omega
    have hVl : V.size ≤ 1000000 := by rw [hV, bs_size, List.length_drop]; omega
    cases hpl : plainAll s.data.toList with
    | false =>
      have HP : Hid (parseN s.data.toList = [] ∧ parseV s.data.toList = [] ∧ parseE s.data.toList = 4) := Lib.hid (by
        have : parseOk s.data.toList = false := by unfold parseOk; rw [hpl]; rfl
        unfold parseN parseV parseE; rw [this]; exact ⟨rfl, rfl, rfl⟩)
      have hfp := fun w => fields_plain s w (by omega)
      rw [show (s.data.toList.all (fun c => plainB c.toNat)) = false from hpl] at hfp
      have HFP := Lib.hid hfp
      clear hcol hcut hpl hfp hsl hA hV hAl hVl
      go_enter Tryz.func50, Tryz.ntmps50
      go_wp2_with fail
      refine (HC.out _ (HE.out.below ((Below.refl _ _).alloc (Nat.le_refl _) _))).mono ?_
      rintro e w1 ⟨rfl, hb1⟩
      obtain ⟨k0, k1, f0, f1⟩ := two_of (two_box hb1)
      go_wp2_with (go_at_call 67; refine (HFP.out _).mono ?_; rintro e w' ⟨rfl, rfl⟩)
      refine ret_field (b := w.heap.size) (x := .string ⟨#[]⟩) (y := .string ⟨#[]⟩) rfl (load_own _ _ _ _ _ (two_set (two_box hb1) _ _)) rfl rfl rfl ?_
      refine ⟨?_, two_below (((Below.refl _ _).alloc (Nat.le_refl _) _).trans (hb1.mono (by simp))) _ (Nat.le_refl _) _ _⟩
      rw [HP.out.1, HP.out.2.1, HP.out.2.2]; rfl
    | true =>
      have hfp := fun w => fields_plain s w (by omega)
      rw [show (s.data.toList.all (fun c => plainB c.toNat)) = true from hpl] at hfp
      have HFP := Lib.hid hfp
      have hasc : ∀ c ∈ A.data.toList, c.toNat < 128 := by
        rw [hA, bs_data]; intro c hc; exact plainAll_lt _ hpl c (ahead_sub _ c hc)
      have hms := fun w hE => c_mapSmall A w hAl hE hasc
      rw [show A.data.toList.map smallB = parseName s.data.toList by rw [hA, bs_data]; rfl] at hms
      have HMS := Lib.hid hms
      have HFN := Lib.hid (fun w => fields_name (bs (parseName s.data.toList)) w)
      have HT := Lib.hid (fun w => c_trim V w hVl)
      have hvv : bs (Go.Lib.trimS V.data.toList gapL) = bs (parseVal s.data.toList) := by rw [hV, bs_data]; rfl
      rw [hvv] at HT
      rw [bs_data] at HFN
      cases hnm : nameL (parseName s.data.toList) with
      | false =>
        have HP : Hid (parseN s.data.toList = [] ∧ parseV s.data.toList = [] ∧ parseE s.data.toList = 4) := Lib.hid (by
          have : parseOk s.data.toList = false := by unfold parseOk; rw [hnm, Bool.and_false]
          unfold parseN parseV parseE; rw [this]; exact ⟨rfl, rfl, rfl⟩)
        rw [hnm] at HFN
        obtain ⟨N, hN⟩ : ∃ N, N = bs (parseName s.data.toList) := ⟨_, rfl⟩
        rw [← hN] at HMS HFN
        clear hcol hcut hpl hfp hsl hA hV hAl hVl hasc hms hvv hnm hN HT
        go_enter Tryz.func50, Tryz.ntmps50
        go_wp2_with fail
        refine (HC.out _ (HE.out.below ((Below.refl _ _).alloc (Nat.le_refl _) _))).mono ?_
        rintro e w1 ⟨rfl, hb1⟩
        have HE1 := Lib.hid ((HE.out.below ((Below.refl _ _).alloc (Nat.le_refl _) _)).below hb1)
        go_wp2_with (go_at_call 67; refine (HFP.out _).mono ?_; rintro e w' ⟨rfl, rfl⟩)
        refine (HMS.out _ HE1.out).mono ?_
        rintro e w2 ⟨rfl, hb2⟩
        go_wp2_with fail
        refine (HFN.out _).mono ?_
        rintro e w3 ⟨rfl, hb3⟩
        have hb13 := bstep hb1 (bstep hb2 hb3)
        clear hb1 hb2 hb3
        obtain ⟨k0, k1, f0, f1⟩ := two_of (two_box hb13)
        go_wp2_with fail
        refine ret_field (b := w.heap.size) (x := .string ⟨#[]⟩) (y := .string ⟨#[]⟩) rfl (load_own _ _ _ _ _ (two_set (two_box hb13) _ _)) rfl rfl rfl ?_
        refine ⟨?_, two_below (((Below.refl _ _).alloc (Nat.le_refl _) _).trans (hb13.mono (by simp))) _ (Nat.le_refl _) _ _⟩
        rw [HP.out.1, HP.out.2.1, HP.out.2.2]; rfl
      | true =>
        have HP : Hid (parseN s.data.toList = parseName s.data.toList ∧ parseV s.data.toList = parseVal s.data.toList ∧ parseE s.data.toList = 0) := Lib.hid (by
          have : parseOk s.data.toList = true := by unfold parseOk; rw [hnm, hpl, decide_eq_true hcol]; rfl
          unfold parseN parseV parseE; rw [this]; exact ⟨rfl, rfl, rfl⟩)
        rw [hnm] at HFN
        obtain ⟨N, hN⟩ : ∃ N, N = bs (parseName s.data.toList) := ⟨_, rfl⟩
        obtain ⟨T, hT⟩ : ∃ T, T = bs (parseVal s.data.toList) := ⟨_, rfl⟩
        rw [← hN] at HMS HFN
        rw [← hT] at HT
        have HNT := Lib.hid (And.intro hN hT)
        clear hcol hcut hpl hfp hsl hA hV hAl hVl hasc hms hvv hnm hN hT
        go_enter Tryz.func50, Tryz.ntmps50
        go_wp2_with fail
        refine (HC.out _ (HE.out.below ((Below.refl _ _).alloc (Nat.le_refl _) _))).mono ?_
        rintro e w1 ⟨rfl, hb1⟩
        have HE1 := Lib.hid ((HE.out.below ((Below.refl _ _).alloc (Nat.le_refl _) _)).below hb1)
        go_wp2_with (go_at_call 67; refine (HFP.out _).mono ?_; rintro e w' ⟨rfl, rfl⟩)
        refine (HMS.out _ HE1.out).mono ?_
        rintro e w2 ⟨rfl, hb2⟩
        go_wp2_with fail
        refine (HFN.out _).mono ?_
        rintro e w3 ⟨rfl, hb3⟩
        go_wp2_with fail
        refine (HT.out _).mono ?_
        rintro e w4 ⟨rfl, hb4⟩
        have hb13 := bstep hb1 (bstep hb2 (bstep hb3 hb4))
        clear hb1 hb2 hb3 hb4
        obtain ⟨k0, k1, f0, f1⟩ := two_of (two_box hb13)
        go_wp2_with fail
        refine ret_field (b := w.heap.size) (x := .string N) (y := .string T) rfl (load_own _ _ _ _ _ (two_set (two_box hb13) _ _)) rfl rfl rfl ?_
        refine ⟨?_, two_below (((Below.refl _ _).alloc (Nat.le_refl _) _).trans (hb13.mono (by simp))) _ (Nat.le_refl _) _ _⟩
        rw [HP.out.1, HP.out.2.1, HP.out.2.2, ← HNT.out.1, ← HNT.out.2]; rfl
  · have hcut := cut58 s.data.toList
    rw [if_neg hcol] at hcut
    have HC := Lib.hid (fun w hE => c_cut s w hs hE s ⟨#[]⟩ false hcut)
    have HP : Hid (parseN s.data.toList = [] ∧ parseV s.data.toList = [] ∧ parseE s.data.toList = 4) := Lib.hid (by
      have : parseOk s.data.toList = false := by unfold parseOk; rw [decide_eq_false hcol, Bool.and_false, Bool.false_and]
      unfold parseN parseV parseE; rw [this]; exact ⟨rfl, rfl, rfl⟩)
    clear hcol hcut
    go_enter Tryz.func50, Tryz.ntmps50
    go_wp2_with fail
    refine (HC.out _ (HE.out.below ((Below.refl _ _).alloc (Nat.le_refl _) _))).mono ?_
    rintro e w1 ⟨rfl, hb1⟩
    obtain ⟨k0, k1, f0, f1⟩ := two_of (two_box hb1)
    go_wp2_with fail
    refine ret_field (b := w.heap.size) (x := .string ⟨#[]⟩) (y := .string ⟨#[]⟩) rfl (load_own _ _ _ _ _ (two_set (two_box hb1) _ _)) rfl rfl rfl ?_
    refine ⟨?_, two_below (((Below.refl _ _).alloc (Nat.le_refl _) _).trans (hb1.mono (by simp))) _ (Nat.le_refl _) _ _⟩
    rw [HP.out.1, HP.out.2.1, HP.out.2.2]; rfl
end Go.Proofs.YtdihhbkajcngeaaGreatDoor
namespace Go.Proofs.YtdihhbkajcngeaaGreatDoor
open Go.RowKit

/-- the slice v reads, in the world w, as the fields fs. -/
def HoldsF (w : World) (v : Value) (fs : List (List UInt8 × List UInt8)) : Prop :=
  ∃ a c, v = .slice a fs.length c ∧ fs.length ≤ c ∧ (fs ≠ [] → ∃ b o, a = some ⟨b, o, none⟩ ∧ b < w.heap.size ∧ ∀ j (hj : j < fs.length), w.cell? ⟨b, o + j * 2, none⟩ = some (.string (bs fs[j].1)) ∧ w.cell? ⟨b, o + j * 2 + 1, none⟩ = some (.string (bs fs[j].2)))
theorem HoldsF.below {w w' : World} {v : Value} {fs : List (List UInt8 × List UInt8)} (h : HoldsF w v fs) (hb : Below w.heap.size w w') : HoldsF w' v fs := by
  obtain ⟨a, c, hv, hc, hx⟩ := h
  refine ⟨a, c, hv, hc, fun hne => ?_⟩
  obtain ⟨b, o, ha, hlt, hcell⟩ := hx hne
  exact ⟨b, o, ha, Nat.lt_of_lt_of_le hlt hb.size, fun j hj => ⟨(hb.cell (p := ⟨b, o + j * 2, none⟩) hlt).trans (hcell j hj).1, (hb.cell (p := ⟨b, o + j * 2 + 1, none⟩) hlt).trans (hcell j hj).2⟩⟩
theorem HoldsF.nil (w : World) (a : Option Addr) (c : Nat) : HoldsF w (.slice a 0 c) [] := ⟨a, c, rfl, Nat.zero_le _, fun h => absurd rfl h⟩

/-- the cells of some fields -/
def fcells : List (List UInt8 × List UInt8) → List Value
  | [] => []
  | f :: t => .string (bs f.1) :: .string (bs f.2) :: fcells t
theorem fcells_length (fs : List (List UInt8 × List UInt8)) : (fcells fs).length = fs.length * 2 := by
  induction fs with
  | nil => rfl
  | cons f t ih => show (fcells t).length + 1 + 1 = (t.length + 1) * 2; omega
theorem fcells_get (fs : List (List UInt8 × List UInt8)) (j : Nat) (hj : j < fs.length) : (fcells fs)[j * 2]? = some (.string (bs fs[j].1)) ∧ (fcells fs)[j * 2 + 1]? = some (.string (bs fs[j].2)) := by
  induction fs generalizing j with
  | nil => exact absurd hj (Nat.not_lt_zero _)
  | cons f t ih =>
    cases j with
    | zero => exact ⟨rfl, rfl⟩
    | succ j =>
      have := ih j (by simp at hj; omega)
      rw [show (j + 1) * 2 = j * 2 + 1 + 1 by omega]
      exact this
theorem fcells_append (a b : List (List UInt8 × List UInt8)) : fcells (a ++ b) = fcells a ++ fcells b := by
  induction a with
  | nil => rfl
  | cons f t ih => show _ :: _ :: fcells (t ++ b) = _; rw [ih]; rfl
theorem HoldsF.of_cells {w : World} {b : Nat} {C : Array Value} {t : TypeId} {fs : List (List UInt8 × List UInt8)} {n : Nat} (hb : w.heap[b]? = some (.cells C t (0, 0))) (hC : C.toList = fcells fs) (hn : n = fs.length) : HoldsF w (.slice (some ⟨b, 0, none⟩) n n) fs := by
  subst hn
  refine ⟨_, _, rfl, Nat.le_refl _, fun _ => ⟨b, 0, rfl, (Array.getElem?_eq_some_iff.1 hb).1, fun j hj => ?_⟩⟩
  have h := fcells_get fs j hj
  rw [cell_of_row w b _ C t (0, 0) hb, cell_of_row w b _ C t (0, 0) hb, ← Array.getElem?_toList, ← Array.getElem?_toList, hC, Nat.zero_add]
  exact h
theorem HoldsF.of_own {w : World} {base n : Nat} {e : TypeId} {v : Value} {fs : List (List UInt8 × List UInt8)} (h : w.ownsRow base e 2 v n (fcells fs)) : HoldsF w v fs := by
  have hn : fs.length = n := by have := h.1; rw [fcells_length] at this; omega
  subst hn
  rcases h.2 with ⟨rfl, h0⟩ | ⟨g, cap, cur, rfl, hb, hg, hle, hm, hs, ht⟩
  · have : fs = [] := List.eq_nil_of_length_eq_zero h0
    subst this
    exact HoldsF.nil w none 0
  · refine ⟨_, cap, rfl, hle, fun _ => ⟨g, 0, rfl, (Array.getElem?_eq_some_iff.1 hg).1, fun j hj => ?_⟩⟩
    have h1 := h.cells (g := g) rfl (j * 2) _ (fcells_get fs j hj).1
    have h2 := h.cells (g := g) rfl (j * 2 + 1) _ (fcells_get fs j hj).2
    have e0 : ∀ k, (⟨g, 0, none⟩ : Addr).add k = ⟨g, 0 + k, none⟩ := fun k => by unfold Addr.add; split <;> simp_all
    rw [e0] at h1 h2
    exact ⟨h1, h2⟩

/-- the values of a name -/
def hits (fs : List (List UInt8 × List UInt8)) (n : List UInt8) : List (List UInt8) := (fs.filter (fun f => f.1 == n)).map (·.2)
def getE (fs : List (List UInt8 × List UInt8)) (n : List UInt8) : Nat := match hits fs n with | [] => 6 | [_] => 0 | _ => 22
def getS (fs : List (List UInt8 × List UInt8)) (n : List UInt8) : List UInt8 := match hits fs n with | [v] => v | _ => []
theorem hits_step (fs : List (List UInt8 × List UInt8)) (n : List UInt8) (k : Nat) (h : k < fs.length) : hits (fs.take (k + 1)) n = hits (fs.take k) n ++ (if fs[k].1 = n then [fs[k].2] else []) := by
  unfold hits
  rw [List.take_succ_eq_append_getElem h, List.filter_append, List.map_append]
  congr 1
  by_cases e : fs[k].1 = n
  · rw [if_pos e]; simp [e]
  · rw [if_neg e]; simp [e]
theorem hits_prefix (fs : List (List UInt8 × List UInt8)) (n : List UInt8) (k : Nat) : ∃ t, hits fs n = hits (fs.take k) n ++ t := by
  refine ⟨hits (fs.drop k) n, ?_⟩
  unfold hits
  rw [← List.map_append, ← List.filter_append, List.take_append_drop]
def GetSt (fs : List (List UInt8 × List UInt8)) (n : List UInt8) (k : Nat) (x e : Value) : Prop :=
  (hits (fs.take k) n = [] ∧ x = .string ⟨#[]⟩ ∧ e = .int .i64 6) ∨ ∃ v, hits (fs.take k) n = [v] ∧ x = .string (bs v) ∧ e = .int .i64 0
theorem get_end (fs : List (List UInt8 × List UInt8)) (n : List UInt8) (k : Nat) (hk : fs.length ≤ k) (x e : Value) (h : GetSt fs n k x e) : x = .string (bs (getS fs n)) ∧ e = .int .i64 (getE fs n) := by
  have ht : fs.take k = fs := List.take_of_length_le hk
  unfold GetSt at h
  rw [ht] at h
  unfold getS getE
  rcases h with ⟨h, hx, he⟩ | ⟨v, h, hx, he⟩
  · rw [h]; exact ⟨hx, he⟩
  · rw [h]; exact ⟨hx, he⟩
theorem get_twice (fs : List (List UInt8 × List UInt8)) (n : List UInt8) (k : Nat) (hk : k < fs.length) (v : List UInt8) (h : hits (fs.take k) n = [v]) (hn : fs[k].1 = n) : getS fs n = [] ∧ getE fs n = 22 := by
  obtain ⟨t, ht⟩ := hits_prefix fs n (k + 1)
  rw [hits_step fs n k hk, h, if_pos hn] at ht
  unfold getS getE
  rw [ht]
  exact ⟨rfl, rfl⟩
theorem ret_two {x y x' y' : Value} (h : x = x') (h2 : y = y') : Ending.returned (.tuple #[x, y]) = .returned (.tuple #[x', y']) := by rw [h, h2]

set_option maxRecDepth 100000 in
set_option maxHeartbeats 2000000 in
theorem fields_get (v : Value) (fs : List (List UInt8 × List UInt8)) (n : ByteArray) (w : World) (hv : HoldsF w v fs) (hlen : fs.length ≤ 1000000) :
    Calls Tryz.prog 51 #[v, .string n] w fun e w' => e = .returned (.tuple #[.string (bs (getS fs n.data.toList)), .int .i64 (getE fs n.data.toList)]) ∧ Below w.heap.size w w' := by
  obtain ⟨a, c, rfl, hc, hx⟩ := hv
  have HX := Lib.hid hx
  clear hx
  obtain ⟨m, rfl⟩ : ∃ m, n = bs m := ⟨n.data.toList, (bs_self n).symm⟩
  rw [bs_data]
  go_enter Tryz.func51, Tryz.ntmps51
  go_wp2_with fail
  go_loopw [6, 7, 12] (fun x e i wr => ∃ k : Nat, k ≤ fs.length ∧ i = .int .i64 k ∧ Below w.heap.size w wr ∧ GetSt fs m k x e) (fun _ _ i _ => fs.length - (intOf i).toNat)
  case atStart => exact ⟨0, by omega, rfl, Below.refl _ _, .inl ⟨rfl, rfl, rfl⟩⟩
  case round =>
    obtain ⟨k, hk, rfl, hb, hst⟩ := hrel
    by_cases hlt : k < fs.length
    · obtain ⟨b, o, rfl, hbl, hcell⟩ := HX.out (fun e => by rw [e] at hlt; exact absurd hlt (Nat.not_lt_zero _))
      have c0 := (hb.cell (p := ⟨b, o + k * 2, none⟩) hbl).trans (hcell k hlt).1
      have c1 := (hb.cell (p := ⟨b, o + k * 2 + 1, none⟩) hbl).trans (hcell k hlt).2
      have hstep := hits_step fs m k hlt
      have hcmp := bs_beq fs[k].1 m
      clear hcell
      by_cases hn : fs[k].1 = m
      · rw [if_pos hn] at hstep
        rw [decide_eq_true hn] at hcmp
        rcases hst with ⟨h0, rfl, rfl⟩ | ⟨v, h1, rfl, rfl⟩
        · have Hn : Hid (hits (fs.take (k + 1)) m = [fs[k].2]) := Lib.hid (by rw [hstep, h0]; rfl)
          have HF : Hid (fs = fs) := Lib.hid rfl
          clear hstep h0 hn HX
          obtain ⟨X, hX⟩ : ∃ X, X = bs fs[k].1 := ⟨_, rfl⟩
          obtain ⟨y, hy⟩ : ∃ y, y = fs[k].2 := ⟨_, rfl⟩
          rw [← hX] at c0 hcmp
          rw [← hy] at c1 Hn
          clear hX hy
          go_wp2_with fail
          go_roundw
          case rel => exact ⟨k + 1, by omega, by go_num, hb.trans (((Below.refl _ _).alloc (Nat.le_refl _) _).mono hb.size), .inr ⟨y, Hn.out, rfl, rfl⟩⟩
          case measure => simp [intOf]; omega
        · have HE := Lib.hid (get_twice fs m k hlt v h1 hn)
          clear hstep h1 hn HX
          obtain ⟨X, hX⟩ : ∃ X, X = bs fs[k].1 := ⟨_, rfl⟩
          rw [← hX] at c0 hcmp
          clear hX
          go_wp2_with fail
          go_ret2
          exact ⟨ret_two (by rw [HE.out.1]; rfl) (by rw [HE.out.2]; rfl), hb.trans (((Below.refl _ _).alloc (Nat.le_refl _) _).mono hb.size)⟩
      · rw [if_neg hn, List.append_nil] at hstep
        rw [decide_eq_false hn] at hcmp
        have Hst : Hid (GetSt fs m (k + 1) u6 u7) := Lib.hid (by unfold GetSt at hst ⊢; rw [hstep]; exact hst)
        clear hstep hst hn HX
        obtain ⟨X, hX⟩ : ∃ X, X = bs fs[k].1 := ⟨_, rfl⟩
        rw [← hX] at c0 hcmp
        clear hX
        go_wp2_with fail
        go_roundw
        case rel => exact ⟨k + 1, by omega, by go_num, hb.trans (((Below.refl _ _).alloc (Nat.le_refl _) _).mono hb.size), Hst.out⟩
        case measure => simp [intOf]; omega
    · have H := Lib.hid (get_end fs m k (by omega) _ _ hst)
      clear hst
      go_wp2_with fail
      go_ret2
      exact ⟨ret_two H.out.1 H.out.2, hb⟩
end Go.Proofs.YtdihhbkajcngeaaGreatDoor
namespace Go.Proofs.YtdihhbkajcngeaaGreatDoor
open Go.RowKit

theorem decDigits_len (n : Nat) (h : n < 18446744073709551616) : (Go.Lib.decDigits n).length ≤ 20 := by
  rw [Go.Lib.decDigits_length]
  have h1 := Go.Lib.numDigits_eq n
  rcases Nat.eq_zero_or_pos n with h0 | h0
  · subst h0; rw [Go.Lib.nDigits_small (by decide)]; decide
  · obtain ⟨h2, h3⟩ := h1 h0 h
    rw [← h2]; split <;> omega
theorem itoa_len (n : Int) (h0 : -9223372036854775808 ≤ n) (h1 : n ≤ 9223372036854775807) : (Go.Lib.itoa n).length ≤ 21 := by
  unfold Go.Lib.itoa
  split
  · have := decDigits_len n.natAbs (by omega); simp; omega
  · have := decDigits_len n.toNat (by omega); omega
theorem digit_slice (n : Nat) (h : n < 10) : (ByteArray.mk #[48, 49, 50, 51, 52, 53, 54, 55, 56, 57]).extract n (n + 1) = bs (Go.Lib.decDigits n) := by
  rw [extract_bs, Go.Lib.decDigits_one h]
  congr 1
  have : ∀ k : Fin 10, (((ByteArray.mk #[48, 49, 50, 51, 52, 53, 54, 55, 56, 57]).data.toList.take (k.val + 1)).drop k.val) = [UInt8.ofNat (48 + k.val)] := by decide +kernel
  exact this ⟨n, h⟩
theorem dec_split (n : Nat) (h : ¬ n < 10) : bs (Go.Lib.decDigits (n / 10)) ++ bs (Go.Lib.decDigits (n % 10)) = bs (Go.Lib.decDigits n) := by
  rw [bs_cat, Go.Lib.decDigits_one (show n % 10 < 10 by omega)]
  conv => rhs; rw [Go.Lib.decDigits, dif_neg h]
theorem ref_digits (k : Nat) : ∀ (n : Nat) (w : World), n ≤ k → n ≤ 9223372036854775807 →
    Calls Tryz.prog 29 #[.int .i64 n] w fun e w' => e = .returned (.string (bs (Go.Lib.decDigits n))) ∧ w' = w := by
  induction k using Nat.strongRecOn with
  | _ k ih =>
    intro n w hk hn
    by_cases h : n < 10
    · have hd := digit_slice n h
      have Hd := Lib.hid hd
      clear hd
      go_enter Tryz.func29, Tryz.ntmps29
      go_wp2_with fail
      go_ret
      exact ⟨ret_str Hd.out, rfl⟩
    · have Hs := Lib.hid (dec_split n h)
      have l1 := decDigits_len (n / 10) (by omega)
      have l2 := decDigits_len (n % 10) (by omega)
      obtain ⟨A, hA⟩ : ∃ A, A = bs (Go.Lib.decDigits (n / 10)) := ⟨_, rfl⟩
      obtain ⟨B, hB⟩ : ∃ B, B = bs (Go.Lib.decDigits (n % 10)) := ⟨_, rfl⟩
      have hAB : A.size + B.size ≤ 9223372036854775807 := by rw [hA, hB, bs_size, bs_size]; omega
      have HA := Lib.hid hA
      have HB := Lib.hid hB
      have h10 : 10 ≤ n := by omega
      have i1 := ih (n / 10) (by omega) (n / 10) w (Nat.le_refl _) (by omega)
      have i2 := ih (n % 10) (by omega) (n % 10) w (Nat.le_refl _) (by omega)
      rw [← hA] at i1
      rw [← hB] at i2
      have I1 := Lib.hid i1
      have I2 := Lib.hid i2
      clear hA hB i1 i2 h l1 l2
      go_enter Tryz.func29, Tryz.ntmps29
      go_wp2_with fail
      rw [show ((n : Int) / 10) = ((n / 10 : Nat) : Int) by omega]
      refine I1.out.mono ?_
      rintro e w' ⟨rfl, rfl⟩
      go_wp2_with fail
      rw [show ((n : Int) % 10) = ((n % 10 : Nat) : Int) by omega]
      refine I2.out.mono ?_
      rintro e w' ⟨rfl, rfl⟩
      go_wp2_with fail
      go_ret
      refine ⟨ret_str ?_, rfl⟩
      rw [HA.out, HB.out, Hs.out]
theorem itoa_nonneg (n : Int) (h : 0 ≤ n) : Go.Lib.itoa n = Go.Lib.decDigits n.toNat := by
  unfold Go.Lib.itoa; rw [if_neg (by omega)]
end Go.Proofs.YtdihhbkajcngeaaGreatDoor
namespace Go.Proofs.YtdihhbkajcngeaaGreatDoor
open Go.RowKit

theorem info_field : (Tryz.prog.info? 73).map (fun i => (i.zero, i.size, i.bytes)) = some (some (.agg #[.string ByteArray.empty, .string ByteArray.empty]), 2, 32) := by kernel_rfl
theorem cell_two_new (w : World) (x y : Value) (t : TypeId) : ∀ j u, [x, y][j]? = some u → (w.alloc (.cells #[x, y] t)).cell? ((⟨w.heap.size, 0, none⟩ : Addr).add j) = some u := by
  intro j u hj
  have hh := heap_alloc_new w (.cells #[x, y] t)
  have e0 : (⟨w.heap.size, 0, none⟩ : Addr).add j = ⟨w.heap.size, 0 + j, none⟩ := by unfold Addr.add; split <;> simp_all
  rw [e0]
  match j, hj with
  | 0, hj => simp at hj; subst hj; unfold World.cell?; rw [hh]; rfl
  | 1, hj => simp at hj; subst hj; unfold World.cell?; rw [hh]; rfl
/-- append of one field to a slice of the call's own. -/
theorem append_field {ops : Array Oper} {rest : List Oper} {o : Oper} {a : Act} {Q : Exit → Act → World → Prop} (w0 : World) (hgd : o.guard = none) (s x : Operand)
    (ho : o.op = .call { callee := .builtin .append, args := #[s, x], argTypes := #[50, 50] })
    (base : Nat) (v : Value) (fs : List (List UInt8 × List UInt8)) (hs : a.eval s = v) (hown : w0.ownsRow base 73 2 v fs.length (fcells fs))
    (p q : ByteArray) (f : List UInt8 × List UInt8) (hp : p = bs f.1) (hq : q = bs f.2) (hx : a.eval x = .slice (some ⟨w0.heap.size, 0, none⟩) 1 1) (hn : fs.length < 2147483648) (hbase : base ≤ w0.heap.size)
    (h : ∀ v' w', w'.ownsRow base 73 2 v' (fs ++ [f]).length (fcells (fs ++ [f])) → w0.grownBy w' v.ownBlock → v' ≠ .slice none 0 0 → wpList Tryz.prog ops Q rest (a.put o.dst v') w') :
    wpList Tryz.prog ops Q (o :: rest) a (w0.alloc (.cells #[.string p, .string q] 73)) := by
  obtain ⟨i0, hi, hz0, hz1, hz2⟩ := info_parts info_field
  subst hp hq
  refine wpList_append_own _ hgd s x 50 ho base 73 i0 _ 2 32 Tryz.underlying50 hi hz0 hz1 hz2 rfl (by decide) v fs.length (fcells fs) hs (hown.alloc _) ⟨w0.heap.size, 0, none⟩ 1 1 [.string (bs f.1), .string (bs f.2)] hx rfl (cell_two_new w0 _ _ _) (by simp [Value.oneCell']) (by unfold maxLen; omega) (by omega) (by simp; omega) ?_
  intro v' w' h2 h3 h4
  refine h v' w' ?_ ?_ (fun e => by have := (h4.1 e).2; omega)
  · rw [List.length_append, fcells_append]; exact h2
  · exact ⟨h3.os, h3.tape, h3.output, Nat.le_trans (by simp) h3.size, fun k hk hne => (h3.block k (by simp; omega) hne).trans (heap_alloc_old w0 _ hk)⟩
theorem below_ownF {B : Nat} {w wr w' : World} {base : Nat} {e : TypeId} {size : Nat} {v : Value} {n : Nat} {xs : List Value} (hb : Below B w wr) (hg : wr.grownBy w' v.ownBlock) (hown : wr.ownsRow base e size v n xs) (hB : B ≤ base) (hB2 : B ≤ wr.heap.size) : Below B w w' :=
  hb.grown hg hB2 fun k hk => Nat.le_trans hB (hown.lt k hk).1

def OwnPost (fs : List (List UInt8 × List UInt8)) (w : World) (e : Ending) (w' : World) : Prop := ∃ v, e = .returned v ∧ HoldsF w' v fs ∧ Below w.heap.size w w'
/-- where a name stands, told as the reference counts. -/
def RGet (fs : List (List UInt8 × List UInt8)) (m : List UInt8) (k : Nat) (x y : Value) : Prop :=
  ∃ c t : Nat, x = .int .i64 c ∧ y = .int .i64 t ∧ c = (hits (fs.take k) m).length ∧ c ≤ k ∧ (0 < c → ∃ h : t < fs.length, (hits (fs.take k) m).getLast? = some fs[t].2)
theorem hits_all (fs : List (List UInt8 × List UInt8)) (m : List UInt8) (k : Nat) (h : fs.length ≤ k) : hits (fs.take k) m = hits fs m := by rw [List.take_of_length_le h]
set_option maxRecDepth 100000 in
set_option maxHeartbeats 2000000 in
theorem ref_get (v : Value) (fs : List (List UInt8 × List UInt8)) (n : ByteArray) (w : World) (hv : HoldsF w v fs) (hlen : fs.length ≤ 1000000) :
    Calls Tryz.prog 39 #[v, .string n] w fun e w' => e = .returned (.tuple #[.string (bs (getS fs n.data.toList)), .int .i64 (getE fs n.data.toList)]) ∧ w' = w := by
  obtain ⟨a, c, rfl, hc, hx⟩ := hv
  have HX := Lib.hid hx
  clear hx
  obtain ⟨m, rfl⟩ : ∃ m, n = bs m := ⟨n.data.toList, (bs_self n).symm⟩
  rw [bs_data]
  go_enter Tryz.func39, Tryz.ntmps39
  go_wp2_with fail
  go_loop [6, 7, 8] (fun x y i => ∃ k : Nat, k ≤ fs.length ∧ i = .int .i64 k ∧ RGet fs m k x y) (fun _ _ i => fs.length - (intOf i).toNat)
  case atStart => exact ⟨0, by omega, rfl, 0, 0, rfl, rfl, rfl, by omega, fun h => absurd h (Nat.lt_irrefl _)⟩
  case round =>
    obtain ⟨k, hk, rfl, cn, tn, rfl, rfl, hcn, hck, hlast⟩ := hrel
    by_cases hlt : k < fs.length
    · obtain ⟨b, o, rfl, hbl, hcell⟩ := HX.out (fun e => by rw [e] at hlt; exact absurd hlt (Nat.not_lt_zero _))
      have c0 := (hcell k hlt).1
      have hstep := hits_step fs m k hlt
      have hcmp := bs_beq fs[k].1 m
      clear hcell
      by_cases hn : fs[k].1 = m
      · rw [if_pos hn] at hstep
        rw [decide_eq_true hn] at hcmp
        have Hn : Hid (RGet fs m (k + 1) (.int .i64 ((cn + 1 : Nat) : Int)) (.int .i64 (k : Int))) := Lib.hid ⟨cn + 1, k, rfl, rfl, by rw [hstep, List.length_append, ← hcn]; rfl, by omega, fun _ => ⟨hlt, by rw [hstep, List.getLast?_append]; rfl⟩⟩
        clear hstep hn HX hlast hcn
        obtain ⟨X, hX⟩ : ∃ X, X = bs fs[k].1 := ⟨_, rfl⟩
        rw [← hX] at c0 hcmp
        clear hX
        go_wp2_with fail
        go_round
        case rel => exact ⟨k + 1, by omega, by go_num, Hn.out⟩
        case measure => simp [intOf]; omega
      · rw [if_neg hn, List.append_nil] at hstep
        rw [decide_eq_false hn] at hcmp
        have Hn : Hid (RGet fs m (k + 1) (.int .i64 (cn : Int)) (.int .i64 (tn : Int))) := Lib.hid ⟨cn, tn, rfl, rfl, by rw [hstep]; exact hcn, by omega, fun h => by rw [hstep]; exact hlast h⟩
        clear hstep hn HX hlast hcn
        obtain ⟨X, hX⟩ : ∃ X, X = bs fs[k].1 := ⟨_, rfl⟩
        rw [← hX] at c0 hcmp
        clear hX
        go_wp2_with fail
        go_round
        case rel => exact ⟨k + 1, by omega, by go_num, Hn.out⟩
        case measure => simp [intOf]; omega
    · rw [hits_all fs m k (by omega)] at hcn hlast
      by_cases hz : cn = 0
      · have H : Hid (getS fs m = [] ∧ getE fs m = 6) := Lib.hid (by
          have : hits fs m = [] := List.length_eq_zero_iff.1 (by omega)
          unfold getS getE; rw [this]; exact ⟨rfl, rfl⟩)
        have t1 : ((cn : Int) == 0) = true := by rw [hz]; rfl
        clear hz hcn hlast HX
        go_wp2_with fail
        go_ret2
        exact ⟨ret_two (by rw [H.out.1]; rfl) (by rw [H.out.2]; rfl), rfl⟩
      · have t1 : ((cn : Int) == 0) = false := by rw [beq_eq_false_iff_ne]; omega
        by_cases h1 : 1 < cn
        · have H : Hid (getS fs m = [] ∧ getE fs m = 22) := Lib.hid (by
            unfold getS getE
            cases hh : hits fs m with
            | nil => rw [hh] at hcn; simp at hcn; omega
            | cons a t => cases t with
              | nil => rw [hh] at hcn; simp at hcn; omega
              | cons b u => exact ⟨rfl, rfl⟩)
          clear hz hcn hlast HX
          go_wp2_with fail
          go_ret2
          exact ⟨ret_two (by rw [H.out.1]; rfl) (by rw [H.out.2]; rfl), rfl⟩
        · obtain ⟨htl, hl⟩ := hlast (by omega)
          obtain ⟨b, o, rfl, hbl, hcell⟩ := HX.out (fun e => by rw [e] at htl; exact absurd htl (Nat.not_lt_zero _))
          have c1 := (hcell tn htl).2
          have H : Hid (getS fs m = fs[tn].2 ∧ getE fs m = 0) := Lib.hid (by
            unfold getS getE
            cases hh : hits fs m with
            | nil => rw [hh] at hcn; simp at hcn; omega
            | cons a t => cases t with
              | nil => rw [hh] at hl; simp at hl; exact ⟨hl, rfl⟩
              | cons b u => rw [hh] at hcn; simp at hcn; omega)
          clear hz hcn hl HX hcell
          go_wp2_with fail
          go_ret2
          exact ⟨ret_two (by rw [H.out.1]; rfl) (by rw [H.out.2]; rfl), rfl⟩
theorem ref_digitsZ (n : Int) (w : World) (h1 : n ≤ 9223372036854775807) :
    Calls Tryz.prog 29 #[.int .i64 n] w fun e w' => e = .returned (.string (bs (digL n))) ∧ w' = w := by
  by_cases hn : n < 0
  · have H : Hid (digL n = []) := Lib.hid (if_pos hn)
    go_enter Tryz.func29, Tryz.ntmps29
    go_wp2_with fail
    go_ret
    exact ⟨by rw [H.out]; rfl, rfl⟩
  · obtain ⟨k, rfl⟩ := Int.eq_ofNat_of_zero_le (show 0 ≤ n by omega)
    have := ref_digits k k w (Nat.le_refl _) (by omega)
    rw [show digL (k : Int) = Go.Lib.decDigits k from if_neg hn]
    exact this

/-- the reference's reading of a number: what is known behind k digits -/
def RNum (l : List UInt8) (k : Nat) (x y : Value) : Prop := ∃ (n : Nat) (b : Bool), x = .int .i64 n ∧ y = .bool b ∧ n ≤ 9007199254740991 ∧ b = decide (9007199254740991 < decV (l.take k)) ∧ (b = false → n = decV (l.take k))
theorem rnum_step (l : List UInt8) (k n : Nat) (b : Bool) (hk : k < l.length) (hn : n ≤ 9007199254740991) (hb : b = decide (9007199254740991 < decV (l.take k))) (hv : b = false → n = decV (l.take k)) (hd : 48 ≤ l[k].toNat ∧ l[k].toNat ≤ 57) :
    (9007199254740991 < n * 10 + (l[k].toNat - 48) → RNum l (k + 1) (.int .i64 0) (.bool true)) ∧ (¬ 9007199254740991 < n * 10 + (l[k].toNat - 48) → RNum l (k + 1) (.int .i64 ((n * 10 + (l[k].toNat - 48) : Nat) : Int)) (.bool b)) := by
  have hs : decV (l.take (k + 1)) = decV (l.take k) * 10 + (l[k].toNat - 48) := by
    rw [List.take_succ_eq_append_getElem hk, decV_snoc]
  constructor
  · intro h
    refine ⟨0, true, rfl, rfl, by omega, ?_, fun h => absurd h (by decide)⟩
    rw [eq_comm, decide_eq_true_eq, hs]
    cases b with
    | true => have := of_decide_eq_true hb.symm; omega
    | false => have := hv rfl; omega
  · intro h
    refine ⟨_, b, rfl, rfl, by omega, ?_, fun e => by rw [hs, ← hv e]⟩
    cases b with
    | true => have := of_decide_eq_true hb.symm; rw [eq_comm, decide_eq_true_eq, hs]; omega
    | false => have := hv rfl; rw [eq_comm, decide_eq_false_iff_not, hs]; omega

set_option maxRecDepth 100000 in
set_option maxHeartbeats 2000000 in
theorem ref_number (s : ByteArray) (w : World) (hs : s.size ≤ 1000000) :
    Calls Tryz.prog 40 #[.string s] w fun e w' => e = .returned (.tuple #[.int .i64 (numV s.data.toList), .int .i64 (numE s.data.toList)]) ∧ w' = w := by
  obtain ⟨l, hl⟩ : ∃ l, l = s.data.toList := ⟨_, rfl⟩
  have hsl : l.length = s.size := by rw [hl]; exact size_len s
  have hlead1 := fun h h2 => lead0_size s h h2
  have hlead2 := fun h => lead0_not s h
  rw [← hl] at hlead1 hlead2 ⊢
  have HL := Lib.hid hl
  clear hl
  by_cases h0 : s.size = 0
  · have H := Lib.hid (numE_bad l (by rw [List.length_eq_zero_iff.1 (show l.length = 0 by omega)]; rfl))
    have t : ((s.size : Int) == 0) = true := by rw [h0]; rfl
    clear hsl hlead1 hlead2 h0
    go_enter Tryz.func40, Tryz.ntmps40
    go_wp2_with fail
    go_ret2
    exact ⟨ret_nums (by rw [H.out.2]; rfl) (by rw [H.out.1]; rfl), rfl⟩
  · have t : ((s.size : Int) == 0) = false := by rw [beq_eq_false_iff_ne]; omega
    have hpos : 0 < s.size := by omega
    by_cases h1 : ∃ h : 1 < s.size, s[0] = 48
    · obtain ⟨h1, h48⟩ := h1
      have H := Lib.hid (numE_bad l (by unfold numBad; rw [hlead1 h1 h48, Bool.or_true]))
      have t1 : ((s[0].toNat : Int) == 48) = true := by rw [h48]; rfl
      clear hsl hlead1 hlead2 h48 h0
      go_enter Tryz.func40, Tryz.ntmps40
      go_wp2_with fail
      go_ret2
      exact ⟨ret_nums (by rw [H.out.2]; rfl) (by rw [H.out.1]; rfl), rfl⟩
    · have hl0 := Lib.hid (hlead2 h1)
      have hemp : Hid (l.isEmpty = false) := Lib.hid (by rw [Bool.eq_false_iff, Ne, List.isEmpty_iff]; intro e; rw [e] at hsl; simp at hsl; omega)
      clear hlead1 hlead2 h0
      by_cases h2 : 1 < s.size
      case' pos =>
        have t1 : ((s[0].toNat : Int) == 48) = false := by
          rw [beq_eq_false_iff_ne]; intro e; exact h1 ⟨h2, UInt8.toNat_inj.1 (by show _ = 48; omega)⟩
      case' neg =>
        have t1 : decide ((s.size : Int) > 1) = false := decide_eq_false (by omega)
      all_goals
        clear h1
        go_enter Tryz.func40, Tryz.ntmps40
        go_wp2_with fail
        go_loop [4, 5, 6] (fun x y i => ∃ k : Nat, k ≤ s.size ∧ i = .int .i64 k ∧ Hid (digAll (l.take k) = true) ∧ RNum l k x y) (fun _ _ i => s.size - (intOf i).toNat)
        case atStart => exact ⟨0, by omega, rfl, Lib.hid rfl, 0, false, rfl, rfl, by omega, rfl, fun _ => rfl⟩
        case round =>
          obtain ⟨k, hk, rfl, Hd, n, b, rfl, rfl, hn, hb, hv⟩ := hrel
          by_cases hlt : k < s.size
          · have hlk : l[k]'(by omega) = s[k] := by have := HL.out; subst this; rfl
            have hcase : s[k].toNat < 48 ∨ 57 < s[k].toNat ∨ (48 ≤ s[k].toNat ∧ s[k].toNat ≤ 57) := by omega
            have hbadk : digN s[k].toNat = false → numE l = 4 ∧ numV l = 0 := fun hq => numE_bad l (by
              unfold numBad digAll
              rw [show l.all (fun c => digN c.toNat) = false by rw [HL.out]; exact all_at (fun c => digN c.toNat) s k hlt hq]; simp)
            rcases hcase with hc | hc | hc
            · have H := Lib.hid (hbadk (by unfold digN; rw [decide_eq_false (by omega), Bool.false_and]))
              clear hbadk hlk Hd hb hv
              have t2 : decide ((s[k].toNat : Int) < 48) = true := decide_eq_true (by omega)
              go_wp2_with fail
              go_ret2
              exact ⟨ret_nums (by rw [H.out.2]; rfl) (by rw [H.out.1]; rfl), rfl⟩
            · have H := Lib.hid (hbadk (by unfold digN; rw [decide_eq_false (show ¬ s[k].toNat ≤ 57 by omega), Bool.and_false]))
              clear hbadk hlk Hd hb hv
              have t2 : decide ((s[k].toNat : Int) < 48) = false := decide_eq_false (by omega)
              have t3 : decide ((s[k].toNat : Int) > 57) = true := decide_eq_true (by omega)
              go_wp2_with fail
              go_ret2
              exact ⟨ret_nums (by rw [H.out.2]; rfl) (by rw [H.out.1]; rfl), rfl⟩
            · have hst := rnum_step l k n b (by omega) hn hb hv (by rw [hlk]; exact hc)
              rw [hlk] at hst
              have Hd' : Hid (digAll (l.take (k + 1)) = true) := Lib.hid (by
                unfold digAll; rw [List.take_succ_eq_append_getElem (by omega), List.all_append, hlk]
                rw [show (l.take k).all (fun c => digN c.toNat) = true from Hd.out, List.all_cons, digN_mk _ hc.1 hc.2]; rfl)
              obtain ⟨c1, c2⟩ := hc
              have t2 : decide ((s[k].toNat : Int) < 48) = false := decide_eq_false (by omega)
              have t3 : decide ((s[k].toNat : Int) > 57) = false := decide_eq_false (by omega)
              clear hbadk hlk Hd hb hv
              by_cases hbig : 9007199254740991 < n * 10 + (s[k].toNat - 48)
              · have Hn := Lib.hid (hst.1 hbig)
                have t4 : decide ((10 * (n : Int) + (s[k].toNat : Int) - 48) > 9007199254740991) = true := decide_eq_true (by omega)
                clear hst hbig
                go_wp2_with fail
                go_round
                case rel => exact ⟨k + 1, by omega, by go_num, Hd', Hn.out⟩
                case measure => simp [intOf]; omega
              · have Hn := Lib.hid (hst.2 hbig)
                have t4 : decide ((10 * (n : Int) + (s[k].toNat : Int) - 48) > 9007199254740991) = false := decide_eq_false (by omega)
                have Hz : Hid ((10 * (n : Int) + (s[k].toNat : Int) - 48) = ((n * 10 + (s[k].toNat - 48) : Nat) : Int)) := Lib.hid (by omega)
                clear hst hbig
                go_wp2_with fail
                go_round
                case rel => exact ⟨k + 1, by omega, by go_num, Hd', by rw [Hz.out]; exact Hn.out⟩
                case measure => simp [intOf]; omega
          · have hall : l.take k = l := List.take_of_length_le (by omega)
            have hgood : numBad l = false := by
              have := Hd.out
              rw [hall] at this
              unfold numBad; rw [hemp.out, this, hl0.out]; rfl
            rw [hall] at hb hv
            cases b with
            | true =>
              have H := Lib.hid (numE_over l hgood (of_decide_eq_true hb.symm))
              clear hb hv hgood hall Hd
              go_wp2_with fail
              go_ret2
              exact ⟨ret_nums (by rw [H.out.2]; rfl) (by rw [H.out.1]; rfl), rfl⟩
            | false =>
              have H := Lib.hid (numE_ok l hgood (of_decide_eq_false hb.symm))
              have Hv := Lib.hid (hv rfl)
              clear hb hv hgood hall Hd
              go_wp2_with fail
              go_ret2
              exact ⟨ret_nums (by rw [H.out.2, ← Hv.out]) (by rw [H.out.1]; rfl), rfl⟩
end Go.Proofs.YtdihhbkajcngeaaGreatDoor
namespace Go.Proofs.YtdihhbkajcngeaaGreatDoor
open Go.RowKit

theorem box2 (w : World) (x y : Value) (t : TypeId) : (w.alloc (.cells #[x, y] t)).cell? ⟨w.heap.size, 0, none⟩ = some x ∧ (w.alloc (.cells #[x, y] t)).cell? ⟨w.heap.size, 1, none⟩ = some y := by
  have hh := heap_alloc_new w (.cells #[x, y] t)
  constructor <;> (unfold World.cell?; rw [hh]; rfl)
theorem digL_len (n : Int) (h1 : n ≤ 9223372036854775807) : (digL n).length ≤ 20 := by
  unfold digL; split
  · exact Nat.zero_le _
  · exact decDigits_len _ (by omega)
end Go.Proofs.YtdihhbkajcngeaaGreatDoor
namespace Go.Proofs.YtdihhbkajcngeaaGreatDoor
open Go.RowKit

theorem own_keep {B : Nat} {e : TypeId} {k : Nat} {v : Value} {n : Nat} {xs : List Value} {w w' : World} (h : w.ownsRow B e k v n xs) (hb : Below w.heap.size w w') : w'.ownsRow B e k v n xs := by
  refine ⟨h.1, ?_⟩
  rcases h.2 with h0 | ⟨g, cap, cur, e1, e2, e3, e4⟩
  · exact .inl h0
  · exact .inr ⟨g, cap, cur, e1, e2, (hb.block g (Array.getElem?_eq_some_iff.1 e3).1).trans e3, e4⟩
def intsV (ns : List Nat) : List Value := ns.map fun (n : Nat) => .int .i64 (n : Int)
theorem intsV_length (ns : List Nat) : (intsV ns).length = ns.length := by simp [intsV]
theorem intsV_append (a b : List Nat) : intsV (a ++ b) = intsV a ++ intsV b := by simp [intsV]
/-- the slice v reads, in the world w, as the numbers ns; it lies behind block B -/
def HoldsI (B : Nat) (w : World) (v : Value) (ns : List Nat) : Prop :=
  ∃ b c, v = .slice (some ⟨b, 0, none⟩) ns.length c ∧ B ≤ b ∧ b < w.heap.size ∧ ns.length ≤ c ∧ ∀ j (hj : j < ns.length), w.cell? ⟨b, j, none⟩ = some (.int .i64 (ns[j] : Int))
theorem HoldsI.of_own {w : World} {base n : Nat} {e : TypeId} {v : Value} {ns : List Nat} (h : w.ownsRow base e 1 v n (intsV ns)) (hne : ns ≠ []) : HoldsI base w v ns := by
  have hn : ns.length = n := by have := h.1; rw [intsV_length, Nat.mul_one] at this; exact this
  subst hn
  rcases h.2 with ⟨rfl, h0⟩ | ⟨g, cap, cur, rfl, hb, hg, hle, hm, hs, ht⟩
  · exact absurd (List.eq_nil_of_length_eq_zero h0) hne
  · refine ⟨g, cap, rfl, hb, (Array.getElem?_eq_some_iff.1 hg).1, hle, fun j hj => ?_⟩
    have := h.cells (g := g) rfl j (.int .i64 (ns[j] : Int)) (by unfold intsV; rw [List.getElem?_map, List.getElem?_eq_getElem hj]; rfl)
    have e0 : (⟨g, 0, none⟩ : Addr).add j = ⟨g, j, none⟩ := by unfold Addr.add; split <;> simp_all
    rwa [e0] at this
theorem info_int : (Tryz.prog.info? 3).map (fun i => (i.zero, i.size, i.bytes)) = some (some (.int .i64 0), 1, 8) := by kernel_rfl
theorem append_int {ops : Array Oper} {rest : List Oper} {o : Oper} {a : Act} {Q : Exit → Act → World → Prop} (w0 : World) (hgd : o.guard = none) (s x : Operand)
    (ho : o.op = .call { callee := .builtin .append, args := #[s, x], argTypes := #[115, 115] })
    (base : Nat) (v : Value) (ns : List Nat) (hs : a.eval s = v) (hown : w0.ownsRow base 3 1 v ns.length (intsV ns))
    (m : Nat) (hx : a.eval x = .slice (some ⟨w0.heap.size, 0, none⟩) 1 1) (hn : ns.length < 2147483648) (hbase : base ≤ w0.heap.size)
    (h : ∀ v' w', w'.ownsRow base 3 1 v' (ns ++ [m]).length (intsV (ns ++ [m])) → w0.grownBy w' v.ownBlock → v' ≠ .slice none 0 0 → wpList Tryz.prog ops Q rest (a.put o.dst v') w') :
    wpList Tryz.prog ops Q (o :: rest) a (w0.alloc (.cells #[.int .i64 (m : Int)] 3)) := by
  obtain ⟨i0, hi, hz0, hz1, hz2⟩ := info_parts info_int
  refine wpList_append_own _ hgd s x 115 ho base 3 i0 _ 1 8 Tryz.underlying115 hi hz0 hz1 hz2 rfl (by decide) v ns.length (intsV ns) hs (hown.alloc _) ⟨w0.heap.size, 0, none⟩ 1 1 [.int .i64 (m : Int)] hx rfl (cell_one_new w0 _ _) (by simp [Value.oneCell']) (by unfold maxLen; omega) (by omega) (by simp; omega) ?_
  intro v' w' h2 h3 h4
  refine h v' w' ?_ ?_ (fun e => by have := (h4.1 e).2; omega)
  · rw [List.length_append, intsV_append]; simpa [intsV] using h2
  · exact ⟨h3.os, h3.tape, h3.output, Nat.le_trans (by simp) h3.size, fun k hk hne => (h3.block k (by simp; omega) hne).trans (heap_alloc_old w0 _ hk)⟩
/-- the first error of some texts that are to be numbers -/
def numsE : List (List UInt8) → Nat
  | [] => 0
  | l :: t => if numE l ≠ 0 then numE l else numsE t
theorem numsE_skip (xs : List (List UInt8)) : ∀ k, (∀ j (hj : j < xs.length), j < k → numE xs[j] = 0) → numsE xs = numsE (xs.drop k) := by
  induction xs with
  | nil => intro k _; simp
  | cons x t ih =>
    intro k h
    cases k with
    | zero => rfl
    | succ k =>
      have h0 := h 0 (by simp) (by omega)
      show (if numE x ≠ 0 then numE x else numsE t) = numsE (t.drop k)
      rw [if_neg (fun hh => hh h0)]
      exact ih k (fun j hj hk => h (j + 1) (by simp; omega) (by omega))
theorem numsE_at (xs : List (List UInt8)) (k : Nat) (hk : k < xs.length) (h : ∀ j (hj : j < xs.length), j < k → numE xs[j] = 0) (hb : numE xs[k] ≠ 0) : numsE xs = numE xs[k] := by
  rw [numsE_skip xs k h, List.drop_eq_getElem_cons hk]
  exact if_pos hb
theorem numsE_all (xs : List (List UInt8)) (h : ∀ j (hj : j < xs.length), numE xs[j] = 0) : numsE xs = 0 := by
  rw [numsE_skip xs xs.length (fun j hj _ => h j hj), List.drop_length]; rfl
def NumsPost (xs : List (List UInt8)) (w : World) (e : Ending) (w' : World) : Prop := ∃ v, e = .returned (.tuple #[v, .int .i64 (numsE xs : Nat)]) ∧ (numsE xs = 0 → HoldsI w.heap.size w' v (xs.map numV)) ∧ Below w.heap.size w w'
end Go.Proofs.YtdihhbkajcngeaaGreatDoor
namespace Go.Proofs.YtdihhbkajcngeaaGreatDoor
open Go.RowKit

theorem c_cutAt (s : ByteArray) (c : UInt8) (w : World) (hs : s.size ≤ 1000000) (hE : EnvF w) :
    Calls Tryz.prog 66 #[.string s, .string ⟨#[c]⟩] w fun e w' => e = .returned (.tuple #[.string (bs (if hasB c s.data.toList = true then upTo c s.data.toList else s.data.toList)), .string (bs (if hasB c s.data.toList = true then behind c s.data.toList else [])), .bool (hasB c s.data.toList)]) ∧ Below w.heap.size w w' := by
  obtain ⟨m, hm⟩ := hE.m
  refine (Tryz.strings_Cut s ⟨#[c]⟩ m w (by omega) hm).mono ?_
  rintro e w' ⟨rfl, n, rfl⟩
  refine ⟨?_, (fun n => by induction n with | zero => exact Below.refl _ _ | succ n ih => exact ih.drew : ∀ n, Below w.heap.size w (w.drewN n)) n⟩
  have h2 := cut_one c s.data.toList
  have h3 : Go.Lib.cut s.data.toList (ByteArray.mk #[c]).data.toList = Go.Lib.cut s.data.toList [c] := rfl
  rw [h3, h2]
  cases hasB c s.data.toList <;> rfl
theorem c_cutPre (s p : ByteArray) (w : World) :
    Calls Tryz.prog 62 #[.string s, .string p] w fun e w' => e = .returned (.tuple #[.string (bs (Lib.trimPrefix s.data.toList p.data.toList)), .bool (p.data.toList.isPrefixOf s.data.toList)]) ∧ w' = w := Tryz.strings_CutPrefix s p w
theorem numV_le' (l : List UInt8) : numV l ≤ 9007199254740991 := by
  unfold numV
  split
  · rename_i h
    unfold numE at h
    split at h
    · exact absurd h (by decide)
    · split at h
      · exact absurd h (by decide)
      · omega
  · exact Nat.zero_le _
theorem twoE_nums (a b : List UInt8) : numsE [a, b] = twoE a b := by
  show (if numE a ≠ 0 then numE a else if numE b ≠ 0 then numE b else 0) = _
  unfold twoE
  split
  · rfl
  · split <;> omega
theorem askedSplit (l : List UInt8) : askedOk l = (asksL.isPrefixOf l && hasB 45 (if asksL.isPrefixOf l = true then l.drop 6 else l)) := by
  unfold askedOk
  cases h : asksL.isPrefixOf l <;> simp
end Go.Proofs.YtdihhbkajcngeaaGreatDoor
namespace Go.Proofs.YtdihhbkajcngeaaGreatDoor
open Go.RowKit

theorem textR_len (a b : Int) (ha : a ≤ 9223372036854775807) (hb : b ≤ 9223372036854775807) : (textR a b).length ≤ 41 := by
  unfold textR
  have h1 := digL_len a ha
  have h2 := digL_len b hb
  rw [List.length_append, List.length_cons]; omega
theorem box_two {w w1 : World} {x y : Value} {t : TypeId} (hb : Below (w.alloc (.cells #[x, y] t)).heap.size (w.alloc (.cells #[x, y] t)) w1) : w1.cell? ⟨w.heap.size, 0, none⟩ = some x ∧ w1.cell? ⟨w.heap.size, 1, none⟩ = some y :=
  ⟨(two_of (two_box hb)).c0, (two_of (two_box hb)).c1⟩
theorem below_agg2 (w : World) (x y : Value) (t : TypeId) : Below w.heap.size w (w.alloc (.cells #[x, y] t)) := (Below.refl _ _).alloc (Nat.le_refl _) _
theorem ask_ok (a b : Int) (h : rErr a b = 0) (X : ByteArray) (hX : bs (textR a b) = X) : (⟨#[98, 121, 116, 101, 115, 61]⟩ : ByteArray) ++ X = bs (askL a b) := by
  unfold askL
  rw [if_pos h, ← hX]
  exact bs_cat asksL (textR a b)
end Go.Proofs.YtdihhbkajcngeaaGreatDoor
