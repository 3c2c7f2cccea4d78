/- What each kind of fault does: keep, shut, cut, code, garble, place. fault.Apply and fault.Harms. What a fault makes of a printed reply: one line is another one, or it is cut (no program in sight). What is taken of a printed reply with another line in it: its body, or less of it, or nothing (no program in sight). The ends of lines in a text of lines, counted and cut at; how many lines are unlike (no program in sight). -/
import Derived.Test.YtbdmmgmcbecolaaGreatDoorPr7
import Derived.Laws.EntriesVeiled
import Derived.Deep.WholeRow
import Derived.Lib.SplitLaws
set_option linter.unusedVariables false
set_option linter.unusedSimpArgs false
namespace Go.Proofs.YtbdmmgmcbecolaaGreatDoor
open Go.RowKit
theorem EnvW.env {w : World} (h : EnvW w) : Env w := ⟨h.m, h.pow, h.big⟩
theorem bs_take (s : ByteArray) (m : Nat) : s.extract 0 m = bs (s.data.toList.take m) := by rw [extract_bs, List.drop_zero]
set_option maxRecDepth 100000 in
theorem fault_keep (k n : Int) (t s : ByteArray) (v : Value) (w : World) :
    Calls Tryz.prog 127 #[.agg #[.int .u8 k, .int .i64 n, .string t], .string s, v] w fun e w' => e = .returned (.string s) ∧ Below w.heap.size w w' := by
  have HB := Lib.hid (below_agg3 w (.int .u8 k) (.int .i64 n) (.string t) 65)
  go_enter Tryz.func127, Tryz.ntmps127
  go_wp2_with fail
  go_ret
  exact ⟨rfl, HB.out⟩
set_option maxRecDepth 100000 in
theorem fault_shut (k n : Int) (t s : ByteArray) (v : Value) (w : World) :
    Calls Tryz.prog 128 #[.agg #[.int .u8 k, .int .i64 n, .string t], .string s, v] w fun e w' => e = .returned (.string ⟨#[]⟩) ∧ Below w.heap.size w w' := by
  have HB := Lib.hid (below_agg3 w (.int .u8 k) (.int .i64 n) (.string t) 65)
  go_enter Tryz.func128, Tryz.ntmps128
  go_wp2_with fail
  go_ret
  exact ⟨rfl, HB.out⟩
set_option maxRecDepth 100000 in
theorem fault_cut (k n : Int) (t s : ByteArray) (v : Value) (w : World) :
    Calls Tryz.prog 129 #[.agg #[.int .u8 k, .int .i64 n, .string t], .string s, v] w fun e w' => e = .returned (.string (bs (s.data.toList.take (max 0 (min n (s.size : Int))).toNat))) ∧ Below w.heap.size w w' := by
  have HB := Lib.hid (below_agg3 w (.int .u8 k) (.int .i64 n) (.string t) 65)
  go_enter Tryz.func129, Tryz.ntmps129
  go_wp2_with fail
  go_ret
  exact ⟨ret_str (bs_take _ _), HB.out⟩
/-- what put makes of s, the new text of a status line -/
def codeF (n : Int) (s : ByteArray) : List UInt8 := if printErr n ≠ 0 then s.data.toList else putF s 0 (printOf n).data.toList
theorem printOf_size (n : Int) : (printOf n).size ≤ 100 := by
  unfold printOf
  split
  · exact Nat.zero_le _
  · rename_i h
    rw [class_iff] at h
    obtain ⟨m, rfl⟩ : ∃ m : Nat, n = m := ⟨n.toNat, by omega⟩
    have h2 := statusLine_len m (by omega) (by omega)
    have h3 := reason_size (m : Int)
    omega
set_option maxRecDepth 100000 in
set_option maxHeartbeats 2000000 in
theorem fault_code (k n : Int) (t s : ByteArray) (v : Value) (w : World) (hE : EnvW w) (h0 : -9223372036854775808 ≤ n) (h1 : n ≤ 9223372036854775807) (hs : s.size ≤ 1000000) :
    Calls Tryz.prog 130 #[.agg #[.int .u8 k, .int .i64 n, .string t], .string s, v] w fun e w' => e = .returned (.string (bs (codeF n s))) ∧ Below w.heap.size w w' := by
  have hB := below_agg3 w (.int .u8 k) (.int .i64 n) (.string t) 65
  have HE1 := Lib.hid (hE.below hB)
  have HB := Lib.hid hB
  have HS := Lib.hid (fun w hE => status_print n w hE h0 h1)
  have HP := Lib.hid (fun W => fault_put s (printOf n) 0 W hs (Nat.le_trans (printOf_size n) (by decide)) (by decide))
  clear hB hE
  by_cases he : printErr n = 0
  · have HR : Hid (codeF n s = putF s 0 (printOf n).data.toList) := Lib.hid (if_neg (fun h => h he))
    rw [he] at HS
    clear he
    go_enter Tryz.func130, Tryz.ntmps130
    go_wp2_with (first
      | (go_at_call 121; refine (HS.out _ HE1.out.env).mono ?_; rintro e w1 ⟨rfl, hb1⟩; have HB1 := Lib.hid hb1; clear hb1)
      | (go_at_call 164; refine (HP.out _).mono ?_; rintro e w2 ⟨rfl, hb2⟩; have HB2 := Lib.hid hb2; clear hb2))
    go_ret
    exact ⟨ret_str (by rw [HR.out]), bstep (bstep HB.out HB1.out) HB2.out⟩
  · have HR : Hid (s = bs (codeF n s)) := Lib.hid (by unfold codeF; rw [if_pos he, bs_self])
    have tz : ((printErr n : Int) != 0) = true := by rw [bne_iff_ne]; omega
    generalize printErr n = E at HS tz
    clear he
    go_enter Tryz.func130, Tryz.ntmps130
    go_wp2_with (first
      | (go_at_call 121; refine (HS.out _ HE1.out.env).mono ?_; rintro e w1 ⟨rfl, hb1⟩; have HB1 := Lib.hid hb1; clear hb1))
    go_ret
    exact ⟨ret_str HR.out, bstep HB.out HB1.out⟩
def garbleF (t : List UInt8) (s : ByteArray) (ls : List (List UInt8)) : List UInt8 := if ls.length < 2 then s.data.toList else putF s 1 (cleanL t)
theorem clean_size (t : ByteArray) : (bs (cleanL t.data.toList)).size ≤ t.size := by rw [bs_size, ← size_len t]; exact cleanL_len _
set_option maxRecDepth 100000 in
set_option maxHeartbeats 2000000 in
theorem fault_garble (k n : Int) (t s : ByteArray) (a : Option Addr) (c : Nat) (ls : List (List UInt8)) (w : World) (hs : s.size ≤ 1000000) (ht : t.size ≤ 1000000) :
    Calls Tryz.prog 132 #[.agg #[.int .u8 k, .int .i64 n, .string t], .string s, .slice a ls.length c] w fun e w' => e = .returned (.string (bs (garbleF t.data.toList s ls))) ∧ Below w.heap.size w w' := by
  have HB := Lib.hid (below_agg3 w (.int .u8 k) (.int .i64 n) (.string t) 65)
  have HC := Lib.hid (fun W => fault_clean t W ht)
  have HP := Lib.hid (fun W => fault_put s (bs (cleanL t.data.toList)) 1 W hs (Nat.le_trans (clean_size t) ht) (by decide))
  by_cases hl : ls.length < 2
  · have HR : Hid (s = bs (garbleF t.data.toList s ls)) := Lib.hid (by unfold garbleF; rw [if_pos hl, bs_self])
    have hli : (ls.length : Int) < 2 := by omega
    go_enter Tryz.func132, Tryz.ntmps132
    go_wp2_with fail
    go_ret
    exact ⟨ret_str HR.out, HB.out⟩
  · have HR : Hid (garbleF t.data.toList s ls = putF s 1 (bs (cleanL t.data.toList)).data.toList) := Lib.hid (by unfold garbleF; rw [if_neg hl, bs_data])
    have hli : ¬ ((ls.length : Int) < 2) := by omega
    generalize bs (cleanL t.data.toList) = Q at HC HP HR
    go_enter Tryz.func132, Tryz.ntmps132
    go_wp2_with (first
      | (go_at_call 165; refine (HC.out _).mono ?_; rintro e w1 ⟨rfl, hb1⟩; have HB1 := Lib.hid hb1; clear hb1)
      | (go_at_call 164; refine (HP.out _).mono ?_; rintro e w2 ⟨rfl, hb2⟩; have HB2 := Lib.hid hb2; clear hb2))
    go_ret
    exact ⟨ret_str (by rw [HR.out]), bstep (bstep HB.out HB1.out) HB2.out⟩
def placeT (t : List UInt8) (s : ByteArray) (ls : List (List UInt8)) : List UInt8 := match placeF crangeN ls 0 with | none => s.data.toList | some i => putF s i (crangeF ++ cleanL t)
theorem place_miss (c : List UInt8) : ∀ (xs : List (List UInt8)) (i : Nat), (∀ j (hj : j < xs.length), ¬ (0 < i + j ∧ parseE xs[j] = 0 ∧ parseN xs[j] = c)) → placeF c xs i = none := by
  intro xs
  induction xs with
  | nil => intro i _; rfl
  | cons x t ih =>
    intro i h
    unfold placeF
    rw [if_neg (by have := h 0 (by simp); simpa using this)]
    exact ih (i + 1) (fun j hj => by
      have := h (j + 1) (by simp; omega)
      simp only [List.getElem_cons_succ] at this
      rw [show i + 1 + j = i + (j + 1) by omega]; exact this)
theorem place_hit (c : List UInt8) : ∀ (xs : List (List UInt8)) (i k : Nat) (hk : k < xs.length), (∀ j (hj : j < xs.length), j < k → ¬ (0 < i + j ∧ parseE xs[j] = 0 ∧ parseN xs[j] = c)) → (0 < i + k ∧ parseE xs[k] = 0 ∧ parseN xs[k] = c) → placeF c xs i = some (i + k) := by
  intro xs
  induction xs with
  | nil => intro i k hk; simp at hk
  | cons x t ih =>
    intro i k hk h h2
    cases k with
    | zero =>
      unfold placeF
      rw [if_pos (by simpa using h2)]; rfl
    | succ k =>
      unfold placeF
      rw [if_neg (by have := h 0 (by simp) (by omega); simpa using this)]
      have := ih (i + 1) k (by simpa using hk) (fun j hj hjk => by
        have := h (j + 1) (by simp; omega) (by omega)
        simp only [List.getElem_cons_succ] at this
        rw [show i + 1 + j = i + (j + 1) by omega]; exact this) (by
        simp only [List.getElem_cons_succ] at h2
        rw [show i + 1 + k = i + (k + 1) by omega]; exact h2)
      rw [this]; congr 1; omega
def crangeB : ByteArray := ⟨#[67, 111, 110, 116, 101, 110, 116, 45, 82, 97, 110, 103, 101, 58, 32]⟩
theorem crange_cat (l : List UInt8) : crangeB ++ bs l = bs (crangeF ++ l) := by
  apply ByteArray.ext
  apply Array.toList_inj.1
  simp [bs, crangeB, crangeF]
set_option maxRecDepth 100000 in
set_option maxHeartbeats 4000000 in
theorem fault_place (k n : Int) (t s : ByteArray) (v : Value) (ls : List (List UInt8)) (w : World) (hE : EnvW w) (hv : HoldsS w v ls) (hs : s.size ≤ 1000000) (ht : t.size ≤ 10000) (hx : ∀ x ∈ ls, x.length ≤ 1000000) (hll : ls.length ≤ 1000) :
    Calls Tryz.prog 131 #[.agg #[.int .u8 k, .int .i64 n, .string t], .string s, v] w fun e w' => e = .returned (.string (bs (placeT t.data.toList s ls))) ∧ Below w.heap.size w w' := by
  have hB := below_agg3 w (.int .u8 k) (.int .i64 n) (.string t) 65
  have hv1 := hv.below hB
  obtain ⟨a, c, rfl, hc, hcell⟩ := hv1
  have HC := Lib.hid (fun W => fault_clean t W (by omega))
  have HP := Lib.hid (fun (i : Nat) (hi : i ≤ 1000) W => fault_put s (bs (crangeF ++ cleanL t.data.toList)) i W hs (by
    have := clean_size t
    rw [bs_size] at this
    rw [bs_size, List.length_append, show crangeF.length = 15 from rfl]; omega) (by omega))
  have HT : Hid (∀ i, placeF crangeN ls 0 = some i → placeT t.data.toList s ls = putF s i (bs (crangeF ++ cleanL t.data.toList)).data.toList) := Lib.hid (fun i hi => by unfold placeT; rw [hi, bs_data])
  have HT0 : Hid (placeF crangeN ls 0 = none → s = bs (placeT t.data.toList s ls)) := Lib.hid (fun hi => by unfold placeT; rw [hi, bs_self])
  have hq : (crangeB.size : Int) + (bs (cleanL t.data.toList)).size ≤ 1000000 := by
    have := clean_size t
    rw [show crangeB.size = 15 from rfl]; omega
  have padd := fun w => run_string_add_sum (P := Tryz.prog) w (⟨#[67, 111, 110, 116, 101, 110, 116, 45, 82, 97, 110, 103, 101, 58, 32]⟩ : ByteArray) (bs (cleanL t.data.toList)) (by have e : crangeB.size = (⟨#[67, 111, 110, 116, 101, 110, 116, 45, 82, 97, 110, 103, 101, 58, 32]⟩ : ByteArray).size := rfl; rw [← e]; omega)
  have HCAT : Hid ((⟨#[67, 111, 110, 116, 101, 110, 116, 45, 82, 97, 110, 103, 101, 58, 32]⟩ : ByteArray) ++ bs (cleanL t.data.toList) = bs (crangeF ++ cleanL t.data.toList)) := Lib.hid (crange_cat (cleanL t.data.toList))
  have HE := Lib.hid (hE.below hB)
  have HF := Lib.hid (fun (x : List UInt8) (hx : x.length ≤ 1000000) w hE => by have := fields_parseW (bs x) w (by rw [bs_size]; exact hx) hE; rw [bs_data] at this; exact this)
  have HX := Lib.hid hx
  have HCL := Lib.hid hcell
  generalize bs (cleanL t.data.toList) = Q at HC padd HCAT
  generalize bs (crangeF ++ cleanL t.data.toList) = R at HP HT HCAT
  have HB := Lib.hid hB
  clear hv hE hB hx hcell hq
  go_enter Tryz.func131, Tryz.ntmps131
  go_wp2_with fail
  have HU : Hid (∀ W, Below (w.alloc (.cells #[.int .u8 k, .int .i64 n, .string t] 65)).heap.size (w.alloc (.cells #[.int .u8 k, .int .i64 n, .string t] 65)) W → W.cell? ⟨w.heap.size, 2, none⟩ = some (.string t)) := Lib.hid (fun W hW => (hW.cell (p := ⟨w.heap.size, 2, none⟩) (by simp)).trans (by simp))
  have hX0 : w.heap.size < (w.alloc (.cells #[.int .u8 k, .int .i64 n, .string t] 65)).heap.size := by simp
  have HX0 := Lib.hid hX0
  clear hX0
  generalize w.alloc (.cells #[.int .u8 k, .int .i64 n, .string t] 65) = W0 at HE HCL HB HU HX0 ⊢
  go_loopg [13] ls.length (fun gk s13 wr => ∃ i : Nat, s13 = .int .i64 (i : Int) ∧ i + gk = ls.length ∧ Below W0.heap.size W0 wr ∧ Hid (∀ j (hj : j < ls.length), j < i → ¬ (0 < 0 + j ∧ parseE ls[j] = 0 ∧ parseN ls[j] = crangeN)))
  case atStart => exact ⟨0, rfl, by omega, Below.refl _ _, Lib.hid (fun j hj h => absurd h (Nat.not_lt_zero _))⟩
  case round =>
    obtain ⟨i, rfl, hgk, hb, HK⟩ := hrel
    cases gk with
    | zero =>
      obtain rfl : i = ls.length := by omega
      have HBw := Lib.hid hb
      clear hb padd
      go_wp2_with fail
      go_ret
      exact ⟨ret_str (HT0.out (place_miss crangeN ls 0 (fun j hj => HK.out j hj hj))), bstep HB.out HBw.out⟩
    | succ gm =>
      have hi : i < ls.length := by omega
      have hii : (i : Int) < (ls.length : Int) := by omega
      obtain ⟨b, o, rfl, hbl, hcl⟩ := HCL.out (by intro e; rw [e] at hi; simp at hi)
      have hci := (hb.cell (p := ⟨b, o + i, none⟩) hbl).trans (hcl i hi)
      have hic : (i : Int) < (c : Int) := by omega
      have HFi := Lib.hid (HF.out ls[i] (HX.out _ (List.getElem_mem hi)) wr (HE.out.below hb))
      have HBw := Lib.hid hb
      have hwk : IntKind.i64.wrap ((i : Int) + 1) = (i : Int) + 1 := by rw [IntKind.wrap_i64]; omega
      have HKn := HK
      obtain ⟨E, hEq⟩ : ∃ E, parseE ls[i] = E := ⟨_, rfl⟩
      obtain ⟨NM, hNq⟩ : ∃ NM, parseN ls[i] = NM := ⟨_, rfl⟩
      have HEN := Lib.hid (And.intro hEq hNq)
      rw [hEq, hNq] at HFi
      have hnm : ((bs NM).toList == [99, 111, 110, 116, 101, 110, 116, 45, 114, 97, 110, 103, 101]) = decide (NM = crangeN) := bs_lit _ _
      have HUr := HU.out wr hb
      clear hcl hb hEq hNq
      have next : ¬ (0 < i ∧ E = 0 ∧ NM = crangeN) → Hid (∀ j (hj : j < ls.length), j < i + 1 → ¬ (0 < 0 + j ∧ parseE ls[j] = 0 ∧ parseN ls[j] = crangeN)) := fun hno => Lib.hid (fun j hj hji hh => by
        rcases Nat.lt_or_ge j i with h1 | h1
        · exact HK.out j hj h1 hh
        · obtain rfl : j = i := by omega
          rw [HEN.out.1, HEN.out.2, Nat.zero_add] at hh
          exact hno hh)
      by_cases hp : 0 < i ∧ E = 0 ∧ NM = crangeN
      · obtain ⟨hp1, rfl, rfl⟩ := hp
        have HH := Lib.hid (place_hit crangeN ls 0 i hi HK.out ⟨by omega, HEN.out.1, HEN.out.2⟩)
        have hpi : (0 : Int) < (i : Int) := by omega
        rw [decide_eq_true rfl] at hnm
        clear next
        generalize bs crangeN = CN at HFi hnm
        have hcat := HCAT.out
        go_wp2_with fail
        (refine HFi.out.mono ?_; rintro e w1 ⟨rfl, hb1⟩; have HB1 := Lib.hid hb1; have HU1 := HU.out _ (HBw.out.trans (hb1.mono HBw.out.size)); have hX1 : w.heap.size ≠ w1.heap.size := Nat.ne_of_lt (Nat.lt_of_lt_of_le HX0.out (Nat.le_trans HBw.out.size hb1.size)); have hX2 : w.heap.size < w1.heap.size := Nat.lt_of_lt_of_le HX0.out (Nat.le_trans HBw.out.size hb1.size); have hX3 : ∀ A, (w1.alloc A).cell? ⟨w.heap.size, 2, none⟩ = some (.string t) := fun A => (World.cell?_alloc_old w1 A ⟨w.heap.size, 2, none⟩ hX1).trans HU1; clear hb1 HUr hci)
        go_wp2_with (first
          | (go_at_call 165; refine (HC.out _).mono ?_; rintro e w2 ⟨rfl, hb2⟩; have HB2 := Lib.hid hb2; clear hb2)
          | (go_at_call 164; refine (HP.out i (by omega) _).mono ?_; rintro e w3 ⟨rfl, hb3⟩; have HB3 := Lib.hid hb3; clear hb3))
        go_ret
        exact ⟨ret_str (by rw [HT.out i (by have := HH.out; rwa [Nat.zero_add] at this)]), bstep (bstep (bstep (bstep (bstep HB.out HBw.out) HB1.out) ((Below.refl _ _).alloc (Nat.le_refl _) _)) HB2.out) HB3.out⟩
      · have HN := next hp
        have HW2 : Hid (∀ W, Below wr.heap.size wr W → Below W0.heap.size W0 W) := Lib.hid (fun W hW => bstep HBw.out hW)
        clear next HUr padd
        rcases Nat.eq_zero_or_pos i with h0 | h0
        · subst h0
          rw [Nat.add_zero] at hci
          clear hp
          go_wp2_with fail
          refine HFi.out.mono ?_
          rintro e w1 ⟨rfl, hb1⟩
          have HB1 := Lib.hid (bstep (HW2.out _ hb1) ((Below.refl _ _).alloc (Nat.le_refl _) (.cells #[.string (bs NM), .string (bs (parseV ls[0]))] 161)))
          clear hb1 hci
          go_wp2_with fail
          go_roundg gm
          case measure => omega
          case rel => exact ⟨1, rfl, by omega, HB1.out, HN⟩
        have hpi : (0 : Int) < (i : Int) := by omega
        by_cases hE0 : E = 0
        · subst hE0
          have hNM : ¬ NM = crangeN := fun e => hp ⟨h0, rfl, e⟩
          rw [decide_eq_false hNM] at hnm
          clear hp hNM
          go_wp2_with fail
          refine HFi.out.mono ?_
          rintro e w1 ⟨rfl, hb1⟩
          have HB1 := Lib.hid (bstep (HW2.out _ hb1) ((Below.refl _ _).alloc (Nat.le_refl _) (.cells #[.string (bs NM), .string (bs (parseV ls[i]))] 161)))
          clear hb1 hci
          generalize bs NM = NB at *
          go_wp2_with fail
          go_roundg gm
          case measure => omega
          case rel => exact ⟨i + 1, rfl, by omega, HB1.out, HN⟩
        · have tz : ((E : Int) == 0) = false := by rw [beq_eq_false_iff_ne]; omega
          have tz2 : ¬ ((E : Int) = 0) := by omega
          clear hp
          go_wp2_with fail
          refine HFi.out.mono ?_
          rintro e w1 ⟨rfl, hb1⟩
          have HB1 := Lib.hid (bstep (HW2.out _ hb1) ((Below.refl _ _).alloc (Nat.le_refl _) (.cells #[.string (bs NM), .string (bs (parseV ls[i]))] 161)))
          clear hb1 hci
          go_wp2_with fail
          go_roundg gm
          case measure => omega
          case rel => exact ⟨i + 1, rfl, by omega, HB1.out, HN⟩
end Go.Proofs.YtbdmmgmcbecolaaGreatDoor
namespace Go.Proofs.YtbdmmgmcbecolaaGreatDoor
open Go.RowKit
def tableC : Array Value := #[.func (.func 127) #[] #[], .bool true, .func (.func 128) #[] #[], .bool true, .func (.func 129) #[] #[], .bool true, .func (.func 130) #[] #[], .bool false, .func (.func 131) #[] #[], .bool false, .func (.func 132) #[] #[], .bool false]
set_option maxRecDepth 100000 in
set_option maxHeartbeats 2000000 in
theorem fault_table (w : World) : Calls Tryz.prog 94 #[] w fun e w' => e = .returned (.agg tableC) ∧ Below w.heap.size w w' := by
  go_enter Tryz.func94, Tryz.ntmps94
  go_wp2_with fail
  refine ret_cell (A := ⟨w.heap.size, 0, none⟩) rfl (run_loadVar_new w 205 tableC 6 204 Tryz.underlying205 (by kernel_rfl)) rfl rfl ?_
  exact ⟨rfl, (Below.refl _ _).alloc (Nat.le_refl _) _⟩
theorem twoc_facts {w : World} {b : Nat} {x y : Value} {t : TypeId} (h : w.heap[b]? = some (.cells #[x, y] t (0, 0))) :
    w.cell? ⟨b, 0, none⟩ = some x ∧ w.cell? ⟨b, 1, none⟩ = some y ∧ w.frozen? ⟨b, 0, none⟩ = false ∧ w.frozen? ⟨b, 1, none⟩ = false := by
  refine ⟨?_, ?_, ?_, ?_⟩
  · unfold World.cell?; rw [h]; rfl
  · unfold World.cell?; rw [h]; rfl
  · unfold World.frozen?; rw [h]; simp
  · unfold World.frozen?; rw [h]; simp
structure TD (W0 W1 : World) (X D : Nat) (k n : Int) (t : ByteArray) (x y : Value) : Prop where
  blk : W1.heap[D]? = some (.cells #[x, y] 204 (0, 0))
  bel : Below W0.heap.size W0 W1
  arg : W1.heap[X]? = some (.cells #[.int .u8 k, .int .i64 n, .string t] 65 (0, 0))
theorem TD.new {W0 wa : World} {X : Nat} {k n : Int} {t : ByteArray} (hb : Below W0.heap.size W0 wa) (hX : X < W0.heap.size) (ha : W0.heap[X]? = some (.cells #[.int .u8 k, .int .i64 n, .string t] 65 (0, 0))) (x y : Value) : TD W0 (wa.alloc (.cells #[x, y] 204)) X wa.heap.size k n t x y where
  blk := heap_alloc_new wa _
  bel := hb.alloc hb.size _
  arg := ((hb.alloc hb.size _).block X hX).trans ha
theorem TD.set {W0 wa : World} {X : Nat} {k n : Int} {t : ByteArray} (hb : Below W0.heap.size W0 wa) (hX : X < W0.heap.size) (ha : W0.heap[X]? = some (.cells #[.int .u8 k, .int .i64 n, .string t] 65 (0, 0))) {x0 y0 : Value} (hz : wa.heap[W0.heap.size]? = some (.cells #[x0, y0] 204 (0, 0))) (x y : Value) : TD W0 ((wa.setCell ⟨W0.heap.size, 0, none⟩ x).setCell ⟨W0.heap.size, 1, none⟩ y) X W0.heap.size k n t x y where
  blk := two_set hz x y
  bel := two_below hb _ (Nat.le_refl _) x y
  arg := ((two_below hb _ (Nat.le_refl _) x y).block X hX).trans ha
theorem TD.below {W0 W1 W2 : World} {X D : Nat} {k n : Int} {t : ByteArray} {x y : Value} (h : TD W0 W1 X D k n t x y) (hX : X < W0.heap.size) (hb : Below W1.heap.size W1 W2) : TD W0 W2 X D k n t x y where
  blk := (hb.block D (Array.getElem?_eq_some_iff.1 h.blk).1).trans h.blk
  bel := bstep h.bel hb
  arg := (hb.block X (Nat.lt_of_lt_of_le hX h.bel.size)).trans h.arg
theorem head_some (s : ByteArray) (w : World) (hs : s.size ≤ 1000000) : Calls Tryz.prog 73 #[.string s] w fun e w' => ∃ a c, e = .returned (.tuple #[.slice a (headOf s).1.length c, .int .i64 (headOf s).2.1, .int .i64 (headOf s).2.2]) ∧ HoldsS w' (.slice a (headOf s).1.length c) (headOf s).1 ∧ Below w.heap.size w w' := by
  refine (lines_head s w (by omega)).mono ?_
  rintro e w' ⟨v, rfl, ho, hb⟩
  obtain ⟨a, c, rfl⟩ := slice_of_own ho
  exact ⟨a, c, rfl, HoldsS.of_own ho, hb⟩
theorem table_at0 (w : World) : (Instr.index 205 (.agg tableC) (.int .u8 0)).run Tryz.prog w = .ok (.agg #[.func (.func 127) #[] #[], .bool true]) w := by kernel_rfl
theorem table_at1 (w : World) : (Instr.index 205 (.agg tableC) (.int .u8 1)).run Tryz.prog w = .ok (.agg #[.func (.func 128) #[] #[], .bool true]) w := by kernel_rfl
theorem table_at2 (w : World) : (Instr.index 205 (.agg tableC) (.int .u8 2)).run Tryz.prog w = .ok (.agg #[.func (.func 129) #[] #[], .bool true]) w := by kernel_rfl
theorem table_at3 (w : World) : (Instr.index 205 (.agg tableC) (.int .u8 3)).run Tryz.prog w = .ok (.agg #[.func (.func 130) #[] #[], .bool false]) w := by kernel_rfl
theorem table_at4 (w : World) : (Instr.index 205 (.agg tableC) (.int .u8 4)).run Tryz.prog w = .ok (.agg #[.func (.func 131) #[] #[], .bool false]) w := by kernel_rfl
theorem table_at5 (w : World) : (Instr.index 205 (.agg tableC) (.int .u8 5)).run Tryz.prog w = .ok (.agg #[.func (.func 132) #[] #[], .bool false]) w := by kernel_rfl
set_option maxRecDepth 100000 in
set_option maxHeartbeats 4000000 in
theorem apply_keep (n : Int) (t s : ByteArray) (w : World) (hE : EnvW w) (h0 : -9223372036854775808 ≤ n) (h1 : n ≤ 9223372036854775807) (ht : t.size ≤ 10000) (hs : s.size ≤ 1000000) :
    Calls Tryz.prog 63 #[.agg #[.int .u8 0, .int .i64 n, .string t], .string s] w fun e w' => e = .returned (.string s) ∧ Below w.heap.size w w' := by
  have HF := Lib.hid (fun v W => fault_keep 0 n t s v W)
  have B0 := below_agg3 w (.int .u8 0) (.int .i64 n) (.string t) 65
  have HT := Lib.hid fault_table
  have HH := Lib.hid (fun W => head_some s W hs)
  have hix := table_at0
  have HE0 := Lib.hid (hE.below B0)
  have HS : Hid (∀ W, Below (w.alloc (.cells #[.int .u8 0, .int .i64 n, .string t] 65)).heap.size (w.alloc (.cells #[.int .u8 0, .int .i64 n, .string t] 65)) W → W.cell? ⟨w.heap.size, 0, none⟩ = some (.int .u8 0) ∧ W.cell? ⟨w.heap.size, 1, none⟩ = some (.int .i64 n) ∧ W.cell? ⟨w.heap.size, 2, none⟩ = some (.string t)) := Lib.hid (fun W hW => by
    obtain ⟨x0, x1, x2, -, -, -⟩ := three_facts ((hW.block w.heap.size (by simp)).trans (heap_alloc_new w _))
    exact ⟨x0, x1, x2⟩)
  have HB0 := Lib.hid B0
  have HXB : Hid ((w.alloc (.cells #[.int .u8 0, .int .i64 n, .string t] 65)).heap[w.heap.size]? = some (.cells #[.int .u8 0, .int .i64 n, .string t] 65 (0, 0))) := Lib.hid (heap_alloc_new w _)
  have hX0 : w.heap.size < (w.alloc (.cells #[.int .u8 0, .int .i64 n, .string t] 65)).heap.size := by simp
  have HX0 := Lib.hid hX0
  clear B0 hE hX0
  go_enter Tryz.func63, Tryz.ntmps63
  go_wp2_with fail
  generalize w.alloc (.cells #[.int .u8 0, .int .i64 n, .string t] 65) = W0 at HE0 HS HB0 HX0 HXB ⊢
  generalize w.heap.size = X at HS HX0 HXB ⊢
  have HDr : Hid (Below W0.heap.size W0 W0.drew) := Lib.hid (Below.refl _ _).drew
  have HA0 : Hid (Below W0.heap.size W0 (W0.alloc (.cells #[.nilFunc, .bool false] 204)).drew) := Lib.hid ((Below.refl _ _).alloc (Nat.le_refl _) _).drew
  go_region_held3 (fun w' => w'.cell? ⟨X, 0, none⟩ = some (.int .u8 0)) (first | exact (HS.out _ HDr.out).1 | exact (HS.out _ HA0.out).1 | exact (HS.out _ HA1.out).1 | exact (HS.out _ (HA1.out.alloc HA1.out.size _)).1 | exact (HS.out _ (two_below HA1.out _ (Nat.le_refl _) _ _)).1 | exact (HS.out _ (two_below (HA1.out.alloc HA1.out.size _) _ HA1.out.size _ _)).1)
    (first
      | (go_at_call 94; (refine (HT.out _).mono ?_); rintro e wa ⟨rfl, hba⟩; (first | (have HA1 : Hid (Below W0.heap.size W0 wa) := Lib.hid (bstep HDr.out hba)) | (have HA1 : Hid (Below W0.heap.size W0 wa) := Lib.hid (bstep HA0.out hba); have HZ := Lib.hid ((hba.block W0.heap.size (by simp)).trans (heap_alloc_new W0 _)); obtain ⟨z0, z1, f0, f1⟩ := twoc_facts HZ.out)); clear hba))
  all_goals
    first
      | (have HD := Lib.hid (TD.set HA1.out HX0.out HXB.out HZ.out (.func (.func 127) #[] #[]) (.bool true)); clear z0 z1 f0 f1; generalize (wa.setCell ⟨W0.heap.size, 0, none⟩ (.func (.func 127) #[] #[])).setCell ⟨W0.heap.size, 1, none⟩ (.bool true) = W1 at HD ⊢; generalize W0.heap.size = D at HD ⊢)
      | (have HD := Lib.hid (TD.new HA1.out HX0.out HXB.out (.func (.func 127) #[] #[]) (.bool true)); generalize wa.alloc (.cells #[.func (.func 127) #[] #[], .bool true] 204) = W1 at HD ⊢; generalize wa.heap.size = D at HD ⊢)
  all_goals
    clear HS HA1 HDr HA0 hix HT
    obtain ⟨d0, d1, -, -⟩ := twoc_facts HD.out.blk
    obtain ⟨x0, x1, x2, -, -, -⟩ := three_facts HD.out.arg
    go_wp2_with fail
    refine (HH.out _).mono ?_
    rintro e W2 ⟨al, cl, rfl, hhs, hb2⟩
    have HD2 := Lib.hid (HD.out.below HX0.out hb2)
    have HHS := Lib.hid hhs
    have HW2 := Lib.hid (bstep HB0.out HD2.out.bel)
    have HE2 := Lib.hid (HE0.out.below HD2.out.bel)
    clear d0 d1 x0 x1 x2 hb2 hhs HH
    obtain ⟨d0, d1, -, -⟩ := twoc_facts HD2.out.blk
    obtain ⟨x0, x1, x2, -, -, -⟩ := three_facts HD2.out.arg
    go_wp2_with fail
    refine (HF.out _ _).mono ?_
    rintro e W3 ⟨rfl, hb3⟩
    have HB3 := Lib.hid hb3
    clear hb3
    go_wp2_with fail
    go_ret
    exact ⟨rfl, bstep HW2.out HB3.out⟩
set_option maxRecDepth 100000 in
set_option maxHeartbeats 4000000 in
theorem apply_shut (n : Int) (t s : ByteArray) (w : World) (hE : EnvW w) (h0 : -9223372036854775808 ≤ n) (h1 : n ≤ 9223372036854775807) (ht : t.size ≤ 10000) (hs : s.size ≤ 1000000) :
    Calls Tryz.prog 63 #[.agg #[.int .u8 1, .int .i64 n, .string t], .string s] w fun e w' => e = .returned (.string ⟨#[]⟩) ∧ Below w.heap.size w w' := by
  have HF := Lib.hid (fun v W => fault_shut 1 n t s v W)
  have B0 := below_agg3 w (.int .u8 1) (.int .i64 n) (.string t) 65
  have HT := Lib.hid fault_table
  have HH := Lib.hid (fun W => head_some s W hs)
  have hix := table_at1
  have HE0 := Lib.hid (hE.below B0)
  have HS : Hid (∀ W, Below (w.alloc (.cells #[.int .u8 1, .int .i64 n, .string t] 65)).heap.size (w.alloc (.cells #[.int .u8 1, .int .i64 n, .string t] 65)) W → W.cell? ⟨w.heap.size, 0, none⟩ = some (.int .u8 1) ∧ W.cell? ⟨w.heap.size, 1, none⟩ = some (.int .i64 n) ∧ W.cell? ⟨w.heap.size, 2, none⟩ = some (.string t)) := Lib.hid (fun W hW => by
    obtain ⟨x0, x1, x2, -, -, -⟩ := three_facts ((hW.block w.heap.size (by simp)).trans (heap_alloc_new w _))
    exact ⟨x0, x1, x2⟩)
  have HB0 := Lib.hid B0
  have HXB : Hid ((w.alloc (.cells #[.int .u8 1, .int .i64 n, .string t] 65)).heap[w.heap.size]? = some (.cells #[.int .u8 1, .int .i64 n, .string t] 65 (0, 0))) := Lib.hid (heap_alloc_new w _)
  have hX0 : w.heap.size < (w.alloc (.cells #[.int .u8 1, .int .i64 n, .string t] 65)).heap.size := by simp
  have HX0 := Lib.hid hX0
  clear B0 hE hX0
  go_enter Tryz.func63, Tryz.ntmps63
  go_wp2_with fail
  generalize w.alloc (.cells #[.int .u8 1, .int .i64 n, .string t] 65) = W0 at HE0 HS HB0 HX0 HXB ⊢
  generalize w.heap.size = X at HS HX0 HXB ⊢
  have HDr : Hid (Below W0.heap.size W0 W0.drew) := Lib.hid (Below.refl _ _).drew
  have HA0 : Hid (Below W0.heap.size W0 (W0.alloc (.cells #[.nilFunc, .bool false] 204)).drew) := Lib.hid ((Below.refl _ _).alloc (Nat.le_refl _) _).drew
  go_region_held3 (fun w' => w'.cell? ⟨X, 0, none⟩ = some (.int .u8 1)) (first | exact (HS.out _ HDr.out).1 | exact (HS.out _ HA0.out).1 | exact (HS.out _ HA1.out).1 | exact (HS.out _ (HA1.out.alloc HA1.out.size _)).1 | exact (HS.out _ (two_below HA1.out _ (Nat.le_refl _) _ _)).1 | exact (HS.out _ (two_below (HA1.out.alloc HA1.out.size _) _ HA1.out.size _ _)).1)
    (first
      | (go_at_call 94; (refine (HT.out _).mono ?_); rintro e wa ⟨rfl, hba⟩; (first | (have HA1 : Hid (Below W0.heap.size W0 wa) := Lib.hid (bstep HDr.out hba)) | (have HA1 : Hid (Below W0.heap.size W0 wa) := Lib.hid (bstep HA0.out hba); have HZ := Lib.hid ((hba.block W0.heap.size (by simp)).trans (heap_alloc_new W0 _)); obtain ⟨z0, z1, f0, f1⟩ := twoc_facts HZ.out)); clear hba))
  all_goals
    first
      | (have HD := Lib.hid (TD.set HA1.out HX0.out HXB.out HZ.out (.func (.func 128) #[] #[]) (.bool true)); clear z0 z1 f0 f1; generalize (wa.setCell ⟨W0.heap.size, 0, none⟩ (.func (.func 128) #[] #[])).setCell ⟨W0.heap.size, 1, none⟩ (.bool true) = W1 at HD ⊢; generalize W0.heap.size = D at HD ⊢)
      | (have HD := Lib.hid (TD.new HA1.out HX0.out HXB.out (.func (.func 128) #[] #[]) (.bool true)); generalize wa.alloc (.cells #[.func (.func 128) #[] #[], .bool true] 204) = W1 at HD ⊢; generalize wa.heap.size = D at HD ⊢)
  all_goals
    clear HS HA1 HDr HA0 hix HT
    obtain ⟨d0, d1, -, -⟩ := twoc_facts HD.out.blk
    obtain ⟨x0, x1, x2, -, -, -⟩ := three_facts HD.out.arg
    go_wp2_with fail
    refine (HH.out _).mono ?_
    rintro e W2 ⟨al, cl, rfl, hhs, hb2⟩
    have HD2 := Lib.hid (HD.out.below HX0.out hb2)
    have HHS := Lib.hid hhs
    have HW2 := Lib.hid (bstep HB0.out HD2.out.bel)
    have HE2 := Lib.hid (HE0.out.below HD2.out.bel)
    clear d0 d1 x0 x1 x2 hb2 hhs HH
    obtain ⟨d0, d1, -, -⟩ := twoc_facts HD2.out.blk
    obtain ⟨x0, x1, x2, -, -, -⟩ := three_facts HD2.out.arg
    go_wp2_with fail
    refine (HF.out _ _).mono ?_
    rintro e W3 ⟨rfl, hb3⟩
    have HB3 := Lib.hid hb3
    clear hb3
    go_wp2_with fail
    go_ret
    exact ⟨rfl, bstep HW2.out HB3.out⟩
set_option maxRecDepth 100000 in
set_option maxHeartbeats 4000000 in
theorem apply_cut (n : Int) (t s : ByteArray) (w : World) (hE : EnvW w) (h0 : -9223372036854775808 ≤ n) (h1 : n ≤ 9223372036854775807) (ht : t.size ≤ 10000) (hs : s.size ≤ 1000000) :
    Calls Tryz.prog 63 #[.agg #[.int .u8 2, .int .i64 n, .string t], .string s] w fun e w' => e = .returned (.string (bs ((s.data.toList.take (max 0 (min n (s.size : Int))).toNat)))) ∧ Below w.heap.size w w' := by
  have HF := Lib.hid (fun v W => fault_cut 2 n t s v W)
  have B0 := below_agg3 w (.int .u8 2) (.int .i64 n) (.string t) 65
  have HT := Lib.hid fault_table
  have HH := Lib.hid (fun W => head_some s W hs)
  have hix := table_at2
  have HE0 := Lib.hid (hE.below B0)
  have HS : Hid (∀ W, Below (w.alloc (.cells #[.int .u8 2, .int .i64 n, .string t] 65)).heap.size (w.alloc (.cells #[.int .u8 2, .int .i64 n, .string t] 65)) W → W.cell? ⟨w.heap.size, 0, none⟩ = some (.int .u8 2) ∧ W.cell? ⟨w.heap.size, 1, none⟩ = some (.int .i64 n) ∧ W.cell? ⟨w.heap.size, 2, none⟩ = some (.string t)) := Lib.hid (fun W hW => by
    obtain ⟨x0, x1, x2, -, -, -⟩ := three_facts ((hW.block w.heap.size (by simp)).trans (heap_alloc_new w _))
    exact ⟨x0, x1, x2⟩)
  have HB0 := Lib.hid B0
  have HXB : Hid ((w.alloc (.cells #[.int .u8 2, .int .i64 n, .string t] 65)).heap[w.heap.size]? = some (.cells #[.int .u8 2, .int .i64 n, .string t] 65 (0, 0))) := Lib.hid (heap_alloc_new w _)
  have hX0 : w.heap.size < (w.alloc (.cells #[.int .u8 2, .int .i64 n, .string t] 65)).heap.size := by simp
  have HX0 := Lib.hid hX0
  clear B0 hE hX0
  go_enter Tryz.func63, Tryz.ntmps63
  go_wp2_with fail
  generalize w.alloc (.cells #[.int .u8 2, .int .i64 n, .string t] 65) = W0 at HE0 HS HB0 HX0 HXB ⊢
  generalize w.heap.size = X at HS HX0 HXB ⊢
  have HDr : Hid (Below W0.heap.size W0 W0.drew) := Lib.hid (Below.refl _ _).drew
  have HA0 : Hid (Below W0.heap.size W0 (W0.alloc (.cells #[.nilFunc, .bool false] 204)).drew) := Lib.hid ((Below.refl _ _).alloc (Nat.le_refl _) _).drew
  go_region_held3 (fun w' => w'.cell? ⟨X, 0, none⟩ = some (.int .u8 2)) (first | exact (HS.out _ HDr.out).1 | exact (HS.out _ HA0.out).1 | exact (HS.out _ HA1.out).1 | exact (HS.out _ (HA1.out.alloc HA1.out.size _)).1 | exact (HS.out _ (two_below HA1.out _ (Nat.le_refl _) _ _)).1 | exact (HS.out _ (two_below (HA1.out.alloc HA1.out.size _) _ HA1.out.size _ _)).1)
    (first
      | (go_at_call 94; (refine (HT.out _).mono ?_); rintro e wa ⟨rfl, hba⟩; (first | (have HA1 : Hid (Below W0.heap.size W0 wa) := Lib.hid (bstep HDr.out hba)) | (have HA1 : Hid (Below W0.heap.size W0 wa) := Lib.hid (bstep HA0.out hba); have HZ := Lib.hid ((hba.block W0.heap.size (by simp)).trans (heap_alloc_new W0 _)); obtain ⟨z0, z1, f0, f1⟩ := twoc_facts HZ.out)); clear hba))
  all_goals
    first
      | (have HD := Lib.hid (TD.set HA1.out HX0.out HXB.out HZ.out (.func (.func 129) #[] #[]) (.bool true)); clear z0 z1 f0 f1; generalize (wa.setCell ⟨W0.heap.size, 0, none⟩ (.func (.func 129) #[] #[])).setCell ⟨W0.heap.size, 1, none⟩ (.bool true) = W1 at HD ⊢; generalize W0.heap.size = D at HD ⊢)
      | (have HD := Lib.hid (TD.new HA1.out HX0.out HXB.out (.func (.func 129) #[] #[]) (.bool true)); generalize wa.alloc (.cells #[.func (.func 129) #[] #[], .bool true] 204) = W1 at HD ⊢; generalize wa.heap.size = D at HD ⊢)
  all_goals
    clear HS HA1 HDr HA0 hix HT
    obtain ⟨d0, d1, -, -⟩ := twoc_facts HD.out.blk
    obtain ⟨x0, x1, x2, -, -, -⟩ := three_facts HD.out.arg
    go_wp2_with fail
    refine (HH.out _).mono ?_
    rintro e W2 ⟨al, cl, rfl, hhs, hb2⟩
    have HD2 := Lib.hid (HD.out.below HX0.out hb2)
    have HHS := Lib.hid hhs
    have HW2 := Lib.hid (bstep HB0.out HD2.out.bel)
    have HE2 := Lib.hid (HE0.out.below HD2.out.bel)
    clear d0 d1 x0 x1 x2 hb2 hhs HH
    obtain ⟨d0, d1, -, -⟩ := twoc_facts HD2.out.blk
    obtain ⟨x0, x1, x2, -, -, -⟩ := three_facts HD2.out.arg
    go_wp2_with fail
    refine (HF.out _ _).mono ?_
    rintro e W3 ⟨rfl, hb3⟩
    have HB3 := Lib.hid hb3
    clear hb3
    go_wp2_with fail
    go_ret
    exact ⟨rfl, bstep HW2.out HB3.out⟩
set_option maxRecDepth 100000 in
set_option maxHeartbeats 4000000 in
theorem apply_code (n : Int) (t s : ByteArray) (w : World) (hE : EnvW w) (h0 : -9223372036854775808 ≤ n) (h1 : n ≤ 9223372036854775807) (ht : t.size ≤ 10000) (hs : s.size ≤ 1000000) (hok : (headOf s).2.2 = 0 ∧ (headOf s).1.length ≠ 0) :
    Calls Tryz.prog 63 #[.agg #[.int .u8 3, .int .i64 n, .string t], .string s] w fun e w' => e = .returned (.string (bs (codeF n s))) ∧ Below w.heap.size w w' := by
  have HOK := Lib.hid hok
  clear hok
  have HF := Lib.hid (fun v W hE => fault_code 3 n t s v W hE h0 h1 hs)
  have B0 := below_agg3 w (.int .u8 3) (.int .i64 n) (.string t) 65
  have HT := Lib.hid fault_table
  have HH := Lib.hid (fun W => head_some s W hs)
  have hix := table_at3
  have HE0 := Lib.hid (hE.below B0)
  have HS : Hid (∀ W, Below (w.alloc (.cells #[.int .u8 3, .int .i64 n, .string t] 65)).heap.size (w.alloc (.cells #[.int .u8 3, .int .i64 n, .string t] 65)) W → W.cell? ⟨w.heap.size, 0, none⟩ = some (.int .u8 3) ∧ W.cell? ⟨w.heap.size, 1, none⟩ = some (.int .i64 n) ∧ W.cell? ⟨w.heap.size, 2, none⟩ = some (.string t)) := Lib.hid (fun W hW => by
    obtain ⟨x0, x1, x2, -, -, -⟩ := three_facts ((hW.block w.heap.size (by simp)).trans (heap_alloc_new w _))
    exact ⟨x0, x1, x2⟩)
  have HB0 := Lib.hid B0
  have HXB : Hid ((w.alloc (.cells #[.int .u8 3, .int .i64 n, .string t] 65)).heap[w.heap.size]? = some (.cells #[.int .u8 3, .int .i64 n, .string t] 65 (0, 0))) := Lib.hid (heap_alloc_new w _)
  have hX0 : w.heap.size < (w.alloc (.cells #[.int .u8 3, .int .i64 n, .string t] 65)).heap.size := by simp
  have HX0 := Lib.hid hX0
  clear B0 hE hX0
  go_enter Tryz.func63, Tryz.ntmps63
  go_wp2_with fail
  generalize w.alloc (.cells #[.int .u8 3, .int .i64 n, .string t] 65) = W0 at HE0 HS HB0 HX0 HXB ⊢
  generalize w.heap.size = X at HS HX0 HXB ⊢
  have HDr : Hid (Below W0.heap.size W0 W0.drew) := Lib.hid (Below.refl _ _).drew
  have HA0 : Hid (Below W0.heap.size W0 (W0.alloc (.cells #[.nilFunc, .bool false] 204)).drew) := Lib.hid ((Below.refl _ _).alloc (Nat.le_refl _) _).drew
  go_region_held3 (fun w' => w'.cell? ⟨X, 0, none⟩ = some (.int .u8 3)) (first | exact (HS.out _ HDr.out).1 | exact (HS.out _ HA0.out).1 | exact (HS.out _ HA1.out).1 | exact (HS.out _ (HA1.out.alloc HA1.out.size _)).1 | exact (HS.out _ (two_below HA1.out _ (Nat.le_refl _) _ _)).1 | exact (HS.out _ (two_below (HA1.out.alloc HA1.out.size _) _ HA1.out.size _ _)).1)
    (first
      | (go_at_call 94; (refine (HT.out _).mono ?_); rintro e wa ⟨rfl, hba⟩; (first | (have HA1 : Hid (Below W0.heap.size W0 wa) := Lib.hid (bstep HDr.out hba)) | (have HA1 : Hid (Below W0.heap.size W0 wa) := Lib.hid (bstep HA0.out hba); have HZ := Lib.hid ((hba.block W0.heap.size (by simp)).trans (heap_alloc_new W0 _)); obtain ⟨z0, z1, f0, f1⟩ := twoc_facts HZ.out)); clear hba))
  all_goals
    first
      | (have HD := Lib.hid (TD.set HA1.out HX0.out HXB.out HZ.out (.func (.func 130) #[] #[]) (.bool false)); clear z0 z1 f0 f1; generalize (wa.setCell ⟨W0.heap.size, 0, none⟩ (.func (.func 130) #[] #[])).setCell ⟨W0.heap.size, 1, none⟩ (.bool false) = W1 at HD ⊢; generalize W0.heap.size = D at HD ⊢)
      | (have HD := Lib.hid (TD.new HA1.out HX0.out HXB.out (.func (.func 130) #[] #[]) (.bool false)); generalize wa.alloc (.cells #[.func (.func 130) #[] #[], .bool false] 204) = W1 at HD ⊢; generalize wa.heap.size = D at HD ⊢)
  all_goals
    clear HS HA1 HDr HA0 hix HT
    obtain ⟨d0, d1, -, -⟩ := twoc_facts HD.out.blk
    obtain ⟨x0, x1, x2, -, -, -⟩ := three_facts HD.out.arg
    go_wp2_with fail
    refine (HH.out _).mono ?_
    rintro e W2 ⟨al, cl, rfl, hhs, hb2⟩
    have HD2 := Lib.hid (HD.out.below HX0.out hb2)
    have HHS := Lib.hid hhs
    have HW2 := Lib.hid (bstep HB0.out HD2.out.bel)
    have HE2 := Lib.hid (HE0.out.below HD2.out.bel)
    clear d0 d1 x0 x1 x2 hb2 hhs HH
    obtain ⟨d0, d1, -, -⟩ := twoc_facts HD2.out.blk
    obtain ⟨x0, x1, x2, -, -, -⟩ := three_facts HD2.out.arg
    have g1 := HOK.out.1
    have g2 : ((headOf s).1.length : Int) ≠ 0 := by have := HOK.out.2; omega
    have g3 : (((headOf s).1.length : Int) == 0) = false := beq_eq_false_iff_ne.2 g2
    rw [g1]
    go_wp2_with fail
    refine (HF.out _ _ HE2.out).mono ?_
    rintro e W3 ⟨rfl, hb3⟩
    have HB3 := Lib.hid hb3
    clear hb3
    go_wp2_with fail
    go_ret
    exact ⟨rfl, bstep HW2.out HB3.out⟩
set_option maxRecDepth 100000 in
set_option maxHeartbeats 4000000 in
theorem apply_code_err (n : Int) (t s : ByteArray) (w : World) (hE : EnvW w) (hs : s.size ≤ 1000000) (hok : (headOf s).2.2 ≠ 0) :
    Calls Tryz.prog 63 #[.agg #[.int .u8 3, .int .i64 n, .string t], .string s] w fun e w' => e = .returned (.string s) ∧ Below w.heap.size w w' := by
  have HOK := Lib.hid hok
  clear hok
  have B0 := below_agg3 w (.int .u8 3) (.int .i64 n) (.string t) 65
  have HT := Lib.hid fault_table
  have HH := Lib.hid (fun W => head_some s W hs)
  have hix := table_at3
  have HE0 := Lib.hid (hE.below B0)
  have HS : Hid (∀ W, Below (w.alloc (.cells #[.int .u8 3, .int .i64 n, .string t] 65)).heap.size (w.alloc (.cells #[.int .u8 3, .int .i64 n, .string t] 65)) W → W.cell? ⟨w.heap.size, 0, none⟩ = some (.int .u8 3) ∧ W.cell? ⟨w.heap.size, 1, none⟩ = some (.int .i64 n) ∧ W.cell? ⟨w.heap.size, 2, none⟩ = some (.string t)) := Lib.hid (fun W hW => by
    obtain ⟨x0, x1, x2, -, -, -⟩ := three_facts ((hW.block w.heap.size (by simp)).trans (heap_alloc_new w _))
    exact ⟨x0, x1, x2⟩)
  have HB0 := Lib.hid B0
  have HXB : Hid ((w.alloc (.cells #[.int .u8 3, .int .i64 n, .string t] 65)).heap[w.heap.size]? = some (.cells #[.int .u8 3, .int .i64 n, .string t] 65 (0, 0))) := Lib.hid (heap_alloc_new w _)
  have hX0 : w.heap.size < (w.alloc (.cells #[.int .u8 3, .int .i64 n, .string t] 65)).heap.size := by simp
  have HX0 := Lib.hid hX0
  clear B0 hE hX0
  go_enter Tryz.func63, Tryz.ntmps63
  go_wp2_with fail
  generalize w.alloc (.cells #[.int .u8 3, .int .i64 n, .string t] 65) = W0 at HE0 HS HB0 HX0 HXB ⊢
  generalize w.heap.size = X at HS HX0 HXB ⊢
  have HDr : Hid (Below W0.heap.size W0 W0.drew) := Lib.hid (Below.refl _ _).drew
  have HA0 : Hid (Below W0.heap.size W0 (W0.alloc (.cells #[.nilFunc, .bool false] 204)).drew) := Lib.hid ((Below.refl _ _).alloc (Nat.le_refl _) _).drew
  go_region_held3 (fun w' => w'.cell? ⟨X, 0, none⟩ = some (.int .u8 3)) (first | exact (HS.out _ HDr.out).1 | exact (HS.out _ HA0.out).1 | exact (HS.out _ HA1.out).1 | exact (HS.out _ (HA1.out.alloc HA1.out.size _)).1 | exact (HS.out _ (two_below HA1.out _ (Nat.le_refl _) _ _)).1 | exact (HS.out _ (two_below (HA1.out.alloc HA1.out.size _) _ HA1.out.size _ _)).1)
    (first
      | (go_at_call 94; (refine (HT.out _).mono ?_); rintro e wa ⟨rfl, hba⟩; (first | (have HA1 : Hid (Below W0.heap.size W0 wa) := Lib.hid (bstep HDr.out hba)) | (have HA1 : Hid (Below W0.heap.size W0 wa) := Lib.hid (bstep HA0.out hba); have HZ := Lib.hid ((hba.block W0.heap.size (by simp)).trans (heap_alloc_new W0 _)); obtain ⟨z0, z1, f0, f1⟩ := twoc_facts HZ.out)); clear hba))
  all_goals
    first
      | (have HD := Lib.hid (TD.set HA1.out HX0.out HXB.out HZ.out (.func (.func 130) #[] #[]) (.bool false)); clear z0 z1 f0 f1; generalize (wa.setCell ⟨W0.heap.size, 0, none⟩ (.func (.func 130) #[] #[])).setCell ⟨W0.heap.size, 1, none⟩ (.bool false) = W1 at HD ⊢; generalize W0.heap.size = D at HD ⊢)
      | (have HD := Lib.hid (TD.new HA1.out HX0.out HXB.out (.func (.func 130) #[] #[]) (.bool false)); generalize wa.alloc (.cells #[.func (.func 130) #[] #[], .bool false] 204) = W1 at HD ⊢; generalize wa.heap.size = D at HD ⊢)
  all_goals
    clear HS HA1 HDr HA0 hix HT
    obtain ⟨d0, d1, -, -⟩ := twoc_facts HD.out.blk
    obtain ⟨x0, x1, x2, -, -, -⟩ := three_facts HD.out.arg
    go_wp2_with fail
    refine (HH.out _).mono ?_
    rintro e W2 ⟨al, cl, rfl, hhs, hb2⟩
    have HD2 := Lib.hid (HD.out.below HX0.out hb2)
    have HHS := Lib.hid hhs
    have HW2 := Lib.hid (bstep HB0.out HD2.out.bel)
    have HE2 := Lib.hid (HE0.out.below HD2.out.bel)
    clear d0 d1 x0 x1 x2 hb2 hhs HH
    obtain ⟨d0, d1, -, -⟩ := twoc_facts HD2.out.blk
    obtain ⟨x0, x1, x2, -, -, -⟩ := three_facts HD2.out.arg
    have g1 := HOK.out
    generalize (headOf s).2.2 = ER at g1
    have g2 : ((ER : Int) != 0) = true := by rw [bne_iff_ne]; omega
    go_wp2_with fail
    go_ret
    exact ⟨rfl, HW2.out⟩
set_option maxRecDepth 100000 in
set_option maxHeartbeats 4000000 in
theorem apply_code_none (n : Int) (t s : ByteArray) (w : World) (hE : EnvW w) (hs : s.size ≤ 1000000) (hok : (headOf s).2.2 = 0 ∧ (headOf s).1.length = 0) :
    Calls Tryz.prog 63 #[.agg #[.int .u8 3, .int .i64 n, .string t], .string s] w fun e w' => e = .returned (.string s) ∧ Below w.heap.size w w' := by
  have HOK := Lib.hid hok
  clear hok
  have B0 := below_agg3 w (.int .u8 3) (.int .i64 n) (.string t) 65
  have HT := Lib.hid fault_table
  have HH := Lib.hid (fun W => head_some s W hs)
  have hix := table_at3
  have HE0 := Lib.hid (hE.below B0)
  have HS : Hid (∀ W, Below (w.alloc (.cells #[.int .u8 3, .int .i64 n, .string t] 65)).heap.size (w.alloc (.cells #[.int .u8 3, .int .i64 n, .string t] 65)) W → W.cell? ⟨w.heap.size, 0, none⟩ = some (.int .u8 3) ∧ W.cell? ⟨w.heap.size, 1, none⟩ = some (.int .i64 n) ∧ W.cell? ⟨w.heap.size, 2, none⟩ = some (.string t)) := Lib.hid (fun W hW => by
    obtain ⟨x0, x1, x2, -, -, -⟩ := three_facts ((hW.block w.heap.size (by simp)).trans (heap_alloc_new w _))
    exact ⟨x0, x1, x2⟩)
  have HB0 := Lib.hid B0
  have HXB : Hid ((w.alloc (.cells #[.int .u8 3, .int .i64 n, .string t] 65)).heap[w.heap.size]? = some (.cells #[.int .u8 3, .int .i64 n, .string t] 65 (0, 0))) := Lib.hid (heap_alloc_new w _)
  have hX0 : w.heap.size < (w.alloc (.cells #[.int .u8 3, .int .i64 n, .string t] 65)).heap.size := by simp
  have HX0 := Lib.hid hX0
  clear B0 hE hX0
  go_enter Tryz.func63, Tryz.ntmps63
  go_wp2_with fail
  generalize w.alloc (.cells #[.int .u8 3, .int .i64 n, .string t] 65) = W0 at HE0 HS HB0 HX0 HXB ⊢
  generalize w.heap.size = X at HS HX0 HXB ⊢
  have HDr : Hid (Below W0.heap.size W0 W0.drew) := Lib.hid (Below.refl _ _).drew
  have HA0 : Hid (Below W0.heap.size W0 (W0.alloc (.cells #[.nilFunc, .bool false] 204)).drew) := Lib.hid ((Below.refl _ _).alloc (Nat.le_refl _) _).drew
  go_region_held3 (fun w' => w'.cell? ⟨X, 0, none⟩ = some (.int .u8 3)) (first | exact (HS.out _ HDr.out).1 | exact (HS.out _ HA0.out).1 | exact (HS.out _ HA1.out).1 | exact (HS.out _ (HA1.out.alloc HA1.out.size _)).1 | exact (HS.out _ (two_below HA1.out _ (Nat.le_refl _) _ _)).1 | exact (HS.out _ (two_below (HA1.out.alloc HA1.out.size _) _ HA1.out.size _ _)).1)
    (first
      | (go_at_call 94; (refine (HT.out _).mono ?_); rintro e wa ⟨rfl, hba⟩; (first | (have HA1 : Hid (Below W0.heap.size W0 wa) := Lib.hid (bstep HDr.out hba)) | (have HA1 : Hid (Below W0.heap.size W0 wa) := Lib.hid (bstep HA0.out hba); have HZ := Lib.hid ((hba.block W0.heap.size (by simp)).trans (heap_alloc_new W0 _)); obtain ⟨z0, z1, f0, f1⟩ := twoc_facts HZ.out)); clear hba))
  all_goals
    first
      | (have HD := Lib.hid (TD.set HA1.out HX0.out HXB.out HZ.out (.func (.func 130) #[] #[]) (.bool false)); clear z0 z1 f0 f1; generalize (wa.setCell ⟨W0.heap.size, 0, none⟩ (.func (.func 130) #[] #[])).setCell ⟨W0.heap.size, 1, none⟩ (.bool false) = W1 at HD ⊢; generalize W0.heap.size = D at HD ⊢)
      | (have HD := Lib.hid (TD.new HA1.out HX0.out HXB.out (.func (.func 130) #[] #[]) (.bool false)); generalize wa.alloc (.cells #[.func (.func 130) #[] #[], .bool false] 204) = W1 at HD ⊢; generalize wa.heap.size = D at HD ⊢)
  all_goals
    clear HS HA1 HDr HA0 hix HT
    obtain ⟨d0, d1, -, -⟩ := twoc_facts HD.out.blk
    obtain ⟨x0, x1, x2, -, -, -⟩ := three_facts HD.out.arg
    go_wp2_with fail
    refine (HH.out _).mono ?_
    rintro e W2 ⟨al, cl, rfl, hhs, hb2⟩
    have HD2 := Lib.hid (HD.out.below HX0.out hb2)
    have HHS := Lib.hid hhs
    have HW2 := Lib.hid (bstep HB0.out HD2.out.bel)
    have HE2 := Lib.hid (HE0.out.below HD2.out.bel)
    clear d0 d1 x0 x1 x2 hb2 hhs HH
    obtain ⟨d0, d1, -, -⟩ := twoc_facts HD2.out.blk
    obtain ⟨x0, x1, x2, -, -, -⟩ := three_facts HD2.out.arg
    have g1 := HOK.out.1
    have g2 := HOK.out.2
    rw [g1, g2]
    go_wp2_with fail
    go_ret
    exact ⟨rfl, HW2.out⟩
set_option maxRecDepth 100000 in
set_option maxHeartbeats 4000000 in
theorem apply_place (n : Int) (t s : ByteArray) (w : World) (hE : EnvW w) (h0 : -9223372036854775808 ≤ n) (h1 : n ≤ 9223372036854775807) (ht : t.size ≤ 10000) (hs : s.size ≤ 1000000) (hok : (headOf s).2.2 = 0 ∧ (headOf s).1.length ≠ 0) :
    Calls Tryz.prog 63 #[.agg #[.int .u8 4, .int .i64 n, .string t], .string s] w fun e w' => e = .returned (.string (bs (placeT t.data.toList s (headOf s).1))) ∧ Below w.heap.size w w' := by
  have HOK := Lib.hid hok
  clear hok
  have HF := Lib.hid (fun v W hE hv => fault_place 4 n t s v (headOf s).1 W hE hv hs ht (fun x hx => Nat.le_trans ((headOf_bound s).1 x hx) (by decide)) (Nat.le_trans (headOf_bound s).2 (by decide)))
  have B0 := below_agg3 w (.int .u8 4) (.int .i64 n) (.string t) 65
  have HT := Lib.hid fault_table
  have HH := Lib.hid (fun W => head_some s W hs)
  have hix := table_at4
  have HE0 := Lib.hid (hE.below B0)
  have HS : Hid (∀ W, Below (w.alloc (.cells #[.int .u8 4, .int .i64 n, .string t] 65)).heap.size (w.alloc (.cells #[.int .u8 4, .int .i64 n, .string t] 65)) W → W.cell? ⟨w.heap.size, 0, none⟩ = some (.int .u8 4) ∧ W.cell? ⟨w.heap.size, 1, none⟩ = some (.int .i64 n) ∧ W.cell? ⟨w.heap.size, 2, none⟩ = some (.string t)) := Lib.hid (fun W hW => by
    obtain ⟨x0, x1, x2, -, -, -⟩ := three_facts ((hW.block w.heap.size (by simp)).trans (heap_alloc_new w _))
    exact ⟨x0, x1, x2⟩)
  have HB0 := Lib.hid B0
  have HXB : Hid ((w.alloc (.cells #[.int .u8 4, .int .i64 n, .string t] 65)).heap[w.heap.size]? = some (.cells #[.int .u8 4, .int .i64 n, .string t] 65 (0, 0))) := Lib.hid (heap_alloc_new w _)
  have hX0 : w.heap.size < (w.alloc (.cells #[.int .u8 4, .int .i64 n, .string t] 65)).heap.size := by simp
  have HX0 := Lib.hid hX0
  clear B0 hE hX0
  go_enter Tryz.func63, Tryz.ntmps63
  go_wp2_with fail
  generalize w.alloc (.cells #[.int .u8 4, .int .i64 n, .string t] 65) = W0 at HE0 HS HB0 HX0 HXB ⊢
  generalize w.heap.size = X at HS HX0 HXB ⊢
  have HDr : Hid (Below W0.heap.size W0 W0.drew) := Lib.hid (Below.refl _ _).drew
  have HA0 : Hid (Below W0.heap.size W0 (W0.alloc (.cells #[.nilFunc, .bool false] 204)).drew) := Lib.hid ((Below.refl _ _).alloc (Nat.le_refl _) _).drew
  go_region_held3 (fun w' => w'.cell? ⟨X, 0, none⟩ = some (.int .u8 4)) (first | exact (HS.out _ HDr.out).1 | exact (HS.out _ HA0.out).1 | exact (HS.out _ HA1.out).1 | exact (HS.out _ (HA1.out.alloc HA1.out.size _)).1 | exact (HS.out _ (two_below HA1.out _ (Nat.le_refl _) _ _)).1 | exact (HS.out _ (two_below (HA1.out.alloc HA1.out.size _) _ HA1.out.size _ _)).1)
    (first
      | (go_at_call 94; (refine (HT.out _).mono ?_); rintro e wa ⟨rfl, hba⟩; (first | (have HA1 : Hid (Below W0.heap.size W0 wa) := Lib.hid (bstep HDr.out hba)) | (have HA1 : Hid (Below W0.heap.size W0 wa) := Lib.hid (bstep HA0.out hba); have HZ := Lib.hid ((hba.block W0.heap.size (by simp)).trans (heap_alloc_new W0 _)); obtain ⟨z0, z1, f0, f1⟩ := twoc_facts HZ.out)); clear hba))
  all_goals
    first
      | (have HD := Lib.hid (TD.set HA1.out HX0.out HXB.out HZ.out (.func (.func 131) #[] #[]) (.bool false)); clear z0 z1 f0 f1; generalize (wa.setCell ⟨W0.heap.size, 0, none⟩ (.func (.func 131) #[] #[])).setCell ⟨W0.heap.size, 1, none⟩ (.bool false) = W1 at HD ⊢; generalize W0.heap.size = D at HD ⊢)
      | (have HD := Lib.hid (TD.new HA1.out HX0.out HXB.out (.func (.func 131) #[] #[]) (.bool false)); generalize wa.alloc (.cells #[.func (.func 131) #[] #[], .bool false] 204) = W1 at HD ⊢; generalize wa.heap.size = D at HD ⊢)
  all_goals
    clear HS HA1 HDr HA0 hix HT
    obtain ⟨d0, d1, -, -⟩ := twoc_facts HD.out.blk
    obtain ⟨x0, x1, x2, -, -, -⟩ := three_facts HD.out.arg
    go_wp2_with fail
    refine (HH.out _).mono ?_
    rintro e W2 ⟨al, cl, rfl, hhs, hb2⟩
    have HD2 := Lib.hid (HD.out.below HX0.out hb2)
    have HHS := Lib.hid hhs
    have HW2 := Lib.hid (bstep HB0.out HD2.out.bel)
    have HE2 := Lib.hid (HE0.out.below HD2.out.bel)
    clear d0 d1 x0 x1 x2 hb2 hhs HH
    obtain ⟨d0, d1, -, -⟩ := twoc_facts HD2.out.blk
    obtain ⟨x0, x1, x2, -, -, -⟩ := three_facts HD2.out.arg
    have g1 := HOK.out.1
    have g2 : ((headOf s).1.length : Int) ≠ 0 := by have := HOK.out.2; omega
    have g3 : (((headOf s).1.length : Int) == 0) = false := beq_eq_false_iff_ne.2 g2
    rw [g1]
    go_wp2_with fail
    refine (HF.out _ _ HE2.out HHS.out).mono ?_
    rintro e W3 ⟨rfl, hb3⟩
    have HB3 := Lib.hid hb3
    clear hb3
    go_wp2_with fail
    go_ret
    exact ⟨rfl, bstep HW2.out HB3.out⟩
set_option maxRecDepth 100000 in
set_option maxHeartbeats 4000000 in
theorem apply_place_err (n : Int) (t s : ByteArray) (w : World) (hE : EnvW w) (hs : s.size ≤ 1000000) (hok : (headOf s).2.2 ≠ 0) :
    Calls Tryz.prog 63 #[.agg #[.int .u8 4, .int .i64 n, .string t], .string s] w fun e w' => e = .returned (.string s) ∧ Below w.heap.size w w' := by
  have HOK := Lib.hid hok
  clear hok
  have B0 := below_agg3 w (.int .u8 4) (.int .i64 n) (.string t) 65
  have HT := Lib.hid fault_table
  have HH := Lib.hid (fun W => head_some s W hs)
  have hix := table_at4
  have HE0 := Lib.hid (hE.below B0)
  have HS : Hid (∀ W, Below (w.alloc (.cells #[.int .u8 4, .int .i64 n, .string t] 65)).heap.size (w.alloc (.cells #[.int .u8 4, .int .i64 n, .string t] 65)) W → W.cell? ⟨w.heap.size, 0, none⟩ = some (.int .u8 4) ∧ W.cell? ⟨w.heap.size, 1, none⟩ = some (.int .i64 n) ∧ W.cell? ⟨w.heap.size, 2, none⟩ = some (.string t)) := Lib.hid (fun W hW => by
    obtain ⟨x0, x1, x2, -, -, -⟩ := three_facts ((hW.block w.heap.size (by simp)).trans (heap_alloc_new w _))
    exact ⟨x0, x1, x2⟩)
  have HB0 := Lib.hid B0
  have HXB : Hid ((w.alloc (.cells #[.int .u8 4, .int .i64 n, .string t] 65)).heap[w.heap.size]? = some (.cells #[.int .u8 4, .int .i64 n, .string t] 65 (0, 0))) := Lib.hid (heap_alloc_new w _)
  have hX0 : w.heap.size < (w.alloc (.cells #[.int .u8 4, .int .i64 n, .string t] 65)).heap.size := by simp
  have HX0 := Lib.hid hX0
  clear B0 hE hX0
  go_enter Tryz.func63, Tryz.ntmps63
  go_wp2_with fail
  generalize w.alloc (.cells #[.int .u8 4, .int .i64 n, .string t] 65) = W0 at HE0 HS HB0 HX0 HXB ⊢
  generalize w.heap.size = X at HS HX0 HXB ⊢
  have HDr : Hid (Below W0.heap.size W0 W0.drew) := Lib.hid (Below.refl _ _).drew
  have HA0 : Hid (Below W0.heap.size W0 (W0.alloc (.cells #[.nilFunc, .bool false] 204)).drew) := Lib.hid ((Below.refl _ _).alloc (Nat.le_refl _) _).drew
  go_region_held3 (fun w' => w'.cell? ⟨X, 0, none⟩ = some (.int .u8 4)) (first | exact (HS.out _ HDr.out).1 | exact (HS.out _ HA0.out).1 | exact (HS.out _ HA1.out).1 | exact (HS.out _ (HA1.out.alloc HA1.out.size _)).1 | exact (HS.out _ (two_below HA1.out _ (Nat.le_refl _) _ _)).1 | exact (HS.out _ (two_below (HA1.out.alloc HA1.out.size _) _ HA1.out.size _ _)).1)
    (first
      | (go_at_call 94; (refine (HT.out _).mono ?_); rintro e wa ⟨rfl, hba⟩; (first | (have HA1 : Hid (Below W0.heap.size W0 wa) := Lib.hid (bstep HDr.out hba)) | (have HA1 : Hid (Below W0.heap.size W0 wa) := Lib.hid (bstep HA0.out hba); have HZ := Lib.hid ((hba.block W0.heap.size (by simp)).trans (heap_alloc_new W0 _)); obtain ⟨z0, z1, f0, f1⟩ := twoc_facts HZ.out)); clear hba))
  all_goals
    first
      | (have HD := Lib.hid (TD.set HA1.out HX0.out HXB.out HZ.out (.func (.func 131) #[] #[]) (.bool false)); clear z0 z1 f0 f1; generalize (wa.setCell ⟨W0.heap.size, 0, none⟩ (.func (.func 131) #[] #[])).setCell ⟨W0.heap.size, 1, none⟩ (.bool false) = W1 at HD ⊢; generalize W0.heap.size = D at HD ⊢)
      | (have HD := Lib.hid (TD.new HA1.out HX0.out HXB.out (.func (.func 131) #[] #[]) (.bool false)); generalize wa.alloc (.cells #[.func (.func 131) #[] #[], .bool false] 204) = W1 at HD ⊢; generalize wa.heap.size = D at HD ⊢)
  all_goals
    clear HS HA1 HDr HA0 hix HT
    obtain ⟨d0, d1, -, -⟩ := twoc_facts HD.out.blk
    obtain ⟨x0, x1, x2, -, -, -⟩ := three_facts HD.out.arg
    go_wp2_with fail
    refine (HH.out _).mono ?_
    rintro e W2 ⟨al, cl, rfl, hhs, hb2⟩
    have HD2 := Lib.hid (HD.out.below HX0.out hb2)
    have HHS := Lib.hid hhs
    have HW2 := Lib.hid (bstep HB0.out HD2.out.bel)
    have HE2 := Lib.hid (HE0.out.below HD2.out.bel)
    clear d0 d1 x0 x1 x2 hb2 hhs HH
    obtain ⟨d0, d1, -, -⟩ := twoc_facts HD2.out.blk
    obtain ⟨x0, x1, x2, -, -, -⟩ := three_facts HD2.out.arg
    have g1 := HOK.out
    generalize (headOf s).2.2 = ER at g1
    have g2 : ((ER : Int) != 0) = true := by rw [bne_iff_ne]; omega
    go_wp2_with fail
    go_ret
    exact ⟨rfl, HW2.out⟩
set_option maxRecDepth 100000 in
set_option maxHeartbeats 4000000 in
theorem apply_place_none (n : Int) (t s : ByteArray) (w : World) (hE : EnvW w) (hs : s.size ≤ 1000000) (hok : (headOf s).2.2 = 0 ∧ (headOf s).1.length = 0) :
    Calls Tryz.prog 63 #[.agg #[.int .u8 4, .int .i64 n, .string t], .string s] w fun e w' => e = .returned (.string s) ∧ Below w.heap.size w w' := by
  have HOK := Lib.hid hok
  clear hok
  have B0 := below_agg3 w (.int .u8 4) (.int .i64 n) (.string t) 65
  have HT := Lib.hid fault_table
  have HH := Lib.hid (fun W => head_some s W hs)
  have hix := table_at4
  have HE0 := Lib.hid (hE.below B0)
  have HS : Hid (∀ W, Below (w.alloc (.cells #[.int .u8 4, .int .i64 n, .string t] 65)).heap.size (w.alloc (.cells #[.int .u8 4, .int .i64 n, .string t] 65)) W → W.cell? ⟨w.heap.size, 0, none⟩ = some (.int .u8 4) ∧ W.cell? ⟨w.heap.size, 1, none⟩ = some (.int .i64 n) ∧ W.cell? ⟨w.heap.size, 2, none⟩ = some (.string t)) := Lib.hid (fun W hW => by
    obtain ⟨x0, x1, x2, -, -, -⟩ := three_facts ((hW.block w.heap.size (by simp)).trans (heap_alloc_new w _))
    exact ⟨x0, x1, x2⟩)
  have HB0 := Lib.hid B0
  have HXB : Hid ((w.alloc (.cells #[.int .u8 4, .int .i64 n, .string t] 65)).heap[w.heap.size]? = some (.cells #[.int .u8 4, .int .i64 n, .string t] 65 (0, 0))) := Lib.hid (heap_alloc_new w _)
  have hX0 : w.heap.size < (w.alloc (.cells #[.int .u8 4, .int .i64 n, .string t] 65)).heap.size := by simp
  have HX0 := Lib.hid hX0
  clear B0 hE hX0
  go_enter Tryz.func63, Tryz.ntmps63
  go_wp2_with fail
  generalize w.alloc (.cells #[.int .u8 4, .int .i64 n, .string t] 65) = W0 at HE0 HS HB0 HX0 HXB ⊢
  generalize w.heap.size = X at HS HX0 HXB ⊢
  have HDr : Hid (Below W0.heap.size W0 W0.drew) := Lib.hid (Below.refl _ _).drew
  have HA0 : Hid (Below W0.heap.size W0 (W0.alloc (.cells #[.nilFunc, .bool false] 204)).drew) := Lib.hid ((Below.refl _ _).alloc (Nat.le_refl _) _).drew
  go_region_held3 (fun w' => w'.cell? ⟨X, 0, none⟩ = some (.int .u8 4)) (first | exact (HS.out _ HDr.out).1 | exact (HS.out _ HA0.out).1 | exact (HS.out _ HA1.out).1 | exact (HS.out _ (HA1.out.alloc HA1.out.size _)).1 | exact (HS.out _ (two_below HA1.out _ (Nat.le_refl _) _ _)).1 | exact (HS.out _ (two_below (HA1.out.alloc HA1.out.size _) _ HA1.out.size _ _)).1)
    (first
      | (go_at_call 94; (refine (HT.out _).mono ?_); rintro e wa ⟨rfl, hba⟩; (first | (have HA1 : Hid (Below W0.heap.size W0 wa) := Lib.hid (bstep HDr.out hba)) | (have HA1 : Hid (Below W0.heap.size W0 wa) := Lib.hid (bstep HA0.out hba); have HZ := Lib.hid ((hba.block W0.heap.size (by simp)).trans (heap_alloc_new W0 _)); obtain ⟨z0, z1, f0, f1⟩ := twoc_facts HZ.out)); clear hba))
  all_goals
    first
      | (have HD := Lib.hid (TD.set HA1.out HX0.out HXB.out HZ.out (.func (.func 131) #[] #[]) (.bool false)); clear z0 z1 f0 f1; generalize (wa.setCell ⟨W0.heap.size, 0, none⟩ (.func (.func 131) #[] #[])).setCell ⟨W0.heap.size, 1, none⟩ (.bool false) = W1 at HD ⊢; generalize W0.heap.size = D at HD ⊢)
      | (have HD := Lib.hid (TD.new HA1.out HX0.out HXB.out (.func (.func 131) #[] #[]) (.bool false)); generalize wa.alloc (.cells #[.func (.func 131) #[] #[], .bool false] 204) = W1 at HD ⊢; generalize wa.heap.size = D at HD ⊢)
  all_goals
    clear HS HA1 HDr HA0 hix HT
    obtain ⟨d0, d1, -, -⟩ := twoc_facts HD.out.blk
    obtain ⟨x0, x1, x2, -, -, -⟩ := three_facts HD.out.arg
    go_wp2_with fail
    refine (HH.out _).mono ?_
    rintro e W2 ⟨al, cl, rfl, hhs, hb2⟩
    have HD2 := Lib.hid (HD.out.below HX0.out hb2)
    have HHS := Lib.hid hhs
    have HW2 := Lib.hid (bstep HB0.out HD2.out.bel)
    have HE2 := Lib.hid (HE0.out.below HD2.out.bel)
    clear d0 d1 x0 x1 x2 hb2 hhs HH
    obtain ⟨d0, d1, -, -⟩ := twoc_facts HD2.out.blk
    obtain ⟨x0, x1, x2, -, -, -⟩ := three_facts HD2.out.arg
    have g1 := HOK.out.1
    have g2 := HOK.out.2
    rw [g1, g2]
    go_wp2_with fail
    go_ret
    exact ⟨rfl, HW2.out⟩
set_option maxRecDepth 100000 in
set_option maxHeartbeats 4000000 in
theorem apply_garble (n : Int) (t s : ByteArray) (w : World) (hE : EnvW w) (h0 : -9223372036854775808 ≤ n) (h1 : n ≤ 9223372036854775807) (ht : t.size ≤ 10000) (hs : s.size ≤ 1000000) (hok : (headOf s).2.2 = 0 ∧ (headOf s).1.length ≠ 0) :
    Calls Tryz.prog 63 #[.agg #[.int .u8 5, .int .i64 n, .string t], .string s] w fun e w' => e = .returned (.string (bs (garbleF t.data.toList s (headOf s).1))) ∧ Below w.heap.size w w' := by
  have HOK := Lib.hid hok
  clear hok
  have HF := Lib.hid (fun a c W => fault_garble 5 n t s a c (headOf s).1 W hs (by omega))
  have B0 := below_agg3 w (.int .u8 5) (.int .i64 n) (.string t) 65
  have HT := Lib.hid fault_table
  have HH := Lib.hid (fun W => head_some s W hs)
  have hix := table_at5
  have HE0 := Lib.hid (hE.below B0)
  have HS : Hid (∀ W, Below (w.alloc (.cells #[.int .u8 5, .int .i64 n, .string t] 65)).heap.size (w.alloc (.cells #[.int .u8 5, .int .i64 n, .string t] 65)) W → W.cell? ⟨w.heap.size, 0, none⟩ = some (.int .u8 5) ∧ W.cell? ⟨w.heap.size, 1, none⟩ = some (.int .i64 n) ∧ W.cell? ⟨w.heap.size, 2, none⟩ = some (.string t)) := Lib.hid (fun W hW => by
    obtain ⟨x0, x1, x2, -, -, -⟩ := three_facts ((hW.block w.heap.size (by simp)).trans (heap_alloc_new w _))
    exact ⟨x0, x1, x2⟩)
  have HB0 := Lib.hid B0
  have HXB : Hid ((w.alloc (.cells #[.int .u8 5, .int .i64 n, .string t] 65)).heap[w.heap.size]? = some (.cells #[.int .u8 5, .int .i64 n, .string t] 65 (0, 0))) := Lib.hid (heap_alloc_new w _)
  have hX0 : w.heap.size < (w.alloc (.cells #[.int .u8 5, .int .i64 n, .string t] 65)).heap.size := by simp
  have HX0 := Lib.hid hX0
  clear B0 hE hX0
  go_enter Tryz.func63, Tryz.ntmps63
  go_wp2_with fail
  generalize w.alloc (.cells #[.int .u8 5, .int .i64 n, .string t] 65) = W0 at HE0 HS HB0 HX0 HXB ⊢
  generalize w.heap.size = X at HS HX0 HXB ⊢
  have HDr : Hid (Below W0.heap.size W0 W0.drew) := Lib.hid (Below.refl _ _).drew
  have HA0 : Hid (Below W0.heap.size W0 (W0.alloc (.cells #[.nilFunc, .bool false] 204)).drew) := Lib.hid ((Below.refl _ _).alloc (Nat.le_refl _) _).drew
  go_region_held3 (fun w' => w'.cell? ⟨X, 0, none⟩ = some (.int .u8 5)) (first | exact (HS.out _ HDr.out).1 | exact (HS.out _ HA0.out).1 | exact (HS.out _ HA1.out).1 | exact (HS.out _ (HA1.out.alloc HA1.out.size _)).1 | exact (HS.out _ (two_below HA1.out _ (Nat.le_refl _) _ _)).1 | exact (HS.out _ (two_below (HA1.out.alloc HA1.out.size _) _ HA1.out.size _ _)).1)
    (first
      | (go_at_call 94; (refine (HT.out _).mono ?_); rintro e wa ⟨rfl, hba⟩; (first | (have HA1 : Hid (Below W0.heap.size W0 wa) := Lib.hid (bstep HDr.out hba)) | (have HA1 : Hid (Below W0.heap.size W0 wa) := Lib.hid (bstep HA0.out hba); have HZ := Lib.hid ((hba.block W0.heap.size (by simp)).trans (heap_alloc_new W0 _)); obtain ⟨z0, z1, f0, f1⟩ := twoc_facts HZ.out)); clear hba))
  all_goals
    first
      | (have HD := Lib.hid (TD.set HA1.out HX0.out HXB.out HZ.out (.func (.func 132) #[] #[]) (.bool false)); clear z0 z1 f0 f1; generalize (wa.setCell ⟨W0.heap.size, 0, none⟩ (.func (.func 132) #[] #[])).setCell ⟨W0.heap.size, 1, none⟩ (.bool false) = W1 at HD ⊢; generalize W0.heap.size = D at HD ⊢)
      | (have HD := Lib.hid (TD.new HA1.out HX0.out HXB.out (.func (.func 132) #[] #[]) (.bool false)); generalize wa.alloc (.cells #[.func (.func 132) #[] #[], .bool false] 204) = W1 at HD ⊢; generalize wa.heap.size = D at HD ⊢)
  all_goals
    clear HS HA1 HDr HA0 hix HT
    obtain ⟨d0, d1, -, -⟩ := twoc_facts HD.out.blk
    obtain ⟨x0, x1, x2, -, -, -⟩ := three_facts HD.out.arg
    go_wp2_with fail
    refine (HH.out _).mono ?_
    rintro e W2 ⟨al, cl, rfl, hhs, hb2⟩
    have HD2 := Lib.hid (HD.out.below HX0.out hb2)
    have HHS := Lib.hid hhs
    have HW2 := Lib.hid (bstep HB0.out HD2.out.bel)
    have HE2 := Lib.hid (HE0.out.below HD2.out.bel)
    clear d0 d1 x0 x1 x2 hb2 hhs HH
    obtain ⟨d0, d1, -, -⟩ := twoc_facts HD2.out.blk
    obtain ⟨x0, x1, x2, -, -, -⟩ := three_facts HD2.out.arg
    have g1 := HOK.out.1
    have g2 : ((headOf s).1.length : Int) ≠ 0 := by have := HOK.out.2; omega
    have g3 : (((headOf s).1.length : Int) == 0) = false := beq_eq_false_iff_ne.2 g2
    rw [g1]
    go_wp2_with fail
    refine (HF.out _ _ _).mono ?_
    rintro e W3 ⟨rfl, hb3⟩
    have HB3 := Lib.hid hb3
    clear hb3
    go_wp2_with fail
    go_ret
    exact ⟨rfl, bstep HW2.out HB3.out⟩
set_option maxRecDepth 100000 in
set_option maxHeartbeats 4000000 in
theorem apply_garble_err (n : Int) (t s : ByteArray) (w : World) (hE : EnvW w) (hs : s.size ≤ 1000000) (hok : (headOf s).2.2 ≠ 0) :
    Calls Tryz.prog 63 #[.agg #[.int .u8 5, .int .i64 n, .string t], .string s] w fun e w' => e = .returned (.string s) ∧ Below w.heap.size w w' := by
  have HOK := Lib.hid hok
  clear hok
  have B0 := below_agg3 w (.int .u8 5) (.int .i64 n) (.string t) 65
  have HT := Lib.hid fault_table
  have HH := Lib.hid (fun W => head_some s W hs)
  have hix := table_at5
  have HE0 := Lib.hid (hE.below B0)
  have HS : Hid (∀ W, Below (w.alloc (.cells #[.int .u8 5, .int .i64 n, .string t] 65)).heap.size (w.alloc (.cells #[.int .u8 5, .int .i64 n, .string t] 65)) W → W.cell? ⟨w.heap.size, 0, none⟩ = some (.int .u8 5) ∧ W.cell? ⟨w.heap.size, 1, none⟩ = some (.int .i64 n) ∧ W.cell? ⟨w.heap.size, 2, none⟩ = some (.string t)) := Lib.hid (fun W hW => by
    obtain ⟨x0, x1, x2, -, -, -⟩ := three_facts ((hW.block w.heap.size (by simp)).trans (heap_alloc_new w _))
    exact ⟨x0, x1, x2⟩)
  have HB0 := Lib.hid B0
  have HXB : Hid ((w.alloc (.cells #[.int .u8 5, .int .i64 n, .string t] 65)).heap[w.heap.size]? = some (.cells #[.int .u8 5, .int .i64 n, .string t] 65 (0, 0))) := Lib.hid (heap_alloc_new w _)
  have hX0 : w.heap.size < (w.alloc (.cells #[.int .u8 5, .int .i64 n, .string t] 65)).heap.size := by simp
  have HX0 := Lib.hid hX0
  clear B0 hE hX0
  go_enter Tryz.func63, Tryz.ntmps63
  go_wp2_with fail
  generalize w.alloc (.cells #[.int .u8 5, .int .i64 n, .string t] 65) = W0 at HE0 HS HB0 HX0 HXB ⊢
  generalize w.heap.size = X at HS HX0 HXB ⊢
  have HDr : Hid (Below W0.heap.size W0 W0.drew) := Lib.hid (Below.refl _ _).drew
  have HA0 : Hid (Below W0.heap.size W0 (W0.alloc (.cells #[.nilFunc, .bool false] 204)).drew) := Lib.hid ((Below.refl _ _).alloc (Nat.le_refl _) _).drew
  go_region_held3 (fun w' => w'.cell? ⟨X, 0, none⟩ = some (.int .u8 5)) (first | exact (HS.out _ HDr.out).1 | exact (HS.out _ HA0.out).1 | exact (HS.out _ HA1.out).1 | exact (HS.out _ (HA1.out.alloc HA1.out.size _)).1 | exact (HS.out _ (two_below HA1.out _ (Nat.le_refl _) _ _)).1 | exact (HS.out _ (two_below (HA1.out.alloc HA1.out.size _) _ HA1.out.size _ _)).1)
    (first
      | (go_at_call 94; (refine (HT.out _).mono ?_); rintro e wa ⟨rfl, hba⟩; (first | (have HA1 : Hid (Below W0.heap.size W0 wa) := Lib.hid (bstep HDr.out hba)) | (have HA1 : Hid (Below W0.heap.size W0 wa) := Lib.hid (bstep HA0.out hba); have HZ := Lib.hid ((hba.block W0.heap.size (by simp)).trans (heap_alloc_new W0 _)); obtain ⟨z0, z1, f0, f1⟩ := twoc_facts HZ.out)); clear hba))
  all_goals
    first
      | (have HD := Lib.hid (TD.set HA1.out HX0.out HXB.out HZ.out (.func (.func 132) #[] #[]) (.bool false)); clear z0 z1 f0 f1; generalize (wa.setCell ⟨W0.heap.size, 0, none⟩ (.func (.func 132) #[] #[])).setCell ⟨W0.heap.size, 1, none⟩ (.bool false) = W1 at HD ⊢; generalize W0.heap.size = D at HD ⊢)
      | (have HD := Lib.hid (TD.new HA1.out HX0.out HXB.out (.func (.func 132) #[] #[]) (.bool false)); generalize wa.alloc (.cells #[.func (.func 132) #[] #[], .bool false] 204) = W1 at HD ⊢; generalize wa.heap.size = D at HD ⊢)
  all_goals
    clear HS HA1 HDr HA0 hix HT
    obtain ⟨d0, d1, -, -⟩ := twoc_facts HD.out.blk
    obtain ⟨x0, x1, x2, -, -, -⟩ := three_facts HD.out.arg
    go_wp2_with fail
    refine (HH.out _).mono ?_
    rintro e W2 ⟨al, cl, rfl, hhs, hb2⟩
    have HD2 := Lib.hid (HD.out.below HX0.out hb2)
    have HHS := Lib.hid hhs
    have HW2 := Lib.hid (bstep HB0.out HD2.out.bel)
    have HE2 := Lib.hid (HE0.out.below HD2.out.bel)
    clear d0 d1 x0 x1 x2 hb2 hhs HH
    obtain ⟨d0, d1, -, -⟩ := twoc_facts HD2.out.blk
    obtain ⟨x0, x1, x2, -, -, -⟩ := three_facts HD2.out.arg
    have g1 := HOK.out
    generalize (headOf s).2.2 = ER at g1
    have g2 : ((ER : Int) != 0) = true := by rw [bne_iff_ne]; omega
    go_wp2_with fail
    go_ret
    exact ⟨rfl, HW2.out⟩
set_option maxRecDepth 100000 in
set_option maxHeartbeats 4000000 in
theorem apply_garble_none (n : Int) (t s : ByteArray) (w : World) (hE : EnvW w) (hs : s.size ≤ 1000000) (hok : (headOf s).2.2 = 0 ∧ (headOf s).1.length = 0) :
    Calls Tryz.prog 63 #[.agg #[.int .u8 5, .int .i64 n, .string t], .string s] w fun e w' => e = .returned (.string s) ∧ Below w.heap.size w w' := by
  have HOK := Lib.hid hok
  clear hok
  have B0 := below_agg3 w (.int .u8 5) (.int .i64 n) (.string t) 65
  have HT := Lib.hid fault_table
  have HH := Lib.hid (fun W => head_some s W hs)
  have hix := table_at5
  have HE0 := Lib.hid (hE.below B0)
  have HS : Hid (∀ W, Below (w.alloc (.cells #[.int .u8 5, .int .i64 n, .string t] 65)).heap.size (w.alloc (.cells #[.int .u8 5, .int .i64 n, .string t] 65)) W → W.cell? ⟨w.heap.size, 0, none⟩ = some (.int .u8 5) ∧ W.cell? ⟨w.heap.size, 1, none⟩ = some (.int .i64 n) ∧ W.cell? ⟨w.heap.size, 2, none⟩ = some (.string t)) := Lib.hid (fun W hW => by
    obtain ⟨x0, x1, x2, -, -, -⟩ := three_facts ((hW.block w.heap.size (by simp)).trans (heap_alloc_new w _))
    exact ⟨x0, x1, x2⟩)
  have HB0 := Lib.hid B0
  have HXB : Hid ((w.alloc (.cells #[.int .u8 5, .int .i64 n, .string t] 65)).heap[w.heap.size]? = some (.cells #[.int .u8 5, .int .i64 n, .string t] 65 (0, 0))) := Lib.hid (heap_alloc_new w _)
  have hX0 : w.heap.size < (w.alloc (.cells #[.int .u8 5, .int .i64 n, .string t] 65)).heap.size := by simp
  have HX0 := Lib.hid hX0
  clear B0 hE hX0
  go_enter Tryz.func63, Tryz.ntmps63
  go_wp2_with fail
  generalize w.alloc (.cells #[.int .u8 5, .int .i64 n, .string t] 65) = W0 at HE0 HS HB0 HX0 HXB ⊢
  generalize w.heap.size = X at HS HX0 HXB ⊢
  have HDr : Hid (Below W0.heap.size W0 W0.drew) := Lib.hid (Below.refl _ _).drew
  have HA0 : Hid (Below W0.heap.size W0 (W0.alloc (.cells #[.nilFunc, .bool false] 204)).drew) := Lib.hid ((Below.refl _ _).alloc (Nat.le_refl _) _).drew
  go_region_held3 (fun w' => w'.cell? ⟨X, 0, none⟩ = some (.int .u8 5)) (first | exact (HS.out _ HDr.out).1 | exact (HS.out _ HA0.out).1 | exact (HS.out _ HA1.out).1 | exact (HS.out _ (HA1.out.alloc HA1.out.size _)).1 | exact (HS.out _ (two_below HA1.out _ (Nat.le_refl _) _ _)).1 | exact (HS.out _ (two_below (HA1.out.alloc HA1.out.size _) _ HA1.out.size _ _)).1)
    (first
      | (go_at_call 94; (refine (HT.out _).mono ?_); rintro e wa ⟨rfl, hba⟩; (first | (have HA1 : Hid (Below W0.heap.size W0 wa) := Lib.hid (bstep HDr.out hba)) | (have HA1 : Hid (Below W0.heap.size W0 wa) := Lib.hid (bstep HA0.out hba); have HZ := Lib.hid ((hba.block W0.heap.size (by simp)).trans (heap_alloc_new W0 _)); obtain ⟨z0, z1, f0, f1⟩ := twoc_facts HZ.out)); clear hba))
  all_goals
    first
      | (have HD := Lib.hid (TD.set HA1.out HX0.out HXB.out HZ.out (.func (.func 132) #[] #[]) (.bool false)); clear z0 z1 f0 f1; generalize (wa.setCell ⟨W0.heap.size, 0, none⟩ (.func (.func 132) #[] #[])).setCell ⟨W0.heap.size, 1, none⟩ (.bool false) = W1 at HD ⊢; generalize W0.heap.size = D at HD ⊢)
      | (have HD := Lib.hid (TD.new HA1.out HX0.out HXB.out (.func (.func 132) #[] #[]) (.bool false)); generalize wa.alloc (.cells #[.func (.func 132) #[] #[], .bool false] 204) = W1 at HD ⊢; generalize wa.heap.size = D at HD ⊢)
  all_goals
    clear HS HA1 HDr HA0 hix HT
    obtain ⟨d0, d1, -, -⟩ := twoc_facts HD.out.blk
    obtain ⟨x0, x1, x2, -, -, -⟩ := three_facts HD.out.arg
    go_wp2_with fail
    refine (HH.out _).mono ?_
    rintro e W2 ⟨al, cl, rfl, hhs, hb2⟩
    have HD2 := Lib.hid (HD.out.below HX0.out hb2)
    have HHS := Lib.hid hhs
    have HW2 := Lib.hid (bstep HB0.out HD2.out.bel)
    have HE2 := Lib.hid (HE0.out.below HD2.out.bel)
    clear d0 d1 x0 x1 x2 hb2 hhs HH
    obtain ⟨d0, d1, -, -⟩ := twoc_facts HD2.out.blk
    obtain ⟨x0, x1, x2, -, -, -⟩ := three_facts HD2.out.arg
    have g1 := HOK.out.1
    have g2 := HOK.out.2
    rw [g1, g2]
    go_wp2_with fail
    go_ret
    exact ⟨rfl, HW2.out⟩
end Go.Proofs.YtbdmmgmcbecolaaGreatDoor
namespace Go.Proofs.YtbdmmgmcbecolaaGreatDoor
open Go.RowKit
theorem body_split (ls : List (List UInt8)) (k : Nat) (hk : k < ls.length) : body ls = body (ls.take k) ++ (ls[k] ++ 13 :: 10 :: body (ls.drop (k + 1))) := by
  have h := body_append (ls.take k) (ls.drop k)
  rw [List.take_append_drop] at h
  rw [h, List.drop_eq_getElem_cons hk]
  rfl
theorem body_put (ls : List (List UInt8)) (k : Nat) (hk : k < ls.length) (x : List UInt8) : body (ls.set k x) = body (ls.take k) ++ (x ++ 13 :: 10 :: body (ls.drop (k + 1))) := by
  rw [List.set_eq_take_append_cons_drop, if_pos hk, body_append]
  rfl
theorem at_lines (s : ByteArray) (ls : List (List UInt8)) (rest : List UInt8) (hg : ∀ x ∈ ls, goodLine x) (hs : s.data.toList = body ls ++ 13 :: 10 :: rest) :
    ∀ k, k ≤ ls.length → atF s k = ((body (ls.take k)).length : Int) := by
  intro k
  induction k with
  | zero => intro _; rfl
  | succ k ih =>
    intro hk
    have hk' : k < ls.length := by omega
    rw [atF, ih (by omega)]
    obtain ⟨-, hp, hl⟩ := hg ls[k] (List.getElem_mem hk')
    have hs2 : s.data.toList = body (ls.take k) ++ (ls[k] ++ 13 :: 10 :: (body (ls.drop (k + 1)) ++ 13 :: 10 :: rest)) := by
      rw [hs, body_split ls k hk']; simp
    rw [(take_line s _ _ _ hs2 hp hl).2.2]
    rw [List.take_succ_eq_append_getElem hk', body_append]
    simp [body]
theorem put_lines (s : ByteArray) (ls : List (List UInt8)) (rest : List UInt8) (hg : ∀ x ∈ ls, goodLine x) (hs : s.data.toList = body ls ++ 13 :: 10 :: rest)
    (k : Nat) (hk : k < ls.length) (x : List UInt8) : putF s k x = body (ls.set k x) ++ 13 :: 10 :: rest := by
  obtain ⟨-, hp, hl⟩ := hg ls[k] (List.getElem_mem hk)
  have hs2 : s.data.toList = body (ls.take k) ++ (ls[k] ++ 13 :: 10 :: (body (ls.drop (k + 1)) ++ 13 :: 10 :: rest)) := by
    rw [hs, body_split ls k hk]; simp
  obtain ⟨-, h2, -⟩ := take_line s _ _ _ hs2 hp hl
  have hsz : (bs ls[k]).size = ls[k].length := by rw [← size_len, bs_data]
  unfold putF
  rw [at_lines s ls rest hg hs k (by omega), h2, hsz, Int.toNat_natCast, body_put ls k hk, hs2, List.take_left]
  rw [← List.append_assoc (body (ls.take k)) ls[k], ← List.length_append, List.drop_left]
  simp
theorem place_at (c : List UInt8) : ∀ (xs : List (List UInt8)) (i j : Nat), placeF c xs i = some j → i ≤ j ∧ 0 < j ∧ ∃ h : j - i < xs.length, parseE xs[j - i] = 0 ∧ parseN xs[j - i] = c := by
  intro xs
  induction xs with
  | nil => intro i j h; cases h
  | cons x t ih =>
    intro i j h
    unfold placeF at h
    split at h
    · rename_i h1
      have e : i = j := Option.some.inj h
      subst e
      refine ⟨Nat.le_refl _, h1.1, by simp, ?_⟩
      simp only [Nat.sub_self, List.getElem_cons_zero]
      exact h1.2
    · obtain ⟨a1, a2, a3, a4⟩ := ih (i + 1) j h
      have e : j - i = (j - (i + 1)) + 1 := by omega
      refine ⟨by omega, a2, by rw [List.length_cons]; omega, ?_⟩
      simp only [e, List.getElem_cons_succ]
      exact a4
def noEnds (x : List UInt8) : Prop := ∀ c ∈ x, c ≠ 13 ∧ c ≠ 10
theorem clean_noEnds (l : List UInt8) : noEnds (cleanL l) := by
  intro c hc
  have := (List.mem_filter.1 hc).2
  simp only [Bool.and_eq_true, bne_iff_ne] at this
  exact this
theorem plain_noEnds (x : List UInt8) (h : plainL x) : noEnds x := by
  intro c hc
  have := h c hc
  constructor <;> (intro e; rw [e] at this; exact absurd this (by decide))
/-- what comes of a printed reply by a fault that neither shuts nor cuts: one line is another one -/
theorem apply_rep (c : Int) (fs : List (List UInt8 × List UInt8)) (b : List UInt8) (s : ByteArray) (k n : Int) (t : List UInt8) (h : repE c fs = 0) (hn : b.length ≤ 1000000) (hs : s.data.toList = repL c fs b) (h1 : k ≠ 1) (h2 : k ≠ 2) :
    ∃ (i : Nat) (x : List UInt8), i < (repLines c fs b.length).length ∧ noEnds x ∧ applyF k n t s = body ((repLines c fs b.length).set i x) ++ 13 :: 10 :: b ∧
      ((i = 0 ∧ repE n fs = 0 ∧ x = (printOf n).data.toList) ∨ (i = 1 ∧ k = 5 ∧ x = cleanL t) ∨ (2 ≤ i ∧ x = crangeF ++ cleanL t) ∨ (i = 0 ∧ x = (printOf c).data.toList)) := by
  obtain ⟨g1, g2⟩ := good_lines c fs b.length h hn
  have hd := head_rep c fs b b s h hn (by rw [hs]; rfl)
  have hs' : s.data.toList = body (repLines c fs b.length) ++ 13 :: 10 :: b := hs
  have hlen : 2 ≤ (repLines c fs b.length).length := by unfold repLines; simp
  obtain ⟨c1, c2, c3, c4⟩ := repE_zero c fs h
  have hcg := (good_status c c1 c2).1
  have same : ∃ (i : Nat) (x : List UInt8), i < (repLines c fs b.length).length ∧ noEnds x ∧ s.data.toList = body ((repLines c fs b.length).set i x) ++ 13 :: 10 :: b ∧
      ((i = 0 ∧ repE n fs = 0 ∧ x = (printOf n).data.toList) ∨ (i = 1 ∧ k = 5 ∧ x = cleanL t) ∨ (2 ≤ i ∧ x = crangeF ++ cleanL t) ∨ (i = 0 ∧ x = (printOf c).data.toList)) := by
    refine ⟨0, (printOf c).data.toList, by omega, plain_noEnds _ hcg.2.1, ?_, .inr (.inr (.inr ⟨rfl, rfl⟩))⟩
    rw [hs']
    rfl
  unfold applyF
  rw [if_neg h1, if_neg h2, hd]
  rw [if_neg (by
    rintro (e | e)
    · exact e rfl
    · have := congrArg List.length e
      simp only [List.length_nil] at this
      omega)]
  by_cases h3 : k = 3
  · rw [if_pos h3]
    by_cases hp : printErr n ≠ 0
    · rw [if_pos hp]; exact same
    · rw [if_neg hp]
      have hp0 : printErr n = 0 := Decidable.not_not.1 hp
      have hr : repE n fs = 0 := by
        unfold repE at h ⊢
        rw [if_neg hp]
        split at h
        · rename_i hx; exact absurd h hx
        · exact h
      obtain ⟨d1, d2, -, -⟩ := repE_zero n fs hr
      exact ⟨0, (printOf n).data.toList, by omega, plain_noEnds _ (good_status n d1 d2).1.2.1, put_lines s _ b g1 hs' 0 (by omega) _, .inl ⟨rfl, hr, rfl⟩⟩
  rw [if_neg h3]
  by_cases h5 : k = 5
  · rw [if_pos h5, if_neg (by simp only; omega)]
    exact ⟨1, cleanL t, by omega, clean_noEnds t, put_lines s _ b g1 hs' 1 (by omega) _, .inr (.inl ⟨rfl, h5, rfl⟩)⟩
  rw [if_neg h5]
  by_cases h4 : k = 4
  · rw [if_pos h4]
    simp only
    cases e : placeF crangeN (repLines c fs b.length) 0 with
    | none => exact same
    | some j =>
      simp only
      obtain ⟨-, p2, p3, p4, p5⟩ := place_at crangeN _ 0 j e
      simp only [Nat.sub_zero] at p3 p4 p5
      have hj : 2 ≤ j := by
        rcases Nat.lt_or_ge j 2 with hj | hj
        · have e1 : j = 1 := by omega
          subst e1
          have e2 : (repLines c fs b.length)[1] = printL clen (digL b.length) := rfl
          rw [e2, (print_parse clen (digL b.length) (fieldE_zero _ _ (clen_ok b.length hn)).1).1] at p5
          exact absurd p5 (by decide)
        · exact hj
      refine ⟨j, crangeF ++ cleanL t, p3, ?_, put_lines s _ b g1 hs' j p3 _, .inr (.inr (.inl ⟨hj, rfl⟩))⟩
      intro y hy
      rcases List.mem_append.1 hy with hy | hy
      · have : ∀ z ∈ crangeF, z ≠ 13 ∧ z ≠ 10 := by decide
        exact this y hy
      · exact clean_noEnds t y hy
  rw [if_neg h4]
  exact same
end Go.Proofs.YtbdmmgmcbecolaaGreatDoor
namespace Go.Proofs.YtbdmmgmcbecolaaGreatDoor
open Go.RowKit
theorem scan_plain (x rest : List UInt8) : ∀ n, noEnds x → n ≤ 256 → (scan (x ++ 13 :: 10 :: rest) n).2 = 0 → plainL x ∧ n + x.length ≤ 256 := by
  induction x with
  | nil => intro n _ hn _; exact ⟨fun c hc => by simp at hc, by simpa using hn⟩
  | cons c t ih =>
    intro n hp hn h
    have hc := hp c (List.mem_cons_self ..)
    rw [List.cons_append, scan, if_neg (by simp [hc.1]), if_neg (by simp [hc.1])] at h
    by_cases h3 : plainB c.toNat = false
    · rw [if_pos h3] at h; exact absurd (show (4 : Nat) = 0 from h) (by decide)
    rw [if_neg h3] at h
    by_cases h4 : n = 256
    · rw [if_pos h4] at h; exact absurd (show (5 : Nat) = 0 from h) (by decide)
    rw [if_neg h4] at h
    obtain ⟨i1, i2⟩ := ih (n + 1) (fun d hd => hp d (List.mem_cons_of_mem _ hd)) (by omega) h
    refine ⟨fun d hd => ?_, by rw [List.length_cons]; omega⟩
    rcases List.mem_cons.1 hd with rfl | hd
    · simpa using h3
    · exact i1 d hd
theorem head_pre (s : ByteArray) (rest : List UInt8) : ∀ (ls : List (List UInt8)) (pre : List UInt8) (xs : List (List UInt8)) (f : Nat), (∀ x ∈ ls, goodLine x) → xs.length + ls.length ≤ 17 → f + xs.length = 18 →
    s.data.toList = pre ++ (body ls ++ rest) → headR f s (pre.length : Int) xs = headR (f - ls.length) s ((pre ++ body ls).length : Int) (xs ++ ls) := by
  intro ls
  induction ls with
  | nil => intro pre xs f _ _ _ _; simp [body]
  | cons x t ih =>
    intro pre xs f hg hle hf hs
    obtain ⟨hx0, hxp, hxl⟩ := hg x (List.mem_cons_self ..)
    obtain ⟨f, rfl⟩ : ∃ g, f = g + 1 := ⟨f - 1, by simp at hle; omega⟩
    have hs' : s.data.toList = pre ++ (x ++ 13 :: 10 :: (body t ++ rest)) := by rw [hs]; simp [body]
    obtain ⟨h1, h2, h3⟩ := take_line s pre x _ hs' hxp hxl
    rw [headR_more f s _ xs h1 (by rw [h2, isEmpty_bs]; cases x <;> simp_all) (by simp at hle; omega), h3, h2, bs_data]
    rw [ih (pre ++ (x ++ [13, 10])) (xs ++ [x]) f (fun y hy => hg y (List.mem_cons_of_mem _ hy)) (by simp at hle ⊢; omega) (by simp; omega) (by rw [hs']; simp)]
    simp [body]
/-- the head of a text with another line in it -/
theorem head_mod (s : ByteArray) (ls : List (List UInt8)) (i : Nat) (x b : List UInt8) (hg : ∀ x ∈ ls, goodLine x) (hlen : ls.length ≤ 17) (hi : i < ls.length) (hx : noEnds x)
    (hs : s.data.toList = body (ls.set i x) ++ 13 :: 10 :: b) :
    (headOf s).2.2 ≠ 0 ∨ (x = [] ∧ (headOf s).1 = ls.take i ∧ (headOf s).2.2 = 0) ∨ (headOf s = (ls.set i x, ((body (ls.set i x)).length : Int) + 2, 0)) := by
  have hb := body_put ls i hi x
  have hs2 : s.data.toList = body (ls.take i) ++ (x ++ 13 :: 10 :: (body (ls.drop (i + 1)) ++ 13 :: 10 :: b)) := by rw [hs, hb]; simp
  have hp := head_pre s (x ++ 13 :: 10 :: (body (ls.drop (i + 1)) ++ 13 :: 10 :: b)) (ls.take i) [] [] 18 (fun y hy => hg y (List.mem_of_mem_take hy)) (by rw [List.length_take, List.length_nil]; omega) (by simp) (by rw [hs2]; simp)
  have hsz : (body (ls.take i)).length ≤ s.size := by rw [← size_len, hs2]; simp
  have hh : headOf s = headR (18 - (ls.take i).length) s ((body (ls.take i)).length : Int) (ls.take i) := by
    unfold headOf
    rw [show (0 : Int) = ((([] : List UInt8).length : Nat) : Int) from rfl, hp]
    simp
  have hlt : (ls.take i).length = i := by rw [List.length_take]; omega
  rw [hlt] at hh
  obtain ⟨f, hf⟩ : ∃ f, 18 - i = f + 1 := ⟨17 - i, by omega⟩
  rw [hf] at hh
  by_cases he : takeErr s ((body (ls.take i)).length : Int) = 0
  · have hsc := he
    rw [takeErr_in s _ hsz] at hsc
    unfold scanAt at hsc
    rw [hs2, List.drop_left] at hsc
    obtain ⟨p1, p2⟩ := scan_plain x _ 0 hx (by omega) hsc
    obtain ⟨t1, t2, t3⟩ := take_line s _ x _ hs2 p1 (by omega)
    by_cases hx0 : x = []
    · refine .inr (.inl ⟨hx0, ?_⟩)
      rw [hh, headR_end f s _ _ he (by rw [t2, isEmpty_bs, hx0]; rfl)]
      exact ⟨rfl, rfl⟩
    · refine .inr (.inr ?_)
      have hg2 : ∀ y ∈ ls.set i x, goodLine y := by
        intro y hy
        rcases List.mem_or_eq_of_mem_set hy with hy | rfl
        · exact hg y hy
        · exact ⟨hx0, p1, by omega⟩
      have := head_ok s b (ls.set i x) [] [] 18 hg2 (by rw [List.length_set]; simpa using hlen) (by simp) (by simpa using hs)
      unfold headOf
      rw [show (0 : Int) = ((([] : List UInt8).length : Nat) : Int) from rfl, this]
      simp
  · left
    rw [hh, headR_err f s _ _ he]
    exact he
theorem crange_name (y : List UInt8) (h : parseE (crangeF ++ y) = 0) : parseN (crangeF ++ y) = crangeN := by
  unfold parseE at h
  unfold parseN
  split at h
  · rename_i h1
    rw [if_pos h1]
    unfold parseName ahead crangeF
    simp [List.takeWhile]
    decide
  · exact absurd h (by decide)
theorem hits_none (fs : List (List UInt8 × List UInt8)) (h : ∀ f ∈ fs, f.1 ≠ clen) : hits fs clen = [] := (rest_none fs h).2
/-- what is taken of a printed reply by the bound most, behind a fault that neither shuts nor cuts -/
theorem take_mod (c : Int) (fs : List (List UInt8 × List UInt8)) (b : List UInt8) (s' : ByteArray) (k n most : Int) (t : List UInt8) (i : Nat) (x : List UInt8) (h : repE c fs = 0) (hn : b.length ≤ 1000000)
    (hi : i < (repLines c fs b.length).length) (hx : noEnds x) (hs : s'.data.toList = body ((repLines c fs b.length).set i x) ++ 13 :: 10 :: b)
    (hw : (i = 0 ∧ repE n fs = 0 ∧ x = (printOf n).data.toList) ∨ (i = 1 ∧ k = 5 ∧ x = cleanL t) ∨ (2 ≤ i ∧ x = crangeF ++ cleanL t) ∨ (i = 0 ∧ x = (printOf c).data.toList))
    (ht : takE s' most = 0) : takB s' most <+: b ∧ (takB s' most = b ∨ k = 5) ∧ ((takB s' most).length : Int) ≤ most := by
  have status : ∀ m, repE m fs = 0 → s'.data.toList = repL m fs b → takB s' most <+: b ∧ (takB s' most = b ∨ k = 5) ∧ ((takB s' most).length : Int) ≤ most := by
    intro m hm hs2
    by_cases hmost : (b.length : Int) ≤ most
    · obtain ⟨-, -, -, e, -⟩ := rep_take m fs b [] s' most hm hn (by rw [hs2]; simp) hmost
      rw [e]
      exact ⟨List.prefix_refl _, .inl rfl, hmost⟩
    · rw [rep_long m fs b [] s' most hm hn (by rw [hs2]; simp) (by omega)] at ht
      exact absurd ht (by decide)
  rcases hw with ⟨rfl, hr, rfl⟩ | hw | hw | ⟨rfl, rfl⟩
  · refine status n hr ?_
    rw [hs]; rfl
  all_goals try (refine status c h ?_; rw [hs]; rfl)
  all_goals
    obtain ⟨g1, g2⟩ := good_lines c fs b.length h hn
    obtain ⟨c1, c2, c3, c4⟩ := repE_zero c fs h
    obtain ⟨z1, z2, z3, z4⟩ := tak_zero s' most ht
    obtain ⟨y1, y2, y3, y4, y5⟩ := hdE_zero _ z2
    have hB : takB s' most = (s'.data.toList.take ((headOf s').2.1.toNat + hdN (headOf s').1)).drop (headOf s').2.1.toNat := if_pos ht
    rcases head_mod s' _ i x b g1 g2 hi hx hs with hd | ⟨hx0, hd, hd2⟩ | hd
    · exact absurd z1 hd
  · exfalso
    obtain ⟨rfl, -, -⟩ := hw
    rw [hd] at y4
    exact absurd y4 (by unfold repLines; simp [fldL, getE, hits])
  · have hsz : s'.size = (body ((repLines c fs b.length).set i x)).length + 2 + b.length := by rw [← size_len, hs]; simp; omega
    rw [hd] at z3 z4 hB
    simp only at z3 z4 hB
    have hN : hdN ((repLines c fs b.length).set i x) ≤ b.length := by omega
    have ht2 : (((body ((repLines c fs b.length).set i x)).length : Int) + 2).toNat = (body ((repLines c fs b.length).set i x) ++ [13, 10]).length := by simp; omega
    have e5 : body ((repLines c fs b.length).set i x) ++ 13 :: 10 :: b = (body ((repLines c fs b.length).set i x) ++ [13, 10]) ++ b := by simp
    rw [ht2, hs, e5, List.take_length_add_append, List.drop_left] at hB
    rw [hB]
    refine ⟨List.take_prefix _ _, .inr hw.2.1, ?_⟩
    rw [List.length_take]; omega
  · exact absurd hx0 (by rw [hw.2]; simp [crangeF])
  · have hsz : s'.size = (body ((repLines c fs b.length).set i x)).length + 2 + b.length := by rw [← size_len, hs]; simp; omega
    rw [hd] at z3 z4 hB y3
    simp only at z3 z4 hB y3
    obtain ⟨j, rfl⟩ : ∃ j, i = j + 2 := ⟨i - 2, by omega⟩
    have htl : ((repLines c fs b.length).set (j + 2) x).tail = printL clen (digL b.length) :: (fs.map (fun f => printL f.1 f.2)).set j x := rfl
    rw [htl] at y3
    obtain ⟨x1, x2, x3⟩ := print_parse clen (digL b.length) (fieldE_zero _ _ (clen_ok b.length hn)).1
    rw [fldE_cons _ _ x3] at y3
    have hall := fldE_none _ y3
    obtain ⟨n1, n2⟩ := numE_dec b.length (by omega)
    have hN : hdN ((repLines c fs b.length).set (j + 2) x) = b.length := by
      unfold hdN
      rw [htl]
      have hf : fldL (printL clen (digL b.length) :: (fs.map (fun f => printL f.1 f.2)).set j x) = (clen, digL b.length) :: fldL ((fs.map (fun f => printL f.1 f.2)).set j x) := by
        unfold fldL; rw [List.map_cons, x1, x2]
      have hno : ∀ f ∈ fldL ((fs.map (fun f => printL f.1 f.2)).set j x), f.1 ≠ clen := by
        intro f hf
        unfold fldL at hf
        obtain ⟨l, hl, rfl⟩ := List.mem_map.1 hf
        have hp := hall l hl
        rcases List.mem_or_eq_of_mem_set hl with hl | rfl
        · obtain ⟨g, hgm, rfl⟩ := List.mem_map.1 hl
          simp only
          rw [(print_parse g.1 g.2 (fieldE_zero _ _ (c4 g hgm).2).1).1]
          exact (c4 g hgm).1
        · simp only
          rw [hw.2] at hp ⊢
          rw [crange_name _ hp]; decide
      rw [hf]
      have h1 : hits ((clen, digL b.length) :: fldL ((fs.map (fun f => printL f.1 f.2)).set j x)) clen = [digL b.length] := by
        have := hits_none _ hno
        unfold hits at this ⊢
        rw [List.filter_cons_of_pos (by simp), List.map_cons, this]
      unfold getS
      rw [h1]
      show numV (digL b.length) = b.length
      rw [digL_nat, n2]
    have ht2 : (((body ((repLines c fs b.length).set (j + 2) x)).length : Int) + 2).toNat = (body ((repLines c fs b.length).set (j + 2) x) ++ [13, 10]).length := by simp; omega
    have e5 : body ((repLines c fs b.length).set (j + 2) x) ++ 13 :: 10 :: b = (body ((repLines c fs b.length).set (j + 2) x) ++ [13, 10]) ++ b := by simp
    rw [hN, ht2, hs, e5, List.take_length_add_append, List.drop_left, List.take_length] at hB
    rw [hB]
    rw [hN] at z3
    exact ⟨List.prefix_refl _, .inl rfl, z3⟩
/-- a reply that is cut, or shut, is taken just if it is whole -/
theorem take_cutF (c : Int) (fs : List (List UInt8 × List UInt8)) (b : List UInt8) (s' : ByteArray) (most : Int) (k : Nat) (h : repE c fs = 0) (hn : b.length ≤ 1000000) (hs : s'.data.toList = (repL c fs b).take k)
    (ht : takE s' most = 0) : takB s' most = b ∧ ((takB s' most).length : Int) ≤ most := by
  by_cases hk : k < (repL c fs b).length
  · exfalso
    have := rep_cut c fs b s' k h hn hk hs
    obtain ⟨z1, z2, z3, z4⟩ := tak_zero s' most ht
    unfold takE at this
    rw [if_neg (fun e => e z1), if_neg (fun e => e z2)] at this
    split at this
    · exact absurd this (by decide)
    · rw [if_neg (by omega)] at this
      exact absurd this (by decide)
  · have hs2 : s'.data.toList = repL c fs b ++ [] := by rw [hs, List.take_of_length_le (by omega)]; simp
    by_cases hmost : (b.length : Int) ≤ most
    · obtain ⟨-, -, -, e, -⟩ := rep_take c fs b [] s' most h hn hs2 hmost
      rw [e]
      exact ⟨rfl, hmost⟩
    · rw [rep_long c fs b [] s' most h hn hs2 (by omega)] at ht
      exact absurd ht (by decide)
end Go.Proofs.YtbdmmgmcbecolaaGreatDoor
namespace Go.Proofs.YtbdmmgmcbecolaaGreatDoor
open Go.RowKit
open Go.Lib
end Go.Proofs.YtbdmmgmcbecolaaGreatDoor
