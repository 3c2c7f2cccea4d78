/- What Count, mark and Quote of the reference of jtext return. What Check of the document's notes returns. What Check of the document's notes returns: lists and objects. What Digits of the document's notes returns. What json of the document's notes returns. What json of the document's notes returns: objects, and all. What Put, Same and Find of the document's notes return. -/
import Derived.Test.YtcmkepkeeahioaaGreatDoorPw7
import Derived.OpenShut
import Derived.Lib.ItoaLen
set_option linter.unusedVariables false
set_option linter.unusedSimpArgs false
namespace Go.Proofs.YtcmkepkeeahioaaGreatDoor
open Go.RowKit

theorem tail_l2 (s : ByteArray) (a : Nat) : (s.extract a s.size).data.toList = s.data.toList.drop a := by
  rw [extract_bs, bs_data, ← size_len, List.take_length]

set_option maxRecDepth 100000 in
set_option maxHeartbeats 2000000 in
theorem ref_count (s : ByteArray) (w : World) (hs : s.size ≤ 1000000) : Calls Tryz.prog 45 #[.string s] w fun e w' => e = .returned (.int .i64 (cntR s.data.toList)) ∧ Below w.heap.size w w' := by
  obtain ⟨A, hA⟩ : ∃ A, cntR s.data.toList = A := ⟨_, rfl⟩
  rw [hA]
  have HA : Hid ((if valR s.data.toList = true then ((0 : Nat) : Int) + stpR s.data.toList else -1) = A) := Lib.hid (by rw [← hA]; unfold cntR; split <;> omega)
  clear hA
  go_enter Tryz.func45, Tryz.ntmps45
  go_wp2_with fail
  go_loopg [0, 3] (s.size + 1) (fun gk s0 s3 wx => ∃ (t : ByteArray) (n : Nat), s0 = .string t ∧ s3 = .int .i64 (n : Int) ∧ Below w.heap.size w wx ∧ t.size + n ≤ s.size ∧ t.size < gk ∧ Hid ((if valR t.data.toList = true then (n : Int) + stpR t.data.toList else -1) = A))
  case atStart => exact ⟨s, 0, rfl, by simp, Below.refl _ _, by omega, by omega, HA⟩
  case round =>
    obtain ⟨t, n, rfl, rfl, hbx, htn, hgk, HT⟩ := hrel
    by_cases hp : 0 < t.size
    · have hne : t.data.toList ≠ [] := by intro e; have := congrArg List.length e; rw [size_len, List.length_nil] at this; omega
      have HR := Lib.hid (fun w => ref_rune t w hp (by omega))
      obtain ⟨g', rfl⟩ : ∃ g', gk = g' + 1 := ⟨gk - 1, by omega⟩
      have tp : decide ((t.size : Int) > 0) = true := decide_eq_true (by omega)
      rcases refR_step t.data.toList hne with ⟨hb, hr⟩ | ⟨hb, hr, hrn, hrl⟩
      · rw [hr, show bs [] = ⟨#[]⟩ from rfl] at HR
        have HX : Hid (A = -1) := Lib.hid (by rw [← HT.out, valR_bad _ hne hb]; rfl)
        clear hr hb hne
        go_wp2_with fail
        refine (HR.out _).mono ?_
        rintro e w1 ⟨rfl, hb1⟩
        go_wp2_with fail
        go_ret
        exact ⟨by rw [HX.out]; rfl, bstep hbx hb1⟩
      · have hw2 := rwd_le _ hne
        have hw1 := rwd_pos t.data.toList
        rw [size_len] at hw2
        obtain ⟨R, hR⟩ : ∃ R, bs (refR t.data.toList) = R := ⟨_, rfl⟩
        rw [hR] at HR
        have hRe : R.toList.isEmpty = false := by
          rw [← hR, isEmpty_bs]; cases h : refR t.data.toList with
          | nil => exact absurd h hrn
          | cons _ _ => rfl
        have hRs : R.size = rwd t.data.toList := by rw [← hR, bs_size, hrl]
        have hst := stpR_step _ hne
        have hvs := valR_step _ hne hb
        have HT2 : Hid ((if valR (t.extract R.size t.size).data.toList = true then ((n + 1 : Nat) : Int) + stpR (t.extract R.size t.size).data.toList else -1) = A) := Lib.hid (by
          rw [← HT.out, tail_l2, hRs, hvs, hst]
          split <;> omega)
        have hR1 : 1 ≤ R.size := by omega
        have hR2 : R.size ≤ t.size := by omega
        clear hR hr hb hne hRs hst hvs hw1 hw2 hrl hrn
        go_wp2_with fail
        refine (HR.out _).mono ?_
        rintro e w1 ⟨rfl, hb1⟩
        go_wp2_with fail
        go_roundg g'
        case measure => omega
        case rel => exact ⟨t.extract R.size t.size, n + 1, by simp, by simp, bstep hbx hb1, by rw [ByteArray.size_extract]; omega, by rw [ByteArray.size_extract]; omega, HT2⟩
    · have tp : decide ((t.size : Int) > 0) = false := decide_eq_false (by omega)
      have HX : Hid ((n : Int) = A) := Lib.hid (by
        have h0 : t.data.toList = [] := List.length_eq_zero_iff.1 (by rw [size_len]; omega)
        rw [← HT.out, h0, valR_nil, stpR_nil]; simp)
      go_wp2_with fail
      go_ret
      exact ⟨ret_int HX.out, hbx⟩

theorem below_drewN {B : Nat} {a w : World} (h : Below B a w) (n : Nat) : Below B a (w.drewN n) := ⟨h.os, h.tape, h.output, h.size, h.block⟩
def fromL : List UInt8 := [34, 92, 8, 9, 10, 12, 13]
def toL : List UInt8 := [34, 92, 98, 116, 110, 102, 114]
theorem short_hit : ∀ (i : Fin 7) (c : Fin 256), (fromL.getD i.val 0).toNat = c.val → shortN c.val = (toL.getD i.val 0).toNat ∧ shortN c.val ≠ 0 := by decide +kernel
theorem short_miss : ∀ (c : Fin 256), (∀ i : Fin 7, (fromL.getD i.val 0).toNat ≠ c.val) → shortN c.val = 0 := by decide +kernel
theorem div16 (c : UInt8) (h : c.toNat < 32) : c.toNat / 16 < 16 := by omega
theorem hex_ext (d : Nat) (h : d < 16) : (⟨#[48, 49, 50, 51, 52, 53, 54, 55, 56, 57, 97, 98, 99, 100, 101, 102]⟩ : ByteArray).extract d (d + 1) = ⟨#[hexB d]⟩ := by
  have : ∀ (e : Fin 16), (⟨#[48, 49, 50, 51, 52, 53, 54, 55, 56, 57, 97, 98, 99, 100, 101, 102]⟩ : ByteArray).extract e.val (e.val + 1) = ⟨#[hexB e.val]⟩ := by decide +kernel
  exact this ⟨d, h⟩
theorem to_ext (i : Nat) (h : i < 7) : (⟨#[34, 92, 98, 116, 110, 102, 114]⟩ : ByteArray).extract i (i + 1) = ⟨#[toL.getD i 0]⟩ := by
  have : ∀ (e : Fin 7), (⟨#[34, 92, 98, 116, 110, 102, 114]⟩ : ByteArray).extract e.val (e.val + 1) = ⟨#[toL.getD e.val 0]⟩ := by decide +kernel
  exact this ⟨i, h⟩
theorem from_get (i : Nat) (h : i < 7) (hb : i < (⟨#[34, 92, 8, 9, 10, 12, 13]⟩ : ByteArray).size) : (⟨#[34, 92, 8, 9, 10, 12, 13]⟩ : ByteArray)[i] = fromL.getD i 0 := by
  have : ∀ (e : Fin 7), (⟨#[34, 92, 8, 9, 10, 12, 13]⟩ : ByteArray)[e.val]'e.isLt = fromL.getD e.val 0 := by decide
  exact this ⟨i, h⟩
set_option maxRecDepth 100000 in
set_option maxHeartbeats 2000000 in
theorem ref_mark (c : UInt8) (w : World) : Calls Tryz.prog 62 #[.int .u8 (c.toNat : Int)] w fun e w' => e = .returned (.string (bs (qb c))) ∧ Below w.heap.size w w' := by
  obtain ⟨Q, hQ⟩ : ∃ Q, bs (qb c) = Q := ⟨_, rfl⟩
  rw [hQ]
  have HQ := Lib.hid hQ
  clear hQ
  have hc := c.toNat_lt
  go_enter Tryz.func62, Tryz.ntmps62
  go_wp2_with fail
  go_loopg [5] 7 (fun gk s5 wx => ∃ (i : Nat), s5 = .int .i64 (i : Int) ∧ wx = w ∧ i + gk = 7 ∧ Hid (∀ j, j < i → (fromL.getD j 0).toNat ≠ c.toNat))
  case atStart => exact ⟨0, by simp, rfl, by omega, Lib.hid (fun j hj => absurd hj (Nat.not_lt_zero _))⟩
  case round =>
    obtain ⟨i, rfl, rfl, hgk, HI⟩ := hrel
    by_cases hi : i < 7
    · have ti : decide ((i : Int) < 7) = true := decide_eq_true (by omega)
      have hb : i < (⟨#[34, 92, 8, 9, 10, 12, 13]⟩ : ByteArray).size := hi
      have hfg := from_get i hi hb
      by_cases hm : (fromL.getD i 0).toNat = c.toNat
      · have teq : (((⟨#[34, 92, 8, 9, 10, 12, 13]⟩ : ByteArray)[i].toNat : Int) == (c.toNat : Int)) = true := by rw [hfg, beq_iff_eq]; omega
        have HR : Hid ((⟨#[92]⟩ : ByteArray) ++ (⟨#[34, 92, 98, 116, 110, 102, 114]⟩ : ByteArray).extract i (i + 1) = Q) := Lib.hid (by
          have hs := short_hit ⟨i, hi⟩ ⟨c.toNat, hc⟩ hm
          rw [to_ext i hi, ← HQ.out]
          unfold qb
          rw [if_pos hs.2, hs.1, UInt8.ofNat_toNat]
          rfl)
        clear hfg hm
        go_wp2_with fail
        go_ret
        exact ⟨ret_str HR.out, Below.refl _ _⟩
      · have teq : (((⟨#[34, 92, 8, 9, 10, 12, 13]⟩ : ByteArray)[i].toNat : Int) == (c.toNat : Int)) = false := by rw [hfg, beq_eq_false_iff_ne]; omega
        have HI2 : Hid (∀ j, j < i + 1 → (fromL.getD j 0).toNat ≠ c.toNat) := Lib.hid (fun j hj => by
          by_cases e : j = i
          · rw [e]; exact hm
          · exact HI.out j (by omega))
        obtain ⟨g', rfl⟩ : ∃ g', gk = g' + 1 := ⟨gk - 1, by omega⟩
        clear hfg hm
        go_wp2_with fail
        go_roundg g'
        case measure => omega
        case rel => exact ⟨i + 1, by simp, rfl, by omega, HI2⟩
    · obtain rfl : i = 7 := by omega
      have ti : decide (((7 : Nat) : Int) < 7) = false := by decide
      have hs0 : Hid (shortN c.toNat = 0) := Lib.hid (short_miss ⟨c.toNat, hc⟩ (fun j => HI.out j.val j.isLt))
      by_cases h32 : c.toNat < 32
      · have t32 : decide ((c.toNat : Int) < 32) = true := decide_eq_true (by omega)
        have HR : Hid (((⟨#[92, 117, 48, 48]⟩ : ByteArray) ++ (⟨#[48, 49, 50, 51, 52, 53, 54, 55, 56, 57, 97, 98, 99, 100, 101, 102]⟩ : ByteArray).extract (c.toNat / 16) (c.toNat / 16 + 1)) ++ (⟨#[48, 49, 50, 51, 52, 53, 54, 55, 56, 57, 97, 98, 99, 100, 101, 102]⟩ : ByteArray).extract (c.toNat % 16) (c.toNat % 16 + 1) = Q) := Lib.hid (by
          rw [hex_ext _ (div16 c h32), hex_ext _ (Nat.mod_lt _ (by decide)), ← HQ.out]
          unfold qb
          rw [if_neg (by rw [hs0.out]; decide), if_pos h32]
          rfl)
        clear hs0
        go_wp2_with fail
        go_quiet (fail)
        go_wp2_with fail
        go_ret
        exact ⟨ret_str HR.out, below_drewN (Below.refl _ _) _⟩
      · have t32 : decide ((c.toNat : Int) < 32) = false := decide_eq_false (by omega)
        have k := conv_list wr [(c.toNat : Int)] (by intro z hz; simp at hz; omega)
        have hq : bs ([(c.toNat : Int)].map fun x => x.toNat.toUInt8) = Q := by
          rw [← HQ.out]
          unfold qb
          rw [if_neg (by rw [hs0.out]; decide), if_neg h32]
          simp
        rw [hq] at k
        simp only [List.map_cons, List.map_nil, List.length_cons, List.length_nil, Nat.reduceAdd] at k
        clear hq
        go_wp2_with fail
        go_ret
        exact ⟨rfl, (Below.refl _ _).alloc (Nat.le_refl _) _⟩
theorem quo_snoc (l : List UInt8) (i : Nat) (h : i < l.length) : (l.take (i + 1)).flatMap qb = (l.take i).flatMap qb ++ qb l[i] := by
  rw [List.take_succ_eq_append_getElem h, List.flatMap_append, List.flatMap_cons, List.flatMap_nil, List.append_nil]
set_option maxRecDepth 100000 in
set_option maxHeartbeats 2000000 in
theorem ref_quote (s : ByteArray) (w : World) (hs : s.size ≤ 1000000) : Calls Tryz.prog 40 #[.string s] w fun e w' => e = .returned (.tuple #[.string (bs (if valR s.data.toList = true then quoL s.data.toList else [])), .int .i64 (if valR s.data.toList = true then 0 else 4)]) ∧ Below w.heap.size w w' := by
  have HC := Lib.hid (fun w => ref_count s w (by omega))
  cases hv : valR s.data.toList with
  | false =>
    have hc : cntR s.data.toList = -1 := by unfold cntR; rw [hv]; rfl
    rw [hc] at HC
    clear hc hv
    go_enter Tryz.func40, Tryz.ntmps40
    go_wp2_with fail
    refine (HC.out _).mono ?_
    rintro e w1 ⟨rfl, hb1⟩
    go_wp2_with fail
    go_ret2
    exact ⟨rfl, hb1⟩
  | true =>
    have hc : cntR s.data.toList = (stpR s.data.toList : Nat) := by unfold cntR; rw [hv]; rfl
    rw [hc] at HC
    obtain ⟨N, hN⟩ : ∃ N, stpR s.data.toList = N := ⟨_, rfl⟩
    rw [hN] at HC
    have tN : decide ((N : Int) < 0) = false := decide_eq_false (by omega)
    have tN2 : ¬ ((N : Int) < 0) := by omega
    clear hc hv hN
    go_enter Tryz.func40, Tryz.ntmps40
    go_wp2_with fail
    refine (HC.out _).mono ?_
    rintro e w1 ⟨rfl, hb1⟩
    go_wp2_with fail
    go_loopg [4, 5] s.size (fun gk s4 s5 wx => ∃ (i : Nat) (O : ByteArray), s5 = .int .i64 (i : Int) ∧ s4 = .string O ∧ Below w.heap.size w wx ∧ i + gk = s.size ∧ O.size ≤ 6 * i + 1 ∧ Hid (O = bs (34 :: (s.data.toList.take i).flatMap qb)))
    case atStart => exact ⟨0, ⟨#[34]⟩, by simp, rfl, hb1, by omega, by decide, Lib.hid rfl⟩
    case round =>
      obtain ⟨i, O, rfl, rfl, hbx, hgk, hOs, HO⟩ := hrel
      by_cases hi : i < s.size
      · obtain ⟨g', rfl⟩ : ∃ g', gk = g' + 1 := ⟨gk - 1, by omega⟩
        have ti : decide ((i : Int) < (s.size : Int)) = true := decide_eq_true (by omega)
        have hsn := quo_snoc s.data.toList i (by rw [size_len]; exact hi)
        have hge : s.data.toList[i]'(by rw [size_len]; exact hi) = s[i] := rfl
        rw [hge] at hsn
        by_cases h8 : s[i].toNat < 128
        · have t8 : decide ((s[i].toNat : Int) < 128) = true := decide_eq_true (by omega)
          have HM := Lib.hid (fun w => ref_mark s[i] w)
          have hq6 := qb_len s[i]
          rw [← bs_size] at hq6
          generalize hZ : bs (qb s[i]) = Z at HM hq6
          have HO2 : Hid (O ++ Z = bs (34 :: (s.data.toList.take (i + 1)).flatMap qb)) := Lib.hid (by rw [HO.out, hsn, ← hZ, bs_cat]; rfl)
          have padd := fun w => run_string_add_sum (P := Tryz.prog) w O Z (by omega)
          clear hsn hge hZ
          go_wp2_with fail
          refine (HM.out _).mono ?_
          rintro e w2 ⟨rfl, hb2⟩
          go_wp2_with fail
          go_roundg g'
          case measure => omega
          case rel => exact ⟨i + 1, _, by simp, rfl, bstep hbx hb2, by omega, by rw [ByteArray.size_append]; omega, HO2⟩
        · have t8 : decide ((s[i].toNat : Int) < 128) = false := decide_eq_false (by omega)
          have HO2 : Hid (O ++ s.extract i (i + 1) = bs (34 :: (s.data.toList.take (i + 1)).flatMap qb)) := Lib.hid (by
            rw [HO.out, hsn, qb_high _ (by omega)]
            have : s.extract i (i + 1) = bs [s[i]] := by
              rw [extract_bs, List.take_succ_eq_append_getElem (by rw [size_len]; exact hi), List.drop_append_of_le_length (by rw [List.length_take, size_len]; omega)]
              rw [List.drop_of_length_le (by rw [List.length_take, size_len]; omega)]; rfl
            rw [this, bs_cat]; rfl)
          have padd := fun w => run_string_add_sum (P := Tryz.prog) w O (s.extract i (i + 1)) (by rw [ByteArray.size_extract]; omega)
          clear hsn hge
          go_wp2_with fail
          go_roundg g'
          case measure => omega
          case rel => exact ⟨i + 1, _, by simp, rfl, hbx, by omega, by rw [ByteArray.size_append, ByteArray.size_extract]; omega, HO2⟩
      · obtain rfl : i = s.size := by omega
        have ti : decide ((s.size : Int) < (s.size : Int)) = false := decide_eq_false (by omega)
        have HR : Hid (O ++ ⟨#[34]⟩ = bs (quoL s.data.toList)) := Lib.hid (by
          rw [HO.out, ← size_len s, List.take_length]
          show bs _ ++ bs [34] = _
          rw [bs_cat]; rfl)
        have padd := fun w => run_string_add_sum (P := Tryz.prog) w O ⟨#[34]⟩ (by show _ + 1 ≤ _; omega)
        go_wp2_with fail
        go_ret2
        exact ⟨by rw [← HR.out]; rfl, hbx⟩
end Go.Proofs.YtcmkepkeeahioaaGreatDoor
namespace Go.Proofs.YtcmkepkeeahioaaGreatDoor
open Go.RowKit
/-- check of the document is right for a node, so deep -/
def RChk (d : Nat) (u : ND) : Prop := ∀ (x0 x1 x2 x3 x4 : Value) (w : World), NAt w u x0 x1 x2 x3 x4 →
  Calls Tryz.prog 28 #[.agg #[x0, x1, x2, x3, x4], .int .i64 (d : Int)] w fun e w' => e = .returned (.int .i64 (chk (valN u) d : Nat)) ∧ Below w.heap.size w w'
set_option maxRecDepth 100000 in
set_option maxHeartbeats 2000000 in
/-- a node of no list -/
theorem ref_check_flat (k n : Int) (s : ByteArray) (names : List ByteArray) (kids : List ND) (d : Nat) (hk0 : 0 ≤ k) (h5 : k ≠ 5) (h6 : k ≠ 6) (hs : s.size ≤ 1000000) : RChk d (.mk k n s names kids) := by
  intro x0 x1 x2 x3 x4 w hv
  rw [NAt] at hv
  obtain ⟨e0, e1, e2, ⟨an, cn, e3, hcn, hn⟩, ak, ck, e4, hck, hk⟩ := hv
  obtain ⟨N, hN⟩ : ∃ N, names.length = N := ⟨_, rfl⟩
  obtain ⟨K, hK⟩ : ∃ K, kids.length = K := ⟨_, rfl⟩
  rw [hN] at e3
  rw [hK] at e4
  subst e0 e1 e2 e3 e4
  rw [valN]
  have hNB := NB.new w (.int .u8 k) (.int .i64 n) (.string s) (.slice an N cn) (.slice ak K ck) 25
  have HNB := Lib.hid hNB
  have HCT := Lib.hid (fun W => ref_count s W hs)
  obtain ⟨b0, lt0, c0, c1, c2, c3, c4⟩ := hNB
  clear hn hk hcn hck hN hK b0
  by_cases k6 : 6 < k
  · have t6 : decide (k > 6) = true := decide_eq_true k6
    rw [if_neg (by omega), if_neg (by omega), if_neg (by omega), if_neg (by omega), if_neg (by omega), if_neg (by omega), if_neg (by omega), chk]
    go_enter Tryz.func28, Tryz.ntmps28
    go_wp2_with fail
    go_ret
    exact ⟨rfl, HNB.out.b⟩
  have t6 : decide (k > 6) = false := decide_eq_false k6
  by_cases k3 : k = 3
  · subst k3
    rw [if_neg (by omega), if_neg (by omega), if_neg (by omega), if_pos rfl]
    obtain ⟨R, hR⟩ : ∃ R, chk (JV.num n) d = R := ⟨_, rfl⟩
    rw [hR]
    rw [chk] at hR
    have hb := okNum_iff n
    by_cases h1 : n > 9007199254740991
    · have t1 : decide (n > 9007199254740991) = true := decide_eq_true h1
      have HR : Hid (R = 11) := Lib.hid (by rw [← hR, if_neg]; intro h; have := hb.1 h; omega)
      clear hb hR
      go_enter Tryz.func28, Tryz.ntmps28
      go_wp2_with fail
      go_ret
      exact ⟨by rw [HR.out]; rfl, HNB.out.b⟩
    have t1 : decide (n > 9007199254740991) = false := decide_eq_false h1
    by_cases h2 : n < -9007199254740991
    · have t2 : decide (n < -9007199254740991) = true := decide_eq_true h2
      have HR : Hid (R = 11) := Lib.hid (by rw [← hR, if_neg]; intro h; have := hb.1 h; omega)
      clear hb hR
      go_enter Tryz.func28, Tryz.ntmps28
      go_wp2_with fail
      go_ret
      exact ⟨by rw [HR.out]; rfl, HNB.out.b⟩
    have t2 : decide (n < -9007199254740991) = false := decide_eq_false h2
    have HR : Hid (R = 0) := Lib.hid (by rw [← hR, if_pos (hb.2 (by omega))])
    clear hb hR
    go_enter Tryz.func28, Tryz.ntmps28
    go_wp2_with fail
    go_ret
    exact ⟨by rw [HR.out]; rfl, HNB.out.b⟩
  have t3 : (k == 3) = false := by rw [beq_eq_false_iff_ne]; exact k3
  by_cases k4 : k = 4
  · subst k4
    rw [if_neg (by omega), if_neg (by omega), if_neg (by omega), if_neg (by omega), if_pos rfl, chk]
    unfold cntR at HCT
    cases hv : valR s.data.toList with
    | true =>
      rw [hv, if_pos rfl] at HCT
      obtain ⟨R, hR⟩ : ∃ R : Nat, stpR s.data.toList = R := ⟨_, rfl⟩
      rw [hR] at HCT
      have tr : decide ((R : Int) < 0) = false := decide_eq_false (by omega)
      clear hv hR
      go_enter Tryz.func28, Tryz.ntmps28
      go_wp2_with fail
      refine (HCT.out _).mono ?_
      rintro e w2 ⟨rfl, hb2⟩
      have HN2 := Lib.hid (HNB.out.below hb2)
      obtain ⟨-, -, f0, f1, f2, f3, f4⟩ := HNB.out.below hb2
      clear hb2
      go_wp2_with fail
      go_ret
      exact ⟨rfl, HN2.out.b⟩
    | false =>
      rw [hv, if_neg (by decide)] at HCT
      clear hv
      go_enter Tryz.func28, Tryz.ntmps28
      go_wp2_with fail
      refine (HCT.out _).mono ?_
      rintro e w2 ⟨rfl, hb2⟩
      have HN2 := Lib.hid (HNB.out.below hb2)
      clear hb2
      go_wp2_with fail
      go_ret
      exact ⟨rfl, HN2.out.b⟩
  have t4 : (k == 4) = false := by rw [beq_eq_false_iff_ne]; exact k4
  have t5 : decide (k < 5) = true := decide_eq_true (by omega)
  have hz : chk (if k = 0 then JV.nul else if k = 1 then .boo false else if k = 2 then .boo true else if k = 3 then .num n else if k = 4 then .txt s.data.toList else if k = 5 then .lst (valL kids) else if k = 6 then .obj (valO names kids) else .bad) d = 0 := by
    by_cases a0 : k = 0
    · rw [if_pos a0, chk]
    rw [if_neg a0]
    by_cases a1 : k = 1
    · rw [if_pos a1, chk]
    rw [if_neg a1, if_pos (by omega), chk]
  rw [hz]
  clear hz
  go_enter Tryz.func28, Tryz.ntmps28
  go_wp2_with fail
  go_ret
  exact ⟨rfl, HNB.out.b⟩
end Go.Proofs.YtcmkepkeeahioaaGreatDoor
namespace Go.Proofs.YtcmkepkeeahioaaGreatDoor
open Go.RowKit
set_option maxRecDepth 100000 in
set_option maxHeartbeats 4000000 in
theorem ref_check_list (n : Int) (s : ByteArray) (names : List ByteArray) (kids : List ND) (d : Nat) (hd : d ≤ 100) (IH : d ≤ 4 → ∀ u ∈ kids, RChk (d + 1) u) : RChk d (.mk 5 n s names kids) := by
  intro x0 x1 x2 x3 x4 w hv
  rw [NAt] at hv
  obtain ⟨e0, e1, e2, ⟨an, cn, e3, hcn, hn⟩, ak, ck, e4, hck, hk⟩ := hv
  obtain ⟨A, hA⟩ : ∃ A, chk (valN (.mk 5 n s names kids)) d = A := ⟨_, rfl⟩
  rw [hA]
  rw [valN, if_neg (by decide), if_neg (by decide), if_neg (by decide), if_neg (by decide), if_neg (by decide), if_pos rfl, chk, valL_len] at hA
  obtain ⟨N, hN⟩ : ∃ N, names.length = N := ⟨_, rfl⟩
  obtain ⟨K, hK⟩ : ∃ K, kids.length = K := ⟨_, rfl⟩
  rw [hN] at e3
  rw [hK] at e4 hA
  subst e0 e1 e2 e3 e4
  have hNB := NB.new w (.int .u8 5) (.int .i64 n) (.string s) (.slice an N cn) (.slice ak K ck) 25
  have HNB := Lib.hid hNB
  have HK := Lib.hid hk
  have HKK := Lib.hid hK
  obtain ⟨b0, lt0, c0, c1, c2, c3, c4⟩ := hNB
  have td : IntKind.i64.wrap ((d : Int) + 1) = ((d + 1 : Nat) : Int) := by rw [IntKind.wrap_i64]; omega
  clear hn hk hcn hck hN hK b0
  by_cases h1 : 4 < d
  · rw [if_pos h1] at hA
    subst hA
    have t1 : decide ((d : Int) > 4) = true := decide_eq_true (by omega)
    clear IH
    go_enter Tryz.func28, Tryz.ntmps28
    go_wp2_with fail
    go_ret
    exact ⟨rfl, HNB.out.b⟩
  have t1 : decide ((d : Int) > 4) = false := decide_eq_false (by omega)
  rw [if_neg h1] at hA
  have HIH := Lib.hid (IH (by omega))
  clear IH
  by_cases h2 : 64 < K
  · rw [if_pos h2] at hA
    subst hA
    have t2 : decide ((K : Int) > 64) = true := decide_eq_true (by omega)
    go_enter Tryz.func28, Tryz.ntmps28
    go_wp2_with fail
    go_ret
    exact ⟨rfl, HNB.out.b⟩
  have t2 : decide ((K : Int) > 64) = false := decide_eq_false (by omega)
  rw [if_neg h2] at hA
  have HA := Lib.hid hA
  clear hA
  go_enter Tryz.func28, Tryz.ntmps28
  go_wp2_with fail
  go_loopg [5, 6, 7] K (fun gk s5 _ _ wx => ∃ i : Nat, s5 = .int .i64 (i : Int) ∧ i + gk = K ∧ Hid (NB w wx (.int .u8 5) (.int .i64 n) (.string s) (.slice an N cn) (.slice ak K ck)) ∧ Hid (chkL (valL (kids.drop i)) (d + 1) = A))
  case atStart => exact ⟨0, by simp, by omega, HNB, HA⟩
  case round =>
    obtain ⟨i, rfl, hgk, HNB2, HW⟩ := hrel
    obtain ⟨-, lt2, c0, c1, c2, c3, c4⟩ := HNB2.out
    by_cases hi : i < K
    · have ti : decide ((i : Int) < (K : Int)) = true := decide_eq_true (by omega)
      have hik : i < kids.length := by rw [HKK.out]; exact hi
      obtain ⟨b, o, rfl, hbl, hcell⟩ := HK.out (fun e => by rw [e] at hik; exact absurd hik (Nat.not_lt_zero _))
      obtain ⟨y0, y1, y2, y3, y4, ⟨d0, d1, d2, d3, d4⟩, hat⟩ := hcell.get o kids i hik
      have e0 := (HNB2.out.b.cell (p := ⟨b, o + i * 5, none⟩) hbl).trans d0
      have e1 := (HNB2.out.b.cell (p := ⟨b, o + i * 5 + 1, none⟩) hbl).trans d1
      have e2 := (HNB2.out.b.cell (p := ⟨b, o + i * 5 + 2, none⟩) hbl).trans d2
      have e3 := (HNB2.out.b.cell (p := ⟨b, o + i * 5 + 3, none⟩) hbl).trans d3
      have e4 := (HNB2.out.b.cell (p := ⟨b, o + i * 5 + 4, none⟩) hbl).trans d4
      have hst := HW.out
      rw [valL_drop kids i hik, chkL] at hst
      have HC := Lib.hid (HIH.out kids[i] (List.getElem_mem hik) y0 y1 y2 y3 y4 wr (hat.below HNB2.out.b))
      generalize chk (valN kids[i]) (d + 1) = R at hst HC
      obtain ⟨g', rfl⟩ : ∃ g', gk = g' + 1 := ⟨gk - 1, by omega⟩
      have hi0 : (0 : Int) ≤ (i : Int) := by omega
      clear d0 d1 d2 d3 d4 hat hcell HW
      by_cases hr : R = 0
      · subst hr
        have HST := Lib.hid hst
        clear hst
        by_cases h0 : i = 0
        case' pos => have t0 : decide ((0 : Int) < (i : Int)) = false := decide_eq_false (by omega)
                     have n0 : ¬ 0 < i := by omega
        case' neg => have t0 : decide ((0 : Int) < (i : Int)) = true := decide_eq_true (by omega)
                     have n0 : 0 < i := by omega
        all_goals
          clear h0
          go_wp2_with fail
          go_loopg [6] 0 (fun gk s6 wx => s6 = .int .i64 0 ∧ wx = wr)
          case atStart => exact ⟨rfl, rfl⟩
          case round =>
            obtain ⟨rfl, rfl⟩ := hrel
            go_wp2_with fail
            refine HC.out.mono ?_
            rintro e w3 ⟨rfl, hb3⟩
            have HNB3 := Lib.hid (HNB2.out.below hb3)
            clear hb3
            go_wp2_with fail
            go_roundg g'
            case measure => omega
            case rel => exact ⟨i + 1, by simp, by omega, HNB3, Lib.hid (by rw [← HST.out]; rfl)⟩
      · have tr : ((R : Int) != 0) = true := by rw [bne_iff_ne]; omega
        have HST : Hid (R = A) := Lib.hid (by rw [← hst, if_pos hr])
        clear hst hr
        by_cases h0 : i = 0
        case' pos => have t0 : decide ((0 : Int) < (i : Int)) = false := decide_eq_false (by omega)
                     have n0 : ¬ 0 < i := by omega
        case' neg => have t0 : decide ((0 : Int) < (i : Int)) = true := decide_eq_true (by omega)
                     have n0 : 0 < i := by omega
        all_goals
          clear h0
          go_wp2_with fail
          go_loopg [6] 0 (fun gk s6 wx => s6 = .int .i64 0 ∧ wx = wr)
          case atStart => exact ⟨rfl, rfl⟩
          case round =>
            obtain ⟨rfl, rfl⟩ := hrel
            go_wp2_with fail
            refine HC.out.mono ?_
            rintro e w3 ⟨rfl, hb3⟩
            have HNB3 := Lib.hid (HNB2.out.below hb3)
            clear hb3
            go_wp2_with fail
            go_ret
            exact ⟨by rw [HST.out]; rfl, HNB3.out.b⟩
    · have ti : decide ((i : Int) < (K : Int)) = false := decide_eq_false (by omega)
      have HR : Hid (A = 0) := Lib.hid (by rw [← HW.out, List.drop_eq_nil_of_le (by rw [HKK.out]; omega), valL, chkL])
      clear HW
      go_wp2_with fail
      go_ret
      exact ⟨by rw [HR.out]; rfl, HNB2.out.b⟩
theorem name_take (names : List ByteArray) (i : Nat) (hi : i < names.length) : (names.take (i + 1)).map (fun x => x.data.toList) = (names.take i).map (fun x => x.data.toList) ++ [names[i].data.toList] := by
  rw [List.take_succ_eq_append_getElem hi, List.map_append]; rfl
theorem toList_ne {X Y : ByteArray} (h : X ≠ Y) : X.toList ≠ Y.toList := fun e => h (by
  rw [ByteArray.toList_eq, ByteArray.toList_eq] at e
  cases X; cases Y
  congr 1
  exact Array.toList_inj.1 e)
theorem data_ne {X Y : ByteArray} (h : X ≠ Y) : X.data.toList ≠ Y.data.toList := fun e => h (by
  cases X; cases Y
  congr 1
  exact Array.toList_inj.1 e)
theorem name_mem (names : List ByteArray) (i : Nat) (hi : i < names.length) : (names[i].data.toList ∈ (names.take i).map (fun x => x.data.toList)) ↔ ∃ (m : Nat) (hm : m < i), names[m] = names[i] := by
  rw [List.mem_map]
  constructor
  · rintro ⟨x, h1, h2⟩
    obtain ⟨m, hm, rfl⟩ := List.getElem_of_mem h1
    rw [List.length_take] at hm
    refine ⟨m, by omega, Classical.byContradiction fun hne => ?_⟩
    rw [List.getElem_take] at h2
    exact data_ne hne h2
  · rintro ⟨m, hm, h⟩
    exact ⟨names[i], by rw [← h]; exact List.mem_take_iff_getElem.2 ⟨m, by omega, rfl⟩, rfl⟩
set_option maxRecDepth 100000 in
set_option maxHeartbeats 8000000 in
theorem ref_check_obj (n : Int) (s : ByteArray) (names : List ByteArray) (kids : List ND) (d : Nat) (hd : d ≤ 100) (hnk : names.length = kids.length) (hnz : ∀ x ∈ names, x.size ≤ 1000000) (IH : d ≤ 4 → ∀ u ∈ kids, RChk (d + 1) u) : RChk d (.mk 6 n s names kids) := by
  intro x0 x1 x2 x3 x4 w hv
  rw [NAt] at hv
  obtain ⟨e0, e1, e2, ⟨an, cn, e3, hcn, hn⟩, ak, ck, e4, hck, hk⟩ := hv
  obtain ⟨A, hA⟩ : ∃ A, chk (valN (.mk 6 n s names kids)) d = A := ⟨_, rfl⟩
  rw [hA]
  rw [valN, if_neg (by decide), if_neg (by decide), if_neg (by decide), if_neg (by decide), if_neg (by decide), if_neg (by decide), if_pos rfl, chk, valO_len names kids hnk] at hA
  obtain ⟨K, hK⟩ : ∃ K, kids.length = K := ⟨_, rfl⟩
  have hN : names.length = K := hnk.trans hK
  rw [hN] at e3 hcn
  rw [hK] at e4 hA
  subst e0 e1 e2 e3 e4
  have hNB := NB.new w (.int .u8 6) (.int .i64 n) (.string s) (.slice an K cn) (.slice ak K ck) 25
  have HNB := Lib.hid hNB
  have HK := Lib.hid hk
  have HN := Lib.hid hn
  have HKK := Lib.hid hK
  have HNN := Lib.hid hN
  have HNZ := Lib.hid hnz
  obtain ⟨b0, lt0, c0, c1, c2, c3, c4⟩ := hNB
  have td : IntKind.i64.wrap ((d : Int) + 1) = ((d + 1 : Nat) : Int) := by rw [IntKind.wrap_i64]; omega
  clear hn hk hcn hck hN hK b0 hnk hnz
  by_cases h1 : 4 < d
  · rw [if_pos h1] at hA
    subst hA
    have t1 : decide ((d : Int) > 4) = true := decide_eq_true (by omega)
    clear IH
    go_enter Tryz.func28, Tryz.ntmps28
    go_wp2_with fail
    go_ret
    exact ⟨rfl, HNB.out.b⟩
  have t1 : decide ((d : Int) > 4) = false := decide_eq_false (by omega)
  rw [if_neg h1] at hA
  have HIH := Lib.hid (IH (by omega))
  clear IH
  by_cases h2 : 64 < K
  · rw [if_pos h2] at hA
    subst hA
    have t2 : decide ((K : Int) > 64) = true := decide_eq_true (by omega)
    go_enter Tryz.func28, Tryz.ntmps28
    go_wp2_with fail
    go_ret
    exact ⟨rfl, HNB.out.b⟩
  have t2 : decide ((K : Int) > 64) = false := decide_eq_false (by omega)
  rw [if_neg h2] at hA
  have HA : Hid (chkO ((names.take 0).map (fun x => x.data.toList)) (valO (names.drop 0) (kids.drop 0)) (d + 1) = A) := Lib.hid (by simpa using hA)
  clear hA
  go_enter Tryz.func28, Tryz.ntmps28
  go_wp2_with fail
  go_loopg [5, 6, 7] K (fun gk s5 _ _ wx => ∃ i : Nat, s5 = .int .i64 (i : Int) ∧ i + gk = K ∧ Hid (NB w wx (.int .u8 6) (.int .i64 n) (.string s) (.slice an K cn) (.slice ak K ck)) ∧ Hid (chkO ((names.take i).map (fun x => x.data.toList)) (valO (names.drop i) (kids.drop i)) (d + 1) = A))
  case atStart => exact ⟨0, by simp, by omega, HNB, HA⟩
  case round =>
    obtain ⟨i, rfl, hgk, HNB2, HW⟩ := hrel
    obtain ⟨-, lt2, c0, c1, c2, c3, c4⟩ := HNB2.out
    by_cases hi : i < K
    · have ti : decide ((i : Int) < (K : Int)) = true := decide_eq_true (by omega)
      have hik : i < kids.length := by rw [HKK.out]; exact hi
      have hin : i < names.length := by rw [HNN.out]; exact hi
      obtain ⟨b, o, rfl, hbl, hcell⟩ := HK.out (fun e => by rw [e] at hik; exact absurd hik (Nat.not_lt_zero _))
      obtain ⟨bn, on, rfl, hbn, hname⟩ := HN.out (fun e => by rw [e] at hin; exact absurd hin (Nat.not_lt_zero _))
      obtain ⟨y0, y1, y2, y3, y4, ⟨d0, d1, d2, d3, d4⟩, hat⟩ := hcell.get o kids i hik
      have HE : Hid (∀ W, Below w.heap.size w W → (W.cell? ⟨b, o + i * 5, none⟩ = some y0 ∧ W.cell? ⟨b, o + i * 5 + 1, none⟩ = some y1 ∧ W.cell? ⟨b, o + i * 5 + 2, none⟩ = some y2 ∧ W.cell? ⟨b, o + i * 5 + 3, none⟩ = some y3 ∧ W.cell? ⟨b, o + i * 5 + 4, none⟩ = some y4)) := Lib.hid (fun W hW => ⟨(hW.cell (p := ⟨b, o + i * 5, none⟩) hbl).trans d0, (hW.cell (p := ⟨b, o + i * 5 + 1, none⟩) hbl).trans d1, (hW.cell (p := ⟨b, o + i * 5 + 2, none⟩) hbl).trans d2, (hW.cell (p := ⟨b, o + i * 5 + 3, none⟩) hbl).trans d3, (hW.cell (p := ⟨b, o + i * 5 + 4, none⟩) hbl).trans d4⟩)
      have HM : Hid (∀ W, Below w.heap.size w W → ∀ j (hj : j < names.length), W.cell? ⟨bn, on + j, none⟩ = some (.string names[j])) := Lib.hid (fun W hW j hj => (hW.cell (p := ⟨bn, on + j, none⟩) hbn).trans (hname j hj))
      have hst := HW.out
      rw [valO_drop names kids i hin hik, chkO] at hst
      have HTK := Lib.hid (name_take names i hin)
      have HME := Lib.hid (name_mem names i hin)
      have HC : Hid (∀ W, Below w.heap.size w W → Calls Tryz.prog 28 #[.agg #[y0, y1, y2, y3, y4], .int .i64 ((d + 1 : Nat) : Int)] W fun e w' => e = .returned (.int .i64 (chk (valN kids[i]) (d + 1) : Nat)) ∧ Below W.heap.size W w') := Lib.hid (fun W hW => HIH.out kids[i] (List.getElem_mem hik) y0 y1 y2 y3 y4 W (hat.below hW))
      have HCT := Lib.hid (fun W => ref_count names[i] W (HNZ.out _ (List.getElem_mem hin)))
      have ci := HM.out wr HNB2.out.b i hin
      obtain ⟨Y, hY⟩ : ∃ Y, names[i] = Y := ⟨_, rfl⟩
      rw [hY] at HTK HME HCT hst ci
      have HY := Lib.hid hY
      generalize chk (valN kids[i]) (d + 1) = R at hst HC
      obtain ⟨g', rfl⟩ : ∃ g', gk = g' + 1 := ⟨gk - 1, by omega⟩
      unfold cntR at HCT
      clear d0 d1 d2 d3 d4 hat hcell HW hname hY
      cases hvr : valR Y.data.toList with
      | false =>
        rw [hvr, if_pos rfl] at hst
        rw [hvr, if_neg (by decide)] at HCT
        have HST := Lib.hid hst
        clear hst hvr
        go_wp2_with fail
        refine (HCT.out _).mono ?_
        rintro e w3 ⟨rfl, hb3⟩
        have HNB3 := Lib.hid (HNB2.out.below hb3)
        clear hb3
        go_wp2_with fail
        go_ret
        exact ⟨by rw [← HST.out]; rfl, HNB3.out.b⟩
      | true =>
        rw [hvr, if_neg (by decide)] at hst
        rw [hvr, if_pos rfl] at HCT
        obtain ⟨T, hT⟩ : ∃ T : Nat, stpR Y.data.toList = T := ⟨_, rfl⟩
        rw [hT] at HCT
        have tT : decide ((T : Int) < 0) = false := decide_eq_false (by omega)
        have HST0 := Lib.hid hst
        clear hvr hT hst
        go_wp2_with fail
        refine (HCT.out _).mono ?_
        rintro e w3 ⟨rfl, hb3⟩
        have HNB3 := Lib.hid (HNB2.out.below hb3)
        clear hb3
        go_wp2_with fail
        go_loopg [6] i (fun gi s6 wx => ∃ j : Nat, s6 = .int .i64 (j : Int) ∧ j + gi = i ∧ Hid (NB w wx (.int .u8 6) (.int .i64 n) (.string s) (.slice (some ⟨bn, on, none⟩) K cn) (.slice (some ⟨b, o, none⟩) K ck)) ∧ Hid (∀ m (hm : m < names.length), m < j → names[m] ≠ Y))
        case atStart => exact ⟨0, by simp, by omega, HNB3, Lib.hid (fun m hm h => absurd h (Nat.not_lt_zero _))⟩
        case round =>
          obtain ⟨j, rfl, hgi, HNI, HNE⟩ := hrel
          obtain ⟨-, lti, a0, a1, a2, a3, a4⟩ := HNI.out
          by_cases hj : j < i
          · have tj : decide ((j : Int) < (i : Int)) = true := decide_eq_true (by omega)
            have hjn : j < names.length := by omega
            have hjK : j < K := by omega
            have cj := HM.out wr HNI.out.b j hjn
            have ci2 := HM.out wr HNI.out.b i hin
            rw [HY.out] at ci2
            have HNID := Lib.hid (HNI.out.below ((Below.refl wr.heap.size wr).drew))
            by_cases hxy : names[j] = Y
            · rw [hxy] at cj
              have HST : Hid (A = 22) := Lib.hid (by rw [← HST0.out, if_pos (HME.out.2 ⟨j, hj, hxy⟩)])
              clear hxy HST0
              go_wp2_with fail
              go_region
              go_wp2_with fail
              go_ret
              exact ⟨by rw [HST.out]; rfl, HNID.out.b⟩
            · have hne := toList_ne hxy
              have hnb : (names[j].toList == Y.toList) = false := by rw [beq_eq_false_iff_ne]; exact hne
              have HNE2 : Hid (∀ m (hm : m < names.length), m < j + 1 → names[m] ≠ Y) := Lib.hid (fun m hm h => by
                by_cases e : m = j
                · subst e; exact hxy
                · exact HNE.out m hm (by omega))
              obtain ⟨X, hX⟩ : ∃ X, names[j] = X := ⟨_, rfl⟩
              rw [hX] at cj hne hnb
              clear hxy hX HNE
              obtain ⟨g2, rfl⟩ : ∃ g2, gk = g2 + 1 := ⟨gk - 1, by omega⟩
              go_wp2_with fail
              go_region
              go_wp2_with fail
              go_roundg g2
              case measure => omega
              case rel => exact ⟨j + 1, by simp, by omega, HNID, HNE2⟩
          · have tj : decide ((j : Int) < (i : Int)) = false := decide_eq_false (by omega)
            have hji : j = i := by omega
            obtain ⟨e0, e1, e2, e3, e4⟩ := HE.out wr HNI.out.b
            have hst := HST0.out
            rw [if_neg (fun h => by
              obtain ⟨m, hm, h2⟩ := HME.out.1 h
              exact HNE.out m (by omega) (by omega) h2)] at hst
            have HC2 := Lib.hid (HC.out wr HNI.out.b)
            by_cases hr : R = 0
            · subst hr
              have HST : Hid (chkO ((names.take (i + 1)).map (fun x => x.data.toList)) (valO (names.drop (i + 1)) (kids.drop (i + 1))) (d + 1) = A) := Lib.hid (by rw [HTK.out, ← hst]; rfl)
              clear hst HST0 HNE hji
              go_wp2_with fail
              refine HC2.out.mono ?_
              rintro e w4 ⟨rfl, hb4⟩
              have HNB4 := Lib.hid (HNI.out.below hb4)
              clear hb4
              go_wp2_with fail
              go_roundg g'
              case measure => omega
              case rel => exact ⟨i + 1, by simp, by omega, HNB4, HST⟩
            · have tr : ((R : Int) != 0) = true := by rw [bne_iff_ne]; omega
              have HST : Hid (R = A) := Lib.hid (by rw [← hst, if_pos hr])
              clear hst hr HST0 HNE hji
              go_wp2_with fail
              refine HC2.out.mono ?_
              rintro e w4 ⟨rfl, hb4⟩
              have HNB4 := Lib.hid (HNI.out.below hb4)
              clear hb4
              go_wp2_with fail
              go_ret
              exact ⟨by rw [HST.out]; rfl, HNB4.out.b⟩
    · have ti : decide ((i : Int) < (K : Int)) = false := decide_eq_false (by omega)
      have HR : Hid (A = 0) := Lib.hid (by rw [← HW.out, List.drop_eq_nil_of_le (by rw [HNN.out]; omega), valO_nil, chkO])
      clear HW
      go_wp2_with fail
      go_ret
      exact ⟨by rw [HR.out]; rfl, HNB2.out.b⟩
/-- check of the document -/
theorem ref_check_all (m : Nat) : ∀ (v : ND) (d : Nat), 5 ≤ d + m → d ≤ 50 → goodN v → wfN v → RChk d v := by
  induction m with
  | zero =>
    intro v d h1 h2 hg hw
    cases v with
    | mk k n s names kids =>
    rw [goodN] at hg
    rw [wfN] at hw
    obtain ⟨g1, g2, g3, g4, g5⟩ := hg
    obtain ⟨f1, f2, f3, f4, f5, f6, f7⟩ := hw
    by_cases h5 : k = 5
    · subst h5; exact ref_check_list n s names kids d (by omega) (fun h => by omega)
    by_cases h6 : k = 6
    · subst h6; exact ref_check_obj n s names kids d (by omega) (g2 rfl) (fun x hx => Nat.le_trans (g4 x hx) (by decide)) (fun h => by omega)
    · exact ref_check_flat k n s names kids d (by have := (bounds_u8 f1).1; exact this) h5 h6 (by omega)
  | succ m ih =>
    intro v d h1 h2 hg hw
    cases v with
    | mk k n s names kids =>
    rw [goodN] at hg
    rw [wfN] at hw
    obtain ⟨g1, g2, g3, g4, g5⟩ := hg
    obtain ⟨f1, f2, f3, f4, f5, f6, f7⟩ := hw
    by_cases h5 : k = 5
    · subst h5; exact ref_check_list n s names kids d (by omega) (fun h u hu => ih u (d + 1) (by omega) (by omega) (goodL_mem kids g5 u hu) (wfL_mem kids f7 u hu))
    by_cases h6 : k = 6
    · subst h6; exact ref_check_obj n s names kids d (by omega) (g2 rfl) (fun x hx => Nat.le_trans (g4 x hx) (by decide)) (fun h u hu => ih u (d + 1) (by omega) (by omega) (goodL_mem kids g5 u hu) (wfL_mem kids f7 u hu))
    · exact ref_check_flat k n s names kids d (by have := (bounds_u8 f1).1; exact this) h5 h6 (by omega)
set_option maxRecDepth 100000 in
theorem ref_Check (v : ND) (x0 x1 x2 x3 x4 : Value) (w : World) (hv : NAt w v x0 x1 x2 x3 x4) (hg : goodN v) (hw : wfN v) :
    Calls Tryz.prog 15 #[.agg #[x0, x1, x2, x3, x4]] w fun e w' => e = .returned (.int .i64 (chk (valN v) 1 : Nat)) ∧ Below w.heap.size w w' := by
  have hNB := NB.new w x0 x1 x2 x3 x4 25
  have HC := Lib.hid (ref_check_all 4 v 1 (by omega) (by omega) hg hw x0 x1 x2 x3 x4 _ (hv.below hNB.b))
  obtain ⟨b0, lt0, c0, c1, c2, c3, c4⟩ := hNB
  have HB := Lib.hid b0
  generalize chk (valN v) 1 = R at HC ⊢
  clear hv b0 hg hw
  go_enter Tryz.func15, Tryz.ntmps15
  go_wp2_with fail
  refine HC.out.mono ?_
  rintro e w3 ⟨rfl, hb3⟩
  go_wp2_with fail
  go_ret
  exact ⟨rfl, bstep HB.out hb3⟩
end Go.Proofs.YtcmkepkeeahioaaGreatDoor
namespace Go.Proofs.YtcmkepkeeahioaaGreatDoor
open Go.RowKit
theorem dec_step (n : Nat) (h : ¬ n < 10) : Go.Lib.decDigits n = Go.Lib.decDigits (n / 10) ++ Go.Lib.decDigits (n % 10) := by
  rw [Go.Lib.decDigits, dif_neg h, Go.Lib.decDigits_one (i := n % 10) (by omega)]
theorem dec_len (n : Nat) (h : n ≤ 9007199254740991) : (Go.Lib.decDigits n).length ≤ 20 := by rw [Go.Lib.decDigits_length]; exact Go.Lib.nDigits_le20 _ (by omega)
theorem bs_cat2 (a b : List UInt8) : bs a ++ bs b = bs (a ++ b) := by
  have : (bs a ++ bs b).data.toList = a ++ b := by simp [bs]
  rw [← this, bs_self]
set_option maxRecDepth 100000 in
set_option maxHeartbeats 2000000 in
theorem dig_small (n : Nat) (h : n < 10) (w : World) : Calls Tryz.prog 39 #[.int .i64 (n : Int)] w fun e w' => e = .returned (.string (bs (Go.Lib.decDigits n))) ∧ w' = w := by
  rw [Go.Lib.decDigits_one h]
  match n, h with
  | 0, _ | 1, _ | 2, _ | 3, _ | 4, _ | 5, _ | 6, _ | 7, _ | 8, _ | 9, _ =>
    go_enter Tryz.func39, Tryz.ntmps39
    go_wp2_with fail
    go_ret
    exact ⟨rfl, rfl⟩
set_option maxRecDepth 100000 in
set_option maxHeartbeats 2000000 in
theorem dig_nat (n : Nat) (hn : n ≤ 9007199254740991) (w : World) : Calls Tryz.prog 39 #[.int .i64 (n : Int)] w fun e w' => e = .returned (.string (bs (Go.Lib.decDigits n))) ∧ w' = w := by
  induction n using Nat.strongRecOn with
  | _ n ih =>
    by_cases h : n < 10
    · exact dig_small n h w
    · have H1 := Lib.hid (ih (n / 10) (by omega) (by omega))
      have H2 := Lib.hid (ih (n % 10) (by omega) (by omega))
      have hl := dec_len n hn
      rw [dec_step n h] at hl ⊢
      rw [List.length_append] at hl
      rw [← bs_cat2]
      have padd := fun w => run_string_add_sum (P := Tryz.prog) w (bs (Go.Lib.decDigits (n / 10))) (bs (Go.Lib.decDigits (n % 10))) (by rw [bs_size, bs_size]; omega)
      generalize bs (Go.Lib.decDigits (n / 10)) = X at H1 padd ⊢
      generalize bs (Go.Lib.decDigits (n % 10)) = Y at H2 padd ⊢
      have t1 : decide ((n : Int) < 10) = false := decide_eq_false (by omega)
      have t0 : decide ((n : Int) < 0) = false := decide_eq_false (by omega)
      have q1 : IntKind.i64.wrap ((n : Int).tdiv 10) = ((n / 10 : Nat) : Int) := by rw [Int.tdiv_eq_ediv_of_nonneg (by omega), IntKind.wrap_i64]; omega
      have q2 : IntKind.i64.wrap ((n : Int).tmod 10) = ((n % 10 : Nat) : Int) := by rw [Int.tmod_eq_emod_of_nonneg (by omega), IntKind.wrap_i64]; omega
      clear ih hl
      go_enter Tryz.func39, Tryz.ntmps39
      go_wp2_with fail
      refine H1.out.mono ?_
      rintro e w1 ⟨rfl, rfl⟩
      go_wp2_with fail
      refine H2.out.mono ?_
      rintro e w1 ⟨rfl, rfl⟩
      go_wp2_with fail
      go_ret
      exact ⟨rfl, rfl⟩
set_option maxRecDepth 100000 in
set_option maxHeartbeats 2000000 in
theorem ref_digits (n : Int) (h0 : -9007199254740991 ≤ n) (h1 : n ≤ 9007199254740991) (w : World) : Calls Tryz.prog 39 #[.int .i64 n] w fun e w' => e = .returned (.string (bs (Go.Lib.itoa n))) ∧ w' = w := by
  unfold Go.Lib.itoa
  by_cases h : n < 0
  · rw [if_pos h]
    obtain ⟨m, hm⟩ : ∃ m, n.natAbs = m := ⟨_, rfl⟩
    have hnm : n = -(m : Int) := by omega
    subst hnm
    have H := Lib.hid (dig_nat m (by omega) w)
    have hl := dec_len m (by omega)
    rw [hm]
    rw [show bs (45 :: Go.Lib.decDigits m) = ⟨#[45]⟩ ++ bs (Go.Lib.decDigits m) from (bs_cat2 [45] _).symm]
    have padd := fun w => run_string_add_sum (P := Tryz.prog) w ⟨#[45]⟩ (bs (Go.Lib.decDigits m)) (by rw [bs_size]; show 1 + _ ≤ _; omega)
    generalize bs (Go.Lib.decDigits m) = X at H padd ⊢
    have t0 : decide (-(m : Int) < 0) = true := decide_eq_true h
    have q1 : IntKind.i64.wrap (- -(m : Int)) = (m : Int) := by rw [IntKind.wrap_i64]; omega
    have q2 : IntKind.i64.wrap (m : Int) = (m : Int) := by rw [IntKind.wrap_i64]; omega
    clear hl hm
    go_enter Tryz.func39, Tryz.ntmps39
    go_wp2_with fail
    refine H.out.mono ?_
    rintro e w1 ⟨rfl, rfl⟩
    go_wp2_with fail
    go_ret
    exact ⟨rfl, rfl⟩
  · rw [if_neg h]
    have e : n = (n.toNat : Int) := by omega
    have h2 := dig_nat n.toNat (by omega) w
    rw [← e] at h2
    exact h2
end Go.Proofs.YtcmkepkeeahioaaGreatDoor
namespace Go.Proofs.YtcmkepkeeahioaaGreatDoor
open Go.RowKit
/-- json of the document is right for a node, so deep -/
def RJs (d : Nat) (u : ND) : Prop := ∀ (x0 x1 x2 x3 x4 : Value) (w : World), NAt w u x0 x1 x2 x3 x4 → chk (valN u) d = 0 → (json (valN u)).length ≤ 1000000 →
  Calls Tryz.prog 24 #[.agg #[x0, x1, x2, x3, x4]] w fun e w' => e = .returned (.string (bs (json (valN u)))) ∧ Below w.heap.size w w'
set_option maxRecDepth 100000 in
set_option maxHeartbeats 2000000 in
/-- a node of no list -/
theorem ref_json_flat (k n : Int) (s : ByteArray) (names : List ByteArray) (kids : List ND) (d : Nat) (hk0 : 0 ≤ k) (h5 : k ≠ 5) (h6 : k ≠ 6) (hs : s.size ≤ 1000000) : RJs d (.mk k n s names kids) := by
  intro x0 x1 x2 x3 x4 w hv hck _
  rw [NAt] at hv
  obtain ⟨e0, e1, e2, ⟨an, cn, e3, hcn, hn⟩, ak, ck, e4, hckk, hk⟩ := hv
  obtain ⟨N, hN⟩ : ∃ N, names.length = N := ⟨_, rfl⟩
  obtain ⟨K, hK⟩ : ∃ K, kids.length = K := ⟨_, rfl⟩
  rw [hN] at e3
  rw [hK] at e4
  subst e0 e1 e2 e3 e4
  rw [valN] at hck ⊢
  have hNB := NB.new w (.int .u8 k) (.int .i64 n) (.string s) (.slice an N cn) (.slice ak K ck) 25
  have HNB := Lib.hid hNB
  obtain ⟨b0, lt0, c0, c1, c2, c3, c4⟩ := hNB
  have HNA : Hid (∀ o, Below w.heap.size w ((w.alloc (.cells #[.int .u8 k, .int .i64 n, .string s, .slice an N cn, .slice ak K ck] 25)).alloc o)) := Lib.hid (fun o => b0.alloc (by simp) o)
  clear hn hk hcn hckk hN hK b0
  by_cases k0 : k = 0
  · subst k0
    rw [if_pos rfl, json]
    go_enter Tryz.func24, Tryz.ntmps24
    go_wp2_with fail
    go_ret
    exact ⟨rfl, HNA.out _⟩
  by_cases k1 : k = 1
  · subst k1
    rw [if_neg (by decide), if_pos rfl, json]
    go_enter Tryz.func24, Tryz.ntmps24
    go_wp2_with fail
    go_ret
    exact ⟨rfl, HNA.out _⟩
  by_cases k2 : k = 2
  · subst k2
    rw [if_neg (by decide), if_neg (by decide), if_pos rfl, json]
    go_enter Tryz.func24, Tryz.ntmps24
    go_wp2_with fail
    go_ret
    exact ⟨rfl, HNA.out _⟩
  by_cases k3 : k = 3
  · subst k3
    rw [if_neg (by decide), if_neg (by decide), if_neg (by decide), if_pos rfl] at hck ⊢
    rw [chk] at hck
    have hb := (okNum_iff n).1 (Classical.byContradiction fun e => by rw [if_neg e] at hck; exact absurd hck (by decide))
    rw [json]
    have H := Lib.hid (fun W => ref_digits n hb.1 hb.2 W)
    clear hck hb
    generalize bs (Go.Lib.itoa n) = X at H ⊢
    go_enter Tryz.func24, Tryz.ntmps24
    go_wp2_with fail
    refine (H.out _).mono ?_
    rintro e w1 ⟨rfl, rfl⟩
    go_wp2_with fail
    go_ret
    exact ⟨rfl, HNB.out.b⟩
  by_cases k4 : k = 4
  · subst k4
    rw [if_neg (by decide), if_neg (by decide), if_neg (by decide), if_neg (by decide), if_pos rfl] at hck ⊢
    rw [chk] at hck
    have hv : valR s.data.toList = true := by
      cases e : valR s.data.toList with
      | true => rfl
      | false => rw [e] at hck; exact absurd hck (by decide)
    rw [json]
    have H := Lib.hid (fun W => ref_quote s W hs)
    rw [hv, if_pos rfl, if_pos rfl] at H
    clear hck hv
    generalize bs (quoL s.data.toList) = X at H ⊢
    go_enter Tryz.func24, Tryz.ntmps24
    go_wp2_with fail
    refine (H.out _).mono ?_
    rintro e w1 ⟨rfl, hb1⟩
    have HB := Lib.hid (bstep HNB.out.b hb1)
    clear hb1
    go_wp2_with fail
    go_ret
    exact ⟨rfl, HB.out⟩
  · rw [if_neg k0, if_neg k1, if_neg k2, if_neg k3, if_neg k4, if_neg h5, if_neg h6, chk] at hck
    exact absurd hck (by decide)
theorem of_data {X : ByteArray} {l : List UInt8} (h : X.data.toList = l) : X = bs l := by rw [← h, bs_self]
theorem cat_data (a b : ByteArray) : (a ++ b).data.toList = a.data.toList ++ b.data.toList := by simp
set_option maxRecDepth 100000 in
set_option maxHeartbeats 4000000 in
theorem ref_json_list (n : Int) (s : ByteArray) (names : List ByteArray) (kids : List ND) (d : Nat) (IH : d ≤ 4 → ∀ u ∈ kids, RJs (d + 1) u) : RJs d (.mk 5 n s names kids) := by
  intro x0 x1 x2 x3 x4 w hv hck hjl
  rw [NAt] at hv
  obtain ⟨e0, e1, e2, ⟨an, cn, e3, hcn, hn⟩, ak, ck, e4, hckk, hk⟩ := hv
  obtain ⟨A, hA⟩ : ∃ A, json (valN (.mk 5 n s names kids)) = A := ⟨_, rfl⟩
  rw [hA] at hjl ⊢
  rw [valN, if_neg (by decide), if_neg (by decide), if_neg (by decide), if_neg (by decide), if_neg (by decide), if_pos rfl] at hA hck
  rw [chk] at hck
  rw [json] at hA
  split at hck
  · exact absurd hck (by decide)
  rename_i hd4
  split at hck
  · exact absurd hck (by decide)
  rename_i h64
  rw [valL_len] at h64
  obtain ⟨N, hN⟩ : ∃ N, names.length = N := ⟨_, rfl⟩
  obtain ⟨K, hK⟩ : ∃ K, kids.length = K := ⟨_, rfl⟩
  rw [hN] at e3
  rw [hK] at e4 h64
  subst e0 e1 e2 e3 e4
  have hNB := NB.new w (.int .u8 5) (.int .i64 n) (.string s) (.slice an N cn) (.slice ak K ck) 25
  have HNB := Lib.hid hNB
  have HK := Lib.hid hk
  have HKK := Lib.hid hK
  have HIH := Lib.hid (IH (by omega))
  have HLEN : Hid ((jsonL true (valL kids)).length + 2 ≤ 1000000) := Lib.hid (by rw [← hA] at hjl; simp at hjl; omega)
  have HA := Lib.hid hA
  have HCK := Lib.hid hck
  obtain ⟨b0, lt0, c0, c1, c2, c3, c4⟩ := hNB
  clear hn hk hcn hckk hN hK b0 IH hck hA hjl
  go_enter Tryz.func24, Tryz.ntmps24
  go_wp2_with fail
  go_loopg [5, 6, 7, 8] K (fun gk s5 s6 _ _ wx => ∃ (i : Nat) (O : ByteArray), s5 = .string O ∧ s6 = .int .i64 (i : Int) ∧ i + gk = K ∧ Hid (NB w wx (.int .u8 5) (.int .i64 n) (.string s) (.slice an N cn) (.slice ak K ck)) ∧ Hid (O.data.toList ++ jsonL (decide (i = 0)) (valL (kids.drop i)) = jsonL true (valL kids) ∧ chkL (valL (kids.drop i)) (d + 1) = 0))
  case atStart => exact ⟨0, ⟨#[]⟩, by simp, by simp, by omega, HNB, Lib.hid ⟨by simp, HCK.out⟩⟩
  case round =>
    obtain ⟨i, O, rfl, rfl, hgk, HNB2, HW⟩ := hrel
    obtain ⟨-, lt2, c0, c1, c2, c3, c4⟩ := HNB2.out
    obtain ⟨hm, hc⟩ := HW.out
    have hlen0 := congrArg List.length hm
    rw [List.length_append, size_len] at hlen0
    have hLE := HLEN.out
    by_cases hi : i < K
    · have ti : decide ((i : Int) < (K : Int)) = true := decide_eq_true (by omega)
      have hik : i < kids.length := by rw [HKK.out]; exact hi
      obtain ⟨b, o, rfl, hbl, hcell⟩ := HK.out (fun e => by rw [e] at hik; exact absurd hik (Nat.not_lt_zero _))
      obtain ⟨y0, y1, y2, y3, y4, ⟨d0, d1, d2, d3, d4⟩, hat⟩ := hcell.get o kids i hik
      have e0 := (HNB2.out.b.cell (p := ⟨b, o + i * 5, none⟩) hbl).trans d0
      have e1 := (HNB2.out.b.cell (p := ⟨b, o + i * 5 + 1, none⟩) hbl).trans d1
      have e2 := (HNB2.out.b.cell (p := ⟨b, o + i * 5 + 2, none⟩) hbl).trans d2
      have e3 := (HNB2.out.b.cell (p := ⟨b, o + i * 5 + 3, none⟩) hbl).trans d3
      have e4 := (HNB2.out.b.cell (p := ⟨b, o + i * 5 + 4, none⟩) hbl).trans d4
      rw [valL_drop kids i hik] at hm hc
      obtain ⟨hc1, hc2⟩ := chkL_cons _ _ _ hc
      rw [jsonL] at hm
      have hlen1 := congrArg List.length hm
      simp only [List.length_append] at hlen1
      rw [size_len] at hlen1
      have HC := Lib.hid (HIH.out kids[i] (List.getElem_mem hik) y0 y1 y2 y3 y4 wr (hat.below HNB2.out.b) hc1 (by omega))
      obtain ⟨V, hV⟩ : ∃ V, json (valN kids[i]) = V := ⟨_, rfl⟩
      rw [hV] at HC hm hlen1
      have hVs : (bs V).size = V.length := bs_size V
      have hVd : (bs V).data.toList = V := bs_data V
      obtain ⟨g', rfl⟩ : ∃ g', gk = g' + 1 := ⟨gk - 1, by omega⟩
      clear d0 d1 d2 d3 d4 hat hcell HW hc hc1 hV
      by_cases h0 : i = 0
      · have t0 : decide ((i : Int) > 0) = false := decide_eq_false (by omega)
        have n0 : ¬ 0 < i := by omega
        rw [decide_eq_true h0, if_pos rfl] at hm
        have padd := fun w => run_string_add_sum (P := Tryz.prog) w O (bs V) (by rw [hVs]; omega)
        have HN : Hid ((O ++ bs V).data.toList ++ jsonL (decide (i + 1 = 0)) (valL (kids.drop (i + 1))) = jsonL true (valL kids)) := Lib.hid (by rw [cat_data, hVd, ← hm, decide_eq_false (by omega)]; simp)
        have HC2 := Lib.hid hc2
        clear hm hlen0 hlen1 hVs hVd hc2 h0
        generalize bs V = Y at HC padd HN
        go_wp2_with fail
        refine HC.out.mono ?_
        rintro e w3 ⟨rfl, hb3⟩
        have HNB3 := Lib.hid (HNB2.out.below hb3)
        clear hb3
        go_wp2_with fail
        go_roundg g'
        case measure => omega
        case rel => exact ⟨i + 1, _, rfl, by simp, by omega, HNB3, Lib.hid ⟨HN.out, HC2.out⟩⟩
      · have t0 : decide ((i : Int) > 0) = true := decide_eq_true (by omega)
        have n0 : 0 < i := by omega
        rw [decide_eq_false h0, if_neg (by decide)] at hm hlen1
        have padd0 := fun w => run_string_add_sum (P := Tryz.prog) w O ⟨#[44]⟩ (by show _ + 1 ≤ _; omega)
        have padd := fun w => run_string_add_sum (P := Tryz.prog) w (O ++ ⟨#[44]⟩) (bs V) (by rw [hVs, ByteArray.size_append]; show _ + 1 + _ ≤ _; simp only [List.length_cons, List.length_nil] at hlen1; omega)
        have HN : Hid ((O ++ ⟨#[44]⟩ ++ bs V).data.toList ++ jsonL (decide (i + 1 = 0)) (valL (kids.drop (i + 1))) = jsonL true (valL kids)) := Lib.hid (by rw [cat_data, cat_data, hVd, ← hm, decide_eq_false (by omega)]; simp)
        have HC2 := Lib.hid hc2
        clear hm hlen0 hlen1 hVs hVd hc2 h0
        generalize bs V = Y at HC padd HN
        go_wp2_with fail
        refine HC.out.mono ?_
        rintro e w3 ⟨rfl, hb3⟩
        have HNB3 := Lib.hid (HNB2.out.below hb3)
        clear hb3
        go_wp2_with fail
        go_roundg g'
        case measure => omega
        case rel => exact ⟨i + 1, _, rfl, by simp, by omega, HNB3, Lib.hid ⟨HN.out, HC2.out⟩⟩
    · have ti : decide ((i : Int) < (K : Int)) = false := decide_eq_false (by omega)
      rw [List.drop_eq_nil_of_le (by rw [HKK.out]; omega), valL, jsonL, List.append_nil] at hm
      have padd0 := fun w => run_string_add_sum (P := Tryz.prog) w ⟨#[91]⟩ O (by show 1 + _ ≤ _; omega)
      have padd := fun w => run_string_add_sum (P := Tryz.prog) w (⟨#[91]⟩ ++ O) ⟨#[93]⟩ (by rw [ByteArray.size_append]; show 1 + _ + 1 ≤ _; omega)
      have HR : Hid (⟨#[91]⟩ ++ O ++ ⟨#[93]⟩ = bs A) := Lib.hid (of_data (by rw [cat_data, cat_data, hm, ← HA.out]; simp))
      clear HW hm hc hlen0
      go_wp2_with fail
      go_ret
      exact ⟨by rw [← HR.out]; rfl, HNB2.out.b⟩
end Go.Proofs.YtcmkepkeeahioaaGreatDoor
namespace Go.Proofs.YtcmkepkeeahioaaGreatDoor
open Go.RowKit
set_option maxRecDepth 100000 in
set_option maxHeartbeats 8000000 in
theorem ref_json_obj (n : Int) (s : ByteArray) (names : List ByteArray) (kids : List ND) (d : Nat) (hnk : names.length = kids.length) (hnz : ∀ x ∈ names, x.size ≤ 1000000) (IH : d ≤ 4 → ∀ u ∈ kids, RJs (d + 1) u) : RJs d (.mk 6 n s names kids) := by
  intro x0 x1 x2 x3 x4 w hv hck hjl
  rw [NAt] at hv
  obtain ⟨e0, e1, e2, ⟨an, cn, e3, hcn, hn⟩, ak, ck, e4, hckk, hk⟩ := hv
  obtain ⟨A, hA⟩ : ∃ A, json (valN (.mk 6 n s names kids)) = A := ⟨_, rfl⟩
  rw [hA] at hjl ⊢
  rw [valN, if_neg (by decide), if_neg (by decide), if_neg (by decide), if_neg (by decide), if_neg (by decide), if_neg (by decide), if_pos rfl] at hA hck
  rw [chk] at hck
  rw [json] at hA
  split at hck
  · exact absurd hck (by decide)
  rename_i hd4
  split at hck
  · exact absurd hck (by decide)
  rename_i h64
  rw [valO_len names kids hnk] at h64
  obtain ⟨K, hK⟩ : ∃ K, kids.length = K := ⟨_, rfl⟩
  have hN : names.length = K := hnk.trans hK
  rw [hN] at e3
  rw [hK] at e4 h64
  subst e0 e1 e2 e3 e4
  have hNB := NB.new w (.int .u8 6) (.int .i64 n) (.string s) (.slice an K cn) (.slice ak K ck) 25
  have HNB := Lib.hid hNB
  have HK := Lib.hid hk
  have HN := Lib.hid hn
  have HKK := Lib.hid hK
  have HNN := Lib.hid hN
  have HNZ := Lib.hid hnz
  have HIH := Lib.hid (IH (by omega))
  have HLEN : Hid ((jsonO true (valO names kids)).length + 2 ≤ 1000000) := Lib.hid (by rw [← hA] at hjl; simp at hjl; omega)
  have HA := Lib.hid hA
  have HCK : Hid (∃ prev, chkO prev (valO (names.drop 0) (kids.drop 0)) (d + 1) = 0) := Lib.hid ⟨[], hck⟩
  obtain ⟨b0, lt0, c0, c1, c2, c3, c4⟩ := hNB
  clear hn hk hcn hckk hN hK b0 IH hck hA hjl hnz hnk
  go_enter Tryz.func24, Tryz.ntmps24
  go_wp2_with fail
  go_loopg [5, 6, 7, 8] K (fun gk s5 s6 _ _ wx => ∃ (i : Nat) (O : ByteArray), s5 = .string O ∧ s6 = .int .i64 (i : Int) ∧ i + gk = K ∧ Hid (NB w wx (.int .u8 6) (.int .i64 n) (.string s) (.slice an K cn) (.slice ak K ck)) ∧ Hid (O.data.toList ++ jsonO (decide (i = 0)) (valO (names.drop i) (kids.drop i)) = jsonO true (valO names kids) ∧ ∃ prev, chkO prev (valO (names.drop i) (kids.drop i)) (d + 1) = 0))
  case atStart => exact ⟨0, ⟨#[]⟩, by simp, by simp, by omega, HNB, Lib.hid ⟨by simp, HCK.out⟩⟩
  case round =>
    obtain ⟨i, O, rfl, rfl, hgk, HNB2, HW⟩ := hrel
    obtain ⟨-, lt2, c0, c1, c2, c3, c4⟩ := HNB2.out
    obtain ⟨hm, pv, hc⟩ := HW.out
    have hlen0 := congrArg List.length hm
    rw [List.length_append, size_len] at hlen0
    have hLE := HLEN.out
    by_cases hi : i < K
    · have ti : decide ((i : Int) < (K : Int)) = true := decide_eq_true (by omega)
      have hik : i < kids.length := by rw [HKK.out]; exact hi
      have hin : i < names.length := by rw [HNN.out]; exact hi
      obtain ⟨b, o, rfl, hbl, hcell⟩ := HK.out (fun e => by rw [e] at hik; exact absurd hik (Nat.not_lt_zero _))
      obtain ⟨bn, on, rfl, hbn, hname⟩ := HN.out (fun e => by rw [e] at hin; exact absurd hin (Nat.not_lt_zero _))
      obtain ⟨y0, y1, y2, y3, y4, ⟨d0, d1, d2, d3, d4⟩, hat⟩ := hcell.get o kids i hik
      have HE : Hid (∀ W, Below w.heap.size w W → (W.cell? ⟨b, o + i * 5, none⟩ = some y0 ∧ W.cell? ⟨b, o + i * 5 + 1, none⟩ = some y1 ∧ W.cell? ⟨b, o + i * 5 + 2, none⟩ = some y2 ∧ W.cell? ⟨b, o + i * 5 + 3, none⟩ = some y3 ∧ W.cell? ⟨b, o + i * 5 + 4, none⟩ = some y4)) := Lib.hid (fun W hW => ⟨(hW.cell (p := ⟨b, o + i * 5, none⟩) hbl).trans d0, (hW.cell (p := ⟨b, o + i * 5 + 1, none⟩) hbl).trans d1, (hW.cell (p := ⟨b, o + i * 5 + 2, none⟩) hbl).trans d2, (hW.cell (p := ⟨b, o + i * 5 + 3, none⟩) hbl).trans d3, (hW.cell (p := ⟨b, o + i * 5 + 4, none⟩) hbl).trans d4⟩)
      have ci := (HNB2.out.b.cell (p := ⟨bn, on + i, none⟩) hbn).trans (hname i hin)
      rw [valO_drop names kids i hin hik] at hm hc
      obtain ⟨hc0, _, hc1, hc2⟩ := chkO_cons _ _ _ _ _ hc
      have hc2 : ∃ prev, chkO prev (valO (names.drop (i + 1)) (kids.drop (i + 1))) (d + 1) = 0 := ⟨_, hc2⟩
      rw [jsonO] at hm
      have hlen1 := congrArg List.length hm
      simp only [List.length_append, List.length_cons] at hlen1
      rw [size_len] at hlen1
      have HC : Hid (∀ W, Below w.heap.size w W → Calls Tryz.prog 24 #[.agg #[y0, y1, y2, y3, y4]] W fun e w' => e = .returned (.string (bs (json (valN kids[i])))) ∧ Below W.heap.size W w') := Lib.hid (fun W hW => HIH.out kids[i] (List.getElem_mem hik) y0 y1 y2 y3 y4 W (hat.below hW) hc1 (by omega))
      have HQ := Lib.hid (fun W => ref_quote names[i] W (HNZ.out _ (List.getElem_mem hin)))
      rw [hc0, if_pos rfl, if_pos rfl] at HQ
      obtain ⟨V, hV⟩ : ∃ V, json (valN kids[i]) = V := ⟨_, rfl⟩
      rw [hV] at HC hm hlen1
      obtain ⟨Q, hQ⟩ : ∃ Q, quoL names[i].data.toList = Q := ⟨_, rfl⟩
      rw [hQ] at HQ hm hlen1
      generalize names[i] = NM at ci HQ
      have hVs : (bs V).size = V.length := bs_size V
      have hVd : (bs V).data.toList = V := bs_data V
      have hQs : (bs Q).size = Q.length := bs_size Q
      have hQd : (bs Q).data.toList = Q := bs_data Q
      obtain ⟨g', rfl⟩ : ∃ g', gk = g' + 1 := ⟨gk - 1, by omega⟩
      clear d0 d1 d2 d3 d4 hat hcell HW hc hc1 hV hc0 hname hQ
      by_cases h0 : i = 0
      · have t0 : decide ((i : Int) > 0) = false := decide_eq_false (by omega)
        have n0 : ¬ 0 < i := by omega
        rw [decide_eq_true h0, if_pos rfl] at hm hlen1
        simp only [List.length_cons, List.length_nil] at hlen1
        have padd1 := fun w => run_string_add_sum (P := Tryz.prog) w O (bs Q) (by rw [hQs]; omega)
        have padd2 := fun w => run_string_add_sum (P := Tryz.prog) w (O ++ bs Q) ⟨#[58]⟩ (by rw [ByteArray.size_append, hQs]; show _ + _ + 1 ≤ _; omega)
        have padd3 := fun w => run_string_add_sum (P := Tryz.prog) w (O ++ bs Q ++ ⟨#[58]⟩) (bs V) (by rw [ByteArray.size_append, ByteArray.size_append, hQs, hVs]; show _ + _ + 1 + _ ≤ _; omega)
        have HN2 : Hid ((O ++ bs Q ++ ⟨#[58]⟩ ++ bs V).data.toList ++ jsonO (decide (i + 1 = 0)) (valO (names.drop (i + 1)) (kids.drop (i + 1))) = jsonO true (valO names kids)) := Lib.hid (by rw [cat_data, cat_data, cat_data, hVd, hQd, ← hm, decide_eq_false (show ¬ (i + 1 = 0) by omega)]; simp)
        have HC2 := Lib.hid hc2
        clear hm hlen0 hlen1 hVs hVd hQs hQd hc2 h0
        generalize bs V = Y at HC padd3 HN2
        generalize bs Q = Z at HQ padd1 padd2 padd3 HN2
        go_wp2_with fail
        refine (HQ.out _).mono ?_
        rintro e w2 ⟨rfl, hb2⟩
        have HNB3 := Lib.hid (HNB2.out.below hb2)
        obtain ⟨-, lt3, a0, a1, a2, a3, a4⟩ := HNB2.out.below hb2
        obtain ⟨e0, e1, e2, e3, e4⟩ := HE.out _ HNB3.out.b
        clear hb2
        go_wp2_with fail
        refine (HC.out _ HNB3.out.b).mono ?_
        rintro e w3 ⟨rfl, hb3⟩
        have HNB4 := Lib.hid (HNB3.out.below hb3)
        clear hb3
        go_wp2_with fail
        go_roundg g'
        case measure => omega
        case rel => exact ⟨i + 1, _, rfl, by simp, by omega, HNB4, Lib.hid ⟨HN2.out, HC2.out⟩⟩
      · have t0 : decide ((i : Int) > 0) = true := decide_eq_true (by omega)
        have n0 : 0 < i := by omega
        rw [decide_eq_false h0, if_neg (by decide)] at hm hlen1
        simp only [List.length_cons, List.length_nil] at hlen1
        have padd0 := fun w => run_string_add_sum (P := Tryz.prog) w O ⟨#[44]⟩ (by show _ + 1 ≤ _; omega)
        have padd1 := fun w => run_string_add_sum (P := Tryz.prog) w (O ++ ⟨#[44]⟩) (bs Q) (by rw [hQs, ByteArray.size_append]; show _ + 1 + _ ≤ _; omega)
        have padd2 := fun w => run_string_add_sum (P := Tryz.prog) w (O ++ ⟨#[44]⟩ ++ bs Q) ⟨#[58]⟩ (by rw [ByteArray.size_append, ByteArray.size_append, hQs]; show _ + 1 + _ + 1 ≤ _; omega)
        have padd3 := fun w => run_string_add_sum (P := Tryz.prog) w (O ++ ⟨#[44]⟩ ++ bs Q ++ ⟨#[58]⟩) (bs V) (by rw [ByteArray.size_append, ByteArray.size_append, ByteArray.size_append, hQs, hVs]; show _ + 1 + _ + 1 + _ ≤ _; omega)
        have HN2 : Hid ((O ++ ⟨#[44]⟩ ++ bs Q ++ ⟨#[58]⟩ ++ bs V).data.toList ++ jsonO (decide (i + 1 = 0)) (valO (names.drop (i + 1)) (kids.drop (i + 1))) = jsonO true (valO names kids)) := Lib.hid (by rw [cat_data, cat_data, cat_data, cat_data, hVd, hQd, ← hm, decide_eq_false (show ¬ (i + 1 = 0) by omega)]; simp)
        have HC2 := Lib.hid hc2
        clear hm hlen0 hlen1 hVs hVd hQs hQd hc2 h0
        generalize bs V = Y at HC padd3 HN2
        generalize bs Q = Z at HQ padd1 padd2 padd3 HN2
        go_wp2_with fail
        refine (HQ.out _).mono ?_
        rintro e w2 ⟨rfl, hb2⟩
        have HNB3 := Lib.hid (HNB2.out.below hb2)
        obtain ⟨-, lt3, a0, a1, a2, a3, a4⟩ := HNB2.out.below hb2
        obtain ⟨e0, e1, e2, e3, e4⟩ := HE.out _ HNB3.out.b
        clear hb2
        go_wp2_with fail
        refine (HC.out _ HNB3.out.b).mono ?_
        rintro e w3 ⟨rfl, hb3⟩
        have HNB4 := Lib.hid (HNB3.out.below hb3)
        clear hb3
        go_wp2_with fail
        go_roundg g'
        case measure => omega
        case rel => exact ⟨i + 1, _, rfl, by simp, by omega, HNB4, Lib.hid ⟨HN2.out, HC2.out⟩⟩
    · have ti : decide ((i : Int) < (K : Int)) = false := decide_eq_false (by omega)
      rw [List.drop_eq_nil_of_le (by rw [HNN.out]; omega), valO_nil, jsonO, List.append_nil] at hm
      have padd0 := fun w => run_string_add_sum (P := Tryz.prog) w ⟨#[123]⟩ O (by show 1 + _ ≤ _; omega)
      have padd := fun w => run_string_add_sum (P := Tryz.prog) w (⟨#[123]⟩ ++ O) ⟨#[125]⟩ (by rw [ByteArray.size_append]; show 1 + _ + 1 ≤ _; omega)
      have HR : Hid (⟨#[123]⟩ ++ O ++ ⟨#[125]⟩ = bs A) := Lib.hid (of_data (by rw [cat_data, cat_data, hm, ← HA.out]; simp))
      clear HW hm hc hlen0
      go_wp2_with fail
      go_ret
      exact ⟨by rw [← HR.out]; rfl, HNB2.out.b⟩
theorem ref_json_all (m : Nat) : ∀ (v : ND) (d : Nat), 5 ≤ d + m → goodN v → wfN v → RJs d v := by
  induction m with
  | zero =>
    intro v d h1 hg hw
    cases v with
    | mk k n s names kids =>
    rw [goodN] at hg
    rw [wfN] at hw
    obtain ⟨g1, g2, g3, g4, g5⟩ := hg
    obtain ⟨f1, f2, f3, f4, f5, f6, f7⟩ := hw
    by_cases h5 : k = 5
    · subst h5; exact ref_json_list n s names kids d (fun h => by omega)
    by_cases h6 : k = 6
    · subst h6; exact ref_json_obj n s names kids d (g2 rfl) (fun x hx => Nat.le_trans (g4 x hx) (by decide)) (fun h => by omega)
    · exact ref_json_flat k n s names kids d (by have := (bounds_u8 f1).1; exact this) h5 h6 (by omega)
  | succ m ih =>
    intro v d h1 hg hw
    cases v with
    | mk k n s names kids =>
    rw [goodN] at hg
    rw [wfN] at hw
    obtain ⟨g1, g2, g3, g4, g5⟩ := hg
    obtain ⟨f1, f2, f3, f4, f5, f6, f7⟩ := hw
    by_cases h5 : k = 5
    · subst h5; exact ref_json_list n s names kids d (fun h u hu => ih u (d + 1) (by omega) (goodL_mem kids g5 u hu) (wfL_mem kids f7 u hu))
    by_cases h6 : k = 6
    · subst h6; exact ref_json_obj n s names kids d (g2 rfl) (fun x hx => Nat.le_trans (g4 x hx) (by decide)) (fun h u hu => ih u (d + 1) (by omega) (goodL_mem kids g5 u hu) (wfL_mem kids f7 u hu))
    · exact ref_json_flat k n s names kids d (by have := (bounds_u8 f1).1; exact this) h5 h6 (by omega)
end Go.Proofs.YtcmkepkeeahioaaGreatDoor
namespace Go.Proofs.YtcmkepkeeahioaaGreatDoor
open Go.RowKit
/-- json of a node that may be -/
theorem ref_json (v : ND) (x0 x1 x2 x3 x4 : Value) (w : World) (hv : NAt w v x0 x1 x2 x3 x4) (hg : goodN v) (hw : wfN v) (hz : sizeN v ≤ 250) (hck : chk (valN v) 1 = 0) :
    Calls Tryz.prog 24 #[.agg #[x0, x1, x2, x3, x4]] w fun e w' => e = .returned (.string (bs (json (valN v)))) ∧ Below w.heap.size w w' :=
  ref_json_all 4 v 1 (by omega) hg hw x0 x1 x2 x3 x4 w hv hck (by have := json_len v 1 hg hck; omega)
set_option maxRecDepth 100000 in
set_option maxHeartbeats 2000000 in
theorem ref_Put (v : ND) (x0 x1 x2 x3 x4 : Value) (w : World) (hv : NAt w v x0 x1 x2 x3 x4) (hg : goodN v) (hw : wfN v) (hz : sizeN v ≤ 250) :
    Calls Tryz.prog 10 #[.agg #[x0, x1, x2, x3, x4]] w fun e w' => e = .returned (.tuple #[.string (bs (putT (valN v))), .int .i64 (putF (valN v) : Nat)]) ∧ Below w.heap.size w w' := by
  have hNB := NB.new w x0 x1 x2 x3 x4 25
  have HNB := Lib.hid hNB
  have HC := Lib.hid (ref_Check v x0 x1 x2 x3 x4 _ (hv.below hNB.b) hg hw)
  obtain ⟨b0, lt0, c0, c1, c2, c3, c4⟩ := hNB
  by_cases h0 : chk (valN v) 1 = 0
  · rw [h0] at HC
    have e1 : putT (valN v) = if 4096 < (json (valN v)).length then [] else json (valN v) := by unfold putT; rw [if_neg (by simp [h0])]
    have e2 : putF (valN v) = if 4096 < (json (valN v)).length then 5 else 0 := by unfold putF; rw [if_neg (by simp [h0])]
    rw [e1, e2]
    clear e1 e2
    have HT : Hid (∀ W, Below w.heap.size w W → Calls Tryz.prog 24 #[.agg #[x0, x1, x2, x3, x4]] W fun e w' => e = .returned (.string (bs (json (valN v)))) ∧ Below W.heap.size W w') := Lib.hid (fun W hW => ref_json v x0 x1 x2 x3 x4 W (hv.below hW) hg hw hz h0)
    have hzz : (bs (json (valN v))).size = (json (valN v)).length := bs_size _
    have hl := json_len v 1 hg h0
    generalize json (valN v) = J at HT hzz hl ⊢
    clear hv hg hw h0 b0
    by_cases h1 : 4096 < J.length
    · rw [if_pos h1, if_pos h1]
      generalize bs J = Y at HT hzz
      have n1 : 4096 < Y.size := by omega
      have t1 : decide ((Y.size : Int) > 4096) = true := decide_eq_true (by omega)
      clear h1 hzz
      go_enter Tryz.func10, Tryz.ntmps10
      go_wp2_with fail
      refine HC.out.mono ?_
      rintro e w1 ⟨rfl, hb1⟩
      have HNB1 := Lib.hid (HNB.out.below hb1)
      obtain ⟨-, lt1, a0, a1, a2, a3, a4⟩ := HNB.out.below hb1
      clear hb1
      go_wp2_with fail
      refine (HT.out _ HNB1.out.b).mono ?_
      rintro e w2 ⟨rfl, hb2⟩
      have HB2 := Lib.hid (bstep HNB1.out.b hb2)
      clear hb2
      go_wp2_with fail
      go_ret2
      exact ⟨rfl, HB2.out⟩
    · rw [if_neg h1, if_neg h1]
      generalize bs J = Y at HT hzz ⊢
      have n1 : ¬ 4096 < Y.size := by omega
      have t1 : decide ((Y.size : Int) > 4096) = false := decide_eq_false (by omega)
      clear h1 hzz
      go_enter Tryz.func10, Tryz.ntmps10
      go_wp2_with fail
      refine HC.out.mono ?_
      rintro e w1 ⟨rfl, hb1⟩
      have HNB1 := Lib.hid (HNB.out.below hb1)
      obtain ⟨-, lt1, a0, a1, a2, a3, a4⟩ := HNB.out.below hb1
      clear hb1
      go_wp2_with fail
      refine (HT.out _ HNB1.out.b).mono ?_
      rintro e w2 ⟨rfl, hb2⟩
      have HB2 := Lib.hid (bstep HNB1.out.b hb2)
      clear hb2
      go_wp2_with fail
      go_ret2
      exact ⟨rfl, HB2.out⟩
  · have e1 : putT (valN v) = [] := by unfold putT; rw [if_pos h0]
    have e2 : putF (valN v) = chk (valN v) 1 := by unfold putF; rw [if_pos h0]
    rw [e1, e2]
    clear e1 e2
    generalize chk (valN v) 1 = R at HC h0 ⊢
    have tr : ((R : Int) != 0) = true := by rw [bne_iff_ne]; omega
    clear hv hg hw h0 b0
    go_enter Tryz.func10, Tryz.ntmps10
    go_wp2_with fail
    refine HC.out.mono ?_
    rintro e w1 ⟨rfl, hb1⟩
    have HB1 := Lib.hid (bstep HNB.out.b hb1)
    clear hb1
    go_wp2_with fail
    go_ret2
    exact ⟨rfl, HB1.out⟩
end Go.Proofs.YtcmkepkeeahioaaGreatDoor
