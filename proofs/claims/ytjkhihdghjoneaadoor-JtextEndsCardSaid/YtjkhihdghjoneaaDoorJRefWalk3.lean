/- What Count, mark and Quote of the reference of jtext return. -/
import Derived.Test.YtjkhihdghjoneaaDoorJRefWalk2
namespace Go.Proofs.YtjkhihdghjoneaaDoor
open Go.RowKit

theorem tail_l2 (s : ByteArray) (a : Nat) : (s.extract a s.size).data.toList = s.data.toList.drop a := by
  rw [extract_bs, bs_data, ← size_len, List.take_length]

set_option maxRecDepth 100000 in
set_option maxHeartbeats 2000000 in
theorem ref_count (s : ByteArray) (w : World) (hs : s.size ≤ 1000000) : Calls Tryd.prog 10 #[.string s] w fun e w' => e = .returned (.int .i64 (cntR s.data.toList)) ∧ Below w.heap.size w w' := by
  obtain ⟨A, hA⟩ : ∃ A, cntR s.data.toList = A := ⟨_, rfl⟩
  rw [hA]
  have HA : Hid ((if valR s.data.toList = true then ((0 : Nat) : Int) + stpR s.data.toList else -1) = A) := Lib.hid (by rw [← hA]; unfold cntR; split <;> omega)
  clear hA
  go_enter Tryd.func10, Tryd.ntmps10
  go_wp2_with fail
  go_loopg [0, 3] (s.size + 1) (fun gk s0 s3 wx => ∃ (t : ByteArray) (n : Nat), s0 = .string t ∧ s3 = .int .i64 (n : Int) ∧ Below w.heap.size w wx ∧ t.size + n ≤ s.size ∧ t.size < gk ∧ Hid ((if valR t.data.toList = true then (n : Int) + stpR t.data.toList else -1) = A))
  case atStart => exact ⟨s, 0, rfl, by simp, Below.refl _ _, by omega, by omega, HA⟩
  case round =>
    obtain ⟨t, n, rfl, rfl, hbx, htn, hgk, HT⟩ := hrel
    by_cases hp : 0 < t.size
    · have hne : t.data.toList ≠ [] := by intro e; have := congrArg List.length e; rw [size_len, List.length_nil] at this; omega
      have HR := Lib.hid (fun w => ref_rune t w hp (by omega))
      obtain ⟨g', rfl⟩ : ∃ g', gk = g' + 1 := ⟨gk - 1, by omega⟩
      have tp : decide ((t.size : Int) > 0) = true := decide_eq_true (by omega)
      rcases refR_step t.data.toList hne with ⟨hb, hr⟩ | ⟨hb, hr, hrn, hrl⟩
      · rw [hr, show bs [] = ⟨#[]⟩ from rfl] at HR
        have HX : Hid (A = -1) := Lib.hid (by rw [← HT.out, valR_bad _ hne hb]; rfl)
        clear hr hb hne
        go_wp2_with fail
        refine (HR.out _).mono ?_
        rintro e w1 ⟨rfl, hb1⟩
        go_wp2_with fail
        go_ret
        exact ⟨by rw [HX.out]; rfl, bstep hbx hb1⟩
      · have hw2 := rwd_le _ hne
        have hw1 := rwd_pos t.data.toList
        rw [size_len] at hw2
        obtain ⟨R, hR⟩ : ∃ R, bs (refR t.data.toList) = R := ⟨_, rfl⟩
        rw [hR] at HR
        have hRe : R.toList.isEmpty = false := by
          rw [← hR, isEmpty_bs]; cases h : refR t.data.toList with
          | nil => exact absurd h hrn
          | cons _ _ => rfl
        have hRs : R.size = rwd t.data.toList := by rw [← hR, bs_size, hrl]
        have hst := stpR_step _ hne
        have hvs := valR_step _ hne hb
        have HT2 : Hid ((if valR (t.extract R.size t.size).data.toList = true then ((n + 1 : Nat) : Int) + stpR (t.extract R.size t.size).data.toList else -1) = A) := Lib.hid (by
          rw [← HT.out, tail_l2, hRs, hvs, hst]
          split <;> omega)
        have hR1 : 1 ≤ R.size := by omega
        have hR2 : R.size ≤ t.size := by omega
        clear hR hr hb hne hRs hst hvs hw1 hw2 hrl hrn
        go_wp2_with fail
        refine (HR.out _).mono ?_
        rintro e w1 ⟨rfl, hb1⟩
        go_wp2_with fail
        go_roundg g'
        case measure => omega
        case rel => exact ⟨t.extract R.size t.size, n + 1, by simp, by simp, bstep hbx hb1, by rw [ByteArray.size_extract]; omega, by rw [ByteArray.size_extract]; omega, HT2⟩
    · have tp : decide ((t.size : Int) > 0) = false := decide_eq_false (by omega)
      have HX : Hid ((n : Int) = A) := Lib.hid (by
        have h0 : t.data.toList = [] := List.length_eq_zero_iff.1 (by rw [size_len]; omega)
        rw [← HT.out, h0, valR_nil, stpR_nil]; simp)
      go_wp2_with fail
      go_ret
      exact ⟨ret_int HX.out, hbx⟩

theorem below_drewN {B : Nat} {a w : World} (h : Below B a w) (n : Nat) : Below B a (w.drewN n) := ⟨h.os, h.tape, h.output, h.size, h.block⟩
def fromL : List UInt8 := [34, 92, 8, 9, 10, 12, 13]
def toL : List UInt8 := [34, 92, 98, 116, 110, 102, 114]
theorem short_hit : ∀ (i : Fin 7) (c : Fin 256), (fromL.getD i.val 0).toNat = c.val → shortN c.val = (toL.getD i.val 0).toNat ∧ shortN c.val ≠ 0 := by decide +kernel
theorem short_miss : ∀ (c : Fin 256), (∀ i : Fin 7, (fromL.getD i.val 0).toNat ≠ c.val) → shortN c.val = 0 := by decide +kernel
theorem div16 (c : UInt8) (h : c.toNat < 32) : c.toNat / 16 < 16 := by omega
theorem hex_ext (d : Nat) (h : d < 16) : (⟨#[48, 49, 50, 51, 52, 53, 54, 55, 56, 57, 97, 98, 99, 100, 101, 102]⟩ : ByteArray).extract d (d + 1) = ⟨#[hexB d]⟩ := by
  have : ∀ (e : Fin 16), (⟨#[48, 49, 50, 51, 52, 53, 54, 55, 56, 57, 97, 98, 99, 100, 101, 102]⟩ : ByteArray).extract e.val (e.val + 1) = ⟨#[hexB e.val]⟩ := by decide +kernel
  exact this ⟨d, h⟩
theorem to_ext (i : Nat) (h : i < 7) : (⟨#[34, 92, 98, 116, 110, 102, 114]⟩ : ByteArray).extract i (i + 1) = ⟨#[toL.getD i 0]⟩ := by
  have : ∀ (e : Fin 7), (⟨#[34, 92, 98, 116, 110, 102, 114]⟩ : ByteArray).extract e.val (e.val + 1) = ⟨#[toL.getD e.val 0]⟩ := by decide +kernel
  exact this ⟨i, h⟩
theorem from_get (i : Nat) (h : i < 7) (hb : i < (⟨#[34, 92, 8, 9, 10, 12, 13]⟩ : ByteArray).size) : (⟨#[34, 92, 8, 9, 10, 12, 13]⟩ : ByteArray)[i] = fromL.getD i 0 := by
  have : ∀ (e : Fin 7), (⟨#[34, 92, 8, 9, 10, 12, 13]⟩ : ByteArray)[e.val]'e.isLt = fromL.getD e.val 0 := by decide
  exact this ⟨i, h⟩
set_option maxRecDepth 100000 in
set_option maxHeartbeats 2000000 in
theorem ref_mark (c : UInt8) (w : World) : Calls Tryd.prog 19 #[.int .u8 (c.toNat : Int)] w fun e w' => e = .returned (.string (bs (qb c))) ∧ Below w.heap.size w w' := by
  obtain ⟨Q, hQ⟩ : ∃ Q, bs (qb c) = Q := ⟨_, rfl⟩
  rw [hQ]
  have HQ := Lib.hid hQ
  clear hQ
  have hc := c.toNat_lt
  go_enter Tryd.func19, Tryd.ntmps19
  go_wp2_with fail
  go_loopg [5] 7 (fun gk s5 wx => ∃ (i : Nat), s5 = .int .i64 (i : Int) ∧ wx = w ∧ i + gk = 7 ∧ Hid (∀ j, j < i → (fromL.getD j 0).toNat ≠ c.toNat))
  case atStart => exact ⟨0, by simp, rfl, by omega, Lib.hid (fun j hj => absurd hj (Nat.not_lt_zero _))⟩
  case round =>
    obtain ⟨i, rfl, rfl, hgk, HI⟩ := hrel
    by_cases hi : i < 7
    · have ti : decide ((i : Int) < 7) = true := decide_eq_true (by omega)
      have hb : i < (⟨#[34, 92, 8, 9, 10, 12, 13]⟩ : ByteArray).size := hi
      have hfg := from_get i hi hb
      by_cases hm : (fromL.getD i 0).toNat = c.toNat
      · have teq : (((⟨#[34, 92, 8, 9, 10, 12, 13]⟩ : ByteArray)[i].toNat : Int) == (c.toNat : Int)) = true := by rw [hfg, beq_iff_eq]; omega
        have HR : Hid ((⟨#[92]⟩ : ByteArray) ++ (⟨#[34, 92, 98, 116, 110, 102, 114]⟩ : ByteArray).extract i (i + 1) = Q) := Lib.hid (by
          have hs := short_hit ⟨i, hi⟩ ⟨c.toNat, hc⟩ hm
          rw [to_ext i hi, ← HQ.out]
          unfold qb
          rw [if_pos hs.2, hs.1, UInt8.ofNat_toNat]
          rfl)
        clear hfg hm
        go_wp2_with fail
        go_ret
        exact ⟨ret_str HR.out, Below.refl _ _⟩
      · have teq : (((⟨#[34, 92, 8, 9, 10, 12, 13]⟩ : ByteArray)[i].toNat : Int) == (c.toNat : Int)) = false := by rw [hfg, beq_eq_false_iff_ne]; omega
        have HI2 : Hid (∀ j, j < i + 1 → (fromL.getD j 0).toNat ≠ c.toNat) := Lib.hid (fun j hj => by
          by_cases e : j = i
          · rw [e]; exact hm
          · exact HI.out j (by omega))
        obtain ⟨g', rfl⟩ : ∃ g', gk = g' + 1 := ⟨gk - 1, by omega⟩
        clear hfg hm
        go_wp2_with fail
        go_roundg g'
        case measure => omega
        case rel => exact ⟨i + 1, by simp, rfl, by omega, HI2⟩
    · obtain rfl : i = 7 := by omega
      have ti : decide (((7 : Nat) : Int) < 7) = false := by decide
      have hs0 : Hid (shortN c.toNat = 0) := Lib.hid (short_miss ⟨c.toNat, hc⟩ (fun j => HI.out j.val j.isLt))
      by_cases h32 : c.toNat < 32
      · have t32 : decide ((c.toNat : Int) < 32) = true := decide_eq_true (by omega)
        have HR : Hid (((⟨#[92, 117, 48, 48]⟩ : ByteArray) ++ (⟨#[48, 49, 50, 51, 52, 53, 54, 55, 56, 57, 97, 98, 99, 100, 101, 102]⟩ : ByteArray).extract (c.toNat / 16) (c.toNat / 16 + 1)) ++ (⟨#[48, 49, 50, 51, 52, 53, 54, 55, 56, 57, 97, 98, 99, 100, 101, 102]⟩ : ByteArray).extract (c.toNat % 16) (c.toNat % 16 + 1) = Q) := Lib.hid (by
          rw [hex_ext _ (div16 c h32), hex_ext _ (Nat.mod_lt _ (by decide)), ← HQ.out]
          unfold qb
          rw [if_neg (by rw [hs0.out]; decide), if_pos h32]
          rfl)
        clear hs0
        go_wp2_with fail
        go_quiet (fail)
        go_wp2_with fail
        go_ret
        exact ⟨ret_str HR.out, below_drewN (Below.refl _ _) _⟩
      · have t32 : decide ((c.toNat : Int) < 32) = false := decide_eq_false (by omega)
        have k := conv_list wr [(c.toNat : Int)] (by intro z hz; simp at hz; omega)
        have hq : bs ([(c.toNat : Int)].map fun x => x.toNat.toUInt8) = Q := by
          rw [← HQ.out]
          unfold qb
          rw [if_neg (by rw [hs0.out]; decide), if_neg h32]
          simp
        rw [hq] at k
        simp only [List.map_cons, List.map_nil, List.length_cons, List.length_nil, Nat.reduceAdd] at k
        clear hq
        go_wp2_with fail
        go_ret
        exact ⟨rfl, (Below.refl _ _).alloc (Nat.le_refl _) _⟩
theorem quo_snoc (l : List UInt8) (i : Nat) (h : i < l.length) : (l.take (i + 1)).flatMap qb = (l.take i).flatMap qb ++ qb l[i] := by
  rw [List.take_succ_eq_append_getElem h, List.flatMap_append, List.flatMap_cons, List.flatMap_nil, List.append_nil]
set_option maxRecDepth 100000 in
set_option maxHeartbeats 2000000 in
theorem ref_quote (s : ByteArray) (w : World) (hs : s.size ≤ 10000) : Calls Tryd.prog 8 #[.string s] w fun e w' => e = .returned (.tuple #[.string (bs (if valR s.data.toList = true then quoL s.data.toList else [])), .int .i64 (if valR s.data.toList = true then 0 else 4)]) ∧ Below w.heap.size w w' := by
  have HC := Lib.hid (fun w => ref_count s w (by omega))
  cases hv : valR s.data.toList with
  | false =>
    have hc : cntR s.data.toList = -1 := by unfold cntR; rw [hv]; rfl
    rw [hc] at HC
    clear hc hv
    go_enter Tryd.func8, Tryd.ntmps8
    go_wp2_with fail
    refine (HC.out _).mono ?_
    rintro e w1 ⟨rfl, hb1⟩
    go_wp2_with fail
    go_ret2
    exact ⟨rfl, hb1⟩
  | true =>
    have hc : cntR s.data.toList = (stpR s.data.toList : Nat) := by unfold cntR; rw [hv]; rfl
    rw [hc] at HC
    obtain ⟨N, hN⟩ : ∃ N, stpR s.data.toList = N := ⟨_, rfl⟩
    rw [hN] at HC
    have tN : decide ((N : Int) < 0) = false := decide_eq_false (by omega)
    have tN2 : ¬ ((N : Int) < 0) := by omega
    clear hc hv hN
    go_enter Tryd.func8, Tryd.ntmps8
    go_wp2_with fail
    refine (HC.out _).mono ?_
    rintro e w1 ⟨rfl, hb1⟩
    go_wp2_with fail
    go_loopg [4, 5] s.size (fun gk s4 s5 wx => ∃ (i : Nat) (O : ByteArray), s5 = .int .i64 (i : Int) ∧ s4 = .string O ∧ Below w.heap.size w wx ∧ i + gk = s.size ∧ O.size ≤ 6 * i + 1 ∧ Hid (O = bs (34 :: (s.data.toList.take i).flatMap qb)))
    case atStart => exact ⟨0, ⟨#[34]⟩, by simp, rfl, hb1, by omega, by decide, Lib.hid rfl⟩
    case round =>
      obtain ⟨i, O, rfl, rfl, hbx, hgk, hOs, HO⟩ := hrel
      by_cases hi : i < s.size
      · obtain ⟨g', rfl⟩ : ∃ g', gk = g' + 1 := ⟨gk - 1, by omega⟩
        have ti : decide ((i : Int) < (s.size : Int)) = true := decide_eq_true (by omega)
        have hsn := quo_snoc s.data.toList i (by rw [size_len]; exact hi)
        have hge : s.data.toList[i]'(by rw [size_len]; exact hi) = s[i] := rfl
        rw [hge] at hsn
        by_cases h8 : s[i].toNat < 128
        · have t8 : decide ((s[i].toNat : Int) < 128) = true := decide_eq_true (by omega)
          have HM := Lib.hid (fun w => ref_mark s[i] w)
          have hq6 := qb_len s[i]
          rw [← bs_size] at hq6
          generalize hZ : bs (qb s[i]) = Z at HM hq6
          have HO2 : Hid (O ++ Z = bs (34 :: (s.data.toList.take (i + 1)).flatMap qb)) := Lib.hid (by rw [HO.out, hsn, ← hZ, bs_cat]; rfl)
          have padd := fun w => run_string_add_sum (P := Tryd.prog) w O Z (by omega)
          clear hsn hge hZ
          go_wp2_with fail
          refine (HM.out _).mono ?_
          rintro e w2 ⟨rfl, hb2⟩
          go_wp2_with fail
          go_roundg g'
          case measure => omega
          case rel => exact ⟨i + 1, _, by simp, rfl, bstep hbx hb2, by omega, by rw [ByteArray.size_append]; omega, HO2⟩
        · have t8 : decide ((s[i].toNat : Int) < 128) = false := decide_eq_false (by omega)
          have HO2 : Hid (O ++ s.extract i (i + 1) = bs (34 :: (s.data.toList.take (i + 1)).flatMap qb)) := Lib.hid (by
            rw [HO.out, hsn, qb_high _ (by omega)]
            have : s.extract i (i + 1) = bs [s[i]] := by
              rw [extract_bs, List.take_succ_eq_append_getElem (by rw [size_len]; exact hi), List.drop_append_of_le_length (by rw [List.length_take, size_len]; omega)]
              rw [List.drop_of_length_le (by rw [List.length_take, size_len]; omega)]; rfl
            rw [this, bs_cat]; rfl)
          have padd := fun w => run_string_add_sum (P := Tryd.prog) w O (s.extract i (i + 1)) (by rw [ByteArray.size_extract]; omega)
          clear hsn hge
          go_wp2_with fail
          go_roundg g'
          case measure => omega
          case rel => exact ⟨i + 1, _, by simp, rfl, hbx, by omega, by rw [ByteArray.size_append, ByteArray.size_extract]; omega, HO2⟩
      · obtain rfl : i = s.size := by omega
        have ti : decide ((s.size : Int) < (s.size : Int)) = false := decide_eq_false (by omega)
        have HR : Hid (O ++ ⟨#[34]⟩ = bs (quoL s.data.toList)) := Lib.hid (by
          rw [HO.out, ← size_len s, List.take_length]
          show bs _ ++ bs [34] = _
          rw [bs_cat]; rfl)
        have padd := fun w => run_string_add_sum (P := Tryd.prog) w O ⟨#[34]⟩ (by show _ + 1 ≤ _; omega)
        go_wp2_with fail
        go_ret2
        exact ⟨by rw [← HR.out]; rfl, hbx⟩
end Go.Proofs.YtjkhihdghjoneaaDoor
