/- The law function JtextBack. -/
import Derived.Test.YtjkhihdghjoneaaDoorJAwake
namespace Go.Proofs.YtjkhihdghjoneaaDoor
open Go.RowKit Go.Lib

theorem quo_len (l : List UInt8) : (quoL l).length ≤ 6 * l.length + 2 := by
  have := flat_len l
  unfold quoL; rw [List.length_cons, List.length_append]; simp only [List.length_cons, List.length_nil]; omega
theorem quote_ok (s : ByteArray) (w : World) (hs : s.size ≤ 10000) (hu : U8 w) (hv : valR s.data.toList = true) :
    Calls Tryd.prog 7 #[.string s] w fun e w' => e = .returned (.tuple #[.string (bs (quoL s.data.toList)), .int .i64 0]) ∧ Below w.heap.size w w' := by
  have := quote s w hs hu
  rw [hv] at this
  exact this
theorem quote_no (s : ByteArray) (w : World) (hs : s.size ≤ 10000) (hu : U8 w) (hv : valR s.data.toList = false) :
    Calls Tryd.prog 7 #[.string s] w fun e w' => e = .returned (.tuple #[.string ⟨#[]⟩, .int .i64 4]) ∧ Below w.heap.size w w' := by
  have := quote s w hs hu
  rw [hv] at this
  exact this

set_option maxRecDepth 100000 in
set_option maxHeartbeats 2000000 in
theorem jtextBack_walk (s a b : ByteArray) (w : World) (hU : U8 w) (hs : s.size ≤ 9223372036854775807) (ha : a.size ≤ 9223372036854775807) (hb : b.size ≤ 9223372036854775807) :
    Calls Tryd.prog 4 #[.string s, .string a, .string b] w fun e w' => e = .returned (.bool true) ∧ Below w.heap.size w w' := by
  have HU := Lib.hid hU
  clear hU
  by_cases h1 : (200 : Int) < (s.size : Int)
  · go_enter Tryd.func4, Tryd.ntmps4
    go_wp2_with fail
    refine (awake16 _ HU.out).mono ?_
    rintro e w1 ⟨rfl, hb⟩
    go_wp2_with fail
    go_ret
    exact ⟨rfl, hb⟩
  by_cases h2 : (200 : Int) < (a.size : Int)
  · go_enter Tryd.func4, Tryd.ntmps4
    go_wp2_with fail
    refine (awake16 _ HU.out).mono ?_
    rintro e w1 ⟨rfl, hb⟩
    go_wp2_with fail
    go_ret
    exact ⟨rfl, hb⟩
  by_cases h3 : (200 : Int) < (b.size : Int)
  · go_enter Tryd.func4, Tryd.ntmps4
    go_wp2_with fail
    refine (awake16 _ HU.out).mono ?_
    rintro e w1 ⟨rfl, hb⟩
    go_wp2_with fail
    go_ret
    exact ⟨rfl, hb⟩
  cases hv : valR s.data.toList
  · have cQ := Lib.hid (fun w (hu : U8 w) => quote_no s w (by omega) hu hv)
    have cV := Lib.hid (fun w (hu : U8 w) => valid s w (by omega) hu)
    rw [hv] at cV
    clear hv
    go_enter Tryd.func4, Tryd.ntmps4
    go_wp2_with fail
    refine (cQ.out _ HU.out).mono ?_
    rintro e w1 ⟨rfl, hb1⟩
    have HU1 := Lib.hid (HU.out.below hb1)
    go_wp2_with fail
    refine (cV.out _ HU1.out).mono ?_
    rintro e w2 ⟨rfl, hb2⟩
    have HU2 := Lib.hid (HU1.out.below hb2)
    go_wp2_with fail
    refine (awake16 _ HU2.out).mono ?_
    rintro e w3 ⟨rfl, hb3⟩
    go_wp2_with fail
    go_ret
    exact ⟨rfl, bstep hb1 (bstep hb2 hb3)⟩
  · obtain ⟨Q, hQ⟩ : ∃ Q, bs (quoL s.data.toList) = Q := ⟨_, rfl⟩
    have hQd : Q.data.toList = quoL s.data.toList := by rw [← hQ, bs_data]
    have hQs : Q.size = (quoL s.data.toList).length := by rw [← hQ, bs_size]
    have hql := quo_len s.data.toList
    rw [size_len] at hql
    have hQ1 : Q.size ≤ 1202 := by omega
    have hst := stpR_le s.data.toList.length s.data.toList (Nat.le_refl _)
    rw [size_len] at hst
    have cQ := Lib.hid (fun w (hu : U8 w) => quote_ok s w (by omega) hu hv)
    rw [hQ] at cQ
    have cT : Hid (∀ w (_ : U8 w), Calls Tryd.prog 12 #[.string (a ++ Q ++ b), .int .i64 a.size] w fun r w' => r = .returned (.tuple #[.string s, .int .i64 (((a.size + Q.size : Nat)) : Int), .int .i64 0]) ∧ Below w.heap.size w w') := Lib.hid (fun w hu => by
      refine take_at (a ++ Q ++ b) s _ _ 0 ?_ w (by simp only [ByteArray.size_append]; omega) hu
      rw [data_cat, data_cat, hQd]
      have := quote_take a.data.toList s.data.toList b.data.toList hv
      rw [size_len, ← hQs] at this
      exact this)
    have cN : Hid (∀ w (_ : U8 w), Calls Tryd.prog 13 #[.string Q] w fun r w' => r = .returned (.tuple #[.string s, .int .i64 0]) ∧ Below w.heap.size w w') := Lib.hid (fun w hu => by
      refine unquote_at Q s 0 ?_ w (by omega) hu
      unfold unqP
      rw [hQd, unq_quo _ hv, if_neg (fun h => h rfl), if_neg (Int.lt_irrefl _)])
    have cC : Hid (∀ w (_ : U8 w), Calls Tryd.prog 9 #[.string s] w fun r w' => r = .returned (.int .i64 (stpR s.data.toList : Nat)) ∧ Below w.heap.size w w') := Lib.hid (fun w hu => count_at s _ (by unfold cntR; rw [if_pos hv]) w (by omega) hu)
    have hge : Hid (∀ (i : Nat) (h : i < Q.size), 32 ≤ Q[i].toNat) := Lib.hid (fun i h => by
      have := quo_ge s.data.toList (Q.data.toList[i]'(by rw [size_len]; exact h)) (by rw [← hQd]; exact List.getElem_mem _)
      exact this)
    obtain ⟨K, hK⟩ : ∃ K, stpR s.data.toList = K := ⟨_, rfl⟩
    rw [hK] at cC hst
    have hap := val_append s.data.toList.length s.data.toList b.data.toList (Nat.le_refl _) hv
    rw [hK] at hap
    have hbl := stpR_le b.data.toList.length b.data.toList (Nat.le_refl _)
    rw [size_len] at hbl
    have hbig : (a ++ Q ++ b).size ≤ 2000 := by simp only [ByteArray.size_append]; omega
    have padd1 := fun w => run_string_add_sum (P := Tryd.prog) w a Q (by omega)
    have padd2 := fun w => run_string_add_sum (P := Tryd.prog) w (a ++ Q) b (by rw [ByteArray.size_append]; omega)
    have padd3 := fun w => run_string_add_sum (P := Tryd.prog) w s b (by omega)
    have hsum : ((a.size + Q.size : Nat) : Int) = (a.size : Int) + (Q.size : Int) := by omega
    rw [hsum] at cT
    have tK : decide ((K : Int) ≥ 0) = true := decide_eq_true (by omega)
    have tK2 : decide ((K : Int) ≤ (s.size : Int)) = true := decide_eq_true (by omega)
    clear hQ hQd hQs hql hv hK hbig hsum
    cases hvb : valR b.data.toList
    · have cB : Hid (∀ w (_ : U8 w), Calls Tryd.prog 9 #[.string b] w fun r w' => r = .returned (.int .i64 (-1)) ∧ Below w.heap.size w w') := Lib.hid (fun w hu => count_at b _ (by unfold cntR; rw [hvb]; rfl) w (by omega) hu)
      clear hap hvb
      go_enter Tryd.func4, Tryd.ntmps4
      go_wp2_with fail
      refine (cQ.out _ HU.out).mono ?_
      rintro e w1 ⟨rfl, hb1⟩
      have HU1 := Lib.hid (HU.out.below hb1)
      go_wp2_with fail
      go_loopg [9] Q.size (fun gk s9 wx => ∃ (i : Nat), s9 = .int .i64 (i : Int) ∧ wx = w1 ∧ i + gk = Q.size)
      case atStart => exact ⟨0, by simp, rfl, by omega⟩
      case round =>
        obtain ⟨i, rfl, rfl, hgk⟩ := hrel
        by_cases hi : i < Q.size
        · obtain ⟨g', rfl⟩ : ∃ g', gk = g' + 1 := ⟨gk - 1, by omega⟩
          have ti : decide ((i : Int) < (Q.size : Int)) = true := decide_eq_true (by omega)
          have hg := hge.out i hi
          have t3 : decide ((Q[i].toNat : Int) < 32) = false := decide_eq_false (by omega)
          clear hg
          go_wp2_with fail
          go_roundg g'
          case measure => omega
          case rel => exact ⟨i + 1, by simp, rfl, by omega⟩
        · obtain rfl : i = Q.size := by omega
          have ti : decide ((Q.size : Int) < (Q.size : Int)) = false := decide_eq_false (by omega)
          go_wp2_with fail
          refine (cT.out _ HU1.out).mono ?_
          rintro e w2 ⟨rfl, hb2⟩
          have HU2 := Lib.hid (HU1.out.below hb2)
          go_wp2_with fail
          refine (cN.out _ HU2.out).mono ?_
          rintro e w3 ⟨rfl, hb3⟩
          have HU3 := Lib.hid (HU2.out.below hb3)
          go_wp2_with fail
          refine (cC.out _ HU3.out).mono ?_
          rintro e w4 ⟨rfl, hb4⟩
          have HU4 := Lib.hid (HU3.out.below hb4)
          go_wp2_with fail
          refine (cB.out _ HU4.out).mono ?_
          rintro e w5 ⟨rfl, hb5⟩
          have HU5 := Lib.hid (HU4.out.below hb5)
          go_wp2_with fail
          refine (awake16 _ HU5.out).mono ?_
          rintro e w6 ⟨rfl, hb6⟩
          go_wp2_with fail
          go_ret
          exact ⟨rfl, bstep hb1 (bstep hb2 (bstep hb3 (bstep hb4 (bstep hb5 hb6))))⟩
    · obtain ⟨M, hM⟩ : ∃ M, stpR b.data.toList = M := ⟨_, rfl⟩
      rw [hM] at hap hbl
      have cB : Hid (∀ w (_ : U8 w), Calls Tryd.prog 9 #[.string b] w fun r w' => r = .returned (.int .i64 (M : Nat)) ∧ Below w.heap.size w w') := Lib.hid (fun w hu => count_at b _ (by unfold cntR; rw [hvb, if_pos rfl, hM]) w (by omega) hu)
      have cS : Hid (∀ w (_ : U8 w), Calls Tryd.prog 9 #[.string (s ++ b)] w fun r w' => r = .returned (.int .i64 ((K : Int) + (M : Int))) ∧ Below w.heap.size w w') := Lib.hid (fun w hu => count_at (s ++ b) _ (by unfold cntR; rw [data_cat, hap.1, hvb, if_pos rfl, hap.2]; omega) w (by rw [ByteArray.size_append]; omega) hu)
      have tM : decide ((M : Int) ≥ 0) = true := decide_eq_true (by omega)
      clear hap hvb hM
      go_enter Tryd.func4, Tryd.ntmps4
      go_wp2_with fail
      refine (cQ.out _ HU.out).mono ?_
      rintro e w1 ⟨rfl, hb1⟩
      have HU1 := Lib.hid (HU.out.below hb1)
      go_wp2_with fail
      go_loopg [9] Q.size (fun gk s9 wx => ∃ (i : Nat), s9 = .int .i64 (i : Int) ∧ wx = w1 ∧ i + gk = Q.size)
      case atStart => exact ⟨0, by simp, rfl, by omega⟩
      case round =>
        obtain ⟨i, rfl, rfl, hgk⟩ := hrel
        by_cases hi : i < Q.size
        · obtain ⟨g', rfl⟩ : ∃ g', gk = g' + 1 := ⟨gk - 1, by omega⟩
          have ti : decide ((i : Int) < (Q.size : Int)) = true := decide_eq_true (by omega)
          have hg := hge.out i hi
          have t3 : decide ((Q[i].toNat : Int) < 32) = false := decide_eq_false (by omega)
          clear hg
          go_wp2_with fail
          go_roundg g'
          case measure => omega
          case rel => exact ⟨i + 1, by simp, rfl, by omega⟩
        · obtain rfl : i = Q.size := by omega
          have ti : decide ((Q.size : Int) < (Q.size : Int)) = false := decide_eq_false (by omega)
          go_wp2_with fail
          refine (cT.out _ HU1.out).mono ?_
          rintro e w2 ⟨rfl, hb2⟩
          have HU2 := Lib.hid (HU1.out.below hb2)
          go_wp2_with fail
          refine (cN.out _ HU2.out).mono ?_
          rintro e w3 ⟨rfl, hb3⟩
          have HU3 := Lib.hid (HU2.out.below hb3)
          go_wp2_with fail
          refine (cC.out _ HU3.out).mono ?_
          rintro e w4 ⟨rfl, hb4⟩
          have HU4 := Lib.hid (HU3.out.below hb4)
          go_wp2_with fail
          refine (cB.out _ HU4.out).mono ?_
          rintro e w5 ⟨rfl, hb5⟩
          have HU5 := Lib.hid (HU4.out.below hb5)
          go_wp2_with fail
          refine (cS.out _ HU5.out).mono ?_
          rintro e w6 ⟨rfl, hb6⟩
          have HU6 := Lib.hid (HU5.out.below hb6)
          go_wp2_with fail
          refine (awake16 _ HU6.out).mono ?_
          rintro e w7 ⟨rfl, hb7⟩
          go_wp2_with fail
          go_ret
          exact ⟨rfl, bstep hb1 (bstep hb2 (bstep hb3 (bstep hb4 (bstep hb5 (bstep hb6 hb7)))))⟩
end Go.Proofs.YtjkhihdghjoneaaDoor
