/- What Number and Digits of package fields return. -/
import Derived.Test.YtgaojfebmcmpaaaGreatDoorFieldsWalk
import Derived.Test.YtgaojfebmcmpaaaGreatDoorNumPlain
import Derived.Test.YtgaojfebmcmpaaaGreatDoorEnvF
import Derived.Shelf.Strconv.AtoiAll
import Derived.Sort.Grow
import Derived.Lib.AtoiErrMem
namespace Go.Proofs.YtgaojfebmcmpaaaGreatDoor
open Go.RowKit

theorem c_itoa (n : Int) (h0 : -9223372036854775808 ≤ n) (h1 : n ≤ 9223372036854775807) (w : World) (hE : EnvF w) :
    Calls Tryz.prog 126 #[.int .i64 n] w fun e w' => e = .returned (.string (bs (Go.Lib.itoa n))) ∧ Below w.heap.size w w' :=
  (Tryz.strconv_Itoa n h0 h1 w hE.pow).mono fun _ _ ⟨he, k, os, hw⟩ => ⟨he, hw ▸ ⟨rfl, rfl, rfl, by
    show w.heap.size ≤ (w.heap ++ os).size
    simp, fun j hj => by
    show (w.heap ++ os)[j]? = w.heap[j]?
    rw [Array.getElem?_append_left hj]⟩⟩
theorem c_atoi_ok (s : ByteArray) (hs : s.size ≤ 1000000) (v : Int) (h : Go.Lib.atoiAll s.data.toList = .ok v) (w : World) :
    Calls Tryz.prog 180 #[.string s] w fun e w' => e = .returned (.tuple #[.int .i64 v, .nilIface]) ∧ Below w.heap.size w w' :=
  (Tryz.strconv_Atoi_ok s (by omega) v h w).mono fun _ _ ⟨he, hw⟩ => ⟨he, by
    rcases hw with rfl | ⟨t, rfl⟩
    · exact Below.refl _ _
    · exact Go.Lib.bytesWorld_below _ _ _⟩
def NumErr (w : World) (e : Ending) (w' : World) : Prop := ∃ n t a, e = .returned (.tuple #[.int .i64 n, .iface t (.pointer (some a))]) ∧ Below w.heap.size w w'
theorem c_atoi_range (s : ByteArray) (hs : s.size ≤ 1000000) (h : Go.Lib.atoiAll s.data.toList = .range) (w : World) (hE : EnvF w) :
    Calls Tryz.prog 180 #[.string s] w (NumErr w) := by
  obtain ⟨tp, p, hv⟩ := hE.rng
  exact (Tryz.strconv_Atoi_range s (by omega) h _ w hv (.inr ⟨tp, p, rfl⟩)).mono fun _ _ ⟨N, he, _, _, hb⟩ => ⟨_, _, _, he, hb⟩

/-- a number's digits; of none below 0 -/
def digL (n : Int) : List UInt8 := if n < 0 then [] else Go.Lib.decDigits n.toNat
theorem fields_digits (n : Int) (h0 : -9223372036854775808 ≤ n) (h1 : n ≤ 9223372036854775807) (w : World) (hE : EnvF w) :
    Calls Tryz.prog 79 #[.int .i64 n] w fun e w' => e = .returned (.string (bs (digL n))) ∧ Below w.heap.size w w' := by
  by_cases hn : n < 0
  · have H : Hid (digL n = []) := Lib.hid (if_pos hn)
    clear hE
    go_enter Tryz.func79, Tryz.ntmps79
    go_wp2_with fail
    go_ret
    exact ⟨by rw [H.out]; rfl, Below.refl _ _⟩
  · have H : Hid (digL n = Go.Lib.itoa n) := Lib.hid (by unfold digL Go.Lib.itoa; rw [if_neg hn, if_neg hn])
    have HI := Lib.hid (c_itoa n h0 h1 w hE)
    clear hE
    go_enter Tryz.func79, Tryz.ntmps79
    go_wp2_with fail
    refine HI.out.mono ?_
    rintro e w1 ⟨rfl, hb⟩
    go_wp2_with fail
    go_ret
    exact ⟨by rw [H.out]; rfl, hb⟩

theorem numE_bad (l : List UInt8) (h : numBad l = true) : numE l = 4 ∧ numV l = 0 := by
  have h1 : numE l = 4 := if_pos h
  exact ⟨h1, by unfold numV; rw [h1]; rfl⟩
theorem numE_over (l : List UInt8) (h : numBad l = false) (h2 : 9007199254740991 < decV l) : numE l = 11 ∧ numV l = 0 := by
  have h1 : numE l = 11 := by unfold numE; rw [h, if_neg (by decide), if_pos h2]
  exact ⟨h1, by unfold numV; rw [h1]; rfl⟩
theorem numE_ok (l : List UInt8) (h : numBad l = false) (h2 : ¬ 9007199254740991 < decV l) : numE l = 0 ∧ numV l = decV l := by
  have h1 : numE l = 0 := by unfold numE; rw [h, if_neg (by decide), if_neg h2]
  exact ⟨h1, by unfold numV; rw [h1]; rfl⟩
theorem ret_nums {a a' b b' : Int} (h : a = a') (h2 : b = b') : Ending.returned (.tuple #[.int .i64 a, .int .i64 b]) = .returned (.tuple #[.int .i64 a', .int .i64 b']) := by rw [h, h2]
theorem lead0_size (s : ByteArray) (h : 1 < s.size) (h2 : s[0] = 48) : lead0 s.data.toList = true := by
  unfold lead0
  rw [size_len, decide_eq_true h, List.head?_eq_getElem?, List.getElem?_eq_getElem (by rw [size_len]; omega)]
  show ((some s[0]) == some 48) = true
  rw [h2]; rfl
theorem lead0_not (s : ByteArray) (h : ¬ ∃ h : 1 < s.size, s[0] = 48) : lead0 s.data.toList = false := by
  unfold lead0
  by_cases h1 : 1 < s.size
  · rw [size_len, decide_eq_true h1, List.head?_eq_getElem?, List.getElem?_eq_getElem (by rw [size_len]; omega)]
    show (true && (some s[0]) == some 48) = false
    rw [Bool.true_and, beq_eq_false_iff_ne]
    intro e
    exact h ⟨h1, Option.some.inj e⟩
  · rw [size_len, decide_eq_false h1]; rfl

set_option maxRecDepth 100000 in
set_option maxHeartbeats 2000000 in
theorem fields_number (s : ByteArray) (w : World) (hs : s.size ≤ 1000000) (hE : EnvF w) :
    Calls Tryz.prog 141 #[.string s] w fun e w' => e = .returned (.tuple #[.int .i64 (numV s.data.toList), .int .i64 (numE s.data.toList)]) ∧ Below w.heap.size w w' := by
  have HE := Lib.hid hE
  clear hE
  obtain ⟨l, hl⟩ : ∃ l, l = s.data.toList := ⟨_, rfl⟩
  have hsl : l.length = s.size := by rw [hl]; exact size_len s
  have HA := Lib.hid (fun w => fields_all_digit s w)
  have hlead1 := fun h h2 => lead0_size s h h2
  have hlead2 := fun h => lead0_not s h
  have hok := fun v (h : Go.Lib.atoiAll s.data.toList = .ok v) w => c_atoi_ok s hs v h w
  have hrg := fun (h : Go.Lib.atoiAll s.data.toList = .range) w hE => c_atoi_range s hs h w hE
  rw [← hl] at HA hlead1 hlead2 hok hrg ⊢
  by_cases h0 : s.size = 0
  · have H := Lib.hid (numE_bad l (by rw [List.length_eq_zero_iff.1 (show l.length = 0 by omega)]; rfl))
    have t : s.toList.isEmpty = true := by
      rw [ByteArray.toList_eq, List.isEmpty_iff]; exact List.length_eq_zero_iff.1 (by rw [size_len]; exact h0)
    clear hl hsl hlead1 hlead2 hok hrg h0
    go_enter Tryz.func141, Tryz.ntmps141
    go_wp2_with fail
    go_ret2
    exact ⟨ret_nums (by rw [H.out.2]; rfl) (by rw [H.out.1]; rfl), Below.refl _ _⟩
  · have t : s.toList.isEmpty = false := by
      rw [ByteArray.toList_eq, Bool.eq_false_iff, Ne, List.isEmpty_iff]; intro e; exact h0 (by rw [← size_len, e]; rfl)
    have he : l.isEmpty = false := by rw [hl, ← ByteArray.toList_eq]; exact t
    have hne : l ≠ [] := by intro e; rw [e] at he; exact absurd he (by decide)
    have hpos : 0 < s.size := by omega
    clear h0 hl
    cases hd : l.all (fun c => digN c.toNat) with
    | false =>
      have H := Lib.hid (numE_bad l (by unfold numBad digAll; rw [hd]; simp))
      rw [hd] at HA
      clear hsl hlead1 hlead2 hok hrg hd he hne
      go_enter Tryz.func141, Tryz.ntmps141
      go_wp2_with fail
      refine (HA.out _).mono ?_
      rintro e w1 ⟨rfl, hb⟩
      go_wp2_with fail
      go_ret2
      exact ⟨ret_nums (by rw [H.out.2]; rfl) (by rw [H.out.1]; rfl), hb⟩
    | true =>
      rw [hd] at HA
      have hda : digAll l = true := hd
      by_cases h1 : ∃ h : 1 < s.size, s[0] = 48
      · obtain ⟨h1, h48⟩ := h1
        have H := Lib.hid (numE_bad l (by unfold numBad; rw [hlead1 h1 h48, Bool.or_true]))
        have t1 : ((s[0].toNat : Int) == 48) = true := by rw [h48]; rfl
        clear hsl hlead1 hlead2 hok hrg hd he hne hda h48
        go_enter Tryz.func141, Tryz.ntmps141
        go_wp2_with fail
        refine (HA.out _).mono ?_
        rintro e w1 ⟨rfl, hb⟩
        go_wp2_with fail
        go_ret2
        exact ⟨ret_nums (by rw [H.out.2]; rfl) (by rw [H.out.1]; rfl), hb⟩
      · have hbad : numBad l = false := by unfold numBad; rw [he, hda, hlead2 h1]; rfl
        have hat := atoi_dec l hne hda
        have hov := numE_over l hbad
        have hkk := numE_ok l hbad
        by_cases h2 : 1 < s.size
        case' pos =>
          have t1 : ((s[0].toNat : Int) == 48) = false := by
            rw [beq_eq_false_iff_ne]; intro e; exact h1 ⟨h2, UInt8.toNat_inj.1 (by show _ = 48; omega)⟩
        case' neg =>
          have t1 : decide ((s.size : Int) > 1) = false := decide_eq_false (by omega)
        all_goals
          by_cases hbig : decV l < 9223372036854775808
          · rw [if_pos hbig] at hat
            have HK := Lib.hid (fun w => hok _ hat w)
            obtain ⟨n, hn⟩ : ∃ n, n = decV l := ⟨_, rfl⟩
            rw [← hn] at HK hov hkk
            clear hsl hlead1 hlead2 hok hrg hd he hne hda hat hbig hn h1 hbad
            by_cases hm : 9007199254740991 < n
            · have H := Lib.hid (hov hm)
              have t2 : decide ((n : Int) > 9007199254740991) = true := decide_eq_true (by omega)
              clear hov hkk hm
              go_enter Tryz.func141, Tryz.ntmps141
              go_wp2_with fail
              refine (HA.out _).mono ?_
              rintro e w1 ⟨rfl, hb⟩
              go_wp2_with fail
              refine (HK.out _).mono ?_
              rintro e w2 ⟨rfl, hb2⟩
              go_wp2_with fail
              go_ret2
              exact ⟨ret_nums (by rw [H.out.2]; rfl) (by rw [H.out.1]; rfl), bstep hb hb2⟩
            · have H := Lib.hid (hkk hm)
              have t2 : decide ((n : Int) > 9007199254740991) = false := decide_eq_false (by omega)
              clear hov hkk hm
              go_enter Tryz.func141, Tryz.ntmps141
              go_wp2_with fail
              refine (HA.out _).mono ?_
              rintro e w1 ⟨rfl, hb⟩
              go_wp2_with fail
              refine (HK.out _).mono ?_
              rintro e w2 ⟨rfl, hb2⟩
              go_wp2_with fail
              go_ret2
              exact ⟨ret_nums (by rw [H.out.2]) (by rw [H.out.1]; rfl), bstep hb hb2⟩
          · rw [if_neg hbig] at hat
            have HK := Lib.hid (hrg hat)
            have H := Lib.hid (hov (by omega))
            clear hsl hlead1 hlead2 hok hrg hd he hne hda hat hbig h1 hbad hov hkk
            go_enter Tryz.func141, Tryz.ntmps141
            go_wp2_with fail
            refine (HA.out _).mono ?_
            rintro e w1 ⟨rfl, hb⟩
            go_wp2_with fail
            refine (HK.out _ (HE.out.below hb)).mono ?_
            rintro e w2 ⟨n, t, a, rfl, hb2⟩
            go_wp2_with fail
            go_ret2
            exact ⟨ret_nums (by rw [H.out.2]; rfl) (by rw [H.out.1]; rfl), bstep hb hb2⟩
end Go.Proofs.YtgaojfebmcmpaaaGreatDoor
