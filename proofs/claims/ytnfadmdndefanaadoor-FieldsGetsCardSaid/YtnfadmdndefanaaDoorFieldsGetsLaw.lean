/- The law functions FieldsGets and FieldsNumbers. -/
import Derived.Test.YtnfadmdndefanaaDoorFieldsAwake
import Derived.Test.YtnfadmdndefanaaDoorFieldsOwn
namespace Go.Proofs.YtnfadmdndefanaaDoor
open Go.RowKit

theorem overF_len (fs : List (List UInt8 × List UInt8)) (most : Int) (h : overF fs most = false) : (fs.length : Int) ≤ most := by
  unfold overF at h
  simp only [Bool.or_eq_false_iff, decide_eq_false_iff_not] at h
  omega

set_option maxRecDepth 100000 in
set_option maxHeartbeats 4000000 in
theorem fieldsGets_walk (v : Value) (fs : List (List UInt8 × List UInt8)) (s : ByteArray) (n : Int) (w : World) (hE : EnvF w) (hv : HoldsF w v fs) (hlen : fs.length ≤ 9223372036854775807) (hs : s.size ≤ 9223372036854775807) (h0 : -9223372036854775808 ≤ n) (h1 : n ≤ 9223372036854775807) :
    Calls Tryd.prog 10 #[v, .string s, .int .i64 n] w fun e w' => e = .returned (.bool true) ∧ Below w.heap.size w w' := by
  have HE := Lib.hid hE
  clear hE
  have hov := ref_over v fs 40 w hv hlen
  cases hover : overF fs 40 with
  | true =>
    rw [hover] at hov
    have HO := Lib.hid hov
    clear hov hover hv
    go_enter Tryd.func10, Tryd.ntmps10
    go_wp2_with fail
    refine HO.out.mono ?_
    rintro e w' ⟨rfl, rfl⟩
    go_wp2_with fail
    refine (awake22 _ HE.out).mono ?_
    rintro e w1 ⟨rfl, hb⟩
    go_wp2_with fail
    go_ret
    exact ⟨rfl, hb⟩
  | false =>
    rw [hover] at hov
    have hl40 := overF_len fs 40 hover
    have HO := Lib.hid hov
    clear hov hover
    by_cases hsl : (400 : Int) < (s.size : Int)
    · clear hv
      go_enter Tryd.func10, Tryd.ntmps10
      go_wp2_with fail
      refine HO.out.mono ?_
      rintro e w' ⟨rfl, rfl⟩
      go_wp2_with fail
      refine (awake22 _ HE.out).mono ?_
      rintro e w1 ⟨rfl, hb⟩
      go_wp2_with fail
      go_ret
      exact ⟨rfl, hb⟩
    · have HV := Lib.hid hv
      have hlen2 : fs.length ≤ 1000000 := by omega
      have hOwn := Lib.hid (law_own v fs w hv (by omega))
      have hG := Lib.hid (fun u w hu => fields_get u fs s w hu hlen2)
      have hR := Lib.hid (fun w hu => ref_get v fs s w hu hlen2)
      have hN := Lib.hid (fun w hE => fields_number s w (by omega) hE)
      have hM := Lib.hid (fun w => ref_number s w (by omega))
      have hD := Lib.hid (fun w hE => fields_digits n h0 h1 w hE)
      have hC := Lib.hid (fun w => ref_digitsZ n w h1)
      generalize bs (getS fs s.data.toList) = S at hG hR
      generalize getE fs s.data.toList = E at hG hR
      generalize numV s.data.toList = X at hN hM
      generalize numE s.data.toList = F at hN hM
      generalize bs (digL n) = D at hD hC
      clear hv hlen hlen2 hl40
      go_enter Tryd.func10, Tryd.ntmps10
      go_wp2_with fail
      refine HO.out.mono ?_
      rintro e w' ⟨rfl, rfl⟩
      go_wp2_with fail
      refine hOwn.out.mono ?_
      rintro e w1 ⟨u, rfl, hu, hb1⟩
      have HE1 := Lib.hid (HE.out.below hb1)
      go_wp2_with fail
      refine (hG.out u _ hu).mono ?_
      rintro e w2 ⟨rfl, hb2⟩
      have hb12 := bstep hb1 hb2
      have HE2 := Lib.hid (HE1.out.below hb2)
      have HV2 := Lib.hid (HV.out.below hb12)
      clear hb1 hb2 HE1 hu
      go_wp2_with fail
      refine (hR.out _ HV2.out).mono ?_
      rintro e w' ⟨rfl, rfl⟩
      go_wp2_with fail
      refine (hN.out _ HE2.out).mono ?_
      rintro e w3 ⟨rfl, hb3⟩
      have HE3 := Lib.hid (HE2.out.below hb3)
      go_wp2_with fail
      refine (hM.out _).mono ?_
      rintro e w' ⟨rfl, rfl⟩
      go_wp2_with fail
      refine (hD.out _ HE3.out).mono ?_
      rintro e w4 ⟨rfl, hb4⟩
      have HE4 := Lib.hid (HE3.out.below hb4)
      go_wp2_with fail
      refine (hC.out _).mono ?_
      rintro e w' ⟨rfl, rfl⟩
      go_wp2_with fail
      refine (awake22 _ HE4.out).mono ?_
      rintro e w5 ⟨rfl, hb5⟩
      go_wp2_with fail
      go_ret
      exact ⟨rfl, bstep hb12 (bstep hb3 (bstep hb4 hb5))⟩

theorem numBad_snoc0 (l : List UInt8) (h : numBad l = false) (h0 : l ≠ [48]) : numBad (l ++ [48]) = false ∧ decV (l ++ [48]) = decV l * 10 := by
  unfold numBad at h
  simp only [Bool.or_eq_false_iff, Bool.not_eq_false'] at h
  obtain ⟨⟨h1, h2⟩, h3⟩ := h
  have hne : l ≠ [] := by intro e; rw [e] at h1; exact absurd h1 (by decide)
  refine ⟨?_, by rw [decV_snoc]; rfl⟩
  unfold numBad
  have a : (l ++ [48]).isEmpty = false := by rw [Bool.eq_false_iff, Ne, List.isEmpty_iff]; simp
  have b : digAll (l ++ [48]) = true := by
    unfold digAll at h2 ⊢; rw [List.all_append, h2]; rfl
  have c : lead0 (l ++ [48]) = false := by
    unfold lead0 at h3 ⊢
    cases l with
    | nil => exact absurd rfl hne
    | cons x t =>
      cases t with
      | nil =>
        have : x ≠ 48 := fun e => h0 (by rw [e])
        simp [this]
      | cons y u => simpa using h3
  rw [a, b, c]; rfl
theorem over_more (l : List UInt8) (h : numE l = 11) : numE (l ++ [48]) = 11 := by
  unfold numE at h
  split at h
  · exact absurd h (by decide)
  · rename_i hb
    split at h
    · rename_i hv
      have hb' : numBad l = false := by simpa using hb
      have h0 : l ≠ [48] := by intro e; rw [e] at hv; exact absurd hv (by decide)
      obtain ⟨h1, h2⟩ := numBad_snoc0 l hb' h0
      unfold numE
      rw [h1, if_neg (by decide), if_pos (by rw [h2]; omega)]
    · exact absurd h (by decide)
theorem num_zero (l : List UInt8) (h : numE l = 0) : numV l = decV l ∧ decV l ≤ 9007199254740991 ∧ digL (decV l : Int) = l := by
  have hv : numV l = decV l := by unfold numV; rw [h]; rfl
  unfold numE at h
  split at h
  · exact absurd h (by decide)
  · rename_i hb
    split at h
    · exact absurd h (by decide)
    · refine ⟨hv, by omega, ?_⟩
      unfold digL
      rw [if_neg (by omega)]
      exact decDigits_decV l _ (Nat.le_refl _) (by simpa using hb)
theorem num_cases (l : List UInt8) : numE l = 0 ∨ numE l = 4 ∨ numE l = 11 := by
  unfold numE; split
  · exact .inr (.inl rfl)
  · split
    · exact .inr (.inr rfl)
    · exact .inl rfl
theorem num_digits (k : Nat) : numE (Go.Lib.decDigits k) = (if 9007199254740991 < k then 11 else 0) ∧ numV (Go.Lib.decDigits k) = (if 9007199254740991 < k then 0 else k) := by
  have hb := numBad_dec k
  by_cases h : 9007199254740991 < k
  · rw [if_pos h, if_pos h]; exact numE_over _ hb (by rw [decV_decDigits]; exact h)
  · rw [if_neg h, if_neg h]
    have := numE_ok _ hb (by rw [decV_decDigits]; exact h)
    rw [decV_decDigits] at this
    exact this
end Go.Proofs.YtnfadmdndefanaaDoor
