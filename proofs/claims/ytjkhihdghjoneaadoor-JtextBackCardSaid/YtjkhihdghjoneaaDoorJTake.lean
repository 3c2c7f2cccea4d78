/- What Take of package jtext returns. -/
import Derived.Test.YtjkhihdghjoneaaDoorJQuote
import Derived.Test.YtjkhihdghjoneaaDoorJMark
namespace Go.Proofs.YtjkhihdghjoneaaDoor
open Go.RowKit Go.Lib

theorem pairP_err (l : List UInt8) : (pairP l).2.2 = 0 ∨ (pairP l).2.2 = 3 ∨ (pairP l).2.2 = 4 := by
  unfold pairP
  repeat' split
  all_goals first
    | exact codeP_err _
    | exact .inl rfl
    | exact .inr (.inr rfl)
theorem markP_err (l : List UInt8) : (markP l).2.2 = 0 ∨ (markP l).2.2 = 3 ∨ (markP l).2.2 = 4 := by
  unfold markP
  split
  · exact .inr (.inl rfl)
  · split
    · exact .inl rfl
    · exact pairP_err l
theorem takeR_step (g : Nat) (r : List UInt8) (i : Nat) (acc : List UInt8) (hr : r ≠ []) : takeR (g + 1) r i acc = if (stepT r).1 = 1 then (acc, i + 1, 0) else if (stepT r).1 = 3 then ([], i + r.length, 3) else if (stepT r).1 = 4 then ([], i, 4)
    else takeR g (r.drop (stepT r).2.1) (i + (stepT r).2.1) (acc ++ (stepT r).2.2) := by
  show (if r = [] then _ else _) = _
  rw [if_neg hr]
theorem enc_le (c : Int) : (Lib.encodeRune c).length ≤ 4 := by
  have := Lib.encodeRuneZ_length c
  have e : (Lib.encodeRune c).length = (Lib.encodeRuneZ c).length := by unfold Lib.encodeRune; rw [List.length_map]
  omega
set_option maxRecDepth 100000 in
set_option maxHeartbeats 400000 in
theorem take (s : ByteArray) (at_ : Int) (w : World) (hs : s.size ≤ 10000) (hu : U8 w) :
    Calls Tryd.prog 12 #[.string s, .int .i64 at_] w fun e w' => e = .returned (.tuple #[.string (bs (takeP s.data.toList at_).1), .int .i64 (takeP s.data.toList at_).2.1, .int .i64 ((takeP s.data.toList at_).2.2 : Nat)]) ∧ Below w.heap.size w w' := by
  obtain ⟨ANS, hANS⟩ : ∃ ANS, takeP s.data.toList at_ = ANS := ⟨_, rfl⟩
  rw [hANS]
  unfold takeP at hANS
  rw [size_len] at hANS
  by_cases h1 : at_ < 0
  · rw [if_pos (.inl h1)] at hANS
    have HA := Lib.hid hANS
    have t1 : decide (at_ < 0) = true := decide_eq_true h1
    clear hANS
    go_enter Tryd.func12, Tryd.ntmps12
    go_wp2_with fail
    go_ret3
    exact ⟨by rw [← HA.out]; rfl, Below.refl _ _⟩
  obtain ⟨a, rfl⟩ := Int.eq_ofNat_of_zero_le (show 0 ≤ at_ by omega)
  have t1 : decide ((a : Int) < 0) = false := decide_eq_false h1
  by_cases h2 : s.size < a
  · rw [if_pos (.inr (by omega))] at hANS
    have HA := Lib.hid hANS
    have t2 : decide ((a : Int) > (s.size : Int)) = true := decide_eq_true (by omega)
    clear hANS
    go_enter Tryd.func12, Tryd.ntmps12
    go_wp2_with fail
    go_ret3
    exact ⟨by rw [← HA.out]; rfl, Below.refl _ _⟩
  have t2 : decide ((a : Int) > (s.size : Int)) = false := decide_eq_false (by omega)
  rw [if_neg (by omega)] at hANS
  by_cases h3 : a = s.size
  · rw [if_pos (by omega)] at hANS
    have HA := Lib.hid hANS
    subst h3
    have t3 : ((s.size : Int) == (s.size : Int)) = true := by rw [beq_iff_eq]
    clear hANS
    go_enter Tryd.func12, Tryd.ntmps12
    go_wp2_with fail
    go_ret3
    exact ⟨by rw [← HA.out]; rfl, Below.refl _ _⟩
  have t3 : ((a : Int) == (s.size : Int)) = false := by rw [beq_eq_false_iff_ne]; omega
  rw [if_neg (by omega)] at hANS
  have hlt : a < s.size := by omega
  rw [Int.toNat_natCast, getD_at s a hlt] at hANS
  by_cases h4 : s[a] = 34
  · rw [if_neg (by rw [h4]; decide)] at hANS
    have t4 : ((s[a].toNat : Int) != 34) = false := by rw [h4]; rfl
    obtain ⟨A, hA⟩ : ∃ A, takeR (s.size + 1) (s.data.toList.drop (a + 1)) (a + 1) [] = A := ⟨_, rfl⟩
    rw [hA] at hANS
    have HANS := Lib.hid hANS
    have HT : Hid (∀ f, (s.data.toList.drop (a + 1)).length < f → takeR f (s.data.toList.drop (a + 1)) (a + 1) [] = A) := Lib.hid (fun f hf => by
      rw [← hA]; exact takeR_fuel _ _ _ _ _ _ (Nat.le_refl _) hf (by rw [List.length_drop, size_len]; omega))
    clear hANS hA
    have hB := BI.fresh w
    have hsz : w.heap.size ≤ (w.alloc (.cells #[.pointer none, .slice none 0 0] 37 (0, 0))).heap.size := by simp
    have hAl : Below w.heap.size w (w.alloc (.cells #[.pointer none, .slice none 0 0] 37 (0, 0))) := (Below.refl _ w).alloc (Nat.le_refl _) _
    go_enter Tryd.func12, Tryd.ntmps12
    go_wp2_with fail
    go_loopg [8] s.size (fun gk s8 wx => ∃ (i : Nat) (acc : List UInt8), s8 = .int .i64 (i : Int) ∧ BI w.heap.size acc wx ∧ Below w.heap.size w wx ∧
      Hid (∀ f, (s.data.toList.drop i).length < f → takeR f (s.data.toList.drop i) i acc = A) ∧ acc.length ≤ 4 * i ∧ s.size ≤ i + gk ∧ i ≤ s.size)
    case atStart =>
      exact ⟨a + 1, [], by simp, hB, hAl, HT, by simp, by omega, by omega⟩
    case round =>
      obtain ⟨i, acc, rfl, hI, hbx, HS, hal, hfu, his⟩ := hrel
      have hszx : w.heap.size ≤ wr.heap.size := hbx.size
      by_cases hil : i < s.size
      · have hne := drop_ne s i hil
        have hdl : (s.data.toList.drop i).length = s.size - i := by rw [List.length_drop, size_len]
        have tl : decide ((i : Int) < (s.size : Int)) = true := decide_eq_true (by omega)
        have h0 : (s.data.toList.drop i).getD 0 0 = s[i] := by rw [drop_cons s i hil]; rfl
        have hst := HS.out ((s.data.toList.drop i).length + 1) (by omega)
        rw [takeR_step _ _ _ _ hne] at hst
        have hk := stepT_on _ hne
        by_cases b1 : s[i] = 34
        · have hs1 : stepT (s.data.toList.drop i) = (1, 1, []) := stepT_end _ (by rw [h0, b1])
          have HR : Hid (A = (acc, i + 1, 0)) := Lib.hid (by rw [hs1, if_pos rfl] at hst; exact hst.symm)
          have t5 : ((s[i].toNat : Int) == 34) = true := by rw [b1]; rfl
          clear hst HS hk hs1
          go_wp2_with fail
          refine (c_text w.heap.size acc wr hI hszx).mono ?_
          rintro e W4 ⟨rfl, -, b4⟩
          go_wp2_with fail
          go_ret3
          exact ⟨by rw [← HANS.out, HR.out]; simp, hbx.trans b4⟩
        · have t5 : ((s[i].toNat : Int) == 34) = false := by
            rw [beq_eq_false_iff_ne]; intro e; exact b1 (UInt8.toNat_inj.1 (show s[i].toNat = 34 by omega))
          by_cases b2 : s[i] = 92
          · have t6 : ((s[i].toNat : Int) == 92) = true := by rw [b2]; rfl
            have cM := mark (s.extract i s.size) wr (by rw [ByteArray.size_extract]; omega)
            rw [tail_list] at cM
            have hms : stepT (s.data.toList.drop i) = (if (markP (s.data.toList.drop i)).2.2 = 3 then (3, 0, []) else if (markP (s.data.toList.drop i)).2.2 ≠ 0 then (4, 0, []) else (0, (markP (s.data.toList.drop i)).2.1, Go.Lib.encodeRune ((markP (s.data.toList.drop i)).1 : Nat))) := by
              unfold stepT; rw [if_neg (by rw [h0]; exact b1), if_pos (by rw [h0]; exact b2)]
            have herr := markP_err (s.data.toList.drop i)
            have hgd := markP_ok (s.data.toList.drop i)
            obtain ⟨n, hn⟩ : ∃ n, (markP (s.data.toList.drop i)).1 = n := ⟨_, rfl⟩
            obtain ⟨m, hm⟩ : ∃ m, (markP (s.data.toList.drop i)).2.1 = m := ⟨_, rfl⟩
            obtain ⟨f, hf⟩ : ∃ f, (markP (s.data.toList.drop i)).2.2 = f := ⟨_, rfl⟩
            rw [hn, hm, hf] at hms hgd cM
            rw [hf] at herr
            by_cases f3 : f = 3
            · subst f3
              have HR : Hid (A = ([], s.size, 3)) := Lib.hid (by
                rw [hms, if_pos rfl, if_neg (show ¬ (3 : Nat) = 1 by decide), if_pos rfl, hdl] at hst
                rw [← hst]; congr 2; omega)
              clear hst HS hk hms hgd herr hn hm hf
              go_wp2_with fail
              refine cM.mono ?_
              rintro e W' ⟨rfl, rfl⟩
              go_wp2_with fail
              go_ret3
              exact ⟨by rw [← HANS.out, HR.out]; rfl, hbx⟩
            · by_cases f0 : f = 0
              · subst f0
                obtain ⟨g1, g2, g3⟩ := hgd rfl
                rw [hdl] at g2
                have hn1 : n ≤ 1114111 := by rcases g3 with h | ⟨_, h⟩ <;> omega
                have HS2 : Hid (∀ f, (s.data.toList.drop (i + m)).length < f → takeR f (s.data.toList.drop (i + m)) (i + m) (acc ++ Go.Lib.encodeRune (n : Int)) = A) := Lib.hid (fun f hf => by
                  rw [hms, if_neg (show ¬ (0 : Nat) = 3 by decide), if_neg (show ¬ (0 : Nat) ≠ 0 by decide), if_neg (show ¬ (0 : Nat) = 1 by decide), if_neg (show ¬ (0 : Nat) = 3 by decide), if_neg (show ¬ (0 : Nat) = 4 by decide), List.drop_drop] at hst
                  rw [← hst]
                  exact takeR_fuel _ _ _ _ _ _ (Nat.le_refl _) hf (by show _ < (s.data.toList.drop i).length; rw [List.length_drop, hdl, size_len]; omega))
                have hel := enc_le (n : Int)
                obtain ⟨g', rfl⟩ : ∃ g', gk = g' + 1 := ⟨gk - 1, by omega⟩
                clear hst HS hk hms hgd herr hn hm hf g3
                go_wp2_with fail
                refine cM.mono ?_
                rintro e W' ⟨rfl, rfl⟩
                go_wp2_with fail
                refine (c_rune w.heap.size acc (n : Int) (by omega) (by omega) _ hI (by omega) hszx).mono ?_
                rintro e W3 ⟨rfl, hI3, b3, -⟩
                go_wp2_with fail
                go_roundg g'
                case measure => omega
                case rel => exact ⟨i + m, _, by simp, hI3, hbx.trans b3, HS2, by rw [List.length_append]; omega, by omega, by omega⟩
              · have f4 : f = 4 := by omega
                subst f4
                have HR : Hid (A = ([], i, 4)) := Lib.hid (by
                  rw [hms, if_neg (show ¬ (4 : Nat) = 3 by decide), if_pos (show (4 : Nat) ≠ 0 by decide), if_neg (show ¬ (4 : Nat) = 1 by decide), if_neg (show ¬ (4 : Nat) = 3 by decide), if_pos rfl] at hst
                  exact hst.symm)
                clear hst HS hk hms hgd herr hn hm hf
                go_wp2_with fail
                refine cM.mono ?_
                rintro e W' ⟨rfl, rfl⟩
                go_wp2_with fail
                go_ret3
                exact ⟨by rw [← HANS.out, HR.out]; rfl, hbx⟩
          · have t6 : ((s[i].toNat : Int) == 92) = false := by
              rw [beq_eq_false_iff_ne]; intro e; exact b2 (UInt8.toNat_inj.1 (show s[i].toNat = 92 by omega))
            have cD := c_decode (s.extract i s.size) wr (by rw [tail_list]; exact hne) (hu.below hbx)
            rw [tail_list] at cD
            have hms : stepT (s.data.toList.drop i) = (if badR (s.data.toList.drop i) ∨ ((s.data.toList.drop i).getD 0 0).toNat < 32 then (4, 0, []) else (0, rwd (s.data.toList.drop i), (s.data.toList.drop i).take (rwd (s.data.toList.drop i)))) := by
              unfold stepT; rw [if_neg (by rw [h0]; exact b1), if_neg (by rw [h0]; exact b2)]
            have hwp := rwd_pos (s.data.toList.drop i)
            have hwl := rwd_le _ hne
            have hcr := Lib.decodeL_rune (s.data.toList.drop i)
            have hlow : ¬ badR (s.data.toList.drop i) → ((s.data.toList.drop i).getD 0 0).toNat < 128 → (Lib.decodeL (s.data.toList.drop i)).1 = ((s.data.toList.drop i).getD 0 0).toNat := by
              intro _ h
              rw [drop_cons s i hil] at h ⊢
              rw [low_rune s[i] _ h]; rfl
            have hhigh := dec_high (s.data.toList.drop i)
            have henc := Lib.encode_decode (s.data.toList.drop i) hne
            have hbad : badR (s.data.toList.drop i) ↔ (Lib.decodeL (s.data.toList.drop i)).1 = 65533 ∧ rwd (s.data.toList.drop i) = 1 := Iff.rfl
            have hR32 : ¬ badR (s.data.toList.drop i) → (((s.data.toList.drop i).getD 0 0).toNat < 32 ↔ (Lib.decodeL (s.data.toList.drop i)).1 < 32) := by
              intro hb
              by_cases hlo : ((s.data.toList.drop i).getD 0 0).toNat < 128
              · rw [hlow hb hlo]
              · have := hhigh hb (by omega); omega
            obtain ⟨R, hR⟩ : ∃ R, (Lib.decodeL (s.data.toList.drop i)).1 = R := ⟨_, rfl⟩
            obtain ⟨M, hM⟩ : ∃ M, rwd (s.data.toList.drop i) = M := ⟨_, rfl⟩
            rw [hR] at hcr hbad hR32
            rw [hR, hM] at cD
            rw [hM] at hbad hwp hwl hms
            rw [hdl] at hwl
            have hMe : (Lib.decodeL (s.data.toList.drop i)).2 = M := hM
            rw [hR, hMe] at henc
            clear hlow hhigh
            by_cases hbd : badR (s.data.toList.drop i) ∨ ((s.data.toList.drop i).getD 0 0).toNat < 32
            · have HR : Hid (A = ([], i, 4)) := Lib.hid (by
                rw [hms, if_pos hbd, if_neg (show ¬ (4 : Nat) = 1 by decide), if_neg (show ¬ (4 : Nat) = 3 by decide), if_pos rfl] at hst
                exact hst.symm)
              by_cases hb : badR (s.data.toList.drop i)
              · obtain ⟨rfl, rfl⟩ := hbad.1 hb
                clear hst HS hk hms hR hM hMe henc hbad hR32 hbd hb
                go_wp2_with fail
                refine cD.mono ?_
                rintro e W' ⟨rfl, b4⟩
                go_wp2_with fail
                go_ret3
                exact ⟨by rw [← HANS.out, HR.out]; rfl, hbx.trans (b4.mono hszx)⟩
              · have hR2 : R < 32 := (hR32 hb).1 (hbd.resolve_left hb)
                have t7 : ((R : Int) == 65533) = false := by rw [beq_eq_false_iff_ne]; omega
                have t8 : decide ((R : Int) < 32) = true := decide_eq_true (by omega)
                clear hst HS hk hms hR hM hMe henc hbad hR32 hbd hb
                go_wp2_with fail
                refine cD.mono ?_
                rintro e W' ⟨rfl, b4⟩
                go_wp2_with fail
                go_ret3
                exact ⟨by rw [← HANS.out, HR.out]; rfl, hbx.trans (b4.mono hszx)⟩
            · have hb : ¬ badR (s.data.toList.drop i) := fun h => hbd (.inl h)
              have hR2 : ¬ R < 32 := fun h => hbd (.inr ((hR32 hb).2 h))
              have t8 : decide ((R : Int) < 32) = false := decide_eq_false (by omega)
              have hen := henc (fun h => hb (hbad.2 h))
              have HS2 : Hid (∀ f, (s.data.toList.drop (i + M)).length < f → takeR f (s.data.toList.drop (i + M)) (i + M) (acc ++ Go.Lib.encodeRune (R : Int)) = A) := Lib.hid (fun f hf => by
                rw [hms, if_neg hbd, if_neg (show ¬ (0 : Nat) = 1 by decide), if_neg (show ¬ (0 : Nat) = 3 by decide), if_neg (show ¬ (0 : Nat) = 4 by decide), List.drop_drop] at hst
                rw [← hst, hen]
                exact takeR_fuel _ _ _ _ _ _ (Nat.le_refl _) hf (by show _ < (s.data.toList.drop i).length; rw [List.length_drop, hdl, size_len]; omega))
              have hel := enc_le (R : Int)
              have h3 : R ≠ 65533 ∨ M ≠ 1 := by
                by_cases e : R = 65533
                · exact .inr (fun e2 => hb (hbad.2 ⟨e, e2⟩))
                · exact .inl e
              obtain ⟨g', rfl⟩ : ∃ g', gk = g' + 1 := ⟨gk - 1, by omega⟩
              clear hst HS hk hms hR hM hMe henc hbad hR32 hbd hb hen
              go_wp2_with fail
              refine cD.mono ?_
              rintro e W' ⟨rfl, b4⟩
              have hI4 := BI.below hI b4
              have hb4 := hbx.trans (b4.mono hszx)
              have hsz4 : w.heap.size ≤ W'.heap.size := by have := b4.size; omega
              by_cases e65 : R = 65533
              · have t7 : ((R : Int) == 65533) = true := by rw [beq_iff_eq]; omega
                have t9 : decide ((M : Int) < 2) = false := decide_eq_false (by omega)
                clear e65 h3
                go_wp2_with fail
                refine (c_rune w.heap.size acc (R : Int) (by omega) (by omega) _ hI4 (by omega) hsz4).mono ?_
                rintro e W3 ⟨rfl, hI5, b5, -⟩
                go_wp2_with fail
                go_roundg g'
                case measure => omega
                case rel => exact ⟨i + M, _, by simp, hI5, hb4.trans b5, HS2, by rw [List.length_append]; omega, by omega, by omega⟩
              · have t7 : ((R : Int) == 65533) = false := by rw [beq_eq_false_iff_ne]; omega
                go_wp2_with fail
                refine (c_rune w.heap.size acc (R : Int) (by omega) (by omega) _ hI4 (by omega) hsz4).mono ?_
                rintro e W3 ⟨rfl, hI5, b5, -⟩
                go_wp2_with fail
                go_roundg g'
                case measure => omega
                case rel => exact ⟨i + M, _, by simp, hI5, hb4.trans b5, HS2, by rw [List.length_append]; omega, by omega, by omega⟩
      · obtain rfl : i = s.size := by omega
        have HR : Hid (A = ([], s.size, 3)) := Lib.hid (by
          have := HS.out 1 (by rw [← size_len, List.drop_length]; decide)
          rw [← this, ← size_len, List.drop_length]; rfl)
        have tl : decide ((s.size : Int) < (s.size : Int)) = false := decide_eq_false (by omega)
        clear HS
        go_wp2_with fail
        go_ret3
        exact ⟨by rw [← HANS.out, HR.out]; rfl, hbx⟩
  · rw [if_pos h4] at hANS
    have HA := Lib.hid hANS
    have t4 : ((s[a].toNat : Int) != 34) = true := by
      rw [bne_iff_ne]; intro e; exact h4 (UInt8.toNat_inj.1 (show s[a].toNat = 34 by omega))
    clear hANS
    go_enter Tryd.func12, Tryd.ntmps12
    go_wp2_with fail
    go_ret3
    exact ⟨by rw [← HA.out]; rfl, Below.refl _ _⟩
end Go.Proofs.YtjkhihdghjoneaaDoor
