/- What cut, two and Asked of the reference of ranges return. -/
import Derived.Test.YtgaojfebmcmpaaaGreatDoorRangesRef
namespace Go.Proofs.YtgaojfebmcmpaaaGreatDoor
open Go.RowKit

theorem upTo_at (c : UInt8) (l : List UInt8) (k : Nat) (hk : k < l.length) (h : ∀ j (hj : j < l.length), j < k → l[j] ≠ c) (hc : l[k] = c) : upTo c l = l.take k ∧ hasB c l = true ∧ behind c l = l.drop (k + 1) := by
  have e : upTo c l = l.take k := by
    unfold upTo
    conv => lhs; rw [← List.take_append_drop k l]
    rw [List.takeWhile_append_of_pos (by
      intro x hx
      obtain ⟨j, hj, rfl⟩ := List.getElem_of_mem hx
      rw [List.length_take] at hj
      rw [List.getElem_take]
      have := h j (by omega) (by omega)
      simpa using this)]
    rw [List.drop_eq_getElem_cons hk, List.takeWhile_cons_of_neg (by simp [hc]), List.append_nil]
  have hl : (upTo c l).length = k := by rw [e, List.length_take]; omega
  refine ⟨e, ?_, ?_⟩
  · unfold hasB; rw [hl]; exact decide_eq_true hk
  · unfold behind; rw [hl]
theorem upTo_none (c : UInt8) (l : List UInt8) (h : ∀ j (hj : j < l.length), l[j] ≠ c) : hasB c l = false := by
  have e : upTo c l = l := by
    unfold upTo
    have := @List.takeWhile_append_of_pos _ (fun x => x != c) l [] (by
      intro x hx
      obtain ⟨j, hj, rfl⟩ := List.getElem_of_mem hx
      simpa using h j hj)
    simpa using this
  unfold hasB; rw [e]; exact decide_eq_false (Nat.lt_irrefl _)
set_option maxRecDepth 100000 in
set_option maxHeartbeats 1000000 in
theorem ref_cut (s : ByteArray) (c : UInt8) (w : World) (hs : s.size ≤ 1000000) :
    Calls Tryz.prog 120 #[.string s, .int .u8 (c.toNat : Int)] w fun e w' => e = .returned (.tuple #[.string (bs (if hasB c s.data.toList = true then upTo c s.data.toList else [])), .string (bs (if hasB c s.data.toList = true then behind c s.data.toList else [])), .bool (hasB c s.data.toList)]) ∧ Below w.heap.size w w' := by
  obtain ⟨ANS, hANS⟩ : ∃ ANS, Ending.returned (.tuple #[.string (bs (if hasB c s.data.toList = true then upTo c s.data.toList else [])), .string (bs (if hasB c s.data.toList = true then behind c s.data.toList else [])), .bool (hasB c s.data.toList)]) = ANS := ⟨_, rfl⟩
  rw [hANS]
  have HANS := Lib.hid hANS
  clear hANS
  go_enter Tryz.func120, Tryz.ntmps120
  go_wp2_with fail
  go_loopg [7] s.size (fun gk s7 wx => ∃ k : Nat, s7 = .int .i64 (k : Int) ∧ wx = w ∧ k + gk = s.size ∧ Hid (∀ j (hj : j < s.data.toList.length), j < k → s.data.toList[j] ≠ c))
  case atStart => exact ⟨0, by simp, rfl, by omega, Lib.hid (fun j hj h => absurd h (Nat.not_lt_zero _))⟩
  case round =>
    obtain ⟨k, rfl, rfl, hgk, HK⟩ := hrel
    by_cases hk : k < s.size
    · have tk : decide ((k : Int) < (s.size : Int)) = true := decide_eq_true (by omega)
      have hge : s.data.toList[k]'(by rw [size_len]; exact hk) = s[k] := rfl
      by_cases hc : s[k] = c
      · have HR := Lib.hid (upTo_at c s.data.toList k (by rw [size_len]; exact hk) HK.out (by rw [hge]; exact hc))
        have te : ((s[k].toNat : Int) == (c.toNat : Int)) = true := by rw [hc, beq_iff_eq]
        have HX : Hid (s.extract 0 k = bs (upTo c s.data.toList)) := Lib.hid (by rw [extract_bs, List.drop_zero, HR.out.1])
        have HY : Hid (s.extract (k + 1) s.size = bs (behind c s.data.toList)) := Lib.hid (by rw [extract_bs, ← size_len s, List.take_length, HR.out.2.2])
        clear hc hge
        go_wp2_with fail
        go_quiet (fail)
        go_wp2_with fail
        go_ret3
        refine ⟨?_, below_drewN (Below.refl _ _) _⟩
        rw [← HANS.out, HR.out.2.1, if_pos rfl, if_pos rfl, ← HX.out, ← HY.out]; rfl
      · have te : ((s[k].toNat : Int) == (c.toNat : Int)) = false := by
          rw [beq_eq_false_iff_ne]; intro e; exact hc (UInt8.toNat_inj.1 (by omega))
        have HK2 : Hid (∀ j (hj : j < s.data.toList.length), j < k + 1 → s.data.toList[j] ≠ c) := Lib.hid (fun j hj h => by
          by_cases e : j = k
          · subst e; rw [hge]; exact hc
          · exact HK.out j hj (by omega))
        obtain ⟨g', rfl⟩ : ∃ g', gk = g' + 1 := ⟨gk - 1, by omega⟩
        clear hc hge
        go_wp2_with fail
        go_roundg g'
        case measure => omega
        case rel => exact ⟨k + 1, by simp, rfl, by omega, HK2⟩
    · obtain rfl : k = s.size := by omega
      have tk : decide ((s.size : Int) < (s.size : Int)) = false := decide_eq_false (by omega)
      have HR := Lib.hid (upTo_none c s.data.toList (fun j hj => HK.out j hj (by rw [size_len] at hj; exact hj)))
      go_wp2_with fail
      go_ret3
      refine ⟨?_, Below.refl _ _⟩
      rw [← HANS.out, HR.out]; rfl
theorem ref_cutAt (s : ByteArray) (c : UInt8) (n : Int) (hn : n = (c.toNat : Int)) (w : World) (hs : s.size ≤ 1000000) :
    Calls Tryz.prog 120 #[.string s, .int .u8 n] w fun e w' => e = .returned (.tuple #[.string (bs (if hasB c s.data.toList = true then upTo c s.data.toList else [])), .string (bs (if hasB c s.data.toList = true then behind c s.data.toList else [])), .bool (hasB c s.data.toList)]) ∧ Below w.heap.size w w' := by
  subst hn; exact ref_cut s c w hs
theorem load_rrange (w : World) (b : Nat) (t : TypeId) (x y : Value) (h : w.heap[b]? = some (.cells #[x, y] t (0, 0))) : (loadVar 23 ⟨b, 0, none⟩).run Tryz.prog w = .ok (.agg #[x, y]) w :=
  run_loadVar_row w b t 23 #[x, y] (0, 0) _ h Tryz.underlying23 rfl (by kernel_rfl)
/-- two numbers, if both are -/
def twoA (a b : List UInt8) : Nat := if twoE a b = 0 then numV a else 0
def twoB (a b : List UInt8) : Nat := if twoE a b = 0 then numV b else 0
set_option maxRecDepth 100000 in
set_option maxHeartbeats 1000000 in
theorem ref_two (a b : ByteArray) (w : World) (ha : a.size ≤ 1000000) (hb : b.size ≤ 1000000) :
    Calls Tryz.prog 121 #[.string a, .string b] w fun e w' => e = .returned (.tuple #[.agg #[.int .i64 (twoA a.data.toList b.data.toList : Nat), .int .i64 (twoB a.data.toList b.data.toList : Nat)], .int .i64 (twoE a.data.toList b.data.toList : Nat)]) ∧ Below w.heap.size w w' := by
  have HN := Lib.hid (fun w => ref_number a w (by omega))
  have HM := Lib.hid (fun w => ref_number b w (by omega))
  obtain ⟨A, hA⟩ : ∃ A, a.data.toList = A := ⟨_, rfl⟩
  obtain ⟨B, hB⟩ : ∃ B, b.data.toList = B := ⟨_, rfl⟩
  rw [hA] at HN
  rw [hB] at HM
  rw [hA, hB]
  clear hA hB
  by_cases h1 : numE A = 0
  · rw [h1] at HN
    by_cases h2 : numE B = 0
    · rw [h2] at HM
      have HR : Hid (twoE A B = 0 ∧ twoA A B = numV A ∧ twoB A B = numV B) := Lib.hid (by
        have e : twoE A B = 0 := by unfold twoE; rw [if_neg (fun h => h h1)]; exact h2
        unfold twoA twoB; rw [e]; exact ⟨rfl, rfl, rfl⟩)
      obtain ⟨k0, k1, f0, f1⟩ := two_of (heap_alloc_new w (.cells #[.int .i64 0, .int .i64 0] 23))
      clear h1 h2
      go_enter Tryz.func121, Tryz.ntmps121
      go_wp2_with fail
      refine (HN.out _).mono ?_
      rintro e w' ⟨rfl, rfl⟩
      go_wp2_with fail
      refine (HM.out _).mono ?_
      rintro e w' ⟨rfl, rfl⟩
      go_wp2_with fail
      refine ret_field (b := w.heap.size) rfl (load_rrange _ _ _ _ _ (heap_alloc_new w _)) rfl rfl rfl ?_
      refine ⟨?_, below_agg2 w _ _ _⟩
      rw [HR.out.1, HR.out.2.1, HR.out.2.2]; rfl
    · have HR : Hid (twoE A B = numE B ∧ twoA A B = 0 ∧ twoB A B = 0) := Lib.hid (by
        have e : twoE A B = numE B := by unfold twoE; rw [if_neg (fun h => h h1)]
        unfold twoA twoB; rw [e, if_neg h2, if_neg h2]; exact ⟨rfl, rfl, rfl⟩)
      have tz : ((numE B : Int) != 0) = true := by rw [bne_iff_ne]; omega
      clear h1 h2
      go_enter Tryz.func121, Tryz.ntmps121
      go_wp2_with fail
      refine (HN.out _).mono ?_
      rintro e w' ⟨rfl, rfl⟩
      go_wp2_with fail
      refine (HM.out _).mono ?_
      rintro e w' ⟨rfl, rfl⟩
      go_wp2_with fail
      refine ret_field (b := w.heap.size) rfl (load_rrange _ _ _ _ _ (heap_alloc_new w _)) rfl rfl rfl ?_
      refine ⟨?_, below_agg2 w _ _ _⟩
      rw [HR.out.1, HR.out.2.1, HR.out.2.2]; rfl
  · have HR : Hid (twoE A B = numE A ∧ twoA A B = 0 ∧ twoB A B = 0) := Lib.hid (by
      have e : twoE A B = numE A := by unfold twoE; rw [if_pos h1]
      unfold twoA twoB; rw [e, if_neg h1, if_neg h1]; exact ⟨rfl, rfl, rfl⟩)
    have tz : ((numE A : Int) != 0) = true := by rw [bne_iff_ne]; omega
    clear h1
    go_enter Tryz.func121, Tryz.ntmps121
    go_wp2_with fail
    refine (HN.out _).mono ?_
    rintro e w' ⟨rfl, rfl⟩
    go_wp2_with fail
    refine ret_field (b := w.heap.size) rfl (load_rrange _ _ _ _ _ (heap_alloc_new w _)) rfl rfl rfl ?_
    refine ⟨?_, below_agg2 w _ _ _⟩
    rw [HR.out.1, HR.out.2.1, HR.out.2.2]; rfl

theorem prefix_asks (l : List UInt8) (h : 6 ≤ l.length) : asksL.isPrefixOf l = (l.take 6 == asksL) := by
  rw [Bool.eq_iff_iff, beq_iff_eq, List.isPrefixOf_iff_prefix, List.prefix_iff_eq_take]
  exact ⟨fun e => e.symm, fun e => e.symm⟩
theorem prefix_short (l : List UInt8) (h : l.length < 6) : asksL.isPrefixOf l = false := by
  rw [Bool.eq_false_iff]
  intro hp
  have := (List.isPrefixOf_iff_prefix.1 hp).length_le
  have e : asksL.length = 6 := rfl
  omega
set_option maxRecDepth 100000 in
set_option maxHeartbeats 2000000 in
theorem ref_asked (s : ByteArray) (w : World) (hs : s.size ≤ 1000000) :
    Calls Tryz.prog 69 #[.string s] w fun e w' => e = .returned (.tuple #[.agg #[.int .i64 (askedA s.data.toList), .int .i64 (askedB s.data.toList)], .int .i64 (askedE s.data.toList : Nat)]) ∧ Below w.heap.size w w' := by
  obtain ⟨L, hL⟩ : ∃ L, s.data.toList = L := ⟨_, rfl⟩
  have hLs : L.length = s.size := by rw [← hL, size_len]
  rw [hL]
  by_cases h6 : s.size < 6
  · have HA : Hid (askedE L = 4 ∧ askedA L = 0 ∧ askedB L = 0) := Lib.hid (by
      have : askedE L = 4 := by unfold askedE askedOk; rw [prefix_short L (by omega)]; rfl
      unfold askedA askedB; rw [this]; exact ⟨rfl, rfl, rfl⟩)
    have t1 : decide ((s.size : Int) < 6) = true := decide_eq_true (by omega)
    clear h6 hL hLs
    go_enter Tryz.func69, Tryz.ntmps69
    go_wp2_with fail
    refine ret_field (b := w.heap.size) rfl (load_rrange _ _ _ _ _ (heap_alloc_new w _)) rfl rfl rfl ?_
    refine ⟨?_, below_agg2 w _ _ _⟩
    rw [HA.out.1, HA.out.2.1, HA.out.2.2]; rfl
  have t1 : decide ((s.size : Int) < 6) = false := decide_eq_false (by omega)
  have h6' : 6 ≤ s.size := by omega
  have hpe : ((s.extract 0 6).toList == [98, 121, 116, 101, 115, 61]) = asksL.isPrefixOf L := by
    rw [extract_bs, List.drop_zero, ByteArray.toList_eq, bs_data, hL, prefix_asks L (by omega)]; rfl
  cases hp : asksL.isPrefixOf L with
  | false =>
    have HA : Hid (askedE L = 4 ∧ askedA L = 0 ∧ askedB L = 0) := Lib.hid (by
      have : askedE L = 4 := by unfold askedE askedOk; rw [hp]; rfl
      unfold askedA askedB; rw [this]; exact ⟨rfl, rfl, rfl⟩)
    rw [hp] at hpe
    clear h6 hL hLs hp
    go_enter Tryz.func69, Tryz.ntmps69
    go_wp2_with fail
    refine ret_field (b := w.heap.size) rfl (load_rrange _ _ _ _ _ (heap_alloc_new w _)) rfl rfl rfl ?_
    refine ⟨?_, below_agg2 w _ _ _⟩
    rw [HA.out.1, HA.out.2.1, HA.out.2.2]; rfl
  | true =>
    rw [hp] at hpe
    have HC := Lib.hid (fun w => ref_cutAt (s.extract 6 s.size) 45 45 rfl w (by rw [ByteArray.size_extract]; omega))
    have hd : (s.extract 6 s.size).data.toList = L.drop 6 := by rw [extract_bs, bs_data, ← size_len s, List.take_length, hL]
    rw [hd] at HC
    cases hB : hasB 45 (L.drop 6) with
    | false =>
      rw [hB] at HC
      have HA : Hid (askedE L = 4 ∧ askedA L = 0 ∧ askedB L = 0) := Lib.hid (by
        have : askedE L = 4 := by unfold askedE askedOk; rw [hB, Bool.and_false]; rfl
        unfold askedA askedB; rw [this]; exact ⟨rfl, rfl, rfl⟩)
      clear h6 hL hLs hp hB hd
      go_enter Tryz.func69, Tryz.ntmps69
      go_wp2_with fail
      refine (HC.out _).mono ?_
      rintro e w1 ⟨rfl, hb1⟩
      obtain ⟨k0, k1, f0, f1⟩ := two_of (two_box hb1)
      have HB1 := Lib.hid hb1
      clear hb1
      go_wp2_with fail
      refine ret_field (b := w.heap.size) (x := .int .i64 0) (y := .int .i64 0) rfl (load_rrange _ _ _ _ _ (two_set (two_box HB1.out) _ _)) rfl rfl rfl ?_
      refine ⟨?_, two_below (bstep (below_agg2 w _ _ _) HB1.out) _ (Nat.le_refl _) _ _⟩
      rw [HA.out.1, HA.out.2.1, HA.out.2.2]; rfl
    | true =>
      rw [hB, if_pos rfl, if_pos rfl] at HC
      obtain ⟨F, hF⟩ : ∃ F, upTo 45 (L.drop 6) = F := ⟨_, rfl⟩
      obtain ⟨T, hT⟩ : ∃ T, behind 45 (L.drop 6) = T := ⟨_, rfl⟩
      have hFl : F.length ≤ 1000000 := by rw [← hF]; have := upTo_le 45 (L.drop 6); rw [List.length_drop] at this; omega
      have hTl : T.length ≤ 1000000 := by rw [← hT]; unfold behind; rw [List.length_drop, List.length_drop]; omega
      have hA : askedE L = if twoE F T ≠ 0 then twoE F T else rErr (numV F : Nat) (numV T : Nat) := by
        unfold askedE askedOk; rw [hB, hp]
        rw [if_neg (by decide)]
        unfold askedF askedT
        rw [hF, hT]
      have hAV : askedF L = numV F ∧ askedT L = numV T := by unfold askedF askedT; rw [hF, hT]; exact ⟨rfl, rfl⟩
      rw [hF, hT] at HC
      have HT := Lib.hid (fun w => ref_two (bs F) (bs T) w (by rw [bs_size]; exact hFl) (by rw [bs_size]; exact hTl))
      rw [bs_data, bs_data] at HT
      have hFm := numV_le' F
      have hTm := numV_le' T
      by_cases hz : twoE F T = 0
      · have hA' : askedE L = rErr (numV F : Nat) (numV T : Nat) := by rw [hA, if_neg (fun h => h hz)]
        have ea : twoA F T = numV F ∧ twoB F T = numV T := by unfold twoA twoB; rw [hz]; exact ⟨rfl, rfl⟩
        rw [hz, ea.1, ea.2] at HT
        obtain ⟨P, hP⟩ : ∃ P, numV F = P := ⟨_, rfl⟩
        obtain ⟨Q, hQ⟩ : ∃ Q, numV T = Q := ⟨_, rfl⟩
        rw [hP] at HT hA' hAV hFm
        rw [hQ] at HT hA' hAV hTm
        have HK := Lib.hid (fun w => ref_rcheck (P : Int) (Q : Int) w)
        by_cases hr : rErr (P : Int) (Q : Int) = 0
        · have HR : Hid (askedE L = 0 ∧ askedA L = (P : Int) ∧ askedB L = (Q : Int)) := Lib.hid (by
            have e1 : askedE L = 0 := by rw [hA', hr]
            refine ⟨e1, ?_, ?_⟩
            · unfold askedA; rw [if_pos e1, hAV.1]
            · unfold askedB; rw [if_pos e1, hAV.2])
          rw [hr] at HK
          clear h6 hL hLs hp hB hd hA hA' hAV hF hT hr hz ea hP hQ
          go_enter Tryz.func69, Tryz.ntmps69
          go_wp2_with fail
          refine (HC.out _).mono ?_
          rintro e w1 ⟨rfl, hb1⟩
          go_wp2_with fail
          refine (HT.out _).mono ?_
          rintro e w2 ⟨rfl, hb2⟩
          have hb2' := bstep hb1 hb2
          have hbR : Below w2.heap.size w2 (w2.alloc (.cells #[.int .i64 (P : Int), .int .i64 (Q : Int)] 23)) := below_agg2 _ _ _ _
          clear hb1 hb2
          go_wp2_with fail
          refine (HK.out _).mono ?_
          rintro e w3 ⟨rfl, hb3⟩
          obtain ⟨j0, j1⟩ := box_two hb3
          have HB3 := Lib.hid (bstep hb2' (bstep hbR hb3))
          obtain ⟨k0, k1, f0, f1⟩ := two_of (two_box HB3.out)
          clear hb2' hb3 hbR
          go_wp2_with fail
          refine ret_field (b := w.heap.size) (x := .int .i64 (P : Int)) (y := .int .i64 (Q : Int)) rfl (load_rrange _ _ _ _ _ (two_set (two_box HB3.out) _ _)) rfl rfl rfl ?_
          refine ⟨?_, two_below (bstep (below_agg2 w _ _ _) HB3.out) _ (Nat.le_refl _) _ _⟩
          rw [HR.out.1, HR.out.2.1, HR.out.2.2]; rfl
        · have h8 := (rErr_no _ _ hr).1
          have HR : Hid (askedE L = 8 ∧ askedA L = 0 ∧ askedB L = 0) := Lib.hid (by
            have e1 : askedE L = 8 := by rw [hA', h8]
            unfold askedA askedB; rw [e1]; exact ⟨rfl, rfl, rfl⟩)
          rw [h8] at HK
          clear h6 hL hLs hp hB hd hA hA' hAV hF hT hr hz ea h8 hP hQ
          go_enter Tryz.func69, Tryz.ntmps69
          go_wp2_with fail
          refine (HC.out _).mono ?_
          rintro e w1 ⟨rfl, hb1⟩
          go_wp2_with fail
          refine (HT.out _).mono ?_
          rintro e w2 ⟨rfl, hb2⟩
          have hb2' := bstep hb1 hb2
          have hbR : Below w2.heap.size w2 (w2.alloc (.cells #[.int .i64 (P : Int), .int .i64 (Q : Int)] 23)) := below_agg2 _ _ _ _
          clear hb1 hb2
          go_wp2_with fail
          refine (HK.out _).mono ?_
          rintro e w3 ⟨rfl, hb3⟩
          have HB3 := Lib.hid (bstep hb2' (bstep hbR hb3))
          obtain ⟨k0, k1, f0, f1⟩ := two_of (two_box HB3.out)
          clear hb2' hb3 hbR
          go_wp2_with fail
          refine ret_field (b := w.heap.size) (x := .int .i64 0) (y := .int .i64 0) rfl (load_rrange _ _ _ _ _ (two_set (two_box HB3.out) _ _)) rfl rfl rfl ?_
          refine ⟨?_, two_below (bstep (below_agg2 w _ _ _) HB3.out) _ (Nat.le_refl _) _ _⟩
          rw [HR.out.1, HR.out.2.1, HR.out.2.2]; rfl
      · have HR : Hid (askedE L = twoE F T ∧ askedA L = 0 ∧ askedB L = 0) := Lib.hid (by
          have e1 : askedE L = twoE F T := by rw [hA, if_pos hz]
          unfold askedA askedB; rw [e1, if_neg hz, if_neg hz]; exact ⟨rfl, rfl, rfl⟩)
        have tz : ((twoE F T : Int) != 0) = true := by rw [bne_iff_ne]; omega
        have tz2 : ((twoE F T : Int) == 0) = false := by rw [beq_eq_false_iff_ne]; omega
        generalize twoE F T = Z at HR tz tz2 HT
        generalize twoA F T = P at HT
        generalize twoB F T = Q at HT
        clear h6 hL hLs hp hB hd hA hAV hF hT hz
        go_enter Tryz.func69, Tryz.ntmps69
        go_wp2_with fail
        refine (HC.out _).mono ?_
        rintro e w1 ⟨rfl, hb1⟩
        go_wp2_with fail
        refine (HT.out _).mono ?_
        rintro e w2 ⟨rfl, hb2⟩
        have hb2' := bstep hb1 hb2
        have hbR : Below w2.heap.size w2 (w2.alloc (.cells #[.int .i64 (P : Int), .int .i64 (Q : Int)] 23)) := below_agg2 _ _ _ _
        have HB3 := Lib.hid (bstep hb2' hbR)
        obtain ⟨k0, k1, f0, f1⟩ := two_of (two_box HB3.out)
        clear hb1 hb2 hb2' hbR
        go_wp2_with fail
        refine ret_field (b := w.heap.size) (x := .int .i64 0) (y := .int .i64 0) rfl (load_rrange _ _ _ _ _ (two_set (two_box HB3.out) _ _)) rfl rfl rfl ?_
        refine ⟨?_, two_below (bstep (below_agg2 w _ _ _) HB3.out) _ (Nat.le_refl _) _ _⟩
        rw [HR.out.1, HR.out.2.1, HR.out.2.2]; rfl
end Go.Proofs.YtgaojfebmcmpaaaGreatDoor
