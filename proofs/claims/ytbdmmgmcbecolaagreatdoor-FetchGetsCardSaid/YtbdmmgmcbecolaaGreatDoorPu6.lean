/- What cut, two and Asked of the reference of ranges return. What path and host of package asking, and of its reference, return. What Path and Host of the reference of asking return. Results that lie in a block. What Check of package asking, and of its reference, and the law's Own return. What Print of package asking returns. What Print of the reference of asking returns. What first of package asking returns. -/
import Derived.Test.YtbdmmgmcbecolaaGreatDoorPu5
import Derived.Deep.RegionWith
import Derived.Deep.RegionHeld3
import Derived.Deep.AppendLies
set_option linter.unusedVariables false
set_option linter.unusedSimpArgs false
namespace Go.Proofs.YtbdmmgmcbecolaaGreatDoor
open Go.RowKit

theorem upTo_at (c : UInt8) (l : List UInt8) (k : Nat) (hk : k < l.length) (h : ∀ j (hj : j < l.length), j < k → l[j] ≠ c) (hc : l[k] = c) : upTo c l = l.take k ∧ hasB c l = true ∧ behind c l = l.drop (k + 1) := by
  have e : upTo c l = l.take k := by
    unfold upTo
    conv => lhs; rw [← List.take_append_drop k l]
    rw [List.takeWhile_append_of_pos (by
      intro x hx
      obtain ⟨j, hj, rfl⟩ := List.getElem_of_mem hx
      rw [List.length_take] at hj
      rw [List.getElem_take]
      have := h j (by omega) (by omega)
      simpa using this)]
    rw [List.drop_eq_getElem_cons hk, List.takeWhile_cons_of_neg (by simp [hc]), List.append_nil]
  have hl : (upTo c l).length = k := by rw [e, List.length_take]; omega
  refine ⟨e, ?_, ?_⟩
  · unfold hasB; rw [hl]; exact decide_eq_true hk
  · unfold behind; rw [hl]
theorem upTo_none (c : UInt8) (l : List UInt8) (h : ∀ j (hj : j < l.length), l[j] ≠ c) : hasB c l = false := by
  have e : upTo c l = l := by
    unfold upTo
    have := @List.takeWhile_append_of_pos _ (fun x => x != c) l [] (by
      intro x hx
      obtain ⟨j, hj, rfl⟩ := List.getElem_of_mem hx
      simpa using h j hj)
    simpa using this
  unfold hasB; rw [e]; exact decide_eq_false (Nat.lt_irrefl _)
set_option maxRecDepth 100000 in
set_option maxHeartbeats 1000000 in
theorem ref_cut (s : ByteArray) (c : UInt8) (w : World) (hs : s.size ≤ 1000000) :
    Calls Tryz.prog 57 #[.string s, .int .u8 (c.toNat : Int)] w fun e w' => e = .returned (.tuple #[.string (bs (if hasB c s.data.toList = true then upTo c s.data.toList else [])), .string (bs (if hasB c s.data.toList = true then behind c s.data.toList else [])), .bool (hasB c s.data.toList)]) ∧ Below w.heap.size w w' := by
  obtain ⟨ANS, hANS⟩ : ∃ ANS, Ending.returned (.tuple #[.string (bs (if hasB c s.data.toList = true then upTo c s.data.toList else [])), .string (bs (if hasB c s.data.toList = true then behind c s.data.toList else [])), .bool (hasB c s.data.toList)]) = ANS := ⟨_, rfl⟩
  rw [hANS]
  have HANS := Lib.hid hANS
  clear hANS
  go_enter Tryz.func57, Tryz.ntmps57
  go_wp2_with fail
  go_loopg [7] s.size (fun gk s7 wx => ∃ k : Nat, s7 = .int .i64 (k : Int) ∧ wx = w ∧ k + gk = s.size ∧ Hid (∀ j (hj : j < s.data.toList.length), j < k → s.data.toList[j] ≠ c))
  case atStart => exact ⟨0, by simp, rfl, by omega, Lib.hid (fun j hj h => absurd h (Nat.not_lt_zero _))⟩
  case round =>
    obtain ⟨k, rfl, rfl, hgk, HK⟩ := hrel
    by_cases hk : k < s.size
    · have tk : decide ((k : Int) < (s.size : Int)) = true := decide_eq_true (by omega)
      have hge : s.data.toList[k]'(by rw [size_len]; exact hk) = s[k] := rfl
      by_cases hc : s[k] = c
      · have HR := Lib.hid (upTo_at c s.data.toList k (by rw [size_len]; exact hk) HK.out (by rw [hge]; exact hc))
        have te : ((s[k].toNat : Int) == (c.toNat : Int)) = true := by rw [hc, beq_iff_eq]
        have HX : Hid (s.extract 0 k = bs (upTo c s.data.toList)) := Lib.hid (by rw [extract_bs, List.drop_zero, HR.out.1])
        have HY : Hid (s.extract (k + 1) s.size = bs (behind c s.data.toList)) := Lib.hid (by rw [extract_bs, ← size_len s, List.take_length, HR.out.2.2])
        clear hc hge
        go_wp2_with fail
        go_quiet (fail)
        go_wp2_with fail
        go_ret3
        refine ⟨?_, below_drewN (Below.refl _ _) _⟩
        rw [← HANS.out, HR.out.2.1, if_pos rfl, if_pos rfl, ← HX.out, ← HY.out]; rfl
      · have te : ((s[k].toNat : Int) == (c.toNat : Int)) = false := by
          rw [beq_eq_false_iff_ne]; intro e; exact hc (UInt8.toNat_inj.1 (by omega))
        have HK2 : Hid (∀ j (hj : j < s.data.toList.length), j < k + 1 → s.data.toList[j] ≠ c) := Lib.hid (fun j hj h => by
          by_cases e : j = k
          · subst e; rw [hge]; exact hc
          · exact HK.out j hj (by omega))
        obtain ⟨g', rfl⟩ : ∃ g', gk = g' + 1 := ⟨gk - 1, by omega⟩
        clear hc hge
        go_wp2_with fail
        go_roundg g'
        case measure => omega
        case rel => exact ⟨k + 1, by simp, rfl, by omega, HK2⟩
    · obtain rfl : k = s.size := by omega
      have tk : decide ((s.size : Int) < (s.size : Int)) = false := decide_eq_false (by omega)
      have HR := Lib.hid (upTo_none c s.data.toList (fun j hj => HK.out j hj (by rw [size_len] at hj; exact hj)))
      go_wp2_with fail
      go_ret3
      refine ⟨?_, Below.refl _ _⟩
      rw [← HANS.out, HR.out]; rfl
theorem ref_cutAt (s : ByteArray) (c : UInt8) (n : Int) (hn : n = (c.toNat : Int)) (w : World) (hs : s.size ≤ 1000000) :
    Calls Tryz.prog 57 #[.string s, .int .u8 n] w fun e w' => e = .returned (.tuple #[.string (bs (if hasB c s.data.toList = true then upTo c s.data.toList else [])), .string (bs (if hasB c s.data.toList = true then behind c s.data.toList else [])), .bool (hasB c s.data.toList)]) ∧ Below w.heap.size w w' := by
  subst hn; exact ref_cut s c w hs
theorem load_rrange (w : World) (b : Nat) (t : TypeId) (x y : Value) (h : w.heap[b]? = some (.cells #[x, y] t (0, 0))) : (loadVar 23 ⟨b, 0, none⟩).run Tryz.prog w = .ok (.agg #[x, y]) w :=
  run_loadVar_row w b t 23 #[x, y] (0, 0) _ h Tryz.underlying23 rfl (by kernel_rfl)
/-- two numbers, if both are -/
def twoA (a b : List UInt8) : Nat := if twoE a b = 0 then numV a else 0
def twoB (a b : List UInt8) : Nat := if twoE a b = 0 then numV b else 0
set_option maxRecDepth 100000 in
set_option maxHeartbeats 1000000 in
theorem ref_two (a b : ByteArray) (w : World) (ha : a.size ≤ 1000000) (hb : b.size ≤ 1000000) :
    Calls Tryz.prog 58 #[.string a, .string b] w fun e w' => e = .returned (.tuple #[.agg #[.int .i64 (twoA a.data.toList b.data.toList : Nat), .int .i64 (twoB a.data.toList b.data.toList : Nat)], .int .i64 (twoE a.data.toList b.data.toList : Nat)]) ∧ Below w.heap.size w w' := by
  have HN := Lib.hid (fun w => ref_number a w (by omega))
  have HM := Lib.hid (fun w => ref_number b w (by omega))
  obtain ⟨A, hA⟩ : ∃ A, a.data.toList = A := ⟨_, rfl⟩
  obtain ⟨B, hB⟩ : ∃ B, b.data.toList = B := ⟨_, rfl⟩
  rw [hA] at HN
  rw [hB] at HM
  rw [hA, hB]
  clear hA hB
  by_cases h1 : numE A = 0
  · rw [h1] at HN
    by_cases h2 : numE B = 0
    · rw [h2] at HM
      have HR : Hid (twoE A B = 0 ∧ twoA A B = numV A ∧ twoB A B = numV B) := Lib.hid (by
        have e : twoE A B = 0 := by unfold twoE; rw [if_neg (fun h => h h1)]; exact h2
        unfold twoA twoB; rw [e]; exact ⟨rfl, rfl, rfl⟩)
      obtain ⟨k0, k1, f0, f1⟩ := two_of (heap_alloc_new w (.cells #[.int .i64 0, .int .i64 0] 23))
      clear h1 h2
      go_enter Tryz.func58, Tryz.ntmps58
      go_wp2_with fail
      refine (HN.out _).mono ?_
      rintro e w' ⟨rfl, rfl⟩
      go_wp2_with fail
      refine (HM.out _).mono ?_
      rintro e w' ⟨rfl, rfl⟩
      go_wp2_with fail
      refine ret_field (b := w.heap.size) rfl (load_rrange _ _ _ _ _ (heap_alloc_new w _)) rfl rfl rfl ?_
      refine ⟨?_, below_agg2 w _ _ _⟩
      rw [HR.out.1, HR.out.2.1, HR.out.2.2]; rfl
    · have HR : Hid (twoE A B = numE B ∧ twoA A B = 0 ∧ twoB A B = 0) := Lib.hid (by
        have e : twoE A B = numE B := by unfold twoE; rw [if_neg (fun h => h h1)]
        unfold twoA twoB; rw [e, if_neg h2, if_neg h2]; exact ⟨rfl, rfl, rfl⟩)
      have tz : ((numE B : Int) != 0) = true := by rw [bne_iff_ne]; omega
      clear h1 h2
      go_enter Tryz.func58, Tryz.ntmps58
      go_wp2_with fail
      refine (HN.out _).mono ?_
      rintro e w' ⟨rfl, rfl⟩
      go_wp2_with fail
      refine (HM.out _).mono ?_
      rintro e w' ⟨rfl, rfl⟩
      go_wp2_with fail
      refine ret_field (b := w.heap.size) rfl (load_rrange _ _ _ _ _ (heap_alloc_new w _)) rfl rfl rfl ?_
      refine ⟨?_, below_agg2 w _ _ _⟩
      rw [HR.out.1, HR.out.2.1, HR.out.2.2]; rfl
  · have HR : Hid (twoE A B = numE A ∧ twoA A B = 0 ∧ twoB A B = 0) := Lib.hid (by
      have e : twoE A B = numE A := by unfold twoE; rw [if_pos h1]
      unfold twoA twoB; rw [e, if_neg h1, if_neg h1]; exact ⟨rfl, rfl, rfl⟩)
    have tz : ((numE A : Int) != 0) = true := by rw [bne_iff_ne]; omega
    clear h1
    go_enter Tryz.func58, Tryz.ntmps58
    go_wp2_with fail
    refine (HN.out _).mono ?_
    rintro e w' ⟨rfl, rfl⟩
    go_wp2_with fail
    refine ret_field (b := w.heap.size) rfl (load_rrange _ _ _ _ _ (heap_alloc_new w _)) rfl rfl rfl ?_
    refine ⟨?_, below_agg2 w _ _ _⟩
    rw [HR.out.1, HR.out.2.1, HR.out.2.2]; rfl

theorem prefix_asks (l : List UInt8) (h : 6 ≤ l.length) : asksL.isPrefixOf l = (l.take 6 == asksL) := by
  rw [Bool.eq_iff_iff, beq_iff_eq, List.isPrefixOf_iff_prefix, List.prefix_iff_eq_take]
  exact ⟨fun e => e.symm, fun e => e.symm⟩
theorem prefix_short (l : List UInt8) (h : l.length < 6) : asksL.isPrefixOf l = false := by
  rw [Bool.eq_false_iff]
  intro hp
  have := (List.isPrefixOf_iff_prefix.1 hp).length_le
  have e : asksL.length = 6 := rfl
  omega
set_option maxRecDepth 100000 in
set_option maxHeartbeats 2000000 in
theorem ref_asked (s : ByteArray) (w : World) (hs : s.size ≤ 1000000) :
    Calls Tryz.prog 168 #[.string s] w fun e w' => e = .returned (.tuple #[.agg #[.int .i64 (askedA s.data.toList), .int .i64 (askedB s.data.toList)], .int .i64 (askedE s.data.toList : Nat)]) ∧ Below w.heap.size w w' := by
  obtain ⟨L, hL⟩ : ∃ L, s.data.toList = L := ⟨_, rfl⟩
  have hLs : L.length = s.size := by rw [← hL, size_len]
  rw [hL]
  by_cases h6 : s.size < 6
  · have HA : Hid (askedE L = 4 ∧ askedA L = 0 ∧ askedB L = 0) := Lib.hid (by
      have : askedE L = 4 := by unfold askedE askedOk; rw [prefix_short L (by omega)]; rfl
      unfold askedA askedB; rw [this]; exact ⟨rfl, rfl, rfl⟩)
    have t1 : decide ((s.size : Int) < 6) = true := decide_eq_true (by omega)
    clear h6 hL hLs
    go_enter Tryz.func168, Tryz.ntmps168
    go_wp2_with fail
    refine ret_field (b := w.heap.size) rfl (load_rrange _ _ _ _ _ (heap_alloc_new w _)) rfl rfl rfl ?_
    refine ⟨?_, below_agg2 w _ _ _⟩
    rw [HA.out.1, HA.out.2.1, HA.out.2.2]; rfl
  have t1 : decide ((s.size : Int) < 6) = false := decide_eq_false (by omega)
  have h6' : 6 ≤ s.size := by omega
  have hpe : ((s.extract 0 6).toList == [98, 121, 116, 101, 115, 61]) = asksL.isPrefixOf L := by
    rw [extract_bs, List.drop_zero, ByteArray.toList_eq, bs_data, hL, prefix_asks L (by omega)]; rfl
  cases hp : asksL.isPrefixOf L with
  | false =>
    have HA : Hid (askedE L = 4 ∧ askedA L = 0 ∧ askedB L = 0) := Lib.hid (by
      have : askedE L = 4 := by unfold askedE askedOk; rw [hp]; rfl
      unfold askedA askedB; rw [this]; exact ⟨rfl, rfl, rfl⟩)
    rw [hp] at hpe
    clear h6 hL hLs hp
    go_enter Tryz.func168, Tryz.ntmps168
    go_wp2_with fail
    refine ret_field (b := w.heap.size) rfl (load_rrange _ _ _ _ _ (heap_alloc_new w _)) rfl rfl rfl ?_
    refine ⟨?_, below_agg2 w _ _ _⟩
    rw [HA.out.1, HA.out.2.1, HA.out.2.2]; rfl
  | true =>
    rw [hp] at hpe
    have HC := Lib.hid (fun w => ref_cutAt (s.extract 6 s.size) 45 45 rfl w (by rw [ByteArray.size_extract]; omega))
    have hd : (s.extract 6 s.size).data.toList = L.drop 6 := by rw [extract_bs, bs_data, ← size_len s, List.take_length, hL]
    rw [hd] at HC
    cases hB : hasB 45 (L.drop 6) with
    | false =>
      rw [hB] at HC
      have HA : Hid (askedE L = 4 ∧ askedA L = 0 ∧ askedB L = 0) := Lib.hid (by
        have : askedE L = 4 := by unfold askedE askedOk; rw [hB, Bool.and_false]; rfl
        unfold askedA askedB; rw [this]; exact ⟨rfl, rfl, rfl⟩)
      clear h6 hL hLs hp hB hd
      go_enter Tryz.func168, Tryz.ntmps168
      go_wp2_with fail
      refine (HC.out _).mono ?_
      rintro e w1 ⟨rfl, hb1⟩
      obtain ⟨k0, k1, f0, f1⟩ := two_of (two_box hb1)
      have HB1 := Lib.hid hb1
      clear hb1
      go_wp2_with fail
      refine ret_field (b := w.heap.size) (x := .int .i64 0) (y := .int .i64 0) rfl (load_rrange _ _ _ _ _ (two_set (two_box HB1.out) _ _)) rfl rfl rfl ?_
      refine ⟨?_, two_below (bstep (below_agg2 w _ _ _) HB1.out) _ (Nat.le_refl _) _ _⟩
      rw [HA.out.1, HA.out.2.1, HA.out.2.2]; rfl
    | true =>
      rw [hB, if_pos rfl, if_pos rfl] at HC
      obtain ⟨F, hF⟩ : ∃ F, upTo 45 (L.drop 6) = F := ⟨_, rfl⟩
      obtain ⟨T, hT⟩ : ∃ T, behind 45 (L.drop 6) = T := ⟨_, rfl⟩
      have hFl : F.length ≤ 1000000 := by rw [← hF]; have := upTo_le 45 (L.drop 6); rw [List.length_drop] at this; omega
      have hTl : T.length ≤ 1000000 := by rw [← hT]; unfold behind; rw [List.length_drop, List.length_drop]; omega
      have hA : askedE L = if twoE F T ≠ 0 then twoE F T else rErr (numV F : Nat) (numV T : Nat) := by
        unfold askedE askedOk; rw [hB, hp]
        rw [if_neg (by decide)]
        unfold askedF askedT
        rw [hF, hT]
      have hAV : askedF L = numV F ∧ askedT L = numV T := by unfold askedF askedT; rw [hF, hT]; exact ⟨rfl, rfl⟩
      rw [hF, hT] at HC
      have HT := Lib.hid (fun w => ref_two (bs F) (bs T) w (by rw [bs_size]; exact hFl) (by rw [bs_size]; exact hTl))
      rw [bs_data, bs_data] at HT
      have hFm := numV_le' F
      have hTm := numV_le' T
      by_cases hz : twoE F T = 0
      · have hA' : askedE L = rErr (numV F : Nat) (numV T : Nat) := by rw [hA, if_neg (fun h => h hz)]
        have ea : twoA F T = numV F ∧ twoB F T = numV T := by unfold twoA twoB; rw [hz]; exact ⟨rfl, rfl⟩
        rw [hz, ea.1, ea.2] at HT
        obtain ⟨P, hP⟩ : ∃ P, numV F = P := ⟨_, rfl⟩
        obtain ⟨Q, hQ⟩ : ∃ Q, numV T = Q := ⟨_, rfl⟩
        rw [hP] at HT hA' hAV hFm
        rw [hQ] at HT hA' hAV hTm
        have HK := Lib.hid (fun w => ref_rcheck (P : Int) (Q : Int) w)
        by_cases hr : rErr (P : Int) (Q : Int) = 0
        · have HR : Hid (askedE L = 0 ∧ askedA L = (P : Int) ∧ askedB L = (Q : Int)) := Lib.hid (by
            have e1 : askedE L = 0 := by rw [hA', hr]
            refine ⟨e1, ?_, ?_⟩
            · unfold askedA; rw [if_pos e1, hAV.1]
            · unfold askedB; rw [if_pos e1, hAV.2])
          rw [hr] at HK
          clear h6 hL hLs hp hB hd hA hA' hAV hF hT hr hz ea hP hQ
          go_enter Tryz.func168, Tryz.ntmps168
          go_wp2_with fail
          refine (HC.out _).mono ?_
          rintro e w1 ⟨rfl, hb1⟩
          go_wp2_with fail
          refine (HT.out _).mono ?_
          rintro e w2 ⟨rfl, hb2⟩
          have hb2' := bstep hb1 hb2
          have hbR : Below w2.heap.size w2 (w2.alloc (.cells #[.int .i64 (P : Int), .int .i64 (Q : Int)] 23)) := below_agg2 _ _ _ _
          clear hb1 hb2
          go_wp2_with fail
          refine (HK.out _).mono ?_
          rintro e w3 ⟨rfl, hb3⟩
          obtain ⟨j0, j1⟩ := box_two hb3
          have HB3 := Lib.hid (bstep hb2' (bstep hbR hb3))
          obtain ⟨k0, k1, f0, f1⟩ := two_of (two_box HB3.out)
          clear hb2' hb3 hbR
          go_wp2_with fail
          refine ret_field (b := w.heap.size) (x := .int .i64 (P : Int)) (y := .int .i64 (Q : Int)) rfl (load_rrange _ _ _ _ _ (two_set (two_box HB3.out) _ _)) rfl rfl rfl ?_
          refine ⟨?_, two_below (bstep (below_agg2 w _ _ _) HB3.out) _ (Nat.le_refl _) _ _⟩
          rw [HR.out.1, HR.out.2.1, HR.out.2.2]; rfl
        · have h8 := (rErr_no _ _ hr).1
          have HR : Hid (askedE L = 8 ∧ askedA L = 0 ∧ askedB L = 0) := Lib.hid (by
            have e1 : askedE L = 8 := by rw [hA', h8]
            unfold askedA askedB; rw [e1]; exact ⟨rfl, rfl, rfl⟩)
          rw [h8] at HK
          clear h6 hL hLs hp hB hd hA hA' hAV hF hT hr hz ea h8 hP hQ
          go_enter Tryz.func168, Tryz.ntmps168
          go_wp2_with fail
          refine (HC.out _).mono ?_
          rintro e w1 ⟨rfl, hb1⟩
          go_wp2_with fail
          refine (HT.out _).mono ?_
          rintro e w2 ⟨rfl, hb2⟩
          have hb2' := bstep hb1 hb2
          have hbR : Below w2.heap.size w2 (w2.alloc (.cells #[.int .i64 (P : Int), .int .i64 (Q : Int)] 23)) := below_agg2 _ _ _ _
          clear hb1 hb2
          go_wp2_with fail
          refine (HK.out _).mono ?_
          rintro e w3 ⟨rfl, hb3⟩
          have HB3 := Lib.hid (bstep hb2' (bstep hbR hb3))
          obtain ⟨k0, k1, f0, f1⟩ := two_of (two_box HB3.out)
          clear hb2' hb3 hbR
          go_wp2_with fail
          refine ret_field (b := w.heap.size) (x := .int .i64 0) (y := .int .i64 0) rfl (load_rrange _ _ _ _ _ (two_set (two_box HB3.out) _ _)) rfl rfl rfl ?_
          refine ⟨?_, two_below (bstep (below_agg2 w _ _ _) HB3.out) _ (Nat.le_refl _) _ _⟩
          rw [HR.out.1, HR.out.2.1, HR.out.2.2]; rfl
      · have HR : Hid (askedE L = twoE F T ∧ askedA L = 0 ∧ askedB L = 0) := Lib.hid (by
          have e1 : askedE L = twoE F T := by rw [hA, if_pos hz]
          unfold askedA askedB; rw [e1, if_neg hz, if_neg hz]; exact ⟨rfl, rfl, rfl⟩)
        have tz : ((twoE F T : Int) != 0) = true := by rw [bne_iff_ne]; omega
        have tz2 : ((twoE F T : Int) == 0) = false := by rw [beq_eq_false_iff_ne]; omega
        generalize twoE F T = Z at HR tz tz2 HT
        generalize twoA F T = P at HT
        generalize twoB F T = Q at HT
        clear h6 hL hLs hp hB hd hA hAV hF hT hz
        go_enter Tryz.func168, Tryz.ntmps168
        go_wp2_with fail
        refine (HC.out _).mono ?_
        rintro e w1 ⟨rfl, hb1⟩
        go_wp2_with fail
        refine (HT.out _).mono ?_
        rintro e w2 ⟨rfl, hb2⟩
        have hb2' := bstep hb1 hb2
        have hbR : Below w2.heap.size w2 (w2.alloc (.cells #[.int .i64 (P : Int), .int .i64 (Q : Int)] 23)) := below_agg2 _ _ _ _
        have HB3 := Lib.hid (bstep hb2' hbR)
        obtain ⟨k0, k1, f0, f1⟩ := two_of (two_box HB3.out)
        clear hb1 hb2 hb2' hbR
        go_wp2_with fail
        refine ret_field (b := w.heap.size) (x := .int .i64 0) (y := .int .i64 0) rfl (load_rrange _ _ _ _ _ (two_set (two_box HB3.out) _ _)) rfl rfl rfl ?_
        refine ⟨?_, two_below (bstep (below_agg2 w _ _ _) HB3.out) _ (Nat.le_refl _) _ _⟩
        rw [HR.out.1, HR.out.2.1, HR.out.2.2]; rfl
end Go.Proofs.YtbdmmgmcbecolaaGreatDoor
namespace Go.Proofs.YtbdmmgmcbecolaaGreatDoor
open Go.RowKit

def pathN (x : Nat) : Bool := decide (33 ≤ x) && decide (x ≤ 126)
def pathB (l : List UInt8) : Bool := [47].isPrefixOf l && decide (l.length ≤ 64) && l.all (fun c => pathN c.toNat)
def hostN (x : Nat) : Bool := letN x || digN x || x == 45 || x == 46
def hostB (l : List UInt8) : Bool := !l.isEmpty && decide (l.length ≤ 32) && l.all (fun c => hostN c.toNat)
theorem pathN_ge (x : Nat) (h : 128 ≤ x) : pathN x = false := by unfold pathN; rw [decide_eq_false (show ¬ x ≤ 126 by omega), Bool.and_false]
theorem hostN_ge (x : Nat) (h : 128 ≤ x) : hostN x = false := by
  unfold hostN letN digN
  rw [decide_eq_false (show ¬ x ≤ 122 by omega), decide_eq_false (show ¬ x ≤ 57 by omega), beq_eq_false_iff_ne.2 (show x ≠ 45 by omega), beq_eq_false_iff_ne.2 (show x ≠ 46 by omega), Bool.and_false, Bool.and_false]; rfl
theorem path1 (x : Nat) (w : World) : Calls Tryz.prog 101 #[.int .i32 (x : Int)] w fun e w' => e = .returned (.bool (!pathN x)) ∧ w' = w := by
  by_cases h1 : x ≤ 32
  · have H : Hid (pathN x = false) := Lib.hid (by unfold pathN; rw [decide_eq_false (by omega)]; rfl)
    have t1 : decide ((x : Int) ≤ 32) = true := decide_eq_true (by omega)
    go_enter Tryz.func101, Tryz.ntmps101
    go_wp2_with fail
    go_ret
    exact ⟨by rw [H.out]; rfl, rfl⟩
  have t1 : decide ((x : Int) ≤ 32) = false := decide_eq_false (by omega)
  by_cases h2 : 126 < x
  · have H : Hid (pathN x = false) := Lib.hid (by unfold pathN; rw [decide_eq_false (show ¬ x ≤ 126 by omega), Bool.and_false])
    have t2 : decide ((x : Int) > 126) = true := decide_eq_true (by omega)
    go_enter Tryz.func101, Tryz.ntmps101
    go_wp2_with fail
    go_ret
    exact ⟨by rw [H.out]; rfl, rfl⟩
  · have H : Hid (pathN x = true) := Lib.hid (by unfold pathN; rw [decide_eq_true (show x ≤ 126 by omega), decide_eq_true (show 33 ≤ x by omega)]; rfl)
    have t2 : decide ((x : Int) > 126) = false := decide_eq_false (by omega)
    go_enter Tryz.func101, Tryz.ntmps101
    go_wp2_with fail
    go_ret
    exact ⟨by rw [H.out]; rfl, rfl⟩
theorem hostN_of (x : Nat) (a b c d e f : Bool) (h1 : decide (97 ≤ x) = a) (h2 : decide (x ≤ 122) = b) (h3 : decide (48 ≤ x) = c) (h4 : decide (x ≤ 57) = d) (h5 : (x == 45) = e) (h6 : (x == 46) = f) : hostN x = ((a && b) || (c && d) || e || f) := by
  unfold hostN letN digN
  rw [h1, h2, h3, h4, h5, h6]
theorem dec_cast (x k : Nat) (a : Bool) (h : decide (k ≤ x) = a) : decide ((x : Int) ≥ (k : Int)) = a := by
  rw [← h]; exact decide_eq_decide.2 (by omega)
theorem dec_cast2 (x k : Nat) (a : Bool) (h : decide (x ≤ k) = a) : decide ((x : Int) ≤ (k : Int)) = a := by
  rw [← h]; exact decide_eq_decide.2 (by omega)
theorem beq_cast (x k : Nat) (a : Bool) (h : (x == k) = a) : ((x : Int) == (k : Int)) = a := by
  rw [← h, Bool.eq_iff_iff, beq_iff_eq, beq_iff_eq]; omega
set_option maxHeartbeats 8000000 in
theorem host1 (x : Nat) (w : World) : Calls Tryz.prog 104 #[.int .i32 (x : Int)] w fun e w' => e = .returned (.bool (!hostN x)) ∧ w' = w := by
  cases h1 : decide (97 ≤ x) <;> cases h2 : decide (x ≤ 122) <;> cases h3 : decide (48 ≤ x) <;> cases h4 : decide (x ≤ 57) <;> cases h5 : (x == 45) <;> cases h6 : (x == 46)
  all_goals
    have H := Lib.hid (hostN_of x _ _ _ _ _ _ h1 h2 h3 h4 h5 h6)
    have t1 : decide ((x : Int) ≥ 97) = _ := dec_cast x 97 _ h1
    have t2 : decide ((x : Int) ≤ 122) = _ := dec_cast2 x 122 _ h2
    have t3 : decide ((x : Int) ≥ 48) = _ := dec_cast x 48 _ h3
    have t4 : decide ((x : Int) ≤ 57) = _ := dec_cast2 x 57 _ h4
    have t5 : ((x : Int) == 45) = _ := beq_cast x 45 _ h5
    have t6 : ((x : Int) == 46) = _ := beq_cast x 46 _ h6
    clear h1 h2 h3 h4 h5 h6
    go_enter Tryz.func104, Tryz.ntmps104
    go_wp2_with fail
    go_ret
    exact ⟨by rw [H.out]; rfl, rfl⟩
theorem idx_path (s : ByteArray) (w : World) :
    Calls Tryz.prog 103 #[.string s, .func (.func 101) #[] #[]] w fun e w' => e = .returned (.int .i64 (Lib.idxFunc (fun x => !pathN x) true s)) ∧ Below w.heap.size w w' :=
  Tryz.strings_IndexFunc_grows 101 #[] (enters_of Tryz.func101 (by kernel_rfl) rfl) (fun x => !pathN x) s w
    (fun W x _ _ => (path1 x W).mono fun e w' ⟨he, hw⟩ => ⟨he, hw ▸ Below.refl _ _⟩)
theorem idx_host (s : ByteArray) (w : World) :
    Calls Tryz.prog 103 #[.string s, .func (.func 104) #[] #[]] w fun e w' => e = .returned (.int .i64 (Lib.idxFunc (fun x => !hostN x) true s)) ∧ Below w.heap.size w w' :=
  Tryz.strings_IndexFunc_grows 104 #[] (enters_of Tryz.func104 (by kernel_rfl) rfl) (fun x => !hostN x) s w
    (fun W x _ _ => (host1 x W).mono fun e w' ⟨he, hw⟩ => ⟨he, hw ▸ Below.refl _ _⟩)
theorem all_path_eq (s : ByteArray) : decide (Lib.idxFunc (fun x => !pathN x) true s < 0) = s.data.toList.all (fun c => pathN c.toNat) := by
  rw [idx_all _ (fun x h => by rw [pathN_ge x h]; rfl)]; simp
theorem all_host_eq (s : ByteArray) : decide (Lib.idxFunc (fun x => !hostN x) true s < 0) = s.data.toList.all (fun c => hostN c.toNat) := by
  rw [idx_all _ (fun x h => by rw [hostN_ge x h]; rfl)]; simp
theorem c_hasSlash (s : ByteArray) (w : World) : Calls Tryz.prog 102 #[.string s, .string ⟨#[47]⟩] w fun e w' => e = .returned (.bool ([47].isPrefixOf s.data.toList)) ∧ w' = w := Tryz.strings_HasPrefix s ⟨#[47]⟩ w
set_option maxHeartbeats 1000000 in
theorem asking_path (s : ByteArray) (w : World) :
    Calls Tryz.prog 71 #[.string s] w fun e w' => e = .returned (.bool (pathB s.data.toList)) ∧ Below w.heap.size w w' := by
  have HP := Lib.hid (fun w => c_hasSlash s w)
  have HB : Hid (pathB s.data.toList = ([47].isPrefixOf s.data.toList && decide (s.size ≤ 64) && s.data.toList.all (fun c => pathN c.toNat))) := Lib.hid (by unfold pathB; rw [size_len])
  have HI := Lib.hid (fun w => idx_path s w)
  have HA := Lib.hid (all_path_eq s)
  generalize s.data.toList.all (fun c => pathN c.toNat) = A at HA HB
  generalize Lib.idxFunc (fun x => !pathN x) true s = i at HA HI
  cases hp : [47].isPrefixOf s.data.toList with
  | false =>
    rw [hp] at HP HB
    clear hp
    go_enter Tryz.func71, Tryz.ntmps71
    go_wp2_with fail
    refine (HP.out _).mono ?_
    rintro e w' ⟨rfl, rfl⟩
    go_wp2_with fail
    go_ret
    exact ⟨by rw [HB.out]; rfl, Below.refl _ _⟩
  | true =>
    rw [hp] at HP HB
    clear hp
    by_cases hl : s.size ≤ 64
    · rw [decide_eq_true hl] at HB
      have tl : decide ((s.size : Int) ≤ 64) = true := decide_eq_true (by omega)
      go_enter Tryz.func71, Tryz.ntmps71
      go_wp2_with fail
      refine (HP.out _).mono ?_
      rintro e w' ⟨rfl, rfl⟩
      go_wp2_with fail
      refine (HI.out _).mono ?_
      rintro e w1 ⟨rfl, hb1⟩
      go_wp2_with fail
      go_ret
      exact ⟨by rw [HB.out, ← HA.out]; rfl, hb1⟩
    · rw [decide_eq_false hl] at HB
      have tl : decide ((s.size : Int) ≤ 64) = false := decide_eq_false (by omega)
      go_enter Tryz.func71, Tryz.ntmps71
      go_wp2_with fail
      refine (HP.out _).mono ?_
      rintro e w' ⟨rfl, rfl⟩
      go_wp2_with fail
      go_ret
      exact ⟨by rw [HB.out]; rfl, Below.refl _ _⟩
set_option maxHeartbeats 1000000 in
theorem asking_host (s : ByteArray) (w : World) :
    Calls Tryz.prog 72 #[.string s] w fun e w' => e = .returned (.bool (hostB s.data.toList)) ∧ Below w.heap.size w w' := by
  have HB : Hid (hostB s.data.toList = (!s.toList.isEmpty && decide (s.size ≤ 32) && s.data.toList.all (fun c => hostN c.toNat))) := Lib.hid (by unfold hostB; rw [size_len, ByteArray.toList_eq])
  have HI := Lib.hid (fun w => idx_host s w)
  have HA := Lib.hid (all_host_eq s)
  generalize s.data.toList.all (fun c => hostN c.toNat) = A at HA HB
  generalize Lib.idxFunc (fun x => !hostN x) true s = i at HA HI
  cases hp : s.toList.isEmpty with
  | true =>
    rw [hp] at HB
    go_enter Tryz.func72, Tryz.ntmps72
    go_wp2_with fail
    go_ret
    exact ⟨by rw [HB.out]; rfl, Below.refl _ _⟩
  | false =>
    rw [hp] at HB
    by_cases hl : s.size ≤ 32
    · rw [decide_eq_true hl] at HB
      have tl : decide ((s.size : Int) ≤ 32) = true := decide_eq_true (by omega)
      go_enter Tryz.func72, Tryz.ntmps72
      go_wp2_with fail
      refine (HI.out _).mono ?_
      rintro e w1 ⟨rfl, hb1⟩
      go_wp2_with fail
      go_ret
      exact ⟨by rw [HB.out, ← HA.out]; rfl, hb1⟩
    · rw [decide_eq_false hl] at HB
      have tl : decide ((s.size : Int) ≤ 32) = false := decide_eq_false (by omega)
      go_enter Tryz.func72, Tryz.ntmps72
      go_wp2_with fail
      go_ret
      exact ⟨by rw [HB.out]; rfl, Below.refl _ _⟩
end Go.Proofs.YtbdmmgmcbecolaaGreatDoor
namespace Go.Proofs.YtbdmmgmcbecolaaGreatDoor
open Go.RowKit

theorem all_iff (l : List UInt8) (p : Nat → Bool) (h : ∀ j (hj : j < l.length), p l[j].toNat = true) : l.all (fun c => p c.toNat) = true := by
  rw [List.all_eq_true]
  intro c hc
  obtain ⟨j, hj, rfl⟩ := List.getElem_of_mem hc
  exact h j hj
theorem all_not (l : List UInt8) (p : Nat → Bool) (j : Nat) (hj : j < l.length) (h : p l[j].toNat = false) : l.all (fun c => p c.toNat) = false := by
  rw [List.all_eq_false]
  exact ⟨l[j], List.getElem_mem hj, by rw [h]; decide⟩
theorem slash_iff (s : ByteArray) (h : 0 < s.size) : [47].isPrefixOf s.data.toList = (s[0] == 47) := by
  have := List.drop_eq_getElem_cons (l := s.data.toList) (i := 0) (by rw [size_len]; exact h)
  rw [List.drop_zero] at this
  rw [this]
  show ((47 : UInt8) == s[0] && true) = _
  rw [Bool.and_true, Bool.eq_iff_iff, beq_iff_eq, beq_iff_eq]
  exact ⟨fun e => e.symm, fun e => e.symm⟩
set_option maxRecDepth 100000 in
set_option maxHeartbeats 2000000 in
theorem ref_path (s : ByteArray) (w : World) (hs : s.size ≤ 9223372036854775807) :
    Calls Tryz.prog 65 #[.string s] w fun e w' => e = .returned (.bool (pathB s.data.toList)) ∧ w' = w := by
  obtain ⟨ANS, hANS⟩ : ∃ ANS, pathB s.data.toList = ANS := ⟨_, rfl⟩
  rw [hANS]
  have HANS := Lib.hid hANS
  clear hANS
  go_enter Tryz.func65, Tryz.ntmps65
  go_wp2_with fail
  go_loopg [3] s.size (fun gk s3 wx => ∃ k : Nat, s3 = .int .i64 (k : Int) ∧ wx = w ∧ k + gk = s.size ∧ Hid (∀ j (hj : j < s.data.toList.length), j < k → pathN s.data.toList[j].toNat = true))
  case atStart => exact ⟨0, by simp, rfl, by omega, Lib.hid (fun j hj h => absurd h (Nat.not_lt_zero _))⟩
  case round =>
    obtain ⟨k, rfl, rfl, hgk, HK⟩ := hrel
    by_cases hk : k < s.size
    · have tk : decide ((k : Int) < (s.size : Int)) = true := decide_eq_true (by omega)
      have hkl : k < s.data.toList.length := by rw [size_len]; exact hk
      have hge : s.data.toList[k] = s[k] := rfl
      by_cases hb : 33 ≤ s[k].toNat ∧ s[k].toNat ≤ 126
      · have t1 : decide ((s[k].toNat : Int) < 33) = false := decide_eq_false (by omega)
        have t2 : decide ((s[k].toNat : Int) > 126) = false := decide_eq_false (by omega)
        have HK2 : Hid (∀ j (hj : j < s.data.toList.length), j < k + 1 → pathN s.data.toList[j].toNat = true) := Lib.hid (fun j hj h => by
          by_cases e : j = k
          · subst e; rw [hge]; unfold pathN; rw [decide_eq_true hb.1, decide_eq_true hb.2]; rfl
          · exact HK.out j hj (by omega))
        obtain ⟨g', rfl⟩ : ∃ g', gk = g' + 1 := ⟨gk - 1, by omega⟩
        clear hge hb
        go_wp2_with fail
        go_roundg g'
        case measure => omega
        case rel => exact ⟨k + 1, by simp, rfl, by omega, HK2⟩
      · have HR : Hid (ANS = false) := Lib.hid (by
          rw [← HANS.out]; unfold pathB
          rw [all_not _ pathN k hkl (by
            rw [hge]; unfold pathN
            by_cases h1 : 33 ≤ s[k].toNat
            · rw [decide_eq_false (show ¬ s[k].toNat ≤ 126 from fun h => hb ⟨h1, h⟩), Bool.and_false]
            · rw [decide_eq_false h1]; rfl), Bool.and_false])
        by_cases h1 : s[k].toNat < 33
        · have t1 : decide ((s[k].toNat : Int) < 33) = true := decide_eq_true (by omega)
          clear hge hb
          go_wp2_with fail
          go_ret
          exact ⟨by rw [HR.out]; rfl, rfl⟩
        · have t1 : decide ((s[k].toNat : Int) < 33) = false := decide_eq_false (by omega)
          have t2 : decide ((s[k].toNat : Int) > 126) = true := decide_eq_true (by omega)
          clear hge hb
          go_wp2_with fail
          go_ret
          exact ⟨by rw [HR.out]; rfl, rfl⟩
    · obtain rfl : k = s.size := by omega
      have tk : decide ((s.size : Int) < (s.size : Int)) = false := decide_eq_false (by omega)
      have hall := all_iff s.data.toList pathN (fun j hj => HK.out j hj (by rw [size_len] at hj; exact hj))
      have hR : ANS = ([47].isPrefixOf s.data.toList && decide (s.size ≤ 64)) := by
        rw [← HANS.out]; unfold pathB; rw [hall, Bool.and_true, size_len]
      by_cases h0 : 0 < s.size
      · have t0 : decide ((s.size : Int) ≥ 1) = true := decide_eq_true (by omega)
        rw [slash_iff s h0] at hR
        by_cases h64 : s.size ≤ 64
        · have t64 : decide ((s.size : Int) ≤ 64) = true := decide_eq_true (by omega)
          rw [decide_eq_true h64, Bool.and_true] at hR
          have hq : ((s[0].toNat : Int) == 47) = ANS := by
            rw [hR, Bool.eq_iff_iff, beq_iff_eq, beq_iff_eq, ← UInt8.toNat_inj]
            exact ⟨fun h => by show _ = 47; omega, fun h => by have : s[0].toNat = 47 := h; omega⟩
          clear hR hall HK
          cases ANS
          all_goals
            go_wp2_with fail
            go_ret
            exact ⟨rfl, rfl⟩
        · have t64 : decide ((s.size : Int) ≤ 64) = false := decide_eq_false (by omega)
          rw [decide_eq_false h64, Bool.and_false] at hR
          have HR := Lib.hid hR
          clear hR hall HK
          go_wp2_with fail
          go_ret
          exact ⟨by rw [HR.out]; rfl, rfl⟩
      · have t0 : decide ((s.size : Int) ≥ 1) = false := decide_eq_false (by omega)
        have HR : Hid (ANS = false) := Lib.hid (by
          have hn : s.data.toList = [] := List.length_eq_zero_iff.1 (by rw [size_len]; omega)
          rw [hR, hn]; rfl)
        clear hR hall HK
        go_wp2_with fail
        go_ret
        exact ⟨by rw [HR.out]; rfl, rfl⟩
theorem dec_lt (x k : Nat) (a : Bool) (h : decide (k ≤ x) = a) : decide ((x : Int) < (k : Int)) = !a := by
  rw [← h, ← decide_not]; exact decide_eq_decide.2 (by omega)
theorem dec_gt (x k : Nat) (a : Bool) (h : decide (x ≤ k) = a) : decide ((x : Int) > (k : Int)) = !a := by
  rw [← h, ← decide_not]; exact decide_eq_decide.2 (by omega)
theorem bne_cast (x k : Nat) (a : Bool) (h : (x == k) = a) : ((x : Int) != (k : Int)) = !a := by
  rw [← beq_cast x k a h]; rfl
set_option maxRecDepth 100000 in
set_option maxHeartbeats 16000000 in
theorem ref_host (s : ByteArray) (w : World) (hs : s.size ≤ 9223372036854775807) :
    Calls Tryz.prog 66 #[.string s] w fun e w' => e = .returned (.bool (hostB s.data.toList)) ∧ w' = w := by
  obtain ⟨ANS, hANS⟩ : ∃ ANS, hostB s.data.toList = ANS := ⟨_, rfl⟩
  rw [hANS]
  have HANS := Lib.hid hANS
  clear hANS
  go_enter Tryz.func66, Tryz.ntmps66
  go_wp2_with fail
  go_loopg [3] s.size (fun gk s3 wx => ∃ k : Nat, s3 = .int .i64 (k : Int) ∧ wx = w ∧ k + gk = s.size ∧ Hid (∀ j (hj : j < s.data.toList.length), j < k → hostN s.data.toList[j].toNat = true))
  case atStart => exact ⟨0, by simp, rfl, by omega, Lib.hid (fun j hj h => absurd h (Nat.not_lt_zero _))⟩
  case round =>
    obtain ⟨k, rfl, rfl, hgk, HK⟩ := hrel
    by_cases hk : k < s.size
    · have tk : decide ((k : Int) < (s.size : Int)) = true := decide_eq_true (by omega)
      have hkl : k < s.data.toList.length := by rw [size_len]; exact hk
      have hge : s.data.toList[k] = s[k] := rfl
      obtain ⟨g', rfl⟩ : ∃ g', gk = g' + 1 := ⟨gk - 1, by omega⟩
      have HG : Hid (hostN s[k].toNat = true → ∀ j (hj : j < s.data.toList.length), j < k + 1 → hostN s.data.toList[j].toNat = true) := Lib.hid (fun hb j hj h => by
        by_cases e : j = k
        · subst e; rw [hge]; exact hb
        · exact HK.out j hj (by omega))
      have HF : Hid (hostN s[k].toNat = false → ANS = false) := Lib.hid (fun hb => by
        rw [← HANS.out]; unfold hostB
        rw [all_not _ hostN k hkl (by rw [hge]; exact hb), Bool.and_false])
      clear hge
      cases h1 : decide (97 ≤ s[k].toNat) <;> cases h2 : decide (s[k].toNat ≤ 122) <;> cases h3 : decide (48 ≤ s[k].toNat) <;> cases h4 : decide (s[k].toNat ≤ 57) <;> cases h5 : (s[k].toNat == 45) <;> cases h6 : (s[k].toNat == 46)
      all_goals
        have H := Lib.hid (hostN_of s[k].toNat _ _ _ _ _ _ h1 h2 h3 h4 h5 h6)
        have t1 : decide ((s[k].toNat : Int) < 97) = _ := dec_lt _ 97 _ h1
        have t2 : decide ((s[k].toNat : Int) > 122) = _ := dec_gt _ 122 _ h2
        have t3 : decide ((s[k].toNat : Int) < 48) = _ := dec_lt _ 48 _ h3
        have t4 : decide ((s[k].toNat : Int) > 57) = _ := dec_gt _ 57 _ h4
        have t5 : ((s[k].toNat : Int) != 45) = _ := bne_cast _ 45 _ h5
        have t6 : ((s[k].toNat : Int) != 46) = _ := bne_cast _ 46 _ h6
        simp only [Bool.not_false, Bool.not_true] at t1 t2 t3 t4 t5 t6
        clear h1 h2 h3 h4 h5 h6
        go_wp2_with fail
        first
          | (go_ret; exact ⟨by rw [HF.out (by rw [H.out]; rfl)]; rfl, rfl⟩)
          | skip
      all_goals
        go_roundg g'
        case measure => omega
        case rel => exact ⟨k + 1, by simp, rfl, by omega, Lib.hid (HG.out (by rw [H.out]; rfl))⟩
    · obtain rfl : k = s.size := by omega
      have tk : decide ((s.size : Int) < (s.size : Int)) = false := decide_eq_false (by omega)
      have hall := all_iff s.data.toList hostN (fun j hj => HK.out j hj (by rw [size_len] at hj; exact hj))
      have hR : ANS = (!s.data.toList.isEmpty && decide (s.size ≤ 32)) := by
        rw [← HANS.out]; unfold hostB; rw [hall, Bool.and_true, size_len]
      by_cases h0 : 0 < s.size
      · have t0 : decide ((s.size : Int) ≥ 1) = true := decide_eq_true (by omega)
        have hne : s.data.toList.isEmpty = false := by
          rw [List.isEmpty_eq_false_iff]; intro e; have := congrArg List.length e; rw [size_len, List.length_nil] at this; omega
        rw [hne] at hR
        by_cases h32 : s.size ≤ 32
        · have t32 : decide ((s.size : Int) ≤ 32) = true := decide_eq_true (by omega)
          rw [decide_eq_true h32] at hR
          have HR : Hid (ANS = true) := Lib.hid hR
          clear hR hall HK hne
          go_wp2_with fail
          go_ret
          exact ⟨by rw [HR.out]; rfl, rfl⟩
        · have t32 : decide ((s.size : Int) ≤ 32) = false := decide_eq_false (by omega)
          rw [decide_eq_false h32] at hR
          have HR : Hid (ANS = false) := Lib.hid hR
          clear hR hall HK hne
          go_wp2_with fail
          go_ret
          exact ⟨by rw [HR.out]; rfl, rfl⟩
      · have t0 : decide ((s.size : Int) ≥ 1) = false := decide_eq_false (by omega)
        have HR : Hid (ANS = false) := Lib.hid (by
          have hn : s.data.toList = [] := List.length_eq_zero_iff.1 (by rw [size_len]; omega)
          rw [hR, hn]; rfl)
        clear hR hall HK
        go_wp2_with fail
        go_ret
        exact ⟨by rw [HR.out]; rfl, rfl⟩
end Go.Proofs.YtbdmmgmcbecolaaGreatDoor
namespace Go.Proofs.YtbdmmgmcbecolaaGreatDoor
open Go.RowKit

theorem kcell {W w1 : World} (hb : Below W.heap.size W w1) : (∀ b o, b < W.heap.size → w1.cell? ⟨b, o, none⟩ = W.cell? ⟨b, o, none⟩) ∧ (∀ b o, b < W.heap.size → w1.frozen? ⟨b, o, none⟩ = W.frozen? ⟨b, o, none⟩) :=
  ⟨fun b o h => hb.cell (p := ⟨b, o, none⟩) h, fun b o h => hb.frozen (p := ⟨b, o, none⟩) h⟩
theorem ret_cell {fn : Func} {R : Ending → World → Prop} {a : Act} {w : World} {A : Addr} {V : Value} {p : Tmp} {ty : TypeId} (hres : fn.results = #[.cell p ty])
    (hload : (loadVar ty A).run Tryz.prog w = .ok V w)
    (hp : a.tmps.getD p undef = .pointer (some A)) (hdef : a.defers = [])
    (hR : R (.returned V) w) : bodyPost Tryz.prog fn R .ret a w := by
  refine bodyPost_ret_by (v := V) ?_ hdef hR
  have hp' : a.tmps[p]?.getD undef = .pointer (some A) := by simpa using hp
  simp [results, hres, hp', asAddr, hload]
theorem ret_cell2 {fn : Func} {R : Ending → World → Prop} {a : Act} {w : World} {A : Addr} {V E : Value} {p u : Tmp} {ty : TypeId} (hres : fn.results = #[.cell p ty, .tmp u])
    (hload : (loadVar ty A).run Tryz.prog w = .ok V w)
    (hp : a.tmps.getD p undef = .pointer (some A)) (hE : a.tmps.getD u undef = E) (hdef : a.defers = [])
    (hR : R (.returned (.tuple #[V, E])) w) : bodyPost Tryz.prog fn R .ret a w := by
  refine bodyPost_ret_by (v := .tuple #[V, E]) ?_ hdef hR
  rw [results_cell_tmp hres, hp, hE]
  simp [asAddr, hload, Result.andThen]
theorem ret_cell3 {fn : Func} {R : Ending → World → Prop} {a : Act} {w : World} {A : Addr} {V E F : Value} {p u v : Tmp} {ty : TypeId} (hres : fn.results = #[.cell p ty, .tmp u, .tmp v])
    (hload : (loadVar ty A).run Tryz.prog w = .ok V w)
    (hp : a.tmps.getD p undef = .pointer (some A)) (hE : a.tmps.getD u undef = E) (hF : a.tmps.getD v undef = F) (hdef : a.defers = [])
    (hR : R (.returned (.tuple #[V, E, F])) w) : bodyPost Tryz.prog fn R .ret a w := by
  refine bodyPost_ret_by (v := .tuple #[V, E, F]) ?_ hdef hR
  have hp' : a.tmps[p]?.getD undef = .pointer (some A) := by simpa using hp
  have hE' : a.tmps[u]?.getD undef = E := by simpa using hE
  have hF' : a.tmps[v]?.getD undef = F := by simpa using hF
  simp [results, hres, hp', hE', hF', asAddr, hload, Result.andThen]
end Go.Proofs.YtbdmmgmcbecolaaGreatDoor
namespace Go.Proofs.YtbdmmgmcbecolaaGreatDoor
open Go.RowKit

/-- may a request be? -/
def aErr (p h : List UInt8) (a b : Int) : Nat := if pathB p = false ∨ hostB h = false then 2 else rErr a b
theorem box4 (w : World) (x y z u : Value) (t : TypeId) : (w.alloc (.cells #[x, y, z, u] t)).cell? ⟨w.heap.size, 0, none⟩ = some x ∧ (w.alloc (.cells #[x, y, z, u] t)).cell? ⟨w.heap.size, 1, none⟩ = some y ∧ (w.alloc (.cells #[x, y, z, u] t)).cell? ⟨w.heap.size, 2, none⟩ = some z ∧ (w.alloc (.cells #[x, y, z, u] t)).cell? ⟨w.heap.size, 3, none⟩ = some u := by
  have hh := heap_alloc_new w (.cells #[x, y, z, u] t)
  refine ⟨?_, ?_, ?_, ?_⟩ <;> (unfold World.cell?; rw [hh]; rfl)
theorem below_agg4 (w : World) (x y z u : Value) (t : TypeId) : Below w.heap.size w (w.alloc (.cells #[x, y, z, u] t)) := (Below.refl _ _).alloc (Nat.le_refl _) _
theorem box_four {w w1 : World} {x y z u : Value} {t : TypeId} (hb : Below (w.alloc (.cells #[x, y, z, u] t)).heap.size (w.alloc (.cells #[x, y, z, u] t)) w1) : w1.cell? ⟨w.heap.size, 0, none⟩ = some x ∧ w1.cell? ⟨w.heap.size, 1, none⟩ = some y ∧ w1.cell? ⟨w.heap.size, 2, none⟩ = some z ∧ w1.cell? ⟨w.heap.size, 3, none⟩ = some u := by
  obtain ⟨a, b, c, d⟩ := box4 w x y z u t
  exact ⟨(hb.cell (p := ⟨w.heap.size, 0, none⟩) (by simp)).trans a, (hb.cell (p := ⟨w.heap.size, 1, none⟩) (by simp)).trans b, (hb.cell (p := ⟨w.heap.size, 2, none⟩) (by simp)).trans c, (hb.cell (p := ⟨w.heap.size, 3, none⟩) (by simp)).trans d⟩
set_option maxRecDepth 100000 in
set_option maxHeartbeats 1000000 in
theorem asking_check (p h : ByteArray) (a b : Int) (w : World) :
    Calls Tryz.prog 45 #[.agg #[.string p, .string h, .int .i64 a, .int .i64 b]] w fun e w' => e = .returned (.int .i64 (aErr p.data.toList h.data.toList a b : Nat)) ∧ Below w.heap.size w w' := by
  have HP := Lib.hid (fun w => asking_path p w)
  have HH := Lib.hid (fun w => asking_host h w)
  have HC := Lib.hid (fun w => ranges_check a b w)
  cases hp : pathB p.data.toList with
  | false =>
    have HR : Hid (aErr p.data.toList h.data.toList a b = 2) := Lib.hid (if_pos (.inl hp))
    rw [hp] at HP
    clear hp
    go_enter Tryz.func45, Tryz.ntmps45
    go_wp2_with fail
    refine (HP.out _).mono ?_
    rintro e w1 ⟨rfl, hb1⟩
    go_wp2_with fail
    go_ret
    exact ⟨by rw [HR.out]; rfl, bstep (below_agg4 w _ _ _ _ _) hb1⟩
  | true =>
    rw [hp] at HP
    cases hh : hostB h.data.toList with
    | false =>
      have HR : Hid (aErr p.data.toList h.data.toList a b = 2) := Lib.hid (if_pos (.inr hh))
      rw [hh] at HH
      clear hp hh
      go_enter Tryz.func45, Tryz.ntmps45
      go_wp2_with fail
      refine (HP.out _).mono ?_
      rintro e w1 ⟨rfl, hb1⟩
      obtain ⟨c0, c1, c2, c3⟩ := box_four hb1
      have HB1 := Lib.hid (bstep (below_agg4 w _ _ _ _ _) hb1)
      clear hb1
      go_wp2_with fail
      refine (HH.out _).mono ?_
      rintro e w2 ⟨rfl, hb2⟩
      go_wp2_with fail
      go_ret
      exact ⟨by rw [HR.out]; rfl, bstep HB1.out hb2⟩
    | true =>
      have HR : Hid (aErr p.data.toList h.data.toList a b = rErr a b) := Lib.hid (if_neg (fun e => e.elim (fun e => by rw [hp] at e; exact absurd e (by decide)) (fun e => by rw [hh] at e; exact absurd e (by decide))))
      rw [hh] at HH
      clear hp hh
      go_enter Tryz.func45, Tryz.ntmps45
      go_wp2_with fail
      refine (HP.out _).mono ?_
      rintro e w1 ⟨rfl, hb1⟩
      obtain ⟨c0, c1, c2, c3⟩ := box_four hb1
      have HB1 := Lib.hid hb1
      clear hb1
      go_wp2_with fail
      refine (HH.out _).mono ?_
      rintro e w2 ⟨rfl, hb2⟩
      have HB2 := Lib.hid (bstep HB1.out hb2)
      obtain ⟨c0, c1, c2, c3⟩ := box_four HB2.out
      clear hb2
      go_wp2_with fail
      refine (HC.out _).mono ?_
      rintro e w3 ⟨rfl, hb3⟩
      go_wp2_with fail
      go_ret
      exact ⟨by rw [HR.out]; rfl, bstep (below_agg4 w _ _ _ _ _) (bstep HB2.out hb3)⟩
set_option maxRecDepth 100000 in
set_option maxHeartbeats 1000000 in
theorem ref_acheck (p h : ByteArray) (a b : Int) (w : World) (hps : p.size ≤ 9223372036854775807) (hhs : h.size ≤ 9223372036854775807) :
    Calls Tryz.prog 67 #[.agg #[.string p, .string h, .int .i64 a, .int .i64 b]] w fun e w' => e = .returned (.int .i64 (aErr p.data.toList h.data.toList a b : Nat)) ∧ Below w.heap.size w w' := by
  have HP := Lib.hid (fun w => ref_path p w hps)
  have HH := Lib.hid (fun w => ref_host h w hhs)
  have HC := Lib.hid (fun w => ref_rcheck a b w)
  cases hp : pathB p.data.toList with
  | false =>
    have HR : Hid (aErr p.data.toList h.data.toList a b = 2) := Lib.hid (if_pos (.inl hp))
    rw [hp] at HP
    clear hp
    go_enter Tryz.func67, Tryz.ntmps67
    go_wp2_with fail
    refine (HP.out _).mono ?_
    rintro e w' ⟨rfl, rfl⟩
    go_wp2_with fail
    go_ret
    exact ⟨by rw [HR.out]; rfl, below_agg4 w _ _ _ _ _⟩
  | true =>
    rw [hp] at HP
    cases hh : hostB h.data.toList with
    | false =>
      have HR : Hid (aErr p.data.toList h.data.toList a b = 2) := Lib.hid (if_pos (.inr hh))
      rw [hh] at HH
      clear hp hh
      go_enter Tryz.func67, Tryz.ntmps67
      go_wp2_with fail
      refine (HP.out _).mono ?_
      rintro e w' ⟨rfl, rfl⟩
      go_wp2_with fail
      refine (HH.out _).mono ?_
      rintro e w' ⟨rfl, rfl⟩
      go_wp2_with fail
      go_ret
      exact ⟨by rw [HR.out]; rfl, below_agg4 w _ _ _ _ _⟩
    | true =>
      have HR : Hid (aErr p.data.toList h.data.toList a b = rErr a b) := Lib.hid (if_neg (fun e => e.elim (fun e => by rw [hp] at e; exact absurd e (by decide)) (fun e => by rw [hh] at e; exact absurd e (by decide))))
      rw [hh] at HH
      clear hp hh
      go_enter Tryz.func67, Tryz.ntmps67
      go_wp2_with fail
      refine (HP.out _).mono ?_
      rintro e w' ⟨rfl, rfl⟩
      go_wp2_with fail
      refine (HH.out _).mono ?_
      rintro e w' ⟨rfl, rfl⟩
      go_wp2_with fail
      refine (HC.out _).mono ?_
      rintro e w3 ⟨rfl, hb3⟩
      go_wp2_with fail
      go_ret
      exact ⟨by rw [HR.out]; rfl, bstep (below_agg4 w _ _ _ _ _) hb3⟩
theorem load_req (w : World) (b : Nat) (t : TypeId) (x y z u : Value) (h : w.heap[b]? = some (.cells #[x, y, z, u] t (0, 0))) : (loadVar 91 ⟨b, 0, none⟩).run Tryz.prog w = .ok (.agg #[x, y, z, u]) w :=
  run_loadVar_row w b t 91 #[x, y, z, u] (0, 0) _ h Tryz.underlying91 rfl (by kernel_rfl)
theorem load_rreq (w : World) (b : Nat) (t : TypeId) (x y z u : Value) (h : w.heap[b]? = some (.cells #[x, y, z, u] t (0, 0))) : (loadVar 102 ⟨b, 0, none⟩).run Tryz.prog w = .ok (.agg #[x, y, z, u]) w :=
  run_loadVar_row w b t 102 #[x, y, z, u] (0, 0) _ h Tryz.underlying102 rfl (by kernel_rfl)
theorem four_set {w : World} {b : Nat} {x y z u : Value} {t : TypeId} (h : w.heap[b]? = some (.cells #[x, y, z, u] t (0, 0))) (x' y' z' u' : Value) :
    ((((w.setCell ⟨b, 0, none⟩ x').setCell ⟨b, 1, none⟩ y').setCell ⟨b, 2, none⟩ z').setCell ⟨b, 3, none⟩ u').heap[b]? = some (.cells #[x', y', z', u'] t (0, 0)) := by
  simp [World.setCell, Array.getElem?_modify, h]
theorem four_below {B : Nat} {w0 w : World} (h : Below B w0 w) (b : Nat) (hB : B ≤ b) (x' y' z' u' : Value) : Below B w0 ((((w.setCell ⟨b, 0, none⟩ x').setCell ⟨b, 1, none⟩ y').setCell ⟨b, 2, none⟩ z').setCell ⟨b, 3, none⟩ u') :=
  (((h.setCell (p := ⟨b, 0, none⟩) hB _).setCell (p := ⟨b, 1, none⟩) hB _).setCell (p := ⟨b, 2, none⟩) hB _).setCell (p := ⟨b, 3, none⟩) hB _
end Go.Proofs.YtbdmmgmcbecolaaGreatDoor
namespace Go.Proofs.YtbdmmgmcbecolaaGreatDoor
open Go.RowKit

/-- a request's lines -/
def line1 (p : List UInt8) : List UInt8 := [71, 69, 84, 32] ++ p ++ [32, 72, 84, 84, 80, 47, 49, 46, 49]
def line2 (h : List UInt8) : List UInt8 := [72, 111, 115, 116, 58, 32] ++ h
def line3 (a b : Int) : List UInt8 := [82, 97, 110, 103, 101, 58, 32] ++ askL a b
def reqL (p h : List UInt8) (a b : Int) : List UInt8 := body [line1 p, line2 h, line3 a b] ++ [13, 10]
def lines4 (p h : List UInt8) (a b : Int) : List (List UInt8) := [line1 p, line2 h, line3 a b, []]
def aPrint (p h : List UInt8) (a b : Int) : List UInt8 := if aErr p h a b = 0 then reqL p h a b else []
theorem aErr_zero (p h : List UInt8) (a b : Int) (he : aErr p h a b = 0) : pathB p = true ∧ hostB h = true ∧ rErr a b = 0 := by
  unfold aErr at he
  split at he
  · exact absurd he (by decide)
  · rename_i hn
    refine ⟨?_, ?_, he⟩
    · cases e : pathB p with
      | false => exact absurd (.inl e) hn
      | true => rfl
    · cases e : hostB h with
      | false => exact absurd (.inr e) hn
      | true => rfl
theorem pathB_and (p : List UInt8) (h : pathB p = true) : p.length ≤ 64 ∧ (∀ c ∈ p, pathN c.toNat = true) ∧ p ≠ [] := by
  unfold pathB at h
  simp only [Bool.and_eq_true, decide_eq_true_eq, List.all_eq_true] at h
  refine ⟨h.1.2, h.2, ?_⟩
  intro e; rw [e] at h; exact absurd h.1.1 (by decide)
theorem hostB_and (p : List UInt8) (h : hostB p = true) : p.length ≤ 32 ∧ (∀ c ∈ p, hostN c.toNat = true) ∧ p ≠ [] := by
  unfold hostB at h
  simp only [Bool.and_eq_true, decide_eq_true_eq, List.all_eq_true, Bool.not_eq_true', List.isEmpty_eq_false_iff] at h
  exact ⟨h.1.2, h.2, h.1.1⟩
theorem pathN_plain (x : Nat) (h : pathN x = true) : plainB x = true ∧ x ≠ 32 := by
  unfold pathN at h
  simp only [Bool.and_eq_true, decide_eq_true_eq] at h
  exact ⟨plainB_of x (by omega) (by omega), by omega⟩
theorem hostN_plain (x : Nat) (h : hostN x = true) : plainB x = true ∧ x ≠ 32 := by
  unfold hostN letN digN at h
  simp only [Bool.or_eq_true, Bool.and_eq_true, decide_eq_true_eq, beq_iff_eq] at h
  exact ⟨plainB_of x (by omega) (by omega), by omega⟩
theorem put_of (l : List UInt8) (h : plainL l) (hl : l.length ≤ 256) : putErr l = 0 := by
  unfold putErr
  rw [if_neg (by rw [List.all_eq_true.2 h]; decide), if_neg (by omega)]
theorem digL_plain (n : Int) : plainL (digL n) := by
  intro c hc
  unfold digL at hc
  split at hc
  · simp at hc
  · have := List.all_eq_true.1 (decDigits_all n.toNat) c hc
    unfold digN at this
    simp only [Bool.and_eq_true, decide_eq_true_eq] at this
    exact plainB_of _ (by omega) (by omega)
theorem line1_put (p : List UInt8) (h : pathB p = true) : putErr (line1 p) = 0 := by
  obtain ⟨h1, h2, -⟩ := pathB_and p h
  refine put_of _ ?_ (by unfold line1; simp; omega)
  intro c hc
  unfold line1 at hc
  rw [List.mem_append, List.mem_append] at hc
  rcases hc with (hc | hc) | hc
  · exact (show ∀ d ∈ ([71, 69, 84, 32] : List UInt8), plainB d.toNat = true by decide) c hc
  · exact (pathN_plain _ (h2 c hc)).1
  · exact (show ∀ d ∈ ([32, 72, 84, 84, 80, 47, 49, 46, 49] : List UInt8), plainB d.toNat = true by decide) c hc
theorem line2_put (p : List UInt8) (h : hostB p = true) : putErr (line2 p) = 0 := by
  obtain ⟨h1, h2, -⟩ := hostB_and p h
  refine put_of _ ?_ (by unfold line2; simp; omega)
  intro c hc
  unfold line2 at hc
  rw [List.mem_append] at hc
  rcases hc with hc | hc
  · exact (show ∀ d ∈ ([72, 111, 115, 116, 58, 32] : List UInt8), plainB d.toNat = true by decide) c hc
  · exact (hostN_plain _ (h2 c hc)).1
theorem askL_len (a b : Int) (ha : a ≤ 9223372036854775807) (hb : b ≤ 9223372036854775807) : (askL a b).length ≤ 47 := by
  unfold askL
  split
  · rw [List.length_append]; have := textR_len a b ha hb; have e : asksL.length = 6 := rfl; omega
  · exact Nat.zero_le _
theorem askL_plain (a b : Int) : plainL (askL a b) := by
  unfold askL
  split
  · intro c hc
    unfold textR at hc
    rw [List.mem_append, List.mem_append, List.mem_cons] at hc
    rcases hc with hc | hc | hc | hc
    · exact (show ∀ d ∈ asksL, plainB d.toNat = true by decide) c hc
    · exact digL_plain a c hc
    · subst hc; decide
    · exact digL_plain b c hc
  · intro c hc; simp at hc
theorem line3_put (a b : Int) (ha : a ≤ 9223372036854775807) (hb : b ≤ 9223372036854775807) : putErr (line3 a b) = 0 := by
  refine put_of _ ?_ (by unfold line3; have := askL_len a b ha hb; simp; omega)
  intro c hc
  unfold line3 at hc
  rw [List.mem_append] at hc
  rcases hc with hc | hc
  · exact (show ∀ d ∈ ([82, 97, 110, 103, 101, 58, 32] : List UInt8), plainB d.toNat = true by decide) c hc
  · exact askL_plain a b c hc
/-- what laying a line that may be laid returns -/
theorem put_good (s : ByteArray) (w : World) (hs : s.size ≤ 256) (h : putErr s.data.toList = 0) :
    Calls Tryz.prog 61 #[.string s] w fun e w' => e = .returned (.tuple #[.string (s ++ ⟨#[13, 10]⟩), .int .i64 0]) ∧ w' = w := by
  have := lines_put s w (by omega)
  unfold putLine at this
  rw [if_pos h, h] at this
  exact this
theorem c_join3 (B : Nat) (x y z : ByteArray) (W : World) (hx : x.size ≤ 1000000) (hy : y.size ≤ 1000000) (hz : z.size ≤ 1000000) (h0 : W.cell? ⟨B, 0, none⟩ = some (.string x)) (h1 : W.cell? ⟨B, 1, none⟩ = some (.string y)) (h2 : W.cell? ⟨B, 2, none⟩ = some (.string z)) (hB : B < W.heap.size) :
    Calls Tryz.prog 60 #[.slice (some ⟨B, 0, none⟩) 3 3, .string ⟨#[32]⟩] W fun e w' => e = .returned (.string (bs (x.data.toList ++ 32 :: (y.data.toList ++ 32 :: z.data.toList)))) ∧ Below W.heap.size W w' := by
  have hj : Lib.join ([x, y, z].map (·.data.toList)) (ByteArray.mk #[32]).data.toList = x.data.toList ++ 32 :: (y.data.toList ++ 32 :: z.data.toList) := by
    simp [Lib.join]
  have := Tryz.strings_Join B 0 3 [x, y, z] ⟨#[32]⟩ W (fun j u hj => by
    match j, hj with
    | 0, hj => simp at hj; subst hj; exact h0
    | 1, hj => simp at hj; subst hj; exact h1
    | 2, hj => simp at hj; subst hj; exact h2) hB (by simp) (by simp) (by
      rw [hj]; simp only [List.length_append, List.length_cons, size_len]; omega)
  rw [hj] at this
  exact this
theorem c_join3n (x y z : ByteArray) (W : World) (hx : x.size ≤ 1000000) (hy : y.size ≤ 1000000) (hz : z.size ≤ 1000000) :
    Calls Tryz.prog 60 #[.slice (some ⟨W.heap.size, 0, none⟩) 3 3, .string ⟨#[32]⟩] (W.alloc (.cells #[.string x, .string y, .string z] 9)).drew fun e w' => e = .returned (.string (bs (x.data.toList ++ 32 :: (y.data.toList ++ 32 :: z.data.toList)))) ∧ Below (W.alloc (.cells #[.string x, .string y, .string z] 9)).drew.heap.size (W.alloc (.cells #[.string x, .string y, .string z] 9)).drew w' := by
  have hh : (W.alloc (.cells #[.string x, .string y, .string z] 9)).drew.heap[W.heap.size]? = some (.cells #[.string x, .string y, .string z] 9 (0, 0)) := heap_alloc_new W _
  refine c_join3 W.heap.size x y z _ hx hy hz ?_ ?_ ?_ (by simp) <;> (unfold World.cell?; rw [hh]; rfl)
set_option maxRecDepth 100000 in
set_option maxHeartbeats 4000000 in
theorem asking_print (p h : ByteArray) (a b : Int) (w : World) (hE : EnvF w) (ha0 : -9223372036854775808 ≤ a) (ha : a ≤ 9223372036854775807) (hb0 : -9223372036854775808 ≤ b) (hb : b ≤ 9223372036854775807) :
    Calls Tryz.prog 33 #[.agg #[.string p, .string h, .int .i64 a, .int .i64 b]] w fun e w' => e = .returned (.tuple #[.string (bs (aPrint p.data.toList h.data.toList a b)), .int .i64 (aErr p.data.toList h.data.toList a b : Nat)]) ∧ Below w.heap.size w w' := by
  have HC := Lib.hid (fun w => asking_check p h a b w)
  have HA := Lib.hid (fun w hE => ranges_ask a b w hE ha0 ha hb0 hb)
  have HE := Lib.hid (hE.below (below_agg4 w (.string p) (.string h) (.int .i64 a) (.int .i64 b) 91))
  clear hE
  by_cases he : aErr p.data.toList h.data.toList a b = 0
  · obtain ⟨z1, z2, hr⟩ := aErr_zero _ _ _ _ he
    have hp : p.size ≤ 64 := by have := (pathB_and _ z1).1; rwa [size_len] at this
    have hh : h.size ≤ 32 := by have := (hostB_and _ z2).1; rwa [size_len] at this
    have o1 := line1_put _ z1
    have o2 := line2_put _ z2
    have o3 := line3_put a b ha hb
    have HRQ : Hid (aPrint p.data.toList h.data.toList a b = reqL p.data.toList h.data.toList a b) := Lib.hid (if_pos he)
    rw [he] at HC ⊢
    rw [hr] at HA
    obtain ⟨Q, hQ⟩ : ∃ Q, bs (askL a b) = Q := ⟨_, rfl⟩
    rw [hQ] at HA
    have hQs : Q.size ≤ 47 := by rw [← hQ, bs_size]; exact askL_len a b ha hb
    have p1 := fun w => run_string_add_sum (P := Tryz.prog) w ⟨#[72, 111, 115, 116, 58, 32]⟩ h (by show 6 + _ ≤ _; omega)
    have p2 := fun w => run_string_add_sum (P := Tryz.prog) w ⟨#[82, 97, 110, 103, 101, 58, 32]⟩ Q (by show 7 + _ ≤ _; omega)
    obtain ⟨L1, hL1⟩ : ∃ L1, bs (line1 p.data.toList) = L1 := ⟨_, rfl⟩
    have e2 : (⟨#[72, 111, 115, 116, 58, 32]⟩ : ByteArray) ++ h = bs (line2 h.data.toList) := by
      rw [show (⟨#[72, 111, 115, 116, 58, 32]⟩ : ByteArray) = bs [72, 111, 115, 116, 58, 32] from rfl]
      conv => lhs; rw [← bs_self h]
      rw [bs_cat]; rfl
    have e3 : (⟨#[82, 97, 110, 103, 101, 58, 32]⟩ : ByteArray) ++ Q = bs (line3 a b) := by
      rw [show (⟨#[82, 97, 110, 103, 101, 58, 32]⟩ : ByteArray) = bs [82, 97, 110, 103, 101, 58, 32] from rfl, ← hQ, bs_cat]; rfl
    have s1 : L1.size ≤ 77 := by rw [← hL1, bs_size]; unfold line1; have := size_len p; simp only [List.length_append, List.length_cons, List.length_nil]; omega
    have HX : Hid (∀ (W : World) (B : Nat), (W.cell? ⟨B, 0, none⟩ = some (.string L1) ∧ W.cell? ⟨B, 1, none⟩ = some (.string (⟨#[72, 111, 115, 116, 58, 32]⟩ ++ h)) ∧ W.cell? ⟨B, 2, none⟩ = some (.string (⟨#[82, 97, 110, 103, 101, 58, 32]⟩ ++ Q)) ∧ W.cell? ⟨B, 3, none⟩ = some (.string ⟨#[]⟩)) → ∀ k, k < 4 → ∀ O, O = bs (body ((lines4 p.data.toList h.data.toList a b).take k)) →
        ∃ X, W.cell? ⟨B, k, none⟩ = some (.string X) ∧ X.size ≤ 100 ∧ (∀ w, Calls Tryz.prog 61 #[.string X] w fun e w' => e = .returned (.tuple #[.string (X ++ ⟨#[13, 10]⟩), .int .i64 0]) ∧ w' = w) ∧ O ++ (X ++ ⟨#[13, 10]⟩) = bs (body ((lines4 p.data.toList h.data.toList a b).take (k + 1)))) := Lib.hid (by
      intro W B hc k hk O hO
      obtain ⟨c0, c1, c2, c3⟩ := hc
      have hb : ∀ (O : ByteArray) (X : ByteArray) (A : List (List UInt8)) (x : List UInt8), O = bs (body A) → X = bs x → O ++ (X ++ ⟨#[13, 10]⟩) = bs (body (A ++ [x])) := by
        intro O X A x h1 h2
        rw [h1, h2, show (⟨#[13, 10]⟩ : ByteArray) = bs [13, 10] from rfl, bs_cat, bs_cat, body_append]
        rfl
      match k, hk with
      | 0, _ => exact ⟨L1, c0, by omega, fun w => put_good L1 w (by omega) (by rw [← hL1, bs_data]; exact o1), hb _ _ [] _ hO hL1.symm⟩
      | 1, _ => exact ⟨_, c1, by rw [ByteArray.size_append]; show 6 + _ ≤ _; omega, fun w => put_good _ w (by rw [ByteArray.size_append]; show 6 + _ ≤ _; omega) (by rw [e2, bs_data]; exact o2), hb _ _ [line1 p.data.toList] _ hO e2⟩
      | 2, _ => exact ⟨_, c2, by rw [ByteArray.size_append]; show 7 + _ ≤ _; omega, fun w => put_good _ w (by rw [ByteArray.size_append]; show 7 + _ ≤ _; omega) (by rw [e3, bs_data]; exact o3), hb _ _ [line1 p.data.toList, line2 h.data.toList] _ hO e3⟩
      | 3, _ => exact ⟨_, c3, by decide, fun w => put_good _ w (by decide) (by decide), hb _ _ [line1 p.data.toList, line2 h.data.toList, line3 a b] [] hO rfl⟩)
    clear e2 e3 o1 o2 o3 z1 z2
    have hl1 : (⟨#[71, 69, 84]⟩ : ByteArray).data.toList ++ 32 :: (p.data.toList ++ 32 :: (⟨#[72, 84, 84, 80, 47, 49, 46, 49]⟩ : ByteArray).data.toList) = line1 p.data.toList := by unfold line1; simp
    have hJ := fun W => c_join3n ⟨#[71, 69, 84]⟩ p ⟨#[72, 84, 84, 80, 47, 49, 46, 49]⟩ W (by decide) (by omega) (by decide)
    rw [hl1, hL1] at hJ
    have HJ := Lib.hid hJ
    clear hl1 hJ
    go_enter Tryz.func33, Tryz.ntmps33
    go_wp2_with fail
    refine (HC.out _).mono ?_
    rintro e w1 ⟨rfl, hb1⟩
    obtain ⟨c0, c1, c2, c3⟩ := box_four hb1
    have HB1 := Lib.hid hb1
    have HE1 := Lib.hid (HE.out.below hb1)
    clear hb1
    go_wp2_with fail
    refine (HA.out _ HE1.out).mono ?_
    rintro e w2 ⟨rfl, hb2⟩
    have HB2 := Lib.hid (bstep HB1.out hb2)
    have HE2 := Lib.hid (HE1.out.below hb2)
    obtain ⟨c0, c1, c2, c3⟩ := box_four HB2.out
    have hlt : w.heap.size < w2.heap.size := by have := HB2.out.size; simp at this; omega
    clear hb2
    go_wp2_with fail
    go_region_with (first
      | (go_at_call 60; go_loud (refine (HJ.out _).mono ?_; rintro e wx ⟨rfl, hbx⟩; obtain ⟨hcx, hfx⟩ := kcell hbx; have hsx := hbx.size)))
    all_goals
      have hbx' : Below w2.heap.size w2 wx := bstep (((Below.refl _ _).alloc (Nat.le_refl _) _).drew) hbx
      have HB3 := Lib.hid (bstep HB2.out (bstep hbx' ((Below.refl _ _).alloc (Nat.le_refl _) (.cells #[.string L1, .string (⟨#[72, 111, 115, 116, 58, 32]⟩ ++ h), .string (⟨#[82, 97, 110, 103, 101, 58, 32]⟩ ++ Q), .string ⟨#[]⟩] 9))))
      have HK := Lib.hid (box4 wx (.string L1) (.string (⟨#[72, 111, 115, 116, 58, 32]⟩ ++ h)) (.string (⟨#[82, 97, 110, 103, 101, 58, 32]⟩ ++ Q)) (.string ⟨#[]⟩) 9)
      clear hbx hbx' hcx hfx hsx c0 c1 c2 c3 hlt p1 p2
      generalize hN : wx.alloc (.cells #[.string L1, .string (⟨#[72, 111, 115, 116, 58, 32]⟩ ++ h), .string (⟨#[82, 97, 110, 103, 101, 58, 32]⟩ ++ Q), .string ⟨#[]⟩] 9) = wn at HB3 HK ⊢
      clear hN
      go_wp2_with fail
      go_simp
      go_loopg [7, 34] 4 (fun gk s7 s34 wy => ∃ (k : Nat) (O : ByteArray), s7 = .string O ∧ s34 = .int .i64 (k : Int) ∧ wy = wn ∧ k + gk = 4 ∧ O.size ≤ k * 200 ∧ Hid (O = bs (body ((lines4 p.data.toList h.data.toList a b).take k))))
      case atStart => exact ⟨0, ⟨#[]⟩, rfl, by simp, rfl, by omega, by decide, Lib.hid rfl⟩
      case round =>
        obtain ⟨k, O, rfl, rfl, rfl, hgk, hOs, HO⟩ := hrel
        by_cases hk : k < 4
        · obtain ⟨g', rfl⟩ : ∃ g', gk = g' + 1 := ⟨gk - 1, by omega⟩
          have tk : decide ((k : Int) < 4) = true := decide_eq_true (by omega)
          obtain ⟨X, hc, hXs, HP, HO2⟩ := HX.out wr wx.heap.size HK.out k hk O HO.out
          have padd := fun w => run_string_add_sum (P := Tryz.prog) w O (X ++ ⟨#[13, 10]⟩) (by rw [ByteArray.size_append]; show _ + (_ + 2) ≤ _; omega)
          have HPP := Lib.hid HP
          have HOO := Lib.hid HO2
          clear HP HO2
          go_wp2_with fail
          refine (HPP.out _).mono ?_
          rintro e w' ⟨rfl, rfl⟩
          go_wp2_with fail
          go_roundg g'
          case measure => omega
          case rel => exact ⟨k + 1, _, rfl, by simp, rfl, by omega, by rw [ByteArray.size_append, ByteArray.size_append]; show _ + (_ + 2) ≤ _; omega, Lib.hid HOO.out⟩
        · obtain rfl : k = 4 := by omega
          have HR : Hid (O = bs (reqL p.data.toList h.data.toList a b)) := Lib.hid (by rw [HO.out]; congr 1; unfold reqL lines4; simp [body])
          go_wp2_with fail
          go_ret2
          exact ⟨by rw [HRQ.out, ← HR.out]; rfl, bstep (below_agg4 w _ _ _ _ _) HB3.out⟩
  · have HR : Hid (aPrint p.data.toList h.data.toList a b = []) := Lib.hid (if_neg he)
    obtain ⟨Z, hZ⟩ : ∃ Z, aErr p.data.toList h.data.toList a b = Z := ⟨_, rfl⟩
    rw [hZ] at HC he ⊢
    have tz : ((Z : Int) != 0) = true := by rw [bne_iff_ne]; omega
    clear hZ
    go_enter Tryz.func33, Tryz.ntmps33
    go_wp2_with fail
    refine (HC.out _).mono ?_
    rintro e w1 ⟨rfl, hb1⟩
    go_wp2_with fail
    go_ret2
    exact ⟨by rw [HR.out]; rfl, bstep (below_agg4 w _ _ _ _ _) hb1⟩
end Go.Proofs.YtbdmmgmcbecolaaGreatDoor
namespace Go.Proofs.YtbdmmgmcbecolaaGreatDoor
open Go.RowKit

theorem bs_of (s : ByteArray) (l : List UInt8) (h : s.data.toList = l) : s = bs l := by rw [← h, bs_self]
set_option maxRecDepth 100000 in
set_option maxHeartbeats 2000000 in
theorem ref_aprint (p h : ByteArray) (a b : Int) (w : World) (ha : a ≤ 9223372036854775807) (hb : b ≤ 9223372036854775807) (hps : p.size ≤ 9223372036854775807) (hhs : h.size ≤ 9223372036854775807) :
    Calls Tryz.prog 41 #[.agg #[.string p, .string h, .int .i64 a, .int .i64 b]] w fun e w' => e = .returned (.tuple #[.string (bs (aPrint p.data.toList h.data.toList a b)), .int .i64 (aErr p.data.toList h.data.toList a b : Nat)]) ∧ Below w.heap.size w w' := by
  have HC := Lib.hid (fun w => ref_acheck p h a b w hps hhs)
  have HA := Lib.hid (fun w => ref_ask a b w ha hb)
  by_cases he : aErr p.data.toList h.data.toList a b = 0
  · obtain ⟨z1, z2, hr⟩ := aErr_zero _ _ _ _ he
    have hp : p.size ≤ 64 := by have := (pathB_and _ z1).1; rwa [size_len] at this
    have hh : h.size ≤ 32 := by have := (hostB_and _ z2).1; rwa [size_len] at this
    have HRQ : Hid (aPrint p.data.toList h.data.toList a b = reqL p.data.toList h.data.toList a b) := Lib.hid (if_pos he)
    rw [he] at HC ⊢
    rw [hr] at HA
    obtain ⟨Q, hQ⟩ : ∃ Q, bs (askL a b) = Q := ⟨_, rfl⟩
    rw [hQ] at HA
    have hQs : Q.size ≤ 47 := by rw [← hQ, bs_size]; exact askL_len a b ha hb
    have zz : ∀ X Y : ByteArray, (X ++ Y).size = X.size + Y.size := fun X Y => ByteArray.size_append
    have y1 : (⟨#[71, 69, 84, 32]⟩ : ByteArray).size = 4 := rfl
    have y2 : (⟨#[32, 72, 84, 84, 80, 47, 49, 46, 49, 13, 10, 72, 111, 115, 116, 58, 32]⟩ : ByteArray).size = 17 := rfl
    have y3 : (⟨#[13, 10, 82, 97, 110, 103, 101, 58, 32]⟩ : ByteArray).size = 9 := rfl
    have y4 : (⟨#[13, 10, 13, 10]⟩ : ByteArray).size = 4 := rfl
    have p1 := fun w => run_string_add_sum (P := Tryz.prog) w ⟨#[71, 69, 84, 32]⟩ p (by rw [y1]; omega)
    have p2 := fun w => run_string_add_sum (P := Tryz.prog) w (⟨#[71, 69, 84, 32]⟩ ++ p) ⟨#[32, 72, 84, 84, 80, 47, 49, 46, 49, 13, 10, 72, 111, 115, 116, 58, 32]⟩ (by rw [zz, y1, y2]; omega)
    have p3 := fun w => run_string_add_sum (P := Tryz.prog) w (⟨#[71, 69, 84, 32]⟩ ++ p ++ ⟨#[32, 72, 84, 84, 80, 47, 49, 46, 49, 13, 10, 72, 111, 115, 116, 58, 32]⟩) h (by rw [zz, zz, y1, y2]; omega)
    have p4 := fun w => run_string_add_sum (P := Tryz.prog) w (⟨#[71, 69, 84, 32]⟩ ++ p ++ ⟨#[32, 72, 84, 84, 80, 47, 49, 46, 49, 13, 10, 72, 111, 115, 116, 58, 32]⟩ ++ h) ⟨#[13, 10, 82, 97, 110, 103, 101, 58, 32]⟩ (by rw [zz, zz, zz, y1, y2, y3]; omega)
    have p5 := fun w => run_string_add_sum (P := Tryz.prog) w (⟨#[71, 69, 84, 32]⟩ ++ p ++ ⟨#[32, 72, 84, 84, 80, 47, 49, 46, 49, 13, 10, 72, 111, 115, 116, 58, 32]⟩ ++ h ++ ⟨#[13, 10, 82, 97, 110, 103, 101, 58, 32]⟩) Q (by rw [zz, zz, zz, zz, y1, y2, y3]; omega)
    have p6 := fun w => run_string_add_sum (P := Tryz.prog) w (⟨#[71, 69, 84, 32]⟩ ++ p ++ ⟨#[32, 72, 84, 84, 80, 47, 49, 46, 49, 13, 10, 72, 111, 115, 116, 58, 32]⟩ ++ h ++ ⟨#[13, 10, 82, 97, 110, 103, 101, 58, 32]⟩ ++ Q) ⟨#[13, 10, 13, 10]⟩ (by rw [zz, zz, zz, zz, zz, y1, y2, y3, y4]; omega)
    have HR : Hid (⟨#[71, 69, 84, 32]⟩ ++ p ++ ⟨#[32, 72, 84, 84, 80, 47, 49, 46, 49, 13, 10, 72, 111, 115, 116, 58, 32]⟩ ++ h ++ ⟨#[13, 10, 82, 97, 110, 103, 101, 58, 32]⟩ ++ Q ++ ⟨#[13, 10, 13, 10]⟩ = bs (reqL p.data.toList h.data.toList a b)) := Lib.hid (by
      refine bs_of _ _ ?_
      have hq : Q.data.toList = askL a b := by rw [← hQ, bs_data]
      rw [data_cat, data_cat, data_cat, data_cat, data_cat, data_cat, hq]
      unfold reqL line1 line2 line3
      simp [body])
    clear zz y1 y2 y3 y4 z1 z2 he hr hQ
    go_enter Tryz.func41, Tryz.ntmps41
    go_wp2_with fail
    refine (HC.out _).mono ?_
    rintro e w1 ⟨rfl, hb1⟩
    obtain ⟨c0, c1, c2, c3⟩ := box_four hb1
    have HB1 := Lib.hid hb1
    clear hb1
    go_wp2_with fail
    refine (HA.out _).mono ?_
    rintro e w2 ⟨rfl, hb2⟩
    have HB2 := Lib.hid (bstep HB1.out hb2)
    obtain ⟨c0, c1, c2, c3⟩ := box_four HB2.out
    clear hb2
    go_wp2_with fail
    go_ret2
    exact ⟨by rw [HRQ.out, ← HR.out]; rfl, bstep (below_agg4 w _ _ _ _ _) HB2.out⟩
  · have HR : Hid (aPrint p.data.toList h.data.toList a b = []) := Lib.hid (if_neg he)
    obtain ⟨Z, hZ⟩ : ∃ Z, aErr p.data.toList h.data.toList a b = Z := ⟨_, rfl⟩
    rw [hZ] at HC he ⊢
    have tz : ((Z : Int) != 0) = true := by rw [bne_iff_ne]; omega
    clear hZ
    go_enter Tryz.func41, Tryz.ntmps41
    go_wp2_with fail
    refine (HC.out _).mono ?_
    rintro e w1 ⟨rfl, hb1⟩
    go_wp2_with fail
    go_ret2
    exact ⟨by rw [HR.out]; rfl, bstep (below_agg4 w _ _ _ _ _) hb1⟩
end Go.Proofs.YtbdmmgmcbecolaaGreatDoor
namespace Go.Proofs.YtbdmmgmcbecolaaGreatDoor
open Go.RowKit

/-- the block of a request that is being taken -/
def RdB (w : World) (R : Nat) (l f p h a b : Value) : Prop := w.heap[R]? = some (.cells #[l, f, p, h, a, b] 259 (0, 0))
theorem RdB.below {w w' : World} {R : Nat} {l f p h a b : Value} (k : RdB w R l f p h a b) (hb : Below w.heap.size w w') : RdB w' R l f p h a b :=
  (hb.block R (Array.getElem?_eq_some_iff.1 k).1).trans k
theorem RdB.lt {w : World} {R : Nat} {l f p h a b : Value} (k : RdB w R l f p h a b) : R < w.heap.size := (Array.getElem?_eq_some_iff.1 k).1
theorem RdB.cells {w : World} {R : Nat} {l f p h a b : Value} (k : RdB w R l f p h a b) :
    w.cell? ⟨R, 0, none⟩ = some l ∧ w.cell? ⟨R, 1, none⟩ = some f ∧ w.cell? ⟨R, 2, none⟩ = some p ∧ w.cell? ⟨R, 3, none⟩ = some h ∧ w.cell? ⟨R, 4, none⟩ = some a ∧ w.cell? ⟨R, 5, none⟩ = some b := by
  unfold RdB at k
  refine ⟨?_, ?_, ?_, ?_, ?_, ?_⟩ <;> (unfold World.cell?; rw [k]; rfl)
theorem RdB.free {w : World} {R : Nat} {l f p h a b : Value} (k : RdB w R l f p h a b) :
    w.frozen? ⟨R, 0, none⟩ = false ∧ w.frozen? ⟨R, 1, none⟩ = false ∧ w.frozen? ⟨R, 2, none⟩ = false ∧ w.frozen? ⟨R, 3, none⟩ = false ∧ w.frozen? ⟨R, 4, none⟩ = false ∧ w.frozen? ⟨R, 5, none⟩ = false := by
  unfold RdB at k
  refine ⟨?_, ?_, ?_, ?_, ?_, ?_⟩ <;> (unfold World.frozen?; rw [k]; rfl)
theorem RdB.set1 {w : World} {R : Nat} {l f p h a b : Value} (k : RdB w R l f p h a b) (v : Value) : RdB (w.setCell ⟨R, 1, none⟩ v) R l v p h a b := by
  unfold RdB at k ⊢; simp [World.setCell, Array.getElem?_modify, k]
theorem RdB.set2 {w : World} {R : Nat} {l f p h a b : Value} (k : RdB w R l f p h a b) (v : Value) : RdB (w.setCell ⟨R, 2, none⟩ v) R l f v h a b := by
  unfold RdB at k ⊢; simp [World.setCell, Array.getElem?_modify, k]
theorem RdB.set3 {w : World} {R : Nat} {l f p h a b : Value} (k : RdB w R l f p h a b) (v : Value) : RdB (w.setCell ⟨R, 3, none⟩ v) R l f p v a b := by
  unfold RdB at k ⊢; simp [World.setCell, Array.getElem?_modify, k]
theorem RdB.set45 {w : World} {R : Nat} {l f p h a b : Value} (k : RdB w R l f p h a b) (u v : Value) : RdB ((w.setCell ⟨R, 4, none⟩ u).setCell ⟨R, 5, none⟩ v) R l f p h u v := by
  unfold RdB at k ⊢; simp [World.setCell, Array.getElem?_modify, k]
theorem set_size (w : World) (a : Addr) (v : Value) : (w.setCell a v).heap.size = w.heap.size := by simp
theorem GR.refl (R : Nat) (w : World) : w.grownBy w (some R) := ⟨rfl, rfl, rfl, Nat.le_refl _, fun _ _ _ => rfl⟩
theorem _root_.Go.World.grownBy.below {w w1 w2 : World} {r : Option Nat} (h : w.grownBy w1 r) (hb : Below w1.heap.size w1 w2) : w.grownBy w2 r :=
  ⟨hb.os.trans h.os, hb.tape.trans h.tape, hb.output.trans h.output, Nat.le_trans h.size hb.size, fun k hk hne => (hb.block k (Nat.lt_of_lt_of_le hk h.size)).trans (h.block k hk hne)⟩
theorem _root_.Go.World.grownBy.set {w w1 : World} {R : Nat} (h : w.grownBy w1 (some R)) (j : Nat) (v : Value) : w.grownBy (w1.setCell ⟨R, j, none⟩ v) (some R) := by
  have hk : Below R w1 (w1.setCell ⟨R, j, none⟩ v) := (Below.refl R w1).setCell (p := ⟨R, j, none⟩) (Nat.le_refl _) v
  refine ⟨hk.os.trans h.os, hk.tape.trans h.tape, hk.output.trans h.output, by rw [set_size]; exact h.size, fun k hk hne => ?_⟩
  refine Eq.trans ?_ (h.block k hk hne)
  have hkR : R ≠ k := fun e => hne (by rw [e])
  simp [World.setCell, Array.getElem?_modify, hkR]
theorem _root_.Go.World.grownBy.toBelow {w w' : World} {R : Nat} (h : w.grownBy w' (some R)) (hR : R ≤ w.heap.size) : Below R w w' :=
  (Below.refl R w).grown h hR (fun k hk => by have := Option.some.inj hk; omega)
/-- what is wrong with the first line's words -/
def firstW (ws : List (List UInt8)) : Nat := if ws.length ≠ 3 then 4 else if ws.getD 0 [] ≠ [71, 69, 84] then 14 else if ws.getD 2 [] ≠ [72, 84, 84, 80, 47, 49, 46, 49] then 13 else if pathB (ws.getD 1 []) = false then 2 else 0
def firstL (ls : List (List UInt8)) : Nat := if ls = [] then 4 else firstW (words (ls.getD 0 []))
def wordL (ls : List (List UInt8)) : List UInt8 := (words (ls.getD 0 [])).getD 1 []
theorem bs_lit (x l : List UInt8) : ((bs x).toList == l) = decide (x = l) := by
  rw [ByteArray.toList_eq, bs_data]
  by_cases h : x = l
  · subst h; simp
  · simp [h]
theorem words_len (l : List UInt8) : ∀ x ∈ words l, x.length ≤ l.length := by
  induction l with
  | nil => intro x hx; simp [words] at hx; subst hx; exact Nat.le_refl _
  | cons c t ih =>
    intro x hx
    unfold words at hx
    split at hx
    · rcases List.mem_cons.1 hx with rfl | hx
      · exact Nat.zero_le _
      · have := ih x hx; simp; omega
    · cases hw : words t with
      | nil => rw [hw] at hx; simp at hx; subst hx; simp
      | cons y ys =>
        rw [hw] at hx ih
        rcases List.mem_cons.1 hx with rfl | hx
        · have := ih y (List.mem_cons_self ..); simp; omega
        · have := ih x (List.mem_cons_of_mem _ hx); simp; omega
def FirstPost (R : Nat) (w : World) (lv fv p h a b : Value) (ls : List (List UInt8)) (e : Ending) (w' : World) : Prop := e = .returned (.int .i64 (firstL ls : Nat)) ∧ RdB w' R lv fv (if firstL ls = 0 then .string (bs (wordL ls)) else p) h a b ∧ w.grownBy w' (some R)
set_option maxRecDepth 100000 in
set_option maxHeartbeats 4000000 in
theorem ask_first (R : Nat) (w : World) (lv fv p h a b : Value) (ls : List (List UInt8)) (hR : RdB w R lv fv p h a b) (hl : HoldsS w lv ls) (hx : ∀ x ∈ ls, x.length ≤ 1000000) (hE : EnvF w) :
    Calls Tryz.prog 160 #[.pointer (some ⟨R, 0, none⟩)] w (FirstPost R w lv fv p h a b ls) := by
  obtain ⟨k0, -, -, -, -, -⟩ := hR.cells
  obtain ⟨-, -, f2, -, -, -⟩ := hR.free
  have hRl := hR.lt
  by_cases hn : ls = []
  · subst hn
    obtain ⟨av, c, rfl, hc, hh⟩ := hl
    have HR := Lib.hid hR
    clear hR hh hx hE
    go_enter Tryz.func160, Tryz.ntmps160
    go_wp2_with fail
    go_ret
    exact ⟨rfl, HR.out, GR.refl _ _⟩
  · obtain ⟨av, c, rfl, hc, hh⟩ := hl
    obtain ⟨B, o, rfl, hBl, hcell⟩ := hh hn
    have hpos : 0 < ls.length := List.length_pos_iff.2 hn
    have c0 := hcell 0 hpos
    rw [Nat.add_zero] at c0
    obtain ⟨x0, hx0⟩ : ∃ x0, ls[0] = x0 := ⟨_, rfl⟩
    have hxl : x0.length ≤ 1000000 := hx x0 (hx0 ▸ List.getElem_mem hpos)
    have hg : ls.getD 0 [] = x0 := by rw [List.getD_eq_getElem?_getD, List.getElem?_eq_getElem hpos, hx0]; rfl
    rw [hx0] at c0
    have HF : Hid (firstL ls = firstW (words x0) ∧ wordL ls = (words x0).getD 1 []) := Lib.hid ⟨by unfold firstL; rw [if_neg hn, hg], by unfold wordL; rw [hg]⟩
    obtain ⟨m, hm⟩ := hE.m
    have HW := Lib.hid (lines_words (bs x0) m w (by rw [bs_size]; omega) hm)
    have tl : ((ls.length : Int) == 0) = false := by rw [beq_eq_false_iff_ne]; omega
    have HRR := Lib.hid hR
    have hwl := words_len x0
    obtain ⟨ws, hws⟩ : ∃ ws, words x0 = ws := ⟨_, rfl⟩
    rw [bs_data, hws] at HW
    rw [hws] at HF hwl
    clear hcell hh hx hR hg hx0 hm hE
    go_enter Tryz.func160, Tryz.ntmps160
    go_wp2_with fail
    refine HW.out.mono ?_
    rintro e w1 ⟨v, rfl, hown, hb1⟩
    have HB1 := Lib.hid hb1
    have hS := HoldsS.of_own hown
    obtain ⟨av, cv, hv, hcv, hhv⟩ := hS
    subst hv
    have HR1 := Lib.hid (HRR.out.below hb1)
    obtain ⟨-, -, g2, -, -, -⟩ := HR1.out.free
    clear hown c0 k0 f2 hb1
    by_cases h3 : ws.length = 3
    · obtain ⟨B', o', rfl, hBl', hcell'⟩ := hhv (by intro e; rw [e] at h3; simp at h3)
      have d0 := hcell' 0 (by omega)
      have d1 := hcell' 1 (by omega)
      have d2 := hcell' 2 (by omega)
      rw [Nat.add_zero] at d0
      obtain ⟨y0, y1, y2, rfl⟩ : ∃ y0 y1 y2, ws = [y0, y1, y2] := by
        match ws, h3 with
        | [y0, y1, y2], _ => exact ⟨y0, y1, y2, rfl⟩
      change w1.cell? ⟨B', o', none⟩ = some (.string (bs y0)) at d0
      change w1.cell? ⟨B', o' + 1, none⟩ = some (.string (bs y1)) at d1
      change w1.cell? ⟨B', o' + 2, none⟩ = some (.string (bs y2)) at d2
      have HP := Lib.hid (fun w => asking_path (bs y1) w)
      rw [bs_data] at HP
      have e0 := bs_lit y0 [71, 69, 84]
      have e2 := bs_lit y2 [72, 84, 84, 80, 47, 49, 46, 49]
      clear hcell' hhv h3 hwl
      by_cases q0 : y0 = [71, 69, 84]
      · rw [decide_eq_true q0] at e0
        by_cases q2 : y2 = [72, 84, 84, 80, 47, 49, 46, 49]
        · rw [decide_eq_true q2] at e2
          cases hp : pathB y1 with
          | false =>
            rw [hp] at HP
            have HFF : Hid (firstL ls = 2) := Lib.hid (by rw [HF.out.1]; unfold firstW; simp [q0, q2, hp])
            clear hp q0 q2
            go_wp2_with fail
            refine (HP.out _).mono ?_
            rintro e w2 ⟨rfl, hb2⟩
            go_wp2_with fail
            go_ret
            exact ⟨by rw [HFF.out]; rfl, by rw [HFF.out]; exact HR1.out.below hb2, ((GR.refl R w).below HB1.out).below hb2⟩
          | true =>
            rw [hp] at HP
            have HFF : Hid (firstL ls = 0 ∧ wordL ls = y1) := Lib.hid ⟨by rw [HF.out.1]; unfold firstW; simp [q0, q2, hp], HF.out.2⟩
            clear hp q0 q2
            go_wp2_with fail
            refine (HP.out _).mono ?_
            rintro e w2 ⟨rfl, hb2⟩
            obtain ⟨-, -, g2', -, -, -⟩ := (HR1.out.below hb2).free
            obtain ⟨-, -, k2', -, -, -⟩ := (HR1.out.below hb2).cells
            have d1' := (hb2.cell (p := ⟨B', o' + 1, none⟩) hBl').trans d1
            have HB2 := Lib.hid hb2
            clear hb2 d0 d2 d1 g2
            go_wp2_with fail
            go_ret
            refine ⟨by rw [HFF.out.1]; rfl, ?_, ?_⟩
            · rw [HFF.out.1, HFF.out.2]; exact (HR1.out.below HB2.out).set2 _
            · exact (((GR.refl R w).below HB1.out).below HB2.out).set 2 _
        · rw [decide_eq_false q2] at e2
          have HFF : Hid (firstL ls = 13) := Lib.hid (by rw [HF.out.1]; unfold firstW; simp [q0, q2])
          clear q0 q2
          go_wp2_with fail
          go_ret
          exact ⟨by rw [HFF.out]; rfl, by rw [HFF.out]; exact HR1.out, (GR.refl R w).below HB1.out⟩
      · rw [decide_eq_false q0] at e0
        have HFF : Hid (firstL ls = 14) := Lib.hid (by rw [HF.out.1]; unfold firstW; simp [q0])
        clear q0
        go_wp2_with fail
        go_ret
        exact ⟨by rw [HFF.out]; rfl, by rw [HFF.out]; exact HR1.out, (GR.refl R w).below HB1.out⟩
    · have HFF : Hid (firstL ls = 4) := Lib.hid (by rw [HF.out.1]; unfold firstW; rw [if_pos h3])
      have t3 : ((ws.length : Int) != 3) = true := by rw [bne_iff_ne]; omega
      clear hhv h3
      go_wp2_with fail
      go_ret
      exact ⟨by rw [HFF.out]; rfl, by rw [HFF.out]; exact HR1.out, (GR.refl R w).below HB1.out⟩
end Go.Proofs.YtbdmmgmcbecolaaGreatDoor
