/- Length of package ranges and of the document; what the document's Tell returns; ranges that are not the same. The law function ReplyAgain. What judge of package fetch returns. errors.As at the error of fetch and a target that is a variable of its type. (The numbers of package variables and of types + 100 are filled in by fill.py.) errors.As at the error of fetch: what it does. A client in memory, beside its link; Judge, New, Total, Asks, Last. What Get of a client fetches. -/
import Derived.Test.YtbdmmgmcbecolaaGreatDoorPu14
import Derived.Laws.StructEq
import Derived.BigQuiet
import Derived.Test.YtbdmmgmcbecolaaGreatDoorChecked
import Derived.WalkKit
import Derived.LaidEql
import Derived.Stop.Asserts
import Derived.RowKitTokens
import Derived.Elder7
set_option linter.unusedVariables false
set_option linter.unusedSimpArgs false
namespace Go.Proofs.YtbdmmgmcbecolaaGreatDoor
open Go.RowKit
theorem rLen_ok (a b : Int) (h : rErr a b = 0) : rLen a b = b - a + 1 := by unfold rLen; rw [if_pos h]
theorem rLen_no (a b : Int) (h : rErr a b ≠ 0) : rLen a b = 0 := by unfold rLen; rw [if_neg h]
theorem ranges_length (a b : Int) (w : World) :
    Calls Tryz.prog 11 #[.agg #[.int .i64 a, .int .i64 b]] w fun e w' => e = .returned (.int .i64 (rLen a b)) ∧ Below w.heap.size w w' := by
  have HC := Lib.hid (fun w => ranges_check a b w)
  obtain ⟨r0, r1⟩ := box2 w (.int .i64 a) (.int .i64 b) 28
  have HB0 := Lib.hid (below_agg2 w (.int .i64 a) (.int .i64 b) 28)
  have hl : w.heap.size < (w.alloc (.cells #[.int .i64 a, .int .i64 b] 28)).heap.size := by simp
  have HL := Lib.hid hl
  clear hl
  by_cases hr : rErr a b = 0
  · have HA := Lib.hid (rLen_ok a b hr)
    obtain ⟨b1, b2, b3⟩ := rErr_ok a b hr
    have wr1 : IntKind.i64.wrap (b - a) = b - a := by rw [IntKind.wrap_i64]; omega
    have wr2 : IntKind.i64.wrap (b - a + 1) = b - a + 1 := by rw [IntKind.wrap_i64]; omega
    rw [hr] at HC
    clear hr b1 b2 b3
    go_enter Tryz.func11, Tryz.ntmps11
    go_wp2_with fail
    refine (HC.out _).mono ?_
    rintro e w1 ⟨rfl, hb1⟩
    have y0 := (hb1.cell (p := ⟨w.heap.size, 0, none⟩) HL.out).trans r0
    have y1 := (hb1.cell (p := ⟨w.heap.size, 1, none⟩) HL.out).trans r1
    have HB1 := Lib.hid (bstep HB0.out hb1)
    clear hb1 r0 r1
    go_wp2_with fail
    go_ret
    exact ⟨by rw [HA.out] <;> rfl, HB1.out⟩
  · have HA := Lib.hid (rLen_no a b hr)
    have h8 := (rErr_no a b hr).1
    rw [h8] at HC
    clear hr h8
    go_enter Tryz.func11, Tryz.ntmps11
    go_wp2_with fail
    refine (HC.out _).mono ?_
    rintro e w1 ⟨rfl, hb1⟩
    have HB1 := Lib.hid (bstep HB0.out hb1)
    clear hb1 r0 r1
    go_wp2_with fail
    go_ret
    exact ⟨by rw [HA.out] <;> rfl, HB1.out⟩
theorem ref_rlength (a b : Int) (w : World) :
    Calls Tryz.prog 29 #[.agg #[.int .i64 a, .int .i64 b]] w fun e w' => e = .returned (.int .i64 (rLen a b)) ∧ Below w.heap.size w w' := by
  have HC := Lib.hid (fun w => ref_rcheck a b w)
  obtain ⟨r0, r1⟩ := box2 w (.int .i64 a) (.int .i64 b) 23
  have HB0 := Lib.hid (below_agg2 w (.int .i64 a) (.int .i64 b) 23)
  have hl : w.heap.size < (w.alloc (.cells #[.int .i64 a, .int .i64 b] 23)).heap.size := by simp
  have HL := Lib.hid hl
  clear hl
  by_cases hr : rErr a b = 0
  · have HA := Lib.hid (rLen_ok a b hr)
    obtain ⟨b1, b2, b3⟩ := rErr_ok a b hr
    have wr1 : IntKind.i64.wrap (b - a) = b - a := by rw [IntKind.wrap_i64]; omega
    have wr2 : IntKind.i64.wrap (b - a + 1) = b - a + 1 := by rw [IntKind.wrap_i64]; omega
    rw [hr] at HC
    clear hr b1 b2 b3
    go_enter Tryz.func29, Tryz.ntmps29
    go_wp2_with fail
    refine (HC.out _).mono ?_
    rintro e w1 ⟨rfl, hb1⟩
    have y0 := (hb1.cell (p := ⟨w.heap.size, 0, none⟩) HL.out).trans r0
    have y1 := (hb1.cell (p := ⟨w.heap.size, 1, none⟩) HL.out).trans r1
    have HB1 := Lib.hid (bstep HB0.out hb1)
    clear hb1 r0 r1
    go_wp2_with fail
    go_ret
    exact ⟨by rw [HA.out] <;> rfl, HB1.out⟩
  · have HA := Lib.hid (rLen_no a b hr)
    have h8 := (rErr_no a b hr).1
    rw [h8] at HC
    clear hr h8
    go_enter Tryz.func29, Tryz.ntmps29
    go_wp2_with fail
    refine (HC.out _).mono ?_
    rintro e w1 ⟨rfl, hb1⟩
    have HB1 := Lib.hid (bstep HB0.out hb1)
    clear hb1 r0 r1
    go_wp2_with fail
    go_ret
    exact ⟨by rw [HA.out] <;> rfl, HB1.out⟩
theorem neq_orng (x y x' y' : Int) (w : World) : (binOp .neq 28 (.agg #[.int .i64 x, .int .i64 y]) (.agg #[.int .i64 x', .int .i64 y'])).run Tryz.prog w = .ok (.bool (!decide (x = x' ∧ y = y'))) w := by
  have u4 := Tryz.underlying3
  have hS : Tryz.prog.underlying 28 = some (.struct (Tryz.prog.fieldsOf 28)) := by kernel_rfl
  have hp : Tryz.prog.stoodInHeld 28 = false := by kernel_rfl
  rw [run_neq_struct, show (10000 : Nat) = 9998 + 2 from rfl, run_equalIn_agg w (9998 + 1) 28 _ _ hS hp]
  simp only [Program.fieldsOf, Tryz.underlying28]
  by_cases h1 : x = x'
  · subst h1
    by_cases h2 : y = y'
    · subst h2
      go_simp
    · have h3 : (y == y') = false := by rw [beq_eq_false_iff_ne]; exact h2
      go_simp <;> simp [h2]
  · have h3 : (x == x') = false := by rw [beq_eq_false_iff_ne]; exact h1
    go_simp <;> simp [h1]
theorem neq_drng (x y x' y' : Int) (w : World) : (binOp .neq 23 (.agg #[.int .i64 x, .int .i64 y]) (.agg #[.int .i64 x', .int .i64 y'])).run Tryz.prog w = .ok (.bool (!decide (x = x' ∧ y = y'))) w := by
  have u4 := Tryz.underlying3
  have hS : Tryz.prog.underlying 23 = some (.struct (Tryz.prog.fieldsOf 23)) := by kernel_rfl
  have hp : Tryz.prog.stoodInHeld 23 = false := by kernel_rfl
  rw [run_neq_struct, show (10000 : Nat) = 9998 + 2 from rfl, run_equalIn_agg w (9998 + 1) 23 _ _ hS hp]
  simp only [Program.fieldsOf, Tryz.underlying23]
  by_cases h1 : x = x'
  · subst h1
    by_cases h2 : y = y'
    · subst h2
      go_simp
    · have h3 : (y == y') = false := by rw [beq_eq_false_iff_ne]; exact h2
      go_simp <;> simp [h2]
  · have h3 : (x == x') = false := by rw [beq_eq_false_iff_ne]; exact h1
    go_simp <;> simp [h1]
theorem guard_orng (op : BinOp) (x y : Operand) (xs ys : Array Value) (w : World) : (eqGuard op 28 x y (.agg xs) (.agg ys)).run Tryz.prog w = .ok () w :=
  run_eqGuard_agg w op 28 x y xs ys (by kernel_rfl)
theorem guard_drng (op : BinOp) (x y : Operand) (xs ys : Array Value) (w : World) : (eqGuard op 23 x y (.agg xs) (.agg ys)).run Tryz.prog w = .ok () w :=
  run_eqGuard_agg w op 23 x y xs ys (by kernel_rfl)
theorem prefix_tells (l : List UInt8) (h : 6 ≤ l.length) : tellsL.isPrefixOf l = (l.take 6 == tellsL) := by
  rw [Bool.eq_iff_iff, beq_iff_eq, List.isPrefixOf_iff_prefix, List.prefix_iff_eq_take]
  exact ⟨fun e => e.symm, fun e => e.symm⟩
theorem prefix_tshort (l : List UInt8) (h : l.length < 6) : tellsL.isPrefixOf l = false := by
  rw [Bool.eq_false_iff]
  intro hp
  have := (List.isPrefixOf_iff_prefix.1 hp).length_le
  have e : tellsL.length = 6 := rfl
  omega
def TellV (L : List UInt8) : Value := .tuple #[.agg #[.int .i64 (tellA L), .int .i64 (tellB L)], .int .i64 (tellC L), .int .i64 (tellE L : Nat)]
theorem tellV_bad (L : List UInt8) (e : Nat) (h : tellE L = e) (h0 : e ≠ 0) : TellV L = .tuple #[.agg #[.int .i64 0, .int .i64 0], .int .i64 0, .int .i64 (e : Nat)] := by
  obtain ⟨h1, h2, h3⟩ := tell_no L (by rw [h]; exact h0)
  unfold TellV
  rw [h1, h2, h3, h]
theorem tellV_form (L : List UInt8) (h : tellOk L = false) : TellV L = .tuple #[.agg #[.int .i64 0, .int .i64 0], .int .i64 0, .int .i64 4] := tellV_bad L 4 (tell_bad L h).1 (by decide)
set_option maxRecDepth 100000 in
set_option maxHeartbeats 4000000 in
theorem ref_tell (s : ByteArray) (w : World) (hs : s.size ≤ 1000000) :
    Calls Tryz.prog 31 #[.string s] w fun e w' => e = .returned (TellV s.data.toList) ∧ Below w.heap.size w w' := by
  obtain ⟨L, hL⟩ : ∃ L, s.data.toList = L := ⟨_, rfl⟩
  have hLs : L.length = s.size := by rw [← hL, size_len]
  rw [hL]
  by_cases h6 : s.size < 6
  · have HA := Lib.hid (tellV_form L (by unfold tellOk; rw [prefix_tshort L (by omega)]; rfl))
    have t1 : decide ((s.size : Int) < 6) = true := decide_eq_true (by omega)
    clear h6 hL hLs
    go_enter Tryz.func31, Tryz.ntmps31
    go_wp2_with fail
    refine ret_cell3 (A := ⟨w.heap.size, 0, none⟩) rfl (load_rrange _ _ _ _ _ (heap_alloc_new w _)) rfl rfl rfl rfl ?_
    exact ⟨by rw [HA.out] <;> rfl, below_agg2 w _ _ _⟩
  have t1 : decide ((s.size : Int) < 6) = false := decide_eq_false (by omega)
  have h6' : 6 ≤ s.size := by omega
  have hpe : ((s.extract 0 6).toList == [98, 121, 116, 101, 115, 32]) = tellsL.isPrefixOf L := by
    rw [extract_bs, List.drop_zero, ByteArray.toList_eq, bs_data, hL, prefix_tells L (by omega)]; rfl
  cases hp : tellsL.isPrefixOf L with
  | false =>
    have HA := Lib.hid (tellV_form L (by unfold tellOk; rw [hp]; rfl))
    rw [hp] at hpe
    clear h6 hL hLs hp
    go_enter Tryz.func31, Tryz.ntmps31
    go_wp2_with fail
    refine ret_cell3 (A := ⟨w.heap.size, 0, none⟩) rfl (load_rrange _ _ _ _ _ (heap_alloc_new w _)) rfl rfl rfl rfl ?_
    exact ⟨by rw [HA.out] <;> rfl, below_agg2 w _ _ _⟩
  | true =>
    rw [hp] at hpe
    have HC := Lib.hid (fun w => ref_cutAt (s.extract 6 s.size) 45 45 rfl w (by rw [ByteArray.size_extract]; omega))
    have hd : (s.extract 6 s.size).data.toList = L.drop 6 := by rw [extract_bs, bs_data, ← size_len s, List.take_length, hL]
    rw [hd] at HC
    obtain ⟨R, hR⟩ : ∃ R, bs (if hasB 45 (L.drop 6) = true then behind 45 (L.drop 6) else []) = R := ⟨_, rfl⟩
    have hRd : R.data.toList = if hasB 45 (L.drop 6) = true then behind 45 (L.drop 6) else [] := by rw [← hR, bs_data]
    have hRs : R.size ≤ 1000000 := by
      rw [← size_len, hRd]
      split
      · unfold behind; rw [List.length_drop, List.length_drop]; omega
      · exact Nat.zero_le _
    rw [hR] at HC
    have HC2 := Lib.hid (fun w => ref_cutAt R 47 47 rfl w hRs)
    cases hB : hasB 45 (L.drop 6) with
    | false =>
      rw [hB] at HC
      have HA := Lib.hid (tellV_form L (by unfold tellOk; rw [hB, Bool.and_false]; rfl))
      generalize bs (if hasB 47 R.data.toList = true then upTo 47 R.data.toList else []) = X1 at HC2
      generalize bs (if hasB 47 R.data.toList = true then behind 47 R.data.toList else []) = X2 at HC2
      generalize hasB 47 R.data.toList = X3 at HC2
      clear h6 hL hLs hp hB hd hR hRd hRs
      go_enter Tryz.func31, Tryz.ntmps31
      go_wp2_with fail
      refine (HC.out _).mono ?_
      rintro e w1 ⟨rfl, hb1⟩
      have HB0 := Lib.hid hb1
      clear hb1
      go_wp2_with fail
      refine (HC2.out _).mono ?_
      rintro e w2 ⟨rfl, hb2⟩
      have HB1 := Lib.hid (bstep HB0.out hb2)
      obtain ⟨k0, k1, f0, f1⟩ := two_of (two_box HB1.out)
      clear hb2
      go_wp2_with fail
      refine ret_cell3 (A := ⟨w.heap.size, 0, none⟩) rfl (load_rrange _ _ _ _ _ (two_set (two_box HB1.out) (.int .i64 0) (.int .i64 0))) rfl rfl rfl rfl ?_
      exact ⟨by rw [HA.out] <;> rfl, two_below (bstep (below_agg2 w _ _ _) HB1.out) _ (Nat.le_refl _) _ _⟩
    | true =>
      rw [hB, if_pos rfl] at hRd
      rw [hB, if_pos rfl] at HC
      rw [hRd] at HC2
      cases hB2 : hasB 47 (behind 45 (L.drop 6)) with
      | false =>
        rw [hB2] at HC2
        have HA := Lib.hid (tellV_form L (by unfold tellOk; rw [hB2, Bool.and_false]))
        generalize bs (upTo 45 (L.drop 6)) = X1 at HC
        clear h6 hL hLs hp hB hd hR hRd hRs hB2
        go_enter Tryz.func31, Tryz.ntmps31
        go_wp2_with fail
        refine (HC.out _).mono ?_
        rintro e w1 ⟨rfl, hb1⟩
        have HB0 := Lib.hid hb1
        clear hb1
        go_wp2_with fail
        refine (HC2.out _).mono ?_
        rintro e w2 ⟨rfl, hb2⟩
        have HB1 := Lib.hid (bstep HB0.out hb2)
        obtain ⟨k0, k1, f0, f1⟩ := two_of (two_box HB1.out)
        clear hb2
        go_wp2_with fail
        refine ret_cell3 (A := ⟨w.heap.size, 0, none⟩) rfl (load_rrange _ _ _ _ _ (two_set (two_box HB1.out) (.int .i64 0) (.int .i64 0))) rfl rfl rfl rfl ?_
        exact ⟨by rw [HA.out] <;> rfl, two_below (bstep (below_agg2 w _ _ _) HB1.out) _ (Nat.le_refl _) _ _⟩
      | true =>
        rw [hB2, if_pos rfl, if_pos rfl] at HC2
        obtain ⟨F, hF⟩ : ∃ F, upTo 45 (L.drop 6) = F := ⟨_, rfl⟩
        obtain ⟨T, hT⟩ : ∃ T, upTo 47 (behind 45 (L.drop 6)) = T := ⟨_, rfl⟩
        obtain ⟨Z, hZ⟩ : ∃ Z, behind 47 (behind 45 (L.drop 6)) = Z := ⟨_, rfl⟩
        have hDl : (L.drop 6).length ≤ 1000000 := by rw [List.length_drop]; omega
        have hBl : (behind 45 (L.drop 6)).length ≤ 1000000 := by unfold behind; rw [List.length_drop]; omega
        have hFl : F.length ≤ 1000000 := by rw [← hF]; have := upTo_le 45 (L.drop 6); omega
        have hTl : T.length ≤ 1000000 := by rw [← hT]; have := upTo_le 47 (behind 45 (L.drop 6)); omega
        have hZl : Z.length ≤ 1000000 := by rw [← hZ]; unfold behind at hBl ⊢; rw [List.length_drop]; omega
        have hE : tellE L = if threeE F T Z ≠ 0 then threeE F T Z else toldE (numV F : Nat) (numV T : Nat) (numV Z : Nat) := by
          unfold tellE tellOk tellF tellT tellN
          rw [hp, hB, hB2, if_neg (by decide), hF, hT, hZ]
        have hV : tellF L = numV F ∧ tellT L = numV T ∧ tellN L = numV Z := by unfold tellF tellT tellN; rw [hF, hT, hZ]; exact ⟨rfl, rfl, rfl⟩
        rw [hF] at HC
        rw [hT, hZ] at HC2
        have HTw := Lib.hid (fun w => ref_two (bs F) (bs T) w (by rw [bs_size]; exact hFl) (by rw [bs_size]; exact hTl))
        rw [bs_data, bs_data] at HTw
        have HN := Lib.hid (fun w => ref_number (bs Z) w (by rw [bs_size]; omega))
        rw [bs_data] at HN
        by_cases hz : twoE F T = 0
        · have h3 : threeE F T Z = numE Z := by
            unfold twoE at hz
            unfold threeE
            split at hz
            · rename_i h; exact absurd hz h
            · rename_i h; rw [if_neg h, if_neg (fun e => e hz)]
          have ea : twoA F T = numV F ∧ twoB F T = numV T := by unfold twoA twoB; rw [hz]; exact ⟨rfl, rfl⟩
          rw [hz, ea.1, ea.2] at HTw
          rw [h3] at hE
          by_cases hn : numE Z = 0
          · rw [if_neg (fun e => e hn)] at hE
            rw [hn] at HN
            have hFm := numV_le' F
            have hTm := numV_le' T
            have hZm := numV_le' Z
            obtain ⟨P, hP⟩ : ∃ P, numV F = P := ⟨_, rfl⟩
            obtain ⟨Q, hQ⟩ : ∃ Q, numV T = Q := ⟨_, rfl⟩
            obtain ⟨M, hM⟩ : ∃ M, numV Z = M := ⟨_, rfl⟩
            rw [hP] at HTw hE hV hFm
            rw [hQ] at HTw hE hV hTm
            rw [hM] at HN hE hV hZm
            have HK := Lib.hid (fun w => ref_rcheck (P : Int) (Q : Int) w)
            by_cases hr : rErr (P : Int) (Q : Int) = 0
            · rw [hr] at HK
              by_cases hq : (M : Int) ≤ (Q : Int)
              · have HA := Lib.hid (tellV_bad L 8 (by rw [hE]; unfold toldE; rw [if_neg (fun e => e hr), if_pos (.inl hq)]) (by decide))
                have t2 : decide ((M : Int) ≤ (Q : Int)) = true := decide_eq_true hq
                clear h6 hL hLs hp hB hd hE hV hF hT hZ hr hz ea hP hQ hM hR hRd hRs hB2 hDl hBl hFl hTl hZl h3 hn
                go_enter Tryz.func31, Tryz.ntmps31
                go_wp2_with fail
                refine (HC.out _).mono ?_
                rintro e w1 ⟨rfl, hb1⟩
                go_wp2_with fail
                refine (HC2.out _).mono ?_
                rintro e w2 ⟨rfl, hb2⟩
                go_wp2_with fail
                refine (HTw.out _).mono ?_
                rintro e w3 ⟨rfl, hb3⟩
                have HB3 := Lib.hid (bstep (bstep hb1 hb2) hb3)
                have hbR : Below w3.heap.size w3 (w3.alloc (.cells #[.int .i64 (P : Int), .int .i64 (Q : Int)] 23)) := below_agg2 _ _ _ _
                have HBR := Lib.hid hbR
                clear hb1 hb2 hb3 hbR
                go_wp2_with fail
                refine (HN.out _).mono ?_
                rintro e w' ⟨rfl, hww⟩
                obtain rfl := hww.symm
                clear hww
                go_wp2_with fail
                refine (HK.out _).mono ?_
                rintro e w4 ⟨rfl, hb4⟩
                obtain ⟨j0, j1⟩ := box_two hb4
                have HB4 := Lib.hid (bstep HB3.out (bstep HBR.out hb4))
                obtain ⟨k0, k1, f0, f1⟩ := two_of (two_box HB4.out)
                clear hb4
                go_wp2_with fail
                refine ret_cell3 (A := ⟨w.heap.size, 0, none⟩) rfl (load_rrange _ _ _ _ _ (two_set (two_box HB4.out) (.int .i64 0) (.int .i64 0))) rfl rfl rfl rfl ?_
                exact ⟨by rw [HA.out]; rfl, two_below (bstep (below_agg2 w _ _ _) HB4.out) _ (Nat.le_refl _) _ _⟩
              · have hE0 : tellE L = 0 := by rw [hE]; unfold toldE; rw [if_neg (fun e => e hr), if_neg (by omega)]
                have HA : Hid (TellV L = .tuple #[.agg #[.int .i64 (P : Int), .int .i64 (Q : Int)], .int .i64 (M : Int), .int .i64 0]) := Lib.hid (by
                  unfold TellV tellA tellB tellC
                  rw [hE0, if_pos rfl, if_pos rfl, if_pos rfl, hV.1, hV.2.1, hV.2.2]; rfl)
                have t2 : decide ((M : Int) ≤ (Q : Int)) = false := decide_eq_false hq
                clear h6 hL hLs hp hB hd hE hV hF hT hZ hr hz ea hP hQ hM hR hRd hRs hB2 hDl hBl hFl hTl hZl h3 hn hE0
                go_enter Tryz.func31, Tryz.ntmps31
                go_wp2_with fail
                refine (HC.out _).mono ?_
                rintro e w1 ⟨rfl, hb1⟩
                go_wp2_with fail
                refine (HC2.out _).mono ?_
                rintro e w2 ⟨rfl, hb2⟩
                go_wp2_with fail
                refine (HTw.out _).mono ?_
                rintro e w3 ⟨rfl, hb3⟩
                have HB3 := Lib.hid (bstep (bstep hb1 hb2) hb3)
                have hbR : Below w3.heap.size w3 (w3.alloc (.cells #[.int .i64 (P : Int), .int .i64 (Q : Int)] 23)) := below_agg2 _ _ _ _
                have HBR := Lib.hid hbR
                clear hb1 hb2 hb3 hbR
                go_wp2_with fail
                refine (HN.out _).mono ?_
                rintro e w' ⟨rfl, hww⟩
                obtain rfl := hww.symm
                clear hww
                go_wp2_with fail
                refine (HK.out _).mono ?_
                rintro e w4 ⟨rfl, hb4⟩
                obtain ⟨j0, j1⟩ := box_two hb4
                have HB4 := Lib.hid (bstep HB3.out (bstep HBR.out hb4))
                obtain ⟨k0, k1, f0, f1⟩ := two_of (two_box HB4.out)
                clear hb4
                go_wp2_with fail
                refine ret_cell3 (A := ⟨w.heap.size, 0, none⟩) rfl (load_rrange _ _ _ _ _ (two_set (two_box HB4.out) (.int .i64 (P : Int)) (.int .i64 (Q : Int)))) rfl rfl rfl rfl ?_
                exact ⟨by rw [HA.out] <;> rfl, two_below (bstep (below_agg2 w _ _ _) HB4.out) _ (Nat.le_refl _) _ _⟩
            · have h8 := (rErr_no _ _ hr).1
              have HA := Lib.hid (tellV_bad L 8 (by rw [hE]; unfold toldE; rw [if_pos hr, h8]) (by decide))
              rw [h8] at HK
              clear h6 hL hLs hp hB hd hE hV hF hT hZ hr hz ea hP hQ hM hR hRd hRs hB2 hDl hBl hFl hTl hZl h3 hn h8
              go_enter Tryz.func31, Tryz.ntmps31
              go_wp2_with fail
              refine (HC.out _).mono ?_
              rintro e w1 ⟨rfl, hb1⟩
              go_wp2_with fail
              refine (HC2.out _).mono ?_
              rintro e w2 ⟨rfl, hb2⟩
              go_wp2_with fail
              refine (HTw.out _).mono ?_
              rintro e w3 ⟨rfl, hb3⟩
              have HB3 := Lib.hid (bstep (bstep hb1 hb2) hb3)
              have hbR : Below w3.heap.size w3 (w3.alloc (.cells #[.int .i64 (P : Int), .int .i64 (Q : Int)] 23)) := below_agg2 _ _ _ _
              have HBR := Lib.hid hbR
              clear hb1 hb2 hb3 hbR
              go_wp2_with fail
              refine (HN.out _).mono ?_
              rintro e w' ⟨rfl, hww⟩
              obtain rfl := hww.symm
              clear hww
              go_wp2_with fail
              refine (HK.out _).mono ?_
              rintro e w4 ⟨rfl, hb4⟩
              have HB4 := Lib.hid (bstep HB3.out (bstep HBR.out hb4))
              obtain ⟨k0, k1, f0, f1⟩ := two_of (two_box HB4.out)
              clear hb4
              go_wp2_with fail
              refine ret_cell3 (A := ⟨w.heap.size, 0, none⟩) rfl (load_rrange _ _ _ _ _ (two_set (two_box HB4.out) (.int .i64 0) (.int .i64 0))) rfl rfl rfl rfl ?_
              exact ⟨by rw [HA.out]; rfl, two_below (bstep (below_agg2 w _ _ _) HB4.out) _ (Nat.le_refl _) _ _⟩
          · rw [if_pos hn] at hE
            have HA := Lib.hid (tellV_bad L (numE Z) hE hn)
            have tz : ((numE Z : Int) != 0) = true := by rw [bne_iff_ne]; omega
            have tz2 : ((numE Z : Int) == 0) = false := by rw [beq_eq_false_iff_ne]; omega
            generalize numE Z = E at HN HA tz tz2
            generalize numV Z = M at HN
            generalize numV F = P at HTw
            generalize numV T = Q at HTw
            clear h6 hL hLs hp hB hd hE hV hF hT hZ hz ea hR hRd hRs hB2 hDl hBl hFl hTl hZl h3 hn
            go_enter Tryz.func31, Tryz.ntmps31
            go_wp2_with fail
            refine (HC.out _).mono ?_
            rintro e w1 ⟨rfl, hb1⟩
            go_wp2_with fail
            refine (HC2.out _).mono ?_
            rintro e w2 ⟨rfl, hb2⟩
            go_wp2_with fail
            refine (HTw.out _).mono ?_
            rintro e w3 ⟨rfl, hb3⟩
            have HB3 := Lib.hid (bstep (bstep hb1 hb2) hb3)
            have hbR : Below w3.heap.size w3 (w3.alloc (.cells #[.int .i64 (P : Int), .int .i64 (Q : Int)] 23)) := below_agg2 _ _ _ _
            have HB4 := Lib.hid (bstep HB3.out hbR)
            clear hb1 hb2 hb3 hbR
            go_wp2_with fail
            refine (HN.out _).mono ?_
            rintro e w' ⟨rfl, hww⟩
            obtain rfl := hww.symm
            clear hww
            obtain ⟨k0, k1, f0, f1⟩ := two_of (two_box HB4.out)
            go_wp2_with fail
            refine ret_cell3 (A := ⟨w.heap.size, 0, none⟩) rfl (load_rrange _ _ _ _ _ (two_set (two_box HB4.out) (.int .i64 0) (.int .i64 0))) rfl rfl rfl rfl ?_
            exact ⟨by rw [HA.out] <;> rfl, two_below (bstep (below_agg2 w _ _ _) HB4.out) _ (Nat.le_refl _) _ _⟩
        · have h3 : threeE F T Z = twoE F T := by
            unfold twoE at hz ⊢
            unfold threeE
            split at hz
            · rename_i h; rw [if_pos h, if_pos h]
            · rename_i h; rw [if_neg h, if_neg h, if_pos hz]
          rw [h3, if_pos hz] at hE
          have HA := Lib.hid (tellV_bad L (twoE F T) hE hz)
          have tz : ((twoE F T : Int) != 0) = true := by rw [bne_iff_ne]; omega
          generalize twoE F T = E at HTw HA tz
          generalize twoA F T = P at HTw
          generalize twoB F T = Q at HTw
          clear h6 hL hLs hp hB hd hE hV hF hT hZ hz hR hRd hRs hB2 hDl hBl hFl hTl hZl h3 HN
          go_enter Tryz.func31, Tryz.ntmps31
          go_wp2_with fail
          refine (HC.out _).mono ?_
          rintro e w1 ⟨rfl, hb1⟩
          go_wp2_with fail
          refine (HC2.out _).mono ?_
          rintro e w2 ⟨rfl, hb2⟩
          go_wp2_with fail
          refine (HTw.out _).mono ?_
          rintro e w3 ⟨rfl, hb3⟩
          have HB3 := Lib.hid (bstep (bstep hb1 hb2) hb3)
          have hbR : Below w3.heap.size w3 (w3.alloc (.cells #[.int .i64 (P : Int), .int .i64 (Q : Int)] 23)) := below_agg2 _ _ _ _
          have HB4 := Lib.hid (bstep HB3.out hbR)
          obtain ⟨k0, k1, f0, f1⟩ := two_of (two_box HB4.out)
          clear hb1 hb2 hb3 hbR
          go_wp2_with fail
          refine ret_cell3 (A := ⟨w.heap.size, 0, none⟩) rfl (load_rrange _ _ _ _ _ (two_set (two_box HB4.out) (.int .i64 0) (.int .i64 0))) rfl rfl rfl rfl ?_
          exact ⟨by rw [HA.out] <;> rfl, two_below (bstep (below_agg2 w _ _ _) HB4.out) _ (Nat.le_refl _) _ _⟩
end Go.Proofs.YtbdmmgmcbecolaaGreatDoor
namespace Go.Proofs.YtbdmmgmcbecolaaGreatDoor
open Go.RowKit
theorem parseN_len (l : List UInt8) : (parseN l).length ≤ l.length := by
  unfold parseN
  split
  · unfold parseName; rw [List.length_map]; exact ahead_le l
  · exact Nat.zero_le _
theorem takF_small (s : ByteArray) (most : Int) : ∀ f ∈ takF s most, f.1.length ≤ 256 ∧ f.2.length ≤ 256 := by
  intro f hf
  unfold takF at hf
  split at hf
  · unfold restF at hf
    have hm := (List.mem_filter.1 hf).1
    unfold fldL at hm
    obtain ⟨x, hx, rfl⟩ := List.mem_map.1 hm
    have := (headOf_bound s).1 x (List.mem_of_mem_tail hx)
    exact ⟨Nat.le_trans (parseN_len x) this, Nat.le_trans (parseV_len x) this⟩
  · simp at hf
end Go.Proofs.YtbdmmgmcbecolaaGreatDoor
namespace Go.Proofs.YtbdmmgmcbecolaaGreatDoor
open Go.RowKit
def ErrV (e : Nat) : Value := if e = 0 then .nilIface else .iface 74 (.agg #[.int .i64 (e : Int)])
def JudV (s : ByteArray) (a b t : Int) : Value := .tuple #[.string (bs (judS s a b t)), ErrV (judE s a b t)]
theorem judV_bad (s : ByteArray) (a b t : Int) (e : Nat) (h : judE s a b t = e) (h0 : e ≠ 0) : JudV s a b t = .tuple #[.string ⟨#[]⟩, .iface 74 (.agg #[.int .i64 (e : Int)])] := by
  unfold JudV ErrV judS
  rw [h, if_neg h0, if_neg h0]; rfl
theorem judV_ok (s : ByteArray) (a b t : Int) (h : judE s a b t = 0) : JudV s a b t = .tuple #[.string (bs (takB s (rLen a b))), .nilIface] := by
  unfold JudV ErrV judS
  rw [h, if_pos rfl, if_pos rfl]
theorem jud_1 (s : ByteArray) (a b t : Int) (h : s.size = 0) : judE s a b t = 16 := by unfold judE; rw [if_pos h]
theorem jud_2 (s : ByteArray) (a b t : Int) (h : s.size ≠ 0) (h2 : takE s (rLen a b) ≠ 0) : judE s a b t = takE s (rLen a b) := by unfold judE; rw [if_neg h, if_pos h2]
theorem jud_3 (s : ByteArray) (a b t : Int) (h : s.size ≠ 0) (h2 : takE s (rLen a b) = 0) (h3 : takN s (rLen a b) < (s.size : Int)) : judE s a b t = 4 := by unfold judE; rw [if_neg h, if_neg (fun e => e h2), if_pos h3]
theorem jud_4 (s : ByteArray) (a b t : Int) (h : s.size ≠ 0) (h2 : takE s (rLen a b) = 0) (h3 : ¬ takN s (rLen a b) < (s.size : Int)) (h4 : takC s (rLen a b) ≠ 206) : judE s a b t = 17 := by unfold judE; rw [if_neg h, if_neg (fun e => e h2), if_neg h3, if_pos h4]
theorem jud_5 (s : ByteArray) (a b t : Int) (h : s.size ≠ 0) (h2 : takE s (rLen a b) = 0) (h3 : ¬ takN s (rLen a b) < (s.size : Int)) (h4 : takC s (rLen a b) = 206) (h5 : getE (takF s (rLen a b)) crangeK ≠ 0) : judE s a b t = getE (takF s (rLen a b)) crangeK := by unfold judE; rw [if_neg h, if_neg (fun e => e h2), if_neg h3, if_neg (fun e => e h4), if_pos h5]
theorem jud_6 (s : ByteArray) (a b t : Int) (h : s.size ≠ 0) (h2 : takE s (rLen a b) = 0) (h3 : ¬ takN s (rLen a b) < (s.size : Int)) (h4 : takC s (rLen a b) = 206) (h5 : getE (takF s (rLen a b)) crangeK = 0) (h6 : tellE (getS (takF s (rLen a b)) crangeK) ≠ 0) : judE s a b t = tellE (getS (takF s (rLen a b)) crangeK) := by unfold judE; rw [if_neg h, if_neg (fun e => e h2), if_neg h3, if_neg (fun e => e h4), if_neg (fun e => e h5), if_pos h6]
theorem jud_7 (s : ByteArray) (a b t : Int) (h : s.size ≠ 0) (h2 : takE s (rLen a b) = 0) (h3 : ¬ takN s (rLen a b) < (s.size : Int)) (h4 : takC s (rLen a b) = 206) (h5 : getE (takF s (rLen a b)) crangeK = 0) (h6 : tellE (getS (takF s (rLen a b)) crangeK) = 0) (h7 : ¬ ((tellA (getS (takF s (rLen a b)) crangeK) = a ∧ tellB (getS (takF s (rLen a b)) crangeK) = b) ∧ tellC (getS (takF s (rLen a b)) crangeK) = t)) : judE s a b t = 19 := by
  unfold judE
  rw [if_neg h, if_neg (fun e => e h2), if_neg h3, if_neg (fun e => e h4), if_neg (fun e => e h5), if_neg (fun e => e h6), if_pos]
  by_cases g1 : tellA (getS (takF s (rLen a b)) crangeK) = a
  · by_cases g2 : tellB (getS (takF s (rLen a b)) crangeK) = b
    · exact .inr (.inr (fun g3 => h7 ⟨⟨g1, g2⟩, g3⟩))
    · exact .inr (.inl g2)
  · exact .inl g1
theorem jud_8 (s : ByteArray) (a b t : Int) (h : s.size ≠ 0) (h2 : takE s (rLen a b) = 0) (h3 : ¬ takN s (rLen a b) < (s.size : Int)) (h4 : takC s (rLen a b) = 206) (h5 : getE (takF s (rLen a b)) crangeK = 0) (h6 : tellE (getS (takF s (rLen a b)) crangeK) = 0) (h7 : (tellA (getS (takF s (rLen a b)) crangeK) = a ∧ tellB (getS (takF s (rLen a b)) crangeK) = b) ∧ tellC (getS (takF s (rLen a b)) crangeK) = t) (h8 : ((takB s (rLen a b)).length : Int) ≠ rLen a b) : judE s a b t = 18 := by
  unfold judE
  rw [if_neg h, if_neg (fun e => e h2), if_neg h3, if_neg (fun e => e h4), if_neg (fun e => e h5), if_neg (fun e => e h6), if_neg (by rw [h7.1.1, h7.1.2, h7.2]; simp), if_pos h8]
theorem getS_small (s : ByteArray) (m : Int) : (bs (getS (takF s m) crangeK)).size ≤ 1000000 := by
  rw [bs_size]
  have h := takF_small s m
  unfold getS
  cases hh : hits (takF s m) crangeK with
  | nil => exact Nat.zero_le _
  | cons v r =>
    cases r with
    | cons _ _ => exact Nat.zero_le _
    | nil =>
      have : v ∈ hits (takF s m) crangeK := by rw [hh]; exact List.mem_cons_self ..
      unfold hits at this
      obtain ⟨f, hf, rfl⟩ := List.mem_map.1 this
      have := (h f (List.mem_filter.1 hf).1).2
      show f.2.length ≤ _
      omega
set_option maxRecDepth 100000 in
set_option maxHeartbeats 4000000 in
theorem fetch_judge (s : ByteArray) (a b t : Int) (w : World) (hs : s.size ≤ 1000000) (hE : EnvF w) :
    Calls Tryz.prog 26 #[.string s, .agg #[.int .i64 a, .int .i64 b], .int .i64 t] w fun e w' => e = .returned (JudV s a b t) ∧ Below w.heap.size w w' := by
  have HL := Lib.hid (fun w => ranges_length a b w)
  have HP := Lib.hid (fun w hE => reply_parse s (rLen a b) w hs hE)
  unfold ParsePost RepV at HP
  have HB0 := Lib.hid (below_agg2 w (.int .i64 a) (.int .i64 b) 28)
  have HE0 := Lib.hid (hE.below HB0.out)
  have HR0 := Lib.hid (heap_alloc_new w (.cells #[.int .i64 a, .int .i64 b] 28))
  have HSz : Hid ((takF s (rLen a b)).length ≤ 1000000) := Lib.hid (Nat.le_trans (takF_len _ _) (by decide))
  have HGs := Lib.hid (getS_small s (rLen a b))
  obtain ⟨r0, r1⟩ := box2 w (.int .i64 a) (.int .i64 b) 28
  clear hE
  by_cases hz : s.size = 0
  · have HA := Lib.hid (judV_bad s a b t 16 (jud_1 s a b t hz) (by decide))
    have z1 : (s.toList == []) = true := by rw [ByteArray.toList_eq, beq_iff_eq]; exact List.eq_nil_of_length_eq_zero (by rw [size_len]; exact hz)
    have z2 : s.toList = [] := by simpa using z1
    clear hz
    go_enter Tryz.func26, Tryz.ntmps26
    go_wp2_with fail
    go_ret2
    exact ⟨by rw [HA.out]; rfl, HB0.out⟩
  have z1 : (s.toList == []) = false := by rw [ByteArray.toList_eq, beq_eq_false_iff_ne]; intro e; exact hz (by rw [← size_len, e]; rfl)
  have z2 : ¬ s.toList = [] := by simpa using z1
  go_enter Tryz.func26, Tryz.ntmps26
  go_wp2_with fail
  generalize (w.alloc (.cells #[.int .i64 a, .int .i64 b] 28)) = W0 at HB0 HE0 HR0 r0 r1 ⊢
  generalize w.heap.size = X at HR0 r0 r1 ⊢
  refine (HL.out _).mono ?_
  rintro e w1 ⟨rfl, hb1⟩
  go_wp2_with fail
  refine (HP.out _ (HE0.out.below hb1)).mono ?_
  rintro e w2 ⟨fv, rfl, hown, hb2⟩
  obtain ⟨fa, fc, rfl⟩ := slice_of_own hown
  have HB2 := Lib.hid (bstep hb1 hb2)
  have HOw := Lib.hid (HoldsF.of_own hown)
  clear hb1 hb2 hown HP
  by_cases h2 : takE s (rLen a b) = 0
  case neg =>
    have HA := Lib.hid (judV_bad s a b t _ (jud_2 s a b t hz h2) h2)
    have tz : (((takE s (rLen a b) : Nat) : Int) != 0) = true := by rw [bne_iff_ne]; omega
    clear hz h2
    generalize takE s (rLen a b) = E at HA tz ⊢
    go_wp2_with fail
    go_ret2
    exact ⟨by rw [HA.out] <;> rfl, bstep HB0.out (HB2.out.alloc HB2.out.size _)⟩
  rw [h2]
  by_cases h3 : takN s (rLen a b) < (s.size : Int)
  · have HA := Lib.hid (judV_bad s a b t 4 (jud_3 s a b t hz h2 h3) (by decide))
    have t3 : decide (takN s (rLen a b) < (s.size : Int)) = true := decide_eq_true h3
    clear hz h2
    generalize takN s (rLen a b) = N at h3 t3 ⊢
    go_wp2_with fail
    go_ret2
    exact ⟨by rw [HA.out]; rfl, bstep HB0.out (HB2.out.alloc HB2.out.size _)⟩
  have t3 : decide (takN s (rLen a b) < (s.size : Int)) = false := decide_eq_false h3
  by_cases h4 : takC s (rLen a b) = 206
  case neg =>
    have HA := Lib.hid (judV_bad s a b t 17 (jud_4 s a b t hz h2 h3 h4) (by decide))
    have t4 : (takC s (rLen a b) != 206) = true := by rw [bne_iff_ne]; exact h4
    clear hz h2
    generalize takN s (rLen a b) = N at h3 t3 ⊢
    generalize takC s (rLen a b) = C at h4 t4 ⊢
    go_wp2_with fail
    go_ret2
    exact ⟨by rw [HA.out]; rfl, bstep HB0.out (HB2.out.alloc HB2.out.size _)⟩
  rw [h4]
  have HAs := Lib.hid (And.intro hz (And.intro h2 (And.intro h3 h4)))
  clear hz h2 h4
  generalize takN s (rLen a b) = N at h3 t3 ⊢
  have HBB : Hid ((bs (takB s (rLen a b))).size = (takB s (rLen a b)).length) := Lib.hid (bs_size _)
  have hB3 := HB2.out.alloc HB2.out.size (.cells #[.int .i64 206, .slice fa (takF s (rLen a b)).length fc, .string (bs (takB s (rLen a b)))] 113)
  have HO3 := Lib.hid (HOw.out.below ((Below.refl _ _).alloc (Nat.le_refl _) (.cells #[.int .i64 206, .slice fa (takF s (rLen a b)).length fc, .string (bs (takB s (rLen a b)))] 113)))
  have HR3 := Lib.hid (heap_alloc_new w2 (.cells #[.int .i64 206, .slice fa (takF s (rLen a b)).length fc, .string (bs (takB s (rLen a b)))] 113))
  have HB3 := Lib.hid hB3
  clear hB3 h3 HOw
  go_wp2_with fail
  refine (get_k _ _ _ crangeK rfl _ HO3.out HSz.out).mono ?_
  rintro e w3 ⟨rfl, hb3⟩
  have HB4 := Lib.hid (bstep HB3.out hb3)
  have HR4 := Lib.hid ((hb3.block w2.heap.size (by simp)).trans HR3.out)
  have hwl : w2.heap.size < w3.heap.size := (Array.getElem?_eq_some_iff.1 HR4.out).1
  have HWl := Lib.hid hwl
  clear hb3 HB3 HR3 HO3 hwl
  generalize w2.heap.size = Y at HR4 HWl ⊢
  obtain ⟨V, hV⟩ : ∃ V, getS (takF s (rLen a b)) crangeK = V := ⟨_, rfl⟩
  have HV := Lib.hid hV
  rw [hV] at HGs ⊢
  clear hV
  by_cases h5 : getE (takF s (rLen a b)) crangeK = 0
  case neg =>
    have HA := Lib.hid (judV_bad s a b t _ (jud_5 s a b t HAs.out.1 HAs.out.2.1 (Int.not_lt.2 HAs.out.2.2.1) HAs.out.2.2.2 h5) h5)
    have tz : (((getE (takF s (rLen a b)) crangeK : Nat) : Int) != 0) = true := by rw [bne_iff_ne]; omega
    clear h5
    generalize getE (takF s (rLen a b)) crangeK = E at HA tz ⊢
    go_wp2_with fail
    go_ret2
    exact ⟨by rw [HA.out] <;> rfl, bstep HB0.out HB4.out⟩
  rw [h5]
  have HT := Lib.hid (fun w hE => ranges_tell (bs V) w HGs.out hE)
  rw [bs_data] at HT
  go_wp2_with fail
  refine (HT.out _ (HE0.out.below HB4.out)).mono ?_
  rintro e w4 ⟨rfl, hb4⟩
  have HB5 := Lib.hid (bstep HB4.out hb4)
  have HR5 := Lib.hid ((hb4.block Y HWl.out).trans HR4.out)
  clear hb4 HB4 HR4 HT
  by_cases h6 : tellE V = 0
  case neg =>
    have HA := Lib.hid (judV_bad s a b t _ (by have := jud_6 s a b t HAs.out.1 HAs.out.2.1 (Int.not_lt.2 HAs.out.2.2.1) HAs.out.2.2.2 h5; rw [HV.out] at this; exact this h6) h6)
    have tz : (((tellE V : Nat) : Int) != 0) = true := by rw [bne_iff_ne]; omega
    clear h5 h6
    generalize tellE V = E at HA tz ⊢
    go_wp2_with fail
    go_ret2
    exact ⟨by rw [HA.out] <;> rfl, bstep HB0.out (HB5.out.alloc HB5.out.size _)⟩
  rw [h6]
  have hB6 := HB5.out.alloc HB5.out.size (.cells #[.int .i64 (tellA V), .int .i64 (tellB V)] 28)
  have hwx : X < W0.heap.size := (Array.getElem?_eq_some_iff.1 HR0.out).1
  have x0 := (hB6.cell (p := ⟨X, 0, none⟩) hwx).trans r0
  have x1 := (hB6.cell (p := ⟨X, 1, none⟩) hwx).trans r1
  have HB6 := Lib.hid hB6
  have HWx := Lib.hid hwx
  have hne := neq_orng (tellA V) (tellB V) a b
  have hgd := guard_orng
  clear hB6 hwx r0 r1
  by_cases h7 : (tellA V = a ∧ tellB V = b) ∧ tellC V = t
  case neg =>
    have HA := Lib.hid (judV_bad s a b t 19 (by have := jud_7 s a b t HAs.out.1 HAs.out.2.1 (Int.not_lt.2 HAs.out.2.2.1) HAs.out.2.2.2 h5; rw [HV.out] at this; exact this h6 h7) (by decide))
    clear h5 h6
    by_cases h8 : tellA V = a ∧ tellB V = b
    · have t9 : (tellC V != t) = true := by rw [bne_iff_ne]; exact fun e => h7 ⟨h8, e⟩
      rw [decide_eq_true h8] at hne
      clear h7 h8
      generalize tellA V = A at hne x0 x1 HB6 ⊢
      generalize tellB V = B at hne x0 x1 HB6 ⊢
      generalize tellC V = C at t9 ⊢
      go_wp2_with fail
      go_ret2
      exact ⟨by rw [HA.out]; rfl, bstep HB0.out HB6.out⟩
    · rw [decide_eq_false h8] at hne
      clear h7 h8
      generalize tellA V = A at hne x0 x1 HB6 ⊢
      generalize tellB V = B at hne x0 x1 HB6 ⊢
      generalize tellC V = C
      go_wp2_with fail
      go_ret2
      exact ⟨by rw [HA.out]; rfl, bstep HB0.out HB6.out⟩
  have h7' : (tellA (getS (takF s (rLen a b)) crangeK) = a ∧ tellB (getS (takF s (rLen a b)) crangeK) = b) ∧ tellC (getS (takF s (rLen a b)) crangeK) = t := by rw [HV.out]; exact h7
  have h6' : tellE (getS (takF s (rLen a b)) crangeK) = 0 := by rw [HV.out]; exact h6
  obtain ⟨⟨g1, g2⟩, g3⟩ := h7
  rw [g1, g2] at hne x0 x1 HB6 ⊢
  rw [g3]
  rw [decide_eq_true (And.intro rfl rfl)] at hne
  have H7 := Lib.hid (And.intro h5 (And.intro h6' h7'))
  have hR6 := (((Below.refl w4.heap.size w4).alloc (Nat.le_refl _) (.cells #[.int .i64 a, .int .i64 b] 28)).block Y (Array.getElem?_eq_some_iff.1 HR5.out).1).trans HR5.out
  have HR6 := Lib.hid hR6
  clear h5 h6 h6' h7' g1 g2 g3 hR6 HR5 HB5
  go_wp2_with fail
  generalize w4.alloc (.cells #[.int .i64 a, .int .i64 b] 28) = W6 at HB6 HR6 x0 x1 ⊢
  have HS : Hid (∀ W, Below W6.heap.size W6 W → W.cell? ⟨Y, 2, none⟩ = some (.string (bs (takB s (rLen a b)))) ∧ W.cell? ⟨X, 0, none⟩ = some (.int .i64 a) ∧ W.cell? ⟨X, 1, none⟩ = some (.int .i64 b)) := Lib.hid (fun W hW => by
    have hy := (hW.block Y (Array.getElem?_eq_some_iff.1 HR6.out).1).trans HR6.out
    have hx := ((bstep HB6.out hW).block X HWx.out).trans HR0.out
    exact ⟨by unfold World.cell?; rw [hy]; rfl, by unfold World.cell?; rw [hx]; rfl, by unfold World.cell?; rw [hx]; rfl⟩)
  have HDr : Hid (Below W6.heap.size W6 W6.drew) := Lib.hid (Below.refl _ _).drew
  obtain ⟨Bd, hBd⟩ : ∃ Bd, bs (takB s (rLen a b)) = Bd := ⟨_, rfl⟩
  rw [hBd] at HS HBB
  by_cases h8 : ((Bd.size : Nat) : Int) = rLen a b
  · have HA : Hid (JudV s a b t = .tuple #[.string Bd, .nilIface]) := Lib.hid (by
      rw [judV_ok s a b t (jud_made s a b t HAs.out.1 HAs.out.2.1 (by have := HAs.out.2.2.1; omega) HAs.out.2.2.2 H7.out.1 H7.out.2.1 ⟨H7.out.2.2.1.1, H7.out.2.2.1.2, H7.out.2.2.2⟩ (by rw [← HBB.out]; exact h8)), hBd])
    have t8 : (((Bd.size : Nat) : Int) != rLen a b) = false := by rw [bne_eq_false_iff_eq]; exact h8
    clear h8 hBd x0 x1
    generalize rLen a b = M at HL t8
    go_region_held3 (fun w' => w'.cell? ⟨Y, 2, none⟩ = some (.string Bd) ∧ w'.cell? ⟨X, 0, none⟩ = some (.int .i64 a) ∧ w'.cell? ⟨X, 1, none⟩ = some (.int .i64 b)) (first | with_reducible exact HS.out _ HDr.out | with_reducible exact HS.out _ HX1.out)
      (first
        | (go_at_call 11; refine (HL.out _).mono ?_; rintro e wa ⟨rfl, hba⟩; have HX1 : Hid (Below W6.heap.size W6 wa) := Lib.hid (bstep HDr.out hba); clear hba))
    obtain ⟨y2, -, -⟩ := HS.out _ HX1.out
    go_wp2_with fail
    go_ret2
    exact ⟨by rw [HA.out] <;> rfl, bstep HB0.out (bstep HB6.out HX1.out)⟩
  · have HA := Lib.hid (judV_bad s a b t 18 (jud_8 s a b t HAs.out.1 HAs.out.2.1 (Int.not_lt.2 HAs.out.2.2.1) HAs.out.2.2.2 H7.out.1 H7.out.2.1 H7.out.2.2 (by rw [← HBB.out]; exact h8)) (by decide))
    have t8 : (((Bd.size : Nat) : Int) != rLen a b) = true := by rw [bne_iff_ne]; exact h8
    clear h8 hBd x0 x1
    generalize rLen a b = M at HL t8
    go_region_held3 (fun w' => w'.cell? ⟨Y, 2, none⟩ = some (.string Bd) ∧ w'.cell? ⟨X, 0, none⟩ = some (.int .i64 a) ∧ w'.cell? ⟨X, 1, none⟩ = some (.int .i64 b)) (first | with_reducible exact HS.out _ HDr.out | with_reducible exact HS.out _ HX1.out)
      (first
        | (go_at_call 11; refine (HL.out _).mono ?_; rintro e wa ⟨rfl, hba⟩; have HX1 : Hid (Below W6.heap.size W6 wa) := Lib.hid (bstep HDr.out hba); clear hba))
    go_wp2_with fail
    go_ret2
    exact ⟨by rw [HA.out]; rfl, bstep HB0.out (bstep HB6.out HX1.out)⟩
end Go.Proofs.YtbdmmgmcbecolaaGreatDoor
namespace Go.Proofs.YtbdmmgmcbecolaaGreatDoor
open Go.RowKit Go.Extern.Stop Go.Stop Go.Extern
/-- errors.As(nil, target). -/
theorem as_nil (t : Value) (w : World) :
    Calls Tryz.prog 27 #[.nilIface, t] w fun e w' => e = .returned (.bool false) ∧ w' = w := by
  go_enter Tryz.func27, Tryz.ntmps27
  go_wp2
  go_ret
  exact ⟨rfl, rfl⟩
theorem fa_valueP (t : Addr) (w : World) : (ReflectliteValue.unpack (.iface 76 (.pointer (some t)))).run Tryz.prog w
    = .ok (.agg #[.pointer (some ⟨9, 76, none⟩), .pointer (some ⟨w.heap.size, 0, none⟩), .int .u64 150]) (w.alloc (.cells #[.pointer (some t)] 76)) := by kernel_rfl
theorem fa_type (a : Addr) (w : World) : (ReflectliteValue.methodAny (ReflectliteValue.valueError "reflectlite.Value.Type" 0) (fun t _ _ _ => ReflectliteType.toType t) #[.agg #[.pointer (some ⟨9, 76, none⟩), .pointer (some a), .int .u64 150]]).run Tryz.prog w
    = .ok (.iface 171 (.agg #[.pointer (some ⟨9, 76, none⟩)])) w := by kernel_rfl
theorem fa_mKind (h : Value) (w : World) : (Go.method 528 171 (.agg #[h]) "Kind").run Tryz.prog w = .ok (286, h) w := by kernel_rfl
theorem fa_kindP (w : World) : ((ReflectliteType.abiMethod fun t => (fun a : Nat => Value.int IntKind.u8 (a : Int)) <$> Rtype.kind t) #[.pointer (some ⟨9, 76, none⟩)]).run Tryz.prog w = .ok (.int .u8 22) w := by kernel_rfl
theorem fa_kindR (w : World) : ((ReflectliteType.abiMethod fun t => (fun a : Nat => Value.int IntKind.u8 (a : Int)) <$> Rtype.kind t) #[.pointer (some ⟨9, 74, none⟩)]).run Tryz.prog w = .ok (.int .u8 25) w := by kernel_rfl
theorem fa_rlm (z : Sem Value) (f : TypeId → Addr → Nat → Nat → Sem Value) (v : Value) :
    ReflectliteValue.method z f #[v] = (do match ← ReflectliteValue.parts v with | none => z | some (t, a, fl) => f t a fl (fl % 32)) := rfl
theorem fa_partsP (a : Addr) (w : World) : (ReflectliteValue.parts (.agg #[.pointer (some ⟨9, 76, none⟩), .pointer (some a), .int .u64 150])).run Tryz.prog w = .ok (some (76, a, 150)) w := by kernel_rfl
theorem fa_isNil (a p : Addr) (W : World) (ha : W.cell? a = some (.pointer (some p))) :
    (ReflectliteValue.method (ReflectliteValue.valueError "reflectlite.Value.IsNil" 0) ReflectliteValue.isNil #[.agg #[.pointer (some ⟨9, 76, none⟩), .pointer (some a), .int .u64 150]]).run Tryz.prog W = .ok (.bool false) W := by
  rw [fa_rlm]
  simp only [Sem.run_bind, fa_partsP, Result.andThen]
  simp [ReflectliteValue.isNil, loadVar, isAgg, underlying, Tryz.underlying76, ha, Result.andThen]
theorem fa_mElem (h : Value) (w : World) : (Go.method 528 171 (.agg #[h]) "Elem").run Tryz.prog w = .ok (298, .agg #[h]) w := by kernel_rfl
theorem fa_mImpl (h : Value) (w : World) : (Go.method 528 171 (.agg #[h]) "Implements").run Tryz.prog w = .ok (299, .agg #[h]) w := by kernel_rfl
theorem fa_mAssign (h : Value) (w : World) : (Go.method 528 171 (.agg #[h]) "AssignableTo").run Tryz.prog w = .ok (296, .agg #[h]) w := by kernel_rfl
theorem fa_elem (w : World) : (ReflectliteType.method ReflectliteType.elem #[.agg #[.pointer (some ⟨9, 76, none⟩)]]).run Tryz.prog w = .ok (.iface 171 (.agg #[.pointer (some ⟨9, 74, none⟩)])) w := by kernel_rfl
theorem fa_impl (w : World) : (ReflectliteType.relation "Implements" ReflectliteType.implements_ #[.agg #[.pointer (some ⟨9, 74, none⟩)], .iface 171 (.agg #[.pointer (some ⟨9, 70, none⟩)])]).run Tryz.prog w = .ok (.bool true) w := by kernel_rfl
theorem fa_typeOf (v : Value) (w : World) : (ReflectliteType.typeOf #[.iface 74 v]).run Tryz.prog w = .ok (.iface 171 (.agg #[.pointer (some ⟨9, 74, none⟩)])) w := by kernel_rfl
theorem fa_assign (w : World) : (ReflectliteType.relation "AssignableTo" ReflectliteType.assignableTo #[.agg #[.pointer (some ⟨9, 74, none⟩)], .iface 171 (.agg #[.pointer (some ⟨9, 74, none⟩)])]).run Tryz.prog w = .ok (.bool true) w := by kernel_rfl
theorem fa_valueR (n : Int) (w : World) : (ReflectliteValue.unpack (.iface 74 (.agg #[.int .i64 n]))).run Tryz.prog w
    = .ok (.agg #[.pointer (some ⟨9, 74, none⟩), .pointer (some ⟨w.heap.size, 0, none⟩), .int .u64 153]) (w.alloc (.cells #[.int .i64 n] 74)) := by kernel_rfl
theorem fa_elemOf (w : World) : (Rtype.elem? 76).run Tryz.prog w = .ok (some 74) w := by kernel_rfl
theorem fa_mk (p : Addr) (w : World) : (ReflectliteValue.mk 74 p ReflectliteValue.flagAddr).run Tryz.prog w = .ok (.agg #[.pointer (some ⟨9, 74, none⟩), .pointer (some p), .int .u64 409]) w := by kernel_rfl
theorem fa_elemV (a p : Addr) (W : World) (ha : W.cell? a = some (.pointer (some p))) :
    (ReflectliteValue.method (ReflectliteValue.valueError "reflectlite.Value.Elem" 0) ReflectliteValue.elem #[.agg #[.pointer (some ⟨9, 76, none⟩), .pointer (some a), .int .u64 150]]).run Tryz.prog W
      = .ok (.agg #[.pointer (some ⟨9, 74, none⟩), .pointer (some p), .int .u64 409]) W := by
  rw [fa_rlm]
  simp only [Sem.run_bind, fa_partsP, Result.andThen]
  simp [ReflectliteValue.elem, loadVar, isAgg, underlying, Tryz.underlying76, ha, Result.andThen, fa_elemOf, fa_mk]
theorem fa_rls (v x : Value) : ReflectliteValue.set #[v, x] = (do
    let (some (dst, a, fl), some (src, b, _)) := (← ReflectliteValue.parts v, ← ReflectliteValue.parts x)
      | unsupported (.noEntry "extern/(internal/reflectlite.Value).Set.zeroValue")
    if fl / ReflectliteValue.flagAddr % 2 == 0 then unsupported (.noEntry "extern/(internal/reflectlite.Value).Set.unaddressable")
    let val ← loadVar src b
    if ← Rtype.directlyAssignable dst src then storeVar dst a val
    else if ← Rtype.implements dst src then
      if (← Rtype.kind src) == 20 then
        match val with
        | .nilIface => unsupported (.noEntry "extern/reflectlite: a nil value of one interface type handed on as a value of another")
        | _ => storeVar dst a val
      else storeVar dst a (.iface src val)
    else panicString ("reflectlite.Set: value of type " ++ (← Rtype.spelt src) ++ " is not assignable to type " ++ (← Rtype.spelt dst))
    pure (.tuple #[])) := rfl
theorem fa_partsA (a : Addr) (w : World) : (ReflectliteValue.parts (.agg #[.pointer (some ⟨9, 74, none⟩), .pointer (some a), .int .u64 409])).run Tryz.prog w = .ok (some (74, a, 409)) w := by kernel_rfl
theorem fa_partsR (a : Addr) (w : World) : (ReflectliteValue.parts (.agg #[.pointer (some ⟨9, 74, none⟩), .pointer (some a), .int .u64 153])).run Tryz.prog w = .ok (some (74, a, 153)) w := by kernel_rfl
theorem fa_direct (w : World) : (Rtype.directlyAssignable 74 74).run Tryz.prog w = .ok true w := by kernel_rfl
theorem fa_load (w : World) (b : Nat) (n : Int) (h : w.heap[b]? = some (.cells #[.int .i64 n] 74 (0, 0))) : (loadVar 74 ⟨b, 0, none⟩).run Tryz.prog w = .ok (.agg #[.int .i64 n]) w :=
  run_loadVar_row w b 74 74 #[.int .i64 n] (0, 0) _ h Tryz.underlying74 rfl (by kernel_rfl)
end Go.Proofs.YtbdmmgmcbecolaaGreatDoor
namespace Go.Proofs.YtbdmmgmcbecolaaGreatDoor
open Go.RowKit Go.Extern.Stop Go.Stop Go.Extern
/-- the library's variables, with the type of errors -/
structure EnvT (w : World) : Prop where
  f : EnvF w
  et : w.cell? ⟨0, 0, none⟩ = some (.iface 171 (.agg #[.pointer (some ⟨9, 70, none⟩)]))
  elt : 0 < w.heap.size
theorem EnvT.below {w w' : World} (h : EnvT w) (hb : Below w.heap.size w w') : EnvT w' :=
  ⟨h.f.below hb, (hb.cell (p := ⟨0, 0, none⟩) h.elt).trans h.et, Nat.lt_of_lt_of_le h.elt hb.size⟩
theorem fa_set (ta b : Nat) (n old : Int) (W : World) (hb : W.heap[b]? = some (.cells #[.int .i64 n] 74 (0, 0))) (ht : W.heap[ta]? = some (.cells #[.int .i64 old] 74 (0, 0))) :
    (ReflectliteValue.set #[.agg #[.pointer (some ⟨9, 74, none⟩), .pointer (some ⟨ta, 0, none⟩), .int .u64 409], .agg #[.pointer (some ⟨9, 74, none⟩), .pointer (some ⟨b, 0, none⟩), .int .u64 153]]).run Tryz.prog W
      = .ok (.tuple #[]) (W.setCell ⟨ta, 0, none⟩ (.int .i64 n)) := by
  have h1 : W.cell? ⟨ta, 0, none⟩ = some (.int .i64 old) := by unfold World.cell?; rw [ht]; rfl
  have h2 : W.frozen? ⟨ta, 0, none⟩ = false := by simp [World.frozen?, ht]
  rw [fa_rls]
  simp only [Sem.run_bind, fa_partsA, fa_partsR, Result.andThen]
  simp [ReflectliteValue.flagAddr, fa_load W b n hb, Result.andThen, fa_direct, storeVar, Value.cells, storeCells, Addr.add]
  rw [run_store Tryz.prog W ⟨ta, 0, none⟩ _ _ (by rfl)]
  simp [h1, h2]
set_option maxRecDepth 1000000 in
set_option maxHeartbeats 4000000 in
theorem as_hit (n old : Int) (t : Nat) (w : World) (hE : EnvT w) (ht : w.heap[t]? = some (.cells #[.int .i64 old] 74 (0, 0))) :
    Calls Tryz.prog 27 #[.iface 74 (.agg #[.int .i64 n]), .iface 76 (.pointer (some ⟨t, 0, none⟩))] w fun ev w' => ev = .returned (.bool true) ∧ w'.heap[t]? = some (.cells #[.int .i64 n] 74 (0, 0)) ∧ Touch (fun g => g = t) w w' := by
  have h6 := @run_callFunc_extern Tryz.prog 49 _ (fun args => ReflectliteValue.unpack (args.getD 0 (.tuple #[]))) Tryz.func49 (by kernel_rfl) (by kernel_rfl) (by kernel_rfl) (by kernel_rfl)
  have h7 := @run_callFunc_extern Tryz.prog 50 _ (ReflectliteValue.methodAny (ReflectliteValue.valueError "reflectlite.Value.Type" 0) (fun t _ _ _ => ReflectliteType.toType t)) Tryz.func50 (by kernel_rfl) (by kernel_rfl) (by kernel_rfl) (by kernel_rfl)
  have h8 := @run_callFunc_extern Tryz.prog 51 _ (ReflectliteValue.method (ReflectliteValue.valueError "reflectlite.Value.IsNil" 0) ReflectliteValue.isNil) Tryz.func51 (by kernel_rfl) (by kernel_rfl) (by kernel_rfl) (by kernel_rfl)
  have h27 := @run_callFunc_extern Tryz.prog 286 _ (ReflectliteType.abiMethod fun t => do pure (.int .u8 (← Rtype.kind t))) Tryz.func286 (by kernel_rfl) (by kernel_rfl) (by kernel_rfl) (by kernel_rfl)
  have h37 := @run_callFunc_extern Tryz.prog 298 _ (ReflectliteType.method ReflectliteType.elem) Tryz.func298 (by kernel_rfl) (by kernel_rfl) (by kernel_rfl) (by kernel_rfl)
  have h38 := @run_callFunc_extern Tryz.prog 299 _ (ReflectliteType.relation "Implements" ReflectliteType.implements_) Tryz.func299 (by kernel_rfl) (by kernel_rfl) (by kernel_rfl) (by kernel_rfl)
  have h10 := @run_callFunc_extern Tryz.prog 80 _ ReflectliteType.typeOf Tryz.func80 (by kernel_rfl) (by kernel_rfl) (by kernel_rfl) (by kernel_rfl)
  have h35 := @run_callFunc_extern Tryz.prog 296 _ (ReflectliteType.relation "AssignableTo" ReflectliteType.assignableTo) Tryz.func296 (by kernel_rfl) (by kernel_rfl) (by kernel_rfl) (by kernel_rfl)
  have h11 := @run_callFunc_extern Tryz.prog 81 _ (ReflectliteValue.method (ReflectliteValue.valueError "reflectlite.Value.Elem" 0) ReflectliteValue.elem) Tryz.func81 (by kernel_rfl) (by kernel_rfl) (by kernel_rfl) (by kernel_rfl)
  have h12 := @run_callFunc_extern Tryz.prog 82 _ ReflectliteValue.set Tryz.func82 (by kernel_rfl) (by kernel_rfl) (by kernel_rfl) (by kernel_rfl)
  have tO := fa_typeOf
  have mA := fa_mAssign
  have aR := fa_assign
  have vR := fa_valueR n
  have f6 := fa_valueP
  have f7 := fa_type
  have mK := fa_mKind
  have mE := fa_mElem
  have mI := fa_mImpl
  have kP := fa_kindP
  have kR := fa_kindR
  have eP := fa_elem
  have iR := fa_impl
  have htl : t < w.heap.size := (Array.getElem?_eq_some_iff.1 ht).1
  have hg := hE.et
  have hgl := hE.elt
  have n8 := fa_isNil ⟨w.heap.size, 0, none⟩ ⟨t, 0, none⟩ ((w.alloc (.cells #[.pointer (some ⟨t, 0, none⟩)] 76)).alloc (.cells #[.pointer (some ⟨9, 76, none⟩), .pointer (some ⟨w.heap.size, 0, none⟩), .int .u64 150] 122)) (by simp)
  have hg2 : ((w.alloc (.cells #[.pointer (some ⟨t, 0, none⟩)] 76)).alloc (.cells #[.pointer (some ⟨9, 76, none⟩), .pointer (some ⟨w.heap.size, 0, none⟩), .int .u64 150] 122)).cell? ⟨0, 0, none⟩ = some (.iface 171 (.agg #[.pointer (some ⟨9, 70, none⟩)])) := by
    rw [World.cell?_alloc_lt _ _ ⟨0, 0, none⟩ (by simp <;> omega), World.cell?_alloc_lt _ _ ⟨0, 0, none⟩ hgl]; exact hg
  have el := fa_elemV ⟨w.heap.size, 0, none⟩ ⟨t, 0, none⟩ (((w.alloc (.cells #[.pointer (some ⟨t, 0, none⟩)] 76)).alloc (.cells #[.pointer (some ⟨9, 76, none⟩), .pointer (some ⟨w.heap.size, 0, none⟩), .int .u64 150] 122)).alloc (.cells #[.pointer (some ⟨9, 76, none⟩), .pointer (some ⟨w.heap.size, 0, none⟩), .int .u64 150] 122)) (by rw [World.cell?_alloc_lt _ _ ⟨w.heap.size, 0, none⟩ (by simp <;> omega)]; simp)
  have hb4 : Below w.heap.size w ((((w.alloc (.cells #[.pointer (some ⟨t, 0, none⟩)] 76)).alloc (.cells #[.pointer (some ⟨9, 76, none⟩), .pointer (some ⟨w.heap.size, 0, none⟩), .int .u64 150] 122)).alloc (.cells #[.pointer (some ⟨9, 76, none⟩), .pointer (some ⟨w.heap.size, 0, none⟩), .int .u64 150] 122)).alloc (.cells #[.int .i64 n] 74)) := ((((Below.refl _ _).alloc (Nat.le_refl _) _).alloc (by simp) _).alloc (by simp <;> omega) _).alloc (by simp <;> omega) _
  have st := fa_set t (w.heap.size + 1 + 1 + 1) n old ((((w.alloc (.cells #[.pointer (some ⟨t, 0, none⟩)] 76)).alloc (.cells #[.pointer (some ⟨9, 76, none⟩), .pointer (some ⟨w.heap.size, 0, none⟩), .int .u64 150] 122)).alloc (.cells #[.pointer (some ⟨9, 76, none⟩), .pointer (some ⟨w.heap.size, 0, none⟩), .int .u64 150] 122)).alloc (.cells #[.int .i64 n] 74))
    (by have := heap_alloc_new (((w.alloc (.cells #[.pointer (some ⟨t, 0, none⟩)] 76)).alloc (.cells #[.pointer (some ⟨9, 76, none⟩), .pointer (some ⟨w.heap.size, 0, none⟩), .int .u64 150] 122)).alloc (.cells #[.pointer (some ⟨9, 76, none⟩), .pointer (some ⟨w.heap.size, 0, none⟩), .int .u64 150] 122)) (.cells #[.int .i64 n] 74); simpa using this)
    ((hb4.block t htl).trans ht)
  have HB4 := Lib.hid hb4
  have HT := Lib.hid ((hb4.block t htl).trans ht)
  clear hb4 ht hE
  go_enter Tryz.func27, Tryz.ntmps27
  go_wp2
  refine wp_loop_rounds 1 ?_
  rw [rounds_succ]
  go_wp2
  go_ret
  refine ⟨rfl, by simp [World.setCell, Array.getElem?_modify, HT.out], touch_set _ (Touch.of_below HB4.out) (.inl rfl)⟩
end Go.Proofs.YtbdmmgmcbecolaaGreatDoor
namespace Go.Proofs.YtbdmmgmcbecolaaGreatDoor
open Go.RowKit
/-- what Judge returns -/
def JdgV (s : ByteArray) (a b t : Int) : Value := .tuple #[.string (bs (judS s a b t)), .int .i64 (judE s a b t : Nat)]
theorem jdgV_bad (s : ByteArray) (a b t : Int) (h : judE s a b t ≠ 0) : JdgV s a b t = .tuple #[.string ⟨#[]⟩, .int .i64 (judE s a b t : Nat)] := by
  unfold JdgV judS
  rw [if_neg h]; rfl
set_option maxRecDepth 100000 in
set_option maxHeartbeats 2000000 in
theorem fetch_Judge (s : ByteArray) (a b t : Int) (w : World) (hs : s.size ≤ 1000000) (hE : EnvT w) :
    Calls Tryz.prog 8 #[.string s, .agg #[.int .i64 a, .int .i64 b], .int .i64 t] w fun e w' => e = .returned (JdgV s a b t) ∧ Below w.heap.size w w' := by
  have HJ := Lib.hid (fun w hE => fetch_judge s a b t w hs hE)
  have HB0 := Lib.hid (below_agg2 w (.int .i64 a) (.int .i64 b) 28)
  have HE0 := Lib.hid (hE.below HB0.out)
  obtain ⟨r0, r1⟩ := box2 w (.int .i64 a) (.int .i64 b) 28
  clear hE
  by_cases h0 : judE s a b t = 0
  · have HA : Hid (JudV s a b t = .tuple #[.string (bs (judS s a b t)), .nilIface] ∧ JdgV s a b t = .tuple #[.string (bs (judS s a b t)), .int .i64 0]) := Lib.hid (by
      unfold JudV ErrV JdgV
      rw [h0]; exact ⟨rfl, rfl⟩)
    rw [HA.out.1] at HJ
    clear h0
    generalize bs (judS s a b t) = B at HJ HA
    go_enter Tryz.func8, Tryz.ntmps8
    go_wp2_with fail
    refine (HJ.out _ HE0.out.f).mono ?_
    rintro e w1 ⟨rfl, hb1⟩
    have HB1 := Lib.hid (bstep HB0.out hb1)
    clear hb1 r0 r1
    go_wp2_with fail
    refine (as_nil _ _).mono ?_
    rintro e w' ⟨rfl, hww⟩
    obtain rfl := hww.symm
    clear hww
    go_wp2_with fail
    go_ret2
    exact ⟨by rw [HA.out.2] <;> rfl, HB1.out.alloc HB1.out.size _⟩
  · have HA : Hid (JudV s a b t = .tuple #[.string ⟨#[]⟩, .iface 74 (.agg #[.int .i64 (judE s a b t : Nat)])] ∧ JdgV s a b t = .tuple #[.string ⟨#[]⟩, .int .i64 (judE s a b t : Nat)]) := Lib.hid ⟨judV_bad s a b t _ rfl h0, jdgV_bad s a b t h0⟩
    rw [HA.out.1] at HJ
    clear h0
    generalize ((judE s a b t : Nat) : Int) = E at HJ HA
    go_enter Tryz.func8, Tryz.ntmps8
    go_wp2_with fail
    refine (HJ.out _ HE0.out.f).mono ?_
    rintro e w1 ⟨rfl, hb1⟩
    have hbN : Below w1.heap.size w1 (w1.alloc (.cells #[.int .i64 0] 74)) := (Below.refl _ _).alloc (Nat.le_refl _) _
    have HEN := Lib.hid ((HE0.out.below hb1).below hbN)
    have HN := Lib.hid (heap_alloc_new w1 (.cells #[.int .i64 0] 74))
    have HB1 := Lib.hid (bstep HB0.out hb1)
    have HBN := Lib.hid hbN
    clear hb1 r0 r1 hbN
    go_wp2_with fail
    refine (as_hit E 0 w1.heap.size _ HEN.out HN.out).mono ?_
    rintro e w2 ⟨rfl, hN2, hT2⟩
    have n0 : w2.cell? ⟨w1.heap.size, 0, none⟩ = some (.int .i64 E) := by unfold World.cell?; rw [hN2]; rfl
    have HB2 : Hid (Below w.heap.size w w2) := Lib.hid ((bstep HB1.out HBN.out).trans (hT2.below (fun g hg => by rw [show g = w1.heap.size from hg]; exact HB1.out.size) (Nat.le_trans HB1.out.size HBN.out.size)))
    clear hN2 hT2
    go_wp2_with fail
    go_quiet (fail)
    go_wp2_with fail
    go_ret2
    exact ⟨by rw [HA.out.2] <;> rfl, HB2.out.trans ⟨rfl, rfl, rfl, Nat.le_refl _, fun _ _ => rfl⟩⟩
/-- a client in memory, and its link -/
structure FC (w0 w : World) (Cb P : Nat) (hh hp : ByteArray) (t r : Int) (h p f : ByteArray) (rest : List Flt) (log : List Evt) (n asks last : Nat) (rv lv : Value) : Prop where
  k : KL w0 w P h p f rest log n rv lv
  c : w.heap[Cb]? = some (.cells #[.pointer (some ⟨P, 0, none⟩), .string hh, .string hp, .int .i64 t, .int .i64 r, .int .i64 (asks : Int), .int .i64 (last : Int)] 87 (0, 0))
  lo : w0.heap.size ≤ Cb
/-- what a client's request touches -/
def FS (P Cb : Nat) (lv : Value) (g : Nat) : Prop := LS P lv g ∨ g = Cb
theorem seven_facts {w : World} {b : Nat} {x0 x1 x2 x3 x4 x5 x6 : Value} {t : TypeId} (k : w.heap[b]? = some (.cells #[x0, x1, x2, x3, x4, x5, x6] t (0, 0))) :
    (w.cell? ⟨b, 0, none⟩ = some x0 ∧ w.cell? ⟨b, 1, none⟩ = some x1 ∧ w.cell? ⟨b, 2, none⟩ = some x2 ∧ w.cell? ⟨b, 3, none⟩ = some x3 ∧ w.cell? ⟨b, 4, none⟩ = some x4 ∧ w.cell? ⟨b, 5, none⟩ = some x5 ∧ w.cell? ⟨b, 6, none⟩ = some x6) ∧ w.frozen? ⟨b, 5, none⟩ = false ∧ w.frozen? ⟨b, 6, none⟩ = false := by
  refine ⟨⟨?_, ?_, ?_, ?_, ?_, ?_, ?_⟩, ?_, ?_⟩
  all_goals first
    | (unfold World.cell?; rw [k]; rfl)
    | (unfold World.frozen?; rw [k]; rfl)
theorem seven_set5 {w : World} {b : Nat} {x0 x1 x2 x3 x4 x5 x6 : Value} {t : TypeId} (k : w.heap[b]? = some (.cells #[x0, x1, x2, x3, x4, x5, x6] t (0, 0))) (y : Value) : (w.setCell ⟨b, 5, none⟩ y).heap[b]? = some (.cells #[x0, x1, x2, x3, x4, y, x6] t (0, 0)) := by
  simp [World.setCell, Array.getElem?_modify, k]
theorem seven_set6 {w : World} {b : Nat} {x0 x1 x2 x3 x4 x5 x6 : Value} {t : TypeId} (k : w.heap[b]? = some (.cells #[x0, x1, x2, x3, x4, x5, x6] t (0, 0))) (y : Value) : (w.setCell ⟨b, 6, none⟩ y).heap[b]? = some (.cells #[x0, x1, x2, x3, x4, x5, y] t (0, 0)) := by
  simp [World.setCell, Array.getElem?_modify, k]
section
variable {w0 w w' : World} {Cb P : Nat} {hh hp h p f : ByteArray} {t r : Int} {rest rest' : List Flt} {log log' : List Evt} {n n' asks last : Nat} {rv lv rv' lv' : Value}
theorem FC.step (k : FC w0 w Cb P hh hp t r h p f rest log n asks last rv lv) (hb : Below w.heap.size w w') : FC w0 w' Cb P hh hp t r h p f rest log n asks last rv lv :=
  ⟨k.k.step hb, (hb.block Cb (Array.getElem?_eq_some_iff.1 k.c).1).trans k.c, k.lo⟩
theorem FC.set5 (k : FC w0 w Cb P hh hp t r h p f rest log n asks last rv lv) (m : Nat) : FC w0 (w.setCell ⟨Cb, 5, none⟩ (.int .i64 (m : Int))) Cb P hh hp t r h p f rest log n m last rv lv :=
  ⟨k.k.far k.c (by decide) (by decide) (by decide) k.lo (touch_set _ (Touch.refl _ _) (.inl rfl)), seven_set5 k.c _, k.lo⟩
theorem FC.set6 (k : FC w0 w Cb P hh hp t r h p f rest log n asks last rv lv) (m : Nat) : FC w0 (w.setCell ⟨Cb, 6, none⟩ (.int .i64 (m : Int))) Cb P hh hp t r h p f rest log n asks m rv lv :=
  ⟨k.k.far k.c (by decide) (by decide) (by decide) k.lo (touch_set _ (Touch.refl _ _) (.inl rfl)), seven_set6 k.c _, k.lo⟩
/-- the link was asked -/
theorem FC.link (k : FC w0 w Cb P hh hp t r h p f rest log n asks last rv lv) (k' : KL w0 w' P h p f rest' log' n' rv' lv') (ht : Touch (LS P lv) w w') : FC w0 w' Cb P hh hp t r h p f rest' log' n' asks last rv' lv' :=
  ⟨k', blk_beside k.k k.c (by decide) (by decide) ht, k.lo⟩
theorem FC.total (k : FC w0 w Cb P hh hp t r h p f rest log n asks last rv lv) : Calls Tryz.prog 13 #[.pointer (some ⟨Cb, 0, none⟩)] w fun e w' => e = .returned (.int .i64 t) ∧ w' = w := by
  obtain ⟨⟨-, -, -, c3, -, -, -⟩, -⟩ := seven_facts k.c
  clear k
  go_enter Tryz.func13, Tryz.ntmps13
  go_wp2_with fail
  go_ret
  exact ⟨rfl, rfl⟩
theorem FC.asked (k : FC w0 w Cb P hh hp t r h p f rest log n asks last rv lv) : Calls Tryz.prog 12 #[.pointer (some ⟨Cb, 0, none⟩)] w fun e w' => e = .returned (.int .i64 (asks : Int)) ∧ w' = w := by
  obtain ⟨⟨-, -, -, -, -, c5, -⟩, -⟩ := seven_facts k.c
  clear k
  go_enter Tryz.func12, Tryz.ntmps12
  go_wp2_with fail
  go_ret
  exact ⟨rfl, rfl⟩
theorem FC.lasts (k : FC w0 w Cb P hh hp t r h p f rest log n asks last rv lv) : Calls Tryz.prog 14 #[.pointer (some ⟨Cb, 0, none⟩)] w fun e w' => e = .returned (.int .i64 (last : Int)) ∧ w' = w := by
  obtain ⟨⟨-, -, -, -, -, -, c6⟩, -⟩ := seven_facts k.c
  clear k
  go_enter Tryz.func14, Tryz.ntmps14
  go_wp2_with fail
  go_ret
  exact ⟨rfl, rfl⟩
end
/-- may a client be? -/
def cliE (hh hp : List UInt8) (t r : Int) : Nat := if orgE hh hp ≠ 0 ∨ t < 0 ∨ 9007199254740991 < t ∨ r < 0 ∨ 8 < r then 2 else 0
theorem orgE_two (hh hp : List UInt8) (h : orgE hh hp ≠ 0) : orgE hh hp = 2 := by
  unfold orgE at h ⊢
  split
  · rfl
  · rename_i hq; rw [if_neg hq] at h; exact absurd rfl h
theorem fetch_new_nil (hh hp : ByteArray) (t r : Int) (w : World) : Calls Tryz.prog 25 #[.pointer none, .string hh, .string hp, .int .i64 t, .int .i64 r] w fun e w' => e = .returned (.tuple #[.pointer none, .int .i64 1]) ∧ w' = w := by
  go_enter Tryz.func25, Tryz.ntmps25
  go_wp2_with fail
  go_ret2
  exact ⟨rfl, rfl⟩
set_option maxRecDepth 100000 in
set_option maxHeartbeats 2000000 in
theorem fetch_new_bad (P : Nat) (hh hp : ByteArray) (t r : Int) (w : World) (hc : cliE hh.data.toList hp.data.toList t r ≠ 0) : Calls Tryz.prog 25 #[.pointer (some ⟨P, 0, none⟩), .string hh, .string hp, .int .i64 t, .int .i64 r] w fun e w' => e = .returned (.tuple #[.pointer none, .int .i64 2]) ∧ Below w.heap.size w w' := by
  have HC := Lib.hid (fun w => asking_check hp hh 0 0 w)
  rw [orgE_asks] at HC
  by_cases h1 : orgE hh.data.toList hp.data.toList = 0
  · rw [h1] at HC
    by_cases h2 : t < 0
    · clear hc h1
      go_enter Tryz.func25, Tryz.ntmps25
      go_wp2_with fail
      refine (HC.out _).mono ?_
      rintro e w1 ⟨rfl, hb1⟩
      have t2 : decide (t < 0) = true := decide_eq_true h2
      go_wp2_with fail
      go_ret2
      exact ⟨rfl, hb1⟩
    have t2 : decide (t < 0) = false := decide_eq_false h2
    by_cases h3 : 9007199254740991 < t
    · clear hc h1
      have t3 : decide (t > 9007199254740991) = true := decide_eq_true h3
      go_enter Tryz.func25, Tryz.ntmps25
      go_wp2_with fail
      refine (HC.out _).mono ?_
      rintro e w1 ⟨rfl, hb1⟩
      go_wp2_with fail
      go_ret2
      exact ⟨rfl, hb1⟩
    have t3 : decide (t > 9007199254740991) = false := decide_eq_false h3
    by_cases h4 : r < 0
    · clear hc h1
      have t4 : decide (r < 0) = true := decide_eq_true h4
      go_enter Tryz.func25, Tryz.ntmps25
      go_wp2_with fail
      refine (HC.out _).mono ?_
      rintro e w1 ⟨rfl, hb1⟩
      go_wp2_with fail
      go_ret2
      exact ⟨rfl, hb1⟩
    have t4 : decide (r < 0) = false := decide_eq_false h4
    have h5 : 8 < r := by
      unfold cliE at hc
      by_cases h5 : 8 < r
      · exact h5
      · rw [if_neg (by rintro (h | h | h | h | h); exact h h1; exact h2 h; exact h3 h; exact h4 h; exact h5 h)] at hc
        exact absurd rfl hc
    have t5 : decide (r > 8) = true := decide_eq_true h5
    clear hc h1
    go_enter Tryz.func25, Tryz.ntmps25
    go_wp2_with fail
    refine (HC.out _).mono ?_
    rintro e w1 ⟨rfl, hb1⟩
    go_wp2_with fail
    go_ret2
    exact ⟨rfl, hb1⟩
  · rw [orgE_two _ _ h1] at HC
    clear hc h1
    go_enter Tryz.func25, Tryz.ntmps25
    go_wp2_with fail
    refine (HC.out _).mono ?_
    rintro e w1 ⟨rfl, hb1⟩
    go_wp2_with fail
    go_ret2
    exact ⟨rfl, hb1⟩
theorem cli_ok (hh hp : List UInt8) (t r : Int) (h : cliE hh hp t r = 0) : orgE hh hp = 0 ∧ 0 ≤ t ∧ t ≤ 9007199254740991 ∧ 0 ≤ r ∧ r ≤ 8 := by
  unfold cliE at h
  split at h
  · exact absurd h (by decide)
  · rename_i hq
    refine ⟨Classical.byContradiction fun e => hq (.inl e), ?_, ?_, ?_, ?_⟩
    · exact Int.not_lt.1 fun e => hq (.inr (.inl e))
    · exact Int.not_lt.1 fun e => hq (.inr (.inr (.inl e)))
    · exact Int.not_lt.1 fun e => hq (.inr (.inr (.inr (.inl e))))
    · exact Int.not_lt.1 fun e => hq (.inr (.inr (.inr (.inr e))))
set_option maxRecDepth 100000 in
set_option maxHeartbeats 2000000 in
theorem fetch_new (w0 : World) (P : Nat) (hh hp : ByteArray) (t r : Int) (h p f : ByteArray) (rest : List Flt) (log : List Evt) (n : Nat) (rv lv : Value) (w : World) (k : KL w0 w P h p f rest log n rv lv) (hc : cliE hh.data.toList hp.data.toList t r = 0) : Calls Tryz.prog 25 #[.pointer (some ⟨P, 0, none⟩), .string hh, .string hp, .int .i64 t, .int .i64 r] w fun e w' => ∃ Cb, e = .returned (.tuple #[.pointer (some ⟨Cb, 0, none⟩), .int .i64 0]) ∧ FC w0 w' Cb P hh hp t r h p f rest log n 0 0 rv lv ∧ Below w.heap.size w w' ∧ w.heap.size ≤ Cb := by
  have HC := Lib.hid (fun w => asking_check hp hh 0 0 w)
  rw [orgE_asks] at HC
  obtain ⟨h1, h2, h3, h4, h5⟩ := cli_ok _ _ _ _ hc
  rw [h1] at HC
  have t2 : decide (t < 0) = false := decide_eq_false (by omega)
  have t3 : decide (t > 9007199254740991) = false := decide_eq_false (by omega)
  have t4 : decide (r < 0) = false := decide_eq_false (by omega)
  have t5 : decide (r > 8) = false := decide_eq_false (by omega)
  have HK := Lib.hid k
  clear hc h1 k
  go_enter Tryz.func25, Tryz.ntmps25
  go_wp2_with fail
  refine (HC.out _).mono ?_
  rintro e w1 ⟨rfl, hb1⟩
  have HB1 := Lib.hid hb1
  clear hb1
  go_wp2_with fail
  go_ret2
  have hk1 := HK.out.step HB1.out
  have hbn : Below w1.heap.size w1 (w1.alloc (.cells #[.pointer (some ⟨P, 0, none⟩), .string hh, .string hp, .int .i64 t, .int .i64 r, .int .i64 0, .int .i64 0] 87)) := (Below.refl _ _).alloc (Nat.le_refl _) _
  exact ⟨w1.heap.size, rfl, ⟨hk1.step hbn, heap_alloc_new w1 _, hk1.bel.size⟩, bstep HB1.out hbn, HB1.out.size⟩
end Go.Proofs.YtbdmmgmcbecolaaGreatDoor
namespace Go.Proofs.YtbdmmgmcbecolaaGreatDoor
open Go.RowKit
def getErr (a b t : Int) : Nat := if rErr a b ≠ 0 ∨ t ≤ b then 8 else if 65536 < rLen a b then 5 else 0
/-- the cells that Get reads -/
def GS (X Cb P : Nat) (hh hp : ByteArray) (t r a b : Int) (w : World) : Prop := (w.cell? ⟨X, 0, none⟩ = some (.int .i64 a) ∧ w.cell? ⟨X, 1, none⟩ = some (.int .i64 b)) ∧ w.cell? ⟨Cb, 0, none⟩ = some (.pointer (some ⟨P, 0, none⟩)) ∧ w.cell? ⟨Cb, 1, none⟩ = some (.string hh) ∧ w.cell? ⟨Cb, 2, none⟩ = some (.string hp) ∧ w.cell? ⟨Cb, 3, none⟩ = some (.int .i64 t) ∧ w.cell? ⟨Cb, 4, none⟩ = some (.int .i64 r)
theorem gs_of {w : World} {X Cb P : Nat} {hh hp : ByteArray} {t r a b : Int} {x5 x6 : Value} (hX : w.heap[X]? = some (.cells #[.int .i64 a, .int .i64 b] 28 (0, 0))) (hC : w.heap[Cb]? = some (.cells #[.pointer (some ⟨P, 0, none⟩), .string hh, .string hp, .int .i64 t, .int .i64 r, x5, x6] 87 (0, 0))) : GS X Cb P hh hp t r a b w := by
  obtain ⟨⟨c0, c1, c2, c3, c4, -, -⟩, -⟩ := seven_facts hC
  exact ⟨⟨by unfold World.cell?; rw [hX]; rfl, by unfold World.cell?; rw [hX]; rfl⟩, c0, c1, c2, c3, c4⟩
section
variable {w0 w : World} {Cb P : Nat} {hh hp h p f : ByteArray} {t r : Int} {rest : List Flt} {log : List Evt} {n asks last : Nat} {rv lv : Value}
theorem FC.range (k : FC w0 w Cb P hh hp t r h p f rest log n asks last rv lv) (a b : Int) : ∀ W, Below (w.alloc (.cells #[.int .i64 a, .int .i64 b] 28)).heap.size (w.alloc (.cells #[.int .i64 a, .int .i64 b] 28)) W → GS w.heap.size Cb P hh hp t r a b W := fun W hW =>
  gs_of ((hW.block _ (by simp)).trans (heap_alloc_new w _)) ((k.step (bstep (below_agg2 w _ _ _) hW)).c)
set_option maxRecDepth 100000 in
set_option maxHeartbeats 4000000 in
theorem get_bad (k : FC w0 w Cb P hh hp t r h p f rest log n asks last rv lv) (a b : Int) (hb : getErr a b t ≠ 0) :
    Calls Tryz.prog 10 #[.pointer (some ⟨Cb, 0, none⟩), .agg #[.int .i64 a, .int .i64 b]] w fun e w' => e = .returned (.tuple #[.string ⟨#[]⟩, .int .i64 (getErr a b t : Nat)]) ∧ Below w.heap.size w w' := by
  have HC := Lib.hid (fun w => ranges_check a b w)
  have HL := Lib.hid (fun w => ranges_length a b w)
  have HG := Lib.hid (k.range a b)
  have HB0 := Lib.hid (below_agg2 w (.int .i64 a) (.int .i64 b) 28)
  clear k
  have HD : Hid (Below (w.alloc (.cells #[.int .i64 a, .int .i64 b] 28)).heap.size (w.alloc (.cells #[.int .i64 a, .int .i64 b] 28)) (w.alloc (.cells #[.int .i64 a, .int .i64 b] 28)).drew) := Lib.hid (Below.refl _ _).drew
  obtain ⟨⟨x0, x1⟩, c0, c1, c2, c3, c4⟩ := HG.out _ (Below.refl _ _)
  by_cases hr : rErr a b = 0
  · rw [hr] at HC
    by_cases hq : t ≤ b
    · have hA : getErr a b t = 8 := by unfold getErr; rw [if_pos (.inr hq)]
      have HA := Lib.hid hA
      have t1 : decide (b ≥ t) = true := decide_eq_true hq
      clear hb hr hA
      go_enter Tryz.func10, Tryz.ntmps10
      go_wp2_with fail
      generalize w.alloc (.cells #[.int .i64 a, .int .i64 b] 28) = W0 at HG HB0 HD x0 x1 c0 c1 c2 c3 c4 ⊢
      generalize w.heap.size = X at HG x0 x1 ⊢
      go_region_held3 (fun w' => w'.cell? ⟨X, 0, none⟩ = some (.int .i64 a) ∧ w'.cell? ⟨X, 1, none⟩ = some (.int .i64 b) ∧ w'.cell? ⟨Cb, 3, none⟩ = some (.int .i64 t)) (first | exact ⟨(HG.out _ HD.out).1.1, (HG.out _ HD.out).1.2, (HG.out _ HD.out).2.2.2.2.1⟩ | exact ⟨(HG.out _ HX1.out).1.1, (HG.out _ HX1.out).1.2, (HG.out _ HX1.out).2.2.2.2.1⟩)
        (first
          | (go_at_call 32; refine (HC.out _).mono ?_; rintro e wa ⟨rfl, hba⟩; have HX1 : Hid (Below W0.heap.size W0 wa) := Lib.hid (bstep HD.out hba); clear hba))
      all_goals
        go_wp2_with fail
        go_ret2
        exact ⟨by rw [HA.out]; rfl, bstep HB0.out HX1.out⟩
    · have t1 : decide (b ≥ t) = false := decide_eq_false hq
      have hl : 65536 < rLen a b := by
        unfold getErr at hb
        rw [if_neg (by rintro (h | h); exact h hr; exact hq h)] at hb
        by_cases hl : 65536 < rLen a b
        · exact hl
        · rw [if_neg hl] at hb; exact absurd rfl hb
      have hA : getErr a b t = 5 := by unfold getErr; rw [if_neg (by rintro (h | h); exact h hr; exact hq h), if_pos hl]
      have HA := Lib.hid hA
      have t2 : decide (rLen a b > 65536) = true := decide_eq_true hl
      clear hb hr hA hl
      generalize rLen a b = M at HL t2
      go_enter Tryz.func10, Tryz.ntmps10
      go_wp2_with fail
      generalize w.alloc (.cells #[.int .i64 a, .int .i64 b] 28) = W0 at HG HB0 HD x0 x1 c0 c1 c2 c3 c4 ⊢
      generalize w.heap.size = X at HG x0 x1 ⊢
      go_region_held3 (fun w' => w'.cell? ⟨X, 0, none⟩ = some (.int .i64 a) ∧ w'.cell? ⟨X, 1, none⟩ = some (.int .i64 b) ∧ w'.cell? ⟨Cb, 3, none⟩ = some (.int .i64 t)) (first | exact ⟨(HG.out _ HD.out).1.1, (HG.out _ HD.out).1.2, (HG.out _ HD.out).2.2.2.2.1⟩ | exact ⟨(HG.out _ HX1.out).1.1, (HG.out _ HX1.out).1.2, (HG.out _ HX1.out).2.2.2.2.1⟩)
        (first
          | (go_at_call 32; refine (HC.out _).mono ?_; rintro e wa ⟨rfl, hba⟩; have HX1 : Hid (Below W0.heap.size W0 wa) := Lib.hid (bstep HD.out hba); clear hba))
      all_goals
        obtain ⟨⟨y0, y1⟩, -⟩ := HG.out _ HX1.out
        go_wp2_with fail
        refine (HL.out _).mono ?_
        rintro e wb ⟨rfl, hbb⟩
        go_wp2_with fail
        go_ret2
        exact ⟨by rw [HA.out]; rfl, bstep HB0.out (bstep HX1.out hbb)⟩
  · have hA : getErr a b t = 8 := by unfold getErr; rw [if_pos (.inl hr)]
    have HA := Lib.hid hA
    have HC8 : Hid (∀ w, Calls Tryz.prog 32 #[.agg #[.int .i64 a, .int .i64 b]] w fun e w' => e = .returned (.int .i64 8) ∧ Below w.heap.size w w') := Lib.hid (fun w => by
      have := ranges_check a b w
      rw [(rErr_no a b hr).1] at this
      exact this)
    clear hb hr hA HC
    go_enter Tryz.func10, Tryz.ntmps10
    go_wp2_with fail
    generalize w.alloc (.cells #[.int .i64 a, .int .i64 b] 28) = W0 at HG HB0 HD x0 x1 c0 c1 c2 c3 c4 ⊢
    generalize w.heap.size = X at HG x0 x1 ⊢
    have k0 : ∀ p : BelowOf W0, p.world.cell? ⟨X, 0, none⟩ = some (.int .i64 a) := fun p => (HG.out _ p.below).1.1
    have k1 : ∀ p : BelowOf W0, p.world.cell? ⟨X, 1, none⟩ = some (.int .i64 b) := fun p => (HG.out _ p.below).1.2
    refine wp_region_quiet_below (by kernel_rfl) (by kernel_rfl) ?_
    repeat (go_big_quiet_step ((go_at_call 32; exact below_of (HC8.out _))))
    refine wpQuiet_nil ?_
    intro W1 hw'
    have hb1 := of_class hw'
    clear hw'
    go_wp2_with fail
    go_ret2
    exact ⟨by rw [HA.out] <;> rfl, bstep HB0.out hb1⟩
end
end Go.Proofs.YtbdmmgmcbecolaaGreatDoor
