/- What Tell of package ranges returns. The law OriginServes. What the listed variables give. The law functions of layer 27, as the rows' proofs take them. -/
import Derived.Test.YtfcomhdgpdbnhaaGreatDoorPo11
import Derived.Laws.StructEq
import Derived.Test.YtfcomhdgpdbnhaaGreatDoorRows
import Derived.OpenShut
import Derived.MakeChecks
import Derived.Stop.LaidErr
import Derived.PinnedBridge
import Derived.Lib.LaidU8T
import Derived.Lib.SmallJoins
import Derived.ChangeSame
import Derived.ChangeArms
import Derived.WideShapes
set_option linter.unusedVariables false
namespace Go.Proofs.YtfcomhdgpdbnhaaGreatDoor
open Go.RowKit
theorem tellSplit (l : List UInt8) (R : List UInt8) (hR : R = if tellsL.isPrefixOf l = true then l.drop 6 else l) (R2 : List UInt8) (h2 : R2 = if hasB 45 R = true then behind 45 R else []) : tellOk l = (tellsL.isPrefixOf l && hasB 45 R && hasB 47 R2) := by
  unfold tellOk
  cases h : tellsL.isPrefixOf l
  · simp
  · rw [h, if_pos rfl] at hR
    subst hR
    cases hb : hasB 45 (l.drop 6)
    · simp
    · rw [hb, if_pos rfl] at h2
      rw [h2]
theorem threeE_nums (a b c : List UInt8) : numsE [a, b, c] = threeE a b c := by
  show (if numE a ≠ 0 then numE a else if numE b ≠ 0 then numE b else if numE c ≠ 0 then numE c else 0) = _
  unfold threeE
  split
  · rfl
  · split
    · rfl
    · split <;> omega
theorem tell_bad (l : List UInt8) (h : tellOk l = false) : tellE l = 4 ∧ tellA l = 0 ∧ tellB l = 0 ∧ tellC l = 0 := by
  have : tellE l = 4 := by unfold tellE; rw [if_pos h]
  unfold tellA tellB tellC; rw [this]; exact ⟨rfl, rfl, rfl, rfl⟩
theorem tell_no (l : List UInt8) (h : tellE l ≠ 0) : tellA l = 0 ∧ tellB l = 0 ∧ tellC l = 0 := by
  unfold tellA tellB tellC; rw [if_neg h, if_neg h, if_neg h]; exact ⟨rfl, rfl, rfl⟩
set_option maxRecDepth 100000 in
set_option maxHeartbeats 4000000 in
theorem ranges_tell (s : ByteArray) (w : World) (hs : s.size ≤ 1000000) (hE : EnvF w) :
    Calls Tryz.prog 17 #[.string s] w fun e w' => e = .returned (.tuple #[.agg #[.int .i64 (tellA s.data.toList), .int .i64 (tellB s.data.toList)], .int .i64 (tellC s.data.toList), .int .i64 (tellE s.data.toList : Nat)]) ∧ Below w.heap.size w w' := by
  obtain ⟨L, hL⟩ : ∃ L, s.data.toList = L := ⟨_, rfl⟩
  have hLl : L.length ≤ 1000000 := by rw [← hL, size_len]; exact hs
  have HP := Lib.hid (fun w => c_cutPre s ⟨#[98, 121, 116, 101, 115, 32]⟩ w)
  rw [hL, show (ByteArray.mk #[98, 121, 116, 101, 115, 32]).data.toList = tellsL from rfl] at HP
  rw [hL]
  obtain ⟨R, hR⟩ : ∃ R, bs (Lib.trimPrefix L tellsL) = R := ⟨_, rfl⟩
  have hRd : R.data.toList = if tellsL.isPrefixOf L = true then L.drop 6 else L := by rw [← hR, bs_data]; rfl
  have hRs : R.size ≤ 1000000 := by rw [← size_len, hRd]; split <;> (try rw [List.length_drop]) <;> omega
  rw [hR] at HP
  have HC := Lib.hid (fun w hE => c_cutAt R 45 w hRs hE)
  obtain ⟨R2, hR2⟩ : ∃ R2, bs (if hasB 45 R.data.toList = true then behind 45 R.data.toList else []) = R2 := ⟨_, rfl⟩
  have hR2d : R2.data.toList = if hasB 45 R.data.toList = true then behind 45 R.data.toList else [] := by rw [← hR2, bs_data]
  have hR2s : R2.size ≤ 1000000 := by
    rw [← size_len, hR2d]
    split
    · unfold behind; rw [List.length_drop, size_len]; omega
    · exact Nat.zero_le _
  rw [hR2] at HC
  have HC2 := Lib.hid (fun w hE => c_cutAt R2 47 w hR2s hE)
  have HE := Lib.hid (hE.below ((Below.refl _ _).alloc (Nat.le_refl _) (.cells #[.int .i64 0, .int .i64 0] 44)))
  have hok := tellSplit L R.data.toList hRd R2.data.toList hR2d
  by_cases hk : tellOk L = true
  case neg =>
    rw [Bool.not_eq_true] at hk
    have HA := Lib.hid (tell_bad L hk)
    rw [hk] at hok
    obtain ⟨p1, hp1⟩ : ∃ p1, tellsL.isPrefixOf L = p1 := ⟨_, rfl⟩
    obtain ⟨p2, hp2⟩ : ∃ p2, hasB 45 R.data.toList = p2 := ⟨_, rfl⟩
    obtain ⟨p3, hp3⟩ : ∃ p3, hasB 47 R2.data.toList = p3 := ⟨_, rfl⟩
    rw [hp1, hp2, hp3] at hok
    rw [hp1] at HP
    rw [hp2] at HC
    rw [hp3] at HC2
    generalize bs (if p2 = true then upTo 45 R.data.toList else R.data.toList) = X1 at HC
    generalize bs (if p3 = true then upTo 47 R2.data.toList else R2.data.toList) = X2 at HC2
    generalize bs (if p3 = true then behind 47 R2.data.toList else []) = X3 at HC2
    clear hp1 hp2 hp3 hRd hR2d hR hR2 hE hk hL
    cases p1 <;> cases p2 <;> cases p3
    case' true.true.true => exact absurd hok (by decide)
    all_goals
      clear hok
      go_enter Tryz.func17, Tryz.ntmps17
      go_wp2_with fail
      refine (HP.out _).mono ?_
      rintro e w' ⟨rfl, rfl⟩
      go_wp2_with fail
      refine (HC.out _ HE.out).mono ?_
      rintro e w1 ⟨rfl, hb1⟩
      have HE1 := Lib.hid (HE.out.below hb1)
      have HB1 := Lib.hid hb1
      clear hb1
      go_wp2_with fail
      refine (HC2.out _ HE1.out).mono ?_
      rintro e w2 ⟨rfl, hb2⟩
      have hb2' := bstep HB1.out hb2
      obtain ⟨k0, k1, f0, f1⟩ := two_of (two_box hb2')
      have HB2 := Lib.hid hb2'
      clear hb2 hb2'
      go_wp2_with fail
      refine ret_cell3 (A := ⟨w.heap.size, 0, none⟩) rfl (load_range _ _ _ _ _ (two_set (two_box HB2.out) _ _)) rfl rfl rfl rfl ?_
      refine ⟨?_, two_below (((Below.refl _ _).alloc (Nat.le_refl _) _).trans (HB2.out.mono (by simp))) _ (Nat.le_refl _) _ _⟩
      rw [HA.out.1, HA.out.2.1, HA.out.2.2.1, HA.out.2.2.2]; rfl
  rw [hk] at hok
  replace hok := hok.symm
  rw [Bool.and_eq_true, Bool.and_eq_true] at hok
  obtain ⟨⟨hp1, hp2⟩, hp3⟩ := hok
  rw [hp1, if_pos rfl] at hRd
  rw [hp1] at HP
  rw [hp2, if_pos rfl] at hR2d
  rw [hp2, if_pos rfl] at HC
  rw [hp3, if_pos rfl, if_pos rfl] at HC2
  rw [hRd] at hR2d HC
  rw [hR2d] at HC2
  obtain ⟨F, hF⟩ : ∃ F, upTo 45 (L.drop 6) = F := ⟨_, rfl⟩
  obtain ⟨T, hT⟩ : ∃ T, upTo 47 (behind 45 (L.drop 6)) = T := ⟨_, rfl⟩
  obtain ⟨N, hN⟩ : ∃ N, behind 47 (behind 45 (L.drop 6)) = N := ⟨_, rfl⟩
  have hFl : F.length ≤ 1000000 := by rw [← hF]; have := upTo_le 45 (L.drop 6); rw [List.length_drop] at this; omega
  have hBl : (behind 45 (L.drop 6)).length ≤ 1000000 := by unfold behind; rw [List.length_drop, List.length_drop]; omega
  have hTl : T.length ≤ 1000000 := by rw [← hT]; have := upTo_le 47 (behind 45 (L.drop 6)); omega
  have hNl : N.length ≤ 1000000 := by rw [← hN]; unfold behind at hBl ⊢; rw [List.length_drop]; omega
  have HA : Hid (tellE L = if threeE F T N ≠ 0 then threeE F T N else toldE (numV F : Nat) (numV T : Nat) (numV N : Nat)) := Lib.hid (by
    unfold tellE; rw [if_neg (by rw [hk]; decide)]
    unfold tellF tellT tellN
    rw [hF, hT, hN])
  have HAV : Hid (tellF L = numV F ∧ tellT L = numV T ∧ tellN L = numV N) := Lib.hid (by unfold tellF tellT tellN; rw [hF, hT, hN]; exact ⟨rfl, rfl, rfl⟩)
  rw [hF] at HC
  rw [hT, hN] at HC2
  have hnum := ranges_numbers (xs := [F, T, N]) (hne := by simp) (hlen := by simp) (hx := by intro x hx; simp at hx; rcases hx with rfl | rfl | rfl <;> assumption)
  have HN := Lib.hid hnum
  clear hp1 hp2 hp3 hRd hR2d hR hR2 hE hk hL hF hT hN hnum hBl
  by_cases hz : threeE F T N = 0
  case neg =>
    have HZ : Hid (numsE [F, T, N] = threeE F T N ∧ tellE L = threeE F T N ∧ tellA L = 0 ∧ tellB L = 0 ∧ tellC L = 0) := Lib.hid (by
      have e1 : tellE L = threeE F T N := by rw [HA.out, if_pos hz]
      exact ⟨threeE_nums F T N, e1, tell_no L (by rw [e1]; exact hz)⟩)
    have tz : ((threeE F T N : Int) != 0) = true := by rw [bne_iff_ne]; omega
    generalize threeE F T N = Z at HZ tz
    clear hz HA HAV
    go_enter Tryz.func17, Tryz.ntmps17
    go_wp2_with fail
    refine (HP.out _).mono ?_
    rintro e w' ⟨rfl, rfl⟩
    go_wp2_with fail
    refine (HC.out _ HE.out).mono ?_
    rintro e w1 ⟨rfl, hb1⟩
    have HE1 := Lib.hid (HE.out.below hb1)
    have HB1 := Lib.hid hb1
    clear hb1
    go_wp2_with fail
    refine (HC2.out _ HE1.out).mono ?_
    rintro e w2 ⟨rfl, hb2⟩
    have hbl : w.heap.size < w2.heap.size := by have := (bstep HB1.out hb2).size; simp at this; omega
    have HB2 := Lib.hid (bstep HB1.out hb2)
    have HE2 := Lib.hid (HE1.out.below hb2)
    clear hb2
    go_wp2_with fail
    have hS : HoldsS (w2.alloc (.cells #[.string (bs F), .string (bs T), .string (bs N)] 9)) (.slice (some ⟨w2.heap.size, 0, none⟩) 3 3) [F, T, N] := HoldsS.of_block (heap_alloc_new _ _) rfl rfl
    have hbA : Below w2.heap.size w2 (w2.alloc (.cells #[.string (bs F), .string (bs T), .string (bs N)] 9)) := (Below.refl _ _).alloc (Nat.le_refl _) _
    refine (HN.out _ _ hS (HE2.out.below hbA)).mono ?_
    rintro e w3 ⟨v, rfl, -, hb3⟩
    rw [HZ.out.1]
    have hb3' : Below (w.alloc (.cells #[.int .i64 0, .int .i64 0] 44)).heap.size (w.alloc (.cells #[.int .i64 0, .int .i64 0] 44)) w3 := bstep HB2.out (bstep hbA hb3)
    obtain ⟨k0, k1, f0, f1⟩ := two_of (two_box hb3')
    have HB3 := Lib.hid hb3'
    clear hb3 hbA hS hb3'
    go_wp2_with fail
    refine ret_cell3 (A := ⟨w.heap.size, 0, none⟩) rfl (load_range _ _ _ _ _ (two_set (two_box HB3.out) _ _)) rfl rfl rfl rfl ?_
    refine ⟨?_, two_below (((Below.refl _ _).alloc (Nat.le_refl _) _).trans (HB3.out.mono (by simp))) _ (Nat.le_refl _) _ _⟩
    rw [HZ.out.2.1, HZ.out.2.2.1, HZ.out.2.2.2.1, HZ.out.2.2.2.2]; rfl
  have HZ : Hid (numsE [F, T, N] = 0 ∧ tellE L = toldE (numV F : Nat) (numV T : Nat) (numV N : Nat)) := Lib.hid ⟨(threeE_nums F T N).trans hz, by rw [HA.out, if_neg (fun h => h hz)]⟩
  have HF : Hid (∀ b, numV b ≤ 9007199254740991) := Lib.hid numV_le'
  obtain ⟨P, hP⟩ : ∃ P, numV F = P := ⟨_, rfl⟩
  obtain ⟨Q, hQ⟩ : ∃ Q, numV T = Q := ⟨_, rfl⟩
  obtain ⟨M, hM⟩ : ∃ M, numV N = M := ⟨_, rfl⟩
  have hPl := HF.out F
  have hQl := HF.out T
  have hMl := HF.out N
  rw [hP] at HZ HAV hPl
  rw [hQ] at HZ HAV hQl
  rw [hM] at HZ HAV hMl
  have HI : Hid ([F, T, N].map numV = [P, Q, M]) := Lib.hid (by rw [← hP, ← hQ, ← hM]; rfl)
  have HCk := Lib.hid (fun w => told_wrong (P : Int) (Q : Int) (M : Int) w)
  clear hz HA HF hP hQ hM
  go_enter Tryz.func17, Tryz.ntmps17
  go_wp2_with fail
  refine (HP.out _).mono ?_
  rintro e w' ⟨rfl, rfl⟩
  go_wp2_with fail
  refine (HC.out _ HE.out).mono ?_
  rintro e w1 ⟨rfl, hb1⟩
  have HE1 := Lib.hid (HE.out.below hb1)
  have HB1 := Lib.hid hb1
  clear hb1
  go_wp2_with fail
  refine (HC2.out _ HE1.out).mono ?_
  rintro e w2 ⟨rfl, hb2⟩
  have hbl : w.heap.size < w2.heap.size := by have := (bstep HB1.out hb2).size; simp at this; omega
  have HB2 := Lib.hid (bstep HB1.out hb2)
  have HE2 := Lib.hid (HE1.out.below hb2)
  clear hb2
  go_wp2_with fail
  have hS : HoldsS (w2.alloc (.cells #[.string (bs F), .string (bs T), .string (bs N)] 9)) (.slice (some ⟨w2.heap.size, 0, none⟩) 3 3) [F, T, N] := HoldsS.of_block (heap_alloc_new _ _) rfl rfl
  have hbA : Below w2.heap.size w2 (w2.alloc (.cells #[.string (bs F), .string (bs T), .string (bs N)] 9)) := (Below.refl _ _).alloc (Nat.le_refl _) _
  refine (HN.out _ _ hS (HE2.out.below hbA)).mono ?_
  rintro e w3 ⟨v, rfl, hI, hb3⟩
  rw [HZ.out.1]
  have hI2 := hI HZ.out.1
  rw [HI.out] at hI2
  obtain ⟨g, c, hv, -, hg, -, hcell⟩ := hI2
  have c0 := hcell 0 (by simp)
  have c1 := hcell 1 (by simp)
  have c2 := hcell 2 (by simp)
  have hv2 : v = .slice (some ⟨g, 0, none⟩) 3 c := hv
  clear hcell hv hI
  subst hv2
  have hb3' : Below (w.alloc (.cells #[.int .i64 0, .int .i64 0] 44)).heap.size (w.alloc (.cells #[.int .i64 0, .int .i64 0] 44)) w3 := bstep HB2.out (bstep hbA hb3)
  clear hb3 hbA hS
  have HB3 := Lib.hid hb3'
  have hw3 : w.heap.size < w3.heap.size := by have := hb3'.size; simp at this; omega
  clear hb3'
  change w3.cell? ⟨g, 0, none⟩ = some (.int .i64 (P : Int)) at c0
  change w3.cell? ⟨g, 1, none⟩ = some (.int .i64 (Q : Int)) at c1
  change w3.cell? ⟨g, 2, none⟩ = some (.int .i64 (M : Int)) at c2
  go_wp2_with fail
  go_region
  all_goals go_wp2_with fail
  have hbR : Below w3.heap.size w3 (w3.alloc (.cells #[.int .i64 (P : Int), .int .i64 (Q : Int), .int .i64 (M : Int)] 87)).drew := ((Below.refl _ _).alloc (Nat.le_refl _) _).drew
  have hnR : (w3.alloc (.cells #[.int .i64 (P : Int), .int .i64 (Q : Int), .int .i64 (M : Int)] 87)).drew.heap[w3.heap.size]? = some (.cells #[.int .i64 (P : Int), .int .i64 (Q : Int), .int .i64 (M : Int)] 87 (0, 0)) := heap_alloc_new w3 _
  have hlR : w3.heap.size < (w3.alloc (.cells #[.int .i64 (P : Int), .int .i64 (Q : Int), .int .i64 (M : Int)] 87)).drew.heap.size := by simp
  refine (HCk.out _).mono ?_
  rintro e w4 ⟨rfl, hb4⟩
  have hj4 := (hb4.block _ hlR).trans hnR
  obtain ⟨j0, j1, j2, -, -, -⟩ := three_facts hj4
  have hb4' : Below (w.alloc (.cells #[.int .i64 0, .int .i64 0] 44)).heap.size (w.alloc (.cells #[.int .i64 0, .int .i64 0] 44)) w4 := bstep HB3.out (bstep hbR hb4)
  obtain ⟨k0, k1, f0, f1⟩ := two_of (two_box hb4')
  have hne : w.heap.size ≠ w3.heap.size := by omega
  have hl4 : w.heap.size < w4.heap.size := (Array.getElem?_eq_some_iff.1 (two_box hb4')).1
  clear hb4 hbR hnR hlR c0 c1 c2 hj4
  have HB4 := Lib.hid hb4'
  clear hb4'
  by_cases hr : toldE (P : Int) (Q : Int) (M : Int) = 0
  · have HR : Hid (tellE L = 0 ∧ tellA L = (P : Int) ∧ tellB L = (Q : Int) ∧ tellC L = (M : Int)) := Lib.hid (by
      have e1 : tellE L = 0 := by rw [HZ.out.2, hr]
      refine ⟨e1, ?_, ?_, ?_⟩
      · unfold tellA; rw [if_pos e1, HAV.out.1]
      · unfold tellB; rw [if_pos e1, HAV.out.2.1]
      · unfold tellC; rw [if_pos e1, HAV.out.2.2])
    rw [hr]
    clear hr
    go_wp2_with fail
    go_region
    all_goals
      go_wp2_with fail
      refine ret_cell3 (A := ⟨w.heap.size, 0, none⟩) rfl (load_range _ _ _ _ _ (two_set (two_box HB4.out) _ _)) rfl rfl rfl rfl ?_
      refine ⟨?_, (two_below (((Below.refl _ _).alloc (Nat.le_refl _) _).trans (HB4.out.mono (by simp))) _ (Nat.le_refl _) _ _).drew⟩
      rw [HR.out.1, HR.out.2.1, HR.out.2.2.1, HR.out.2.2.2]; rfl
  · have HR : Hid (tellE L = toldE (P : Int) (Q : Int) (M : Int) ∧ tellA L = 0 ∧ tellB L = 0 ∧ tellC L = 0) := Lib.hid ⟨HZ.out.2, tell_no L (by rw [HZ.out.2]; exact hr)⟩
    have tz : ((toldE (P : Int) (Q : Int) (M : Int) : Int) != 0) = true := by rw [bne_iff_ne]; omega
    generalize toldE (P : Int) (Q : Int) (M : Int) = Z at HR tz ⊢
    clear hr
    go_wp2_with fail
    refine ret_cell3 (A := ⟨w.heap.size, 0, none⟩) rfl (load_range _ _ _ _ _ (two_set (two_box HB4.out) _ _)) rfl rfl rfl rfl ?_
    refine ⟨?_, two_below (((Below.refl _ _).alloc (Nat.le_refl _) _).trans (HB4.out.mono (by simp))) _ (Nat.le_refl _) _ _⟩
    rw [HR.out.1, HR.out.2.1, HR.out.2.2.1, HR.out.2.2.2]; rfl
end Go.Proofs.YtfcomhdgpdbnhaaGreatDoor
namespace Go.Proofs.YtfcomhdgpdbnhaaGreatDoor
open Go.RowKit
theorem eq_rng_in (d : Nat) (x y : Int) (w : World) : (Op.equalIn (d + 2) 44 (.agg #[.int .i64 x, .int .i64 y]) (.agg #[.int .i64 x, .int .i64 y])).run Tryz.prog w = .ok true w := by
  have u4 := Tryz.underlying3
  have hS : Tryz.prog.underlying 44 = some (.struct (Tryz.prog.fieldsOf 44)) := by kernel_rfl
  have hp : Tryz.prog.stoodInHeld 44 = false := by kernel_rfl
  rw [run_equalIn_agg w (d + 1) 44 _ _ hS hp]
  simp only [Program.fieldsOf, Tryz.underlying44]
  go_simp
theorem eq_rng (x y : Int) (w : World) : (binOp .eql 44 (.agg #[.int .i64 x, .int .i64 y]) (.agg #[.int .i64 x, .int .i64 y])).run Tryz.prog w = .ok (.bool true) w := by
  rw [run_eql_struct, show (10000 : Nat) = 9998 + 2 from rfl, eq_rng_in]; rfl
theorem guard_rng (op : BinOp) (x y : Operand) (xs ys : Array Value) (w : World) : (eqGuard op 44 x y (.agg xs) (.agg ys)).run Tryz.prog w = .ok () w :=
  run_eqGuard_agg w op 44 x y xs ys (by kernel_rfl)
theorem get_told (v : List UInt8) : getE [(crangeK, v)] crangeK = 0 ∧ getS [(crangeK, v)] crangeK = v := by
  have e1 : hits [(crangeK, v)] crangeK = [v] := by unfold hits; simp
  unfold getE getS
  rw [e1]
  exact ⟨rfl, rfl⟩
theorem req_len (p h : List UInt8) (a b : Int) (he : aErr p h a b = 0) (ha : a ≤ 9223372036854775807) (hb : b ≤ 9223372036854775807) : 0 < (reqL p h a b).length ∧ (reqL p h a b).length ≤ 1000 := by
  have hg := lines_good p h a b he ha hb
  have h1 := (hg (line1 p) (by simp)).2.2
  have h2 := (hg (line2 h) (by simp)).2.2
  have h3 := (hg (line3 a b) (by simp)).2.2
  unfold reqL body body body body
  simp only [List.length_append, List.length_cons, List.length_nil]
  omega
/-- a request for a range, laid, is answered so -/
theorem org_asked (p h f : List UInt8) (a b : Int) (he : aErr p h a b = 0) (ha : a ≤ 9223372036854775807) (hb : b ≤ 9223372036854775807) (s : ByteArray) (hs : s.data.toList = reqL p h a b) :
    orgC h p f s = (if (f.length : Int) ≤ a then 416 else 206) ∧ orgA f s = clipA a b (f.length : Int) ∧ orgB f s = clipB a b (f.length : Int) ∧ orgE h p = 0 ∧ rErr a b = 0 := by
  obtain ⟨e1, e2, e3, e4, e5, e6⟩ := ask_req p h a b he ha hb s [] (by rw [List.append_nil]; exact hs)
  obtain ⟨g1, g2, g3⟩ := aErr_zero p h a b he
  refine ⟨?_, ?_, ?_, ?_, g3⟩
  · unfold orgC
    rw [if_neg (by rw [e1, e6, ← hs, size_len]; omega), if_neg (by rw [e2, e3]; simp), e4, e5]
    have hc : clipE a b (f.length : Int) = if (f.length : Int) ≤ a then 8 else 0 := by unfold clipE; rw [if_neg (fun h => h g3)]
    rw [hc]
    by_cases h1 : (f.length : Int) ≤ a
    · rw [if_pos h1, if_pos h1, if_pos (by decide)]
    · rw [if_neg h1, if_neg h1, if_neg (by decide)]
  · unfold orgA; rw [e4, e5]
  · unfold orgB; rw [e4, e5]
  · unfold orgE; rw [if_neg]; rw [g1, g2]; simp
/-- a reply that was laid lies in a block -/
structure RIn (w5 W : World) (q : Nat) (C : Int) (a : Option Addr) (n cp : Nat) (F : List (List UInt8 × List UInt8)) (Y : ByteArray) : Prop where
  blk : W.heap[q]? = some (.cells #[.int .i64 C, .slice a n cp, .string Y] 37 (0, 0))
  bel : Below w5.heap.size w5 W
  own : W.ownsRow 0 78 2 (.slice a n cp) n (fcells F)
theorem rin_one {w5 wc : World} {B : Nat} {C : Int} {a : Option Addr} {n cp : Nat} {F : List (List UInt8 × List UInt8)} {Y : ByteArray} (h : Below w5.heap.size w5 wc) (ho : wc.ownsRow B 78 2 (.slice a n cp) n (fcells F)) :
    RIn w5 (wc.alloc (.cells #[.int .i64 C, .slice a n cp, .string Y] 37)) wc.heap.size C a n cp F Y :=
  ⟨heap_alloc_new wc _, h.alloc h.size _, own_lowerF (own_keep ho ((Below.refl _ _).alloc (Nat.le_refl _) _)) (Nat.zero_le _)⟩
theorem own_off {w : World} {B : Nat} {v : Value} {n : Nat} {xs cs : List Value} {b : Nat} {t e : TypeId} {size : Nat} (h : w.ownsRow B e size v n xs) (hb : w.heap[b]? = some (.cells cs.toArray t (0, 0))) (hne : t ≠ e) : v.ownBlock ≠ some b := by
  rcases h.2 with ⟨rfl, -⟩ | ⟨g, cap, cur, rfl, -, hg, -⟩
  · intro e; cases e
  · intro e
    injection e with e
    have e' : g = b := e
    subst e'
    rw [hb] at hg
    simp only [Option.some.injEq, Obj.cells.injEq] at hg
    exact hne hg.2.1
theorem rin_two {w5 wc : World} {B q : Nat} {C : Int} {a : Option Addr} {n cp : Nat} {F : List (List UInt8 × List UInt8)} {Y : ByteArray} {x y z : Value} (h : Below w5.heap.size w5 wc) (hq : w5.heap.size ≤ q) (ho : wc.ownsRow B 78 2 (.slice a n cp) n (fcells F)) (hz : wc.heap[q]? = some (.cells #[x, y, z] 37 (0, 0))) :
    RIn w5 (((wc.setCell ⟨q, 0, none⟩ (.int .i64 C)).setCell ⟨q, 1, none⟩ (.slice a n cp)).setCell ⟨q, 2, none⟩ (.string Y)) q C a n cp F Y := by
  refine ⟨three_set hz _ _ _, three_below h _ hq _ _ _, ?_⟩
  have hne := own_off (cs := [x, y, z]) ho hz (by decide)
  rcases ho.2 with ⟨h1, h2⟩ | ⟨g, cap, cur, h1, h2, h3, h4⟩
  · exact ⟨ho.1, .inl ⟨h1, h2⟩⟩
  · refine ⟨ho.1, .inr ⟨g, cap, cur, h1, Nat.zero_le _, ?_, h4⟩⟩
    have hgq : g ≠ q := fun e => hne (by rw [h1, ← e]; rfl)
    rw [Below.heap_setCell _ _ _ _ hgq, Below.heap_setCell _ _ _ _ hgq, Below.heap_setCell _ _ _ _ hgq]
    exact h3
set_option maxRecDepth 100000 in
set_option maxHeartbeats 8000000 in
theorem originServes_walk (h p f : ByteArray) (a b : Int) (w : World) (hE : EnvF w) (ha0 : -9223372036854775808 ≤ a) (ha : a ≤ 9223372036854775807) (hb0 : -9223372036854775808 ≤ b) (hb : b ≤ 9223372036854775807) :
    Calls Tryz.prog 5 #[.agg #[.string h, .string p, .string f], .agg #[.int .i64 a, .int .i64 b]] w fun e w' => e = .returned (.bool true) ∧ Below w.heap.size w w' := by
  have HOv := Lib.hid (fun w => ref_oover h p f 2000 w)
  have hB0 := bstep (below_ro3 w (.string h) (.string p) (.string f)) (below_agg2 (w.alloc (.cells #[.string h, .string p, .string f] 23)) (.int .i64 a) (.int .i64 b) 41)
  have HB0 := Lib.hid hB0
  have HE0 := Lib.hid (hE.below HB0.out)
  have HQ0 := Lib.hid ((OAt.new w 23 h p f).below (below_agg2 _ (.int .i64 a) (.int .i64 b) 41))
  have HR0 := Lib.hid (heap_alloc2_new w (.cells #[.string h, .string p, .string f] 23) (.cells #[.int .i64 a, .int .i64 b] 41))
  have HSZ : Hid (((w.alloc (.cells #[.string h, .string p, .string f] 23)).alloc (.cells #[.int .i64 a, .int .i64 b] 41)).heap.size = w.heap.size + 1 + 1) := Lib.hid (by simp)
  clear hE hB0
  obtain ⟨q0, q1, q2⟩ := HQ0.out.cells
  cases h1 : overO h.data.toList p.data.toList f.data.toList 2000 with
  | true =>
    rw [h1] at HOv
    clear h1
    go_enter Tryz.func5, Tryz.ntmps5
    go_wp2_with fail
    refine (HOv.out _).mono ?_
    rintro e w1 ⟨rfl, hb1⟩
    have HB1 := Lib.hid (bstep HB0.out hb1)
    have HE1 := Lib.hid (HE0.out.below hb1)
    clear hb1
    go_wp2_with fail
    refine (awake27 _ HE1.out).mono ?_
    rintro e w2 ⟨rfl, hb2⟩
    go_wp2_with fail
    go_ret
    exact ⟨rfl, bstep HB1.out hb2⟩
  | false =>
  rw [h1] at HOv
  obtain ⟨b1, b2, b3⟩ := overO_false h p f 2000 h1
  have HPr := Lib.hid (fun W hE => asking_print p h a b W hE ha0 ha hb0 hb)
  by_cases he : aErr p.data.toList h.data.toList a b = 0
  case neg =>
    have tz : ((aErr p.data.toList h.data.toList a b : Int) != 0) = true := by rw [bne_iff_ne]; omega
    generalize bs (aPrint p.data.toList h.data.toList a b) = S at HPr
    generalize aErr p.data.toList h.data.toList a b = E at HPr tz
    clear h1 he
    go_enter Tryz.func5, Tryz.ntmps5
    go_wp2_with fail
    generalize ((w.alloc (.cells #[.string h, .string p, .string f] 23)).alloc (.cells #[.int .i64 a, .int .i64 b] 41)) = W0 at HB0 HE0 HQ0 HR0 HSZ q0 q1 q2 ⊢
    refine (HOv.out _).mono ?_
    rintro e w1 ⟨rfl, hb1⟩
    have hB2 := below_o3 w1 (.string h) (.string p) (.string f)
    have HB5 := Lib.hid (bstep (bstep HB0.out hb1) hB2)
    have HE5 := Lib.hid ((HE0.out.below hb1).below hB2)
    have HQ1 := Lib.hid (HQ0.out.below hb1)
    have HQ5 := Lib.hid ((HQ0.out.below hb1).below hB2)
    have hr1 := (hb1.block (w.heap.size + 1) (by have := HSZ.out; omega)).trans HR0.out
    have hr5 := (hB2.block (w.heap.size + 1) (Array.getElem?_eq_some_iff.1 hr1).1).trans hr1
    clear hb1 q0 q1 q2 HB0 HE0 HQ0
    obtain ⟨q0, q1, q2⟩ := HQ1.out.cells
    obtain ⟨r0, r1, -, -⟩ := two_of hr5
    have HR5 := Lib.hid hr5
    have hs5 := HQ1.out.lt
    clear hr1 hr5 hB2
    go_wp2_with fail
    have HX5 := Lib.hid (OAt.new w1 26 h p f)
    generalize (w1.alloc (.cells #[.string h, .string p, .string f] 26)) = W5 at HB5 HE5 HQ5 HR5 HX5 r0 r1 ⊢
    generalize w1.heap.size = X at HX5 ⊢
    refine (HPr.out _ HE5.out).mono ?_
    rintro e w2 ⟨rfl, hb2⟩
    have HB6 := Lib.hid (bstep HB5.out hb2)
    have HE6 := Lib.hid (HE5.out.below hb2)
    clear hb2 q0 q1 q2 r0 r1
    go_wp2_with fail
    refine (awake27 _ HE6.out).mono ?_
    rintro e w3 ⟨rfl, hb3⟩
    go_wp2_with fail
    go_ret
    exact ⟨rfl, bstep HB6.out hb3⟩
  have hSd : (bs (reqL p.data.toList h.data.toList a b)).data.toList = reqL p.data.toList h.data.toList a b := bs_data _
  have hPS : bs (aPrint p.data.toList h.data.toList a b) = bs (reqL p.data.toList h.data.toList a b) := by unfold aPrint; rw [if_pos he]
  rw [he, hPS] at HPr
  have hRl := (req_len p.data.toList h.data.toList a b he ha hb).2
  have hSs : (bs (reqL p.data.toList h.data.toList a b)).size ≤ 1000 := by rw [bs_size]; exact hRl
  generalize bs (reqL p.data.toList h.data.toList a b) = S at HPr hSd hSs
  obtain ⟨g1, g2, g3, g4, g5⟩ := org_asked p.data.toList h.data.toList f.data.toList a b he ha hb S hSd
  rw [size_len] at g1 g2 g3
  have H1 := Lib.hid (fun W => origin_check h p f W)
  have H3 := Lib.hid (fun W hE => origin_answer h p f S W hE (by omega) (by omega))
  have H5 := Lib.hid (fun W hE => origin_code h p f S W hE (by omega) (by omega))
  have hfl : f.data.toList.length ≤ 1000000 := by rw [size_len]; omega
  have hAl := orgS_len h.data.toList p.data.toList f.data.toList S hfl
  rw [size_len] at hAl
  obtain ⟨t1, t2, t3, t4, t5⟩ := org_take h.data.toList p.data.toList f.data.toList S [] (bs (orgS h.data.toList p.data.toList f.data.toList S)) (f.size : Int) g4 hfl (by rw [size_len]; exact Int.le_refl _) (by rw [bs_data, List.append_nil])
  have hK : orgK h.data.toList p.data.toList f.data.toList S = orgC h.data.toList p.data.toList f.data.toList S := by unfold orgK; rw [if_pos g4]
  rw [hK] at H5
  rw [g4] at H1
  have hoth := orgF_other h.data.toList p.data.toList f.data.toList S
  have hprt := fun hc => org_part h.data.toList p.data.toList f.data.toList S hc hfl
  rw [g2, g3, size_len] at hprt
  have hq := rErr_ok a b g5
  have hcl : ¬ (f.size : Int) ≤ a → clipA a b (f.size : Int) = a ∧ clipB a b (f.size : Int) = (if b < (f.size : Int) - 1 then b else (f.size : Int) - 1) ∧ toldE (clipA a b (f.size : Int)) (clipB a b (f.size : Int)) (f.size : Int) = 0 := fun hx => by
    have hc : clipE a b (f.size : Int) = 0 := by unfold clipE; rw [if_neg (fun h => h g5), if_neg hx]
    obtain ⟨-, -, c1, c2⟩ := clip_ok _ _ _ hc
    exact ⟨c1, c2, clip_told _ _ _ hc (by omega)⟩
  generalize orgC h.data.toList p.data.toList f.data.toList S = C at H5 t2 hoth g1 hprt
  generalize orgF h.data.toList p.data.toList f.data.toList S = F at t3 hoth hprt
  generalize orgY h.data.toList p.data.toList f.data.toList S = Y at t4 hoth hprt
  generalize orgS h.data.toList p.data.toList f.data.toList S = L at H3 t1 t2 t3 t4 t5 hAl
  have hNs : (bs L).size = L.length := bs_size L
  generalize bs L = R at H3 t1 t2 t3 t4 t5 hNs
  rw [← hNs] at t5 hAl
  have HT := Lib.hid (fun w hE => parse_is R (f.size : Int) C (R.size : Int) F (bs Y) 0 ⟨t1, t2, t3, by rw [t4], t5⟩ w (by omega) hE)
  unfold ParseAt at HT
  clear h1 he hSd hPS hRl hfl t1 t2 t3 t4 t5 hNs hAl hK g2 g3 g4 g5
  by_cases hx : (f.size : Int) ≤ a
  · rw [if_pos hx] at g1
    subst g1
    obtain ⟨rfl, rfl⟩ := hoth (by decide)
    rw [show ([] : List (List UInt8 × List UInt8)).length = 0 from rfl, show bs [] = ⟨#[]⟩ from rfl] at HT
    have tx : decide (a ≥ (f.size : Int)) = true := decide_eq_true hx
    clear hoth hprt hcl hx
    go_enter Tryz.func5, Tryz.ntmps5
    go_wp2_with fail
    generalize ((w.alloc (.cells #[.string h, .string p, .string f] 23)).alloc (.cells #[.int .i64 a, .int .i64 b] 41)) = W0 at HB0 HE0 HQ0 HR0 HSZ q0 q1 q2 ⊢
    refine (HOv.out _).mono ?_
    rintro e w1 ⟨rfl, hb1⟩
    have hB2 := below_o3 w1 (.string h) (.string p) (.string f)
    have HB5 := Lib.hid (bstep (bstep HB0.out hb1) hB2)
    have HE5 := Lib.hid ((HE0.out.below hb1).below hB2)
    have HQ1 := Lib.hid (HQ0.out.below hb1)
    have HQ5 := Lib.hid ((HQ0.out.below hb1).below hB2)
    have hr1 := (hb1.block (w.heap.size + 1) (by have := HSZ.out; omega)).trans HR0.out
    have hr5 := (hB2.block (w.heap.size + 1) (Array.getElem?_eq_some_iff.1 hr1).1).trans hr1
    clear hb1 q0 q1 q2 HB0 HE0 HQ0
    obtain ⟨q0, q1, q2⟩ := HQ1.out.cells
    obtain ⟨r0, r1, -, -⟩ := two_of hr5
    have HR5 := Lib.hid hr5
    have hs5 := HQ1.out.lt
    clear hr1 hr5 hB2
    go_wp2_with fail
    have HX5 := Lib.hid (OAt.new w1 26 h p f)
    generalize (w1.alloc (.cells #[.string h, .string p, .string f] 26)) = W5 at HB5 HE5 HQ5 HR5 HX5 r0 r1 ⊢
    generalize w1.heap.size = X at HX5 ⊢
    refine (HPr.out _ HE5.out).mono ?_
    rintro e w2 ⟨rfl, hb2⟩
    have HB6 := Lib.hid (bstep HB5.out hb2)
    have HE6 := Lib.hid (HE5.out.below hb2)
    have HQ6 := Lib.hid (HQ5.out.below hb2)
    have HX6 := Lib.hid (HX5.out.below hb2)
    have HR6 := Lib.hid ((hb2.block (w.heap.size + 1) (Array.getElem?_eq_some_iff.1 HR5.out).1).trans HR5.out)
    clear hb2 q0 q1 q2 r0 r1 HB5 HE5 HQ5 HX5 HR5
    obtain ⟨x0, x1, x2⟩ := HX6.out.cells
    go_wp2_with fail
    refine (H1.out _).mono ?_
    rintro e w3 ⟨rfl, hb3⟩
    have HB7 := Lib.hid (bstep HB6.out hb3)
    have HE7 := Lib.hid (HE6.out.below hb3)
    have HQ7 := Lib.hid (HQ6.out.below hb3)
    have HX7 := Lib.hid (HX6.out.below hb3)
    have HR7 := Lib.hid ((hb3.block (w.heap.size + 1) (Array.getElem?_eq_some_iff.1 HR6.out).1).trans HR6.out)
    clear hb3 x0 x1 x2 HB6 HE6 HQ6 HX6 HR6
    go_wp2_with fail
    have HS7 : Hid (∀ W, Below w3.heap.size w3 W → W.cell? ⟨X, 0, none⟩ = some (.string h) ∧ W.cell? ⟨X, 1, none⟩ = some (.string p) ∧ W.cell? ⟨X, 2, none⟩ = some (.string f) ∧ W.cell? ⟨w.heap.size, 2, none⟩ = some (.string f)) := Lib.hid (fun W hW =>
      let ⟨y0, y1, y2⟩ := (HX7.out.below hW).cells
      let ⟨_, _, z2⟩ := (HQ7.out.below hW).cells
      ⟨y0, y1, y2, z2⟩)
    have HEE : Hid (∀ W, Below w3.heap.size w3 W → EnvF W) := Lib.hid (fun W hW => HE7.out.below hW)
    have HDr : Hid (Below w3.heap.size w3 w3.drew) := Lib.hid (Below.refl _ _).drew
    have HA0 : Hid (Below w3.heap.size w3 (w3.alloc (.cells #[.int .i64 0, .slice none 0 0, .string ⟨#[]⟩] 37)).drew) := Lib.hid ((Below.refl _ _).alloc (Nat.le_refl _) _).drew
    have HEd := Lib.hid (HEE.out _ HDr.out)
    have HEz := Lib.hid (HEE.out _ HA0.out)
    go_region_held3 (fun w' => w'.cell? ⟨X, 0, none⟩ = some (.string h) ∧ w'.cell? ⟨X, 1, none⟩ = some (.string p) ∧ w'.cell? ⟨X, 2, none⟩ = some (.string f) ∧ w'.cell? ⟨w.heap.size, 2, none⟩ = some (.string f)) (first | exact HS7.out _ HDr.out | exact HS7.out _ HA0.out | exact HS7.out _ HA1.out | exact HS7.out _ (HA1.out.alloc HA1.out.size _) | exact HS7.out _ HA2.out | exact HS7.out _ (HA2.out.alloc HA2.out.size _) | exact HS7.out _ (three_below HA2.out _ (Nat.le_refl _) _ _ _) | exact HS7.out _ (three_below HA2.out _ HA1.out.size _ _ _))
      (first
        | (go_at_call 10; (first | (with_reducible refine (H3.out _ HEd.out).mono ?_) | (with_reducible refine (H3.out _ HEz.out).mono ?_)); rintro e wa ⟨rfl, hba⟩; (first | (have HA1 : Hid (Below w3.heap.size w3 wa) := Lib.hid (bstep HDr.out hba)) | (have HA1 : Hid (Below w3.heap.size w3 wa) := Lib.hid (bstep HA0.out hba); have HZ := Lib.hid ((hba.block w3.heap.size (by simp)).trans (heap_alloc_new w3 _)); obtain ⟨z0, z1, z2, y0, y1, y2⟩ := three_facts HZ.out)); have HEa := Lib.hid (HEE.out _ HA1.out); have HEb := Lib.hid (HEE.out _ (HA1.out.alloc HA1.out.size (.cells #[.int .i64 0, .slice none 0 0, .string ⟨#[]⟩] 37))); clear hba)
        | (go_at_call 14; (first | (with_reducible refine (HT.out _ HEa.out).mono ?_) | (with_reducible refine (HT.out _ HEb.out).mono ?_)); rintro e wc ⟨ac, cc, rfl, hoc, hbc⟩; (first | (have HA2 : Hid (Below w3.heap.size w3 wc) := Lib.hid (bstep HA1.out hbc)) | (have HA2 : Hid (Below w3.heap.size w3 wc) := Lib.hid (bstep (HA1.out.alloc HA1.out.size (.cells #[.int .i64 0, .slice none 0 0, .string ⟨#[]⟩] 37)) hbc); have HZ := Lib.hid ((hbc.block wa.heap.size (by simp)).trans (heap_alloc_new wa _)); obtain ⟨z0, z1, z2, y0, y1, y2⟩ := three_facts HZ.out)); (try (have HZ2 := Lib.hid ((hbc.block w3.heap.size (Array.getElem?_eq_some_iff.1 HZ.out).1).trans HZ.out); clear z0 z1 z2 y0 y1 y2; obtain ⟨z0, z1, z2, y0, y1, y2⟩ := three_facts HZ2.out)); have HO2 := Lib.hid hoc; clear hoc hbc))
    all_goals
      first
        | (have H7 : Hid (RIn w3 (((wc.setCell ⟨w3.heap.size, 0, none⟩ (.int .i64 416)).setCell ⟨w3.heap.size, 1, none⟩ (.slice ac 0 cc)).setCell ⟨w3.heap.size, 2, none⟩ (.string ⟨#[]⟩)) w3.heap.size 416 ac 0 cc [] ⟨#[]⟩) := Lib.hid (rin_two HA2.out (Nat.le_refl _) HO2.out HZ2.out)
           clear HZ HZ2 z0 z1 z2 y0 y1 y2
           generalize (((wc.setCell ⟨w3.heap.size, 0, none⟩ (.int .i64 416)).setCell ⟨w3.heap.size, 1, none⟩ (.slice ac 0 cc)).setCell ⟨w3.heap.size, 2, none⟩ (.string ⟨#[]⟩)) = W7 at H7 ⊢
           generalize w3.heap.size = q at H7 ⊢)
        | (have H7 : Hid (RIn w3 (((wc.setCell ⟨wa.heap.size, 0, none⟩ (.int .i64 416)).setCell ⟨wa.heap.size, 1, none⟩ (.slice ac 0 cc)).setCell ⟨wa.heap.size, 2, none⟩ (.string ⟨#[]⟩)) wa.heap.size 416 ac 0 cc [] ⟨#[]⟩) := Lib.hid (rin_two HA2.out HA1.out.size HO2.out HZ.out)
           clear HZ z0 z1 z2 y0 y1 y2
           generalize (((wc.setCell ⟨wa.heap.size, 0, none⟩ (.int .i64 416)).setCell ⟨wa.heap.size, 1, none⟩ (.slice ac 0 cc)).setCell ⟨wa.heap.size, 2, none⟩ (.string ⟨#[]⟩)) = W7 at H7 ⊢
           generalize wa.heap.size = q at H7 ⊢)
        | (have H7 : Hid (RIn w3 (wc.alloc (.cells #[.int .i64 416, .slice ac 0 cc, .string ⟨#[]⟩] 37)) wc.heap.size 416 ac 0 cc [] ⟨#[]⟩) := Lib.hid (rin_one HA2.out HO2.out)
           generalize wc.alloc (.cells #[.int .i64 416, .slice ac 0 cc, .string ⟨#[]⟩] 37) = W7 at H7 ⊢
           generalize wc.heap.size = q at H7 ⊢)
      clear HA1 HA2 HO2 HEa HEb HEd HEz HA0 HDr HS7
      have HB8 := Lib.hid (bstep HB7.out H7.out.bel)
      have HE8 := Lib.hid (HE7.out.below H7.out.bel)
      have HX8 := Lib.hid (HX7.out.below H7.out.bel)
      have HQ8 := Lib.hid (HQ7.out.below H7.out.bel)
      have HR8 := Lib.hid ((H7.out.bel.block (w.heap.size + 1) (Array.getElem?_eq_some_iff.1 HR7.out).1).trans HR7.out)
      have HP8 := Lib.hid H7.out.blk
      have HO8 := Lib.hid H7.out.own
      clear HB7 HE7 HX7 HQ7 HR7 H7 HEE
      go_wp2_with fail
      have HS9 : Hid (∀ W, Below W7.heap.size W7 W → W.cell? ⟨X, 0, none⟩ = some (.string h) ∧ W.cell? ⟨X, 1, none⟩ = some (.string p) ∧ W.cell? ⟨X, 2, none⟩ = some (.string f) ∧ W.cell? ⟨q, 0, none⟩ = some (.int .i64 416)) := Lib.hid (fun W hW =>
        let ⟨y0, y1, y2⟩ := (HX8.out.below hW).cells
        let ⟨z0, _⟩ := three_facts ((hW.block q (Array.getElem?_eq_some_iff.1 HP8.out).1).trans HP8.out)
        ⟨y0, y1, y2, z0⟩)
      have HDr : Hid (Below W7.heap.size W7 W7.drew) := Lib.hid (Below.refl _ _).drew
      have HEd := Lib.hid (HE8.out.below HDr.out)
      go_region_held3 (fun w' => w'.cell? ⟨X, 0, none⟩ = some (.string h) ∧ w'.cell? ⟨X, 1, none⟩ = some (.string p) ∧ w'.cell? ⟨X, 2, none⟩ = some (.string f) ∧ w'.cell? ⟨q, 0, none⟩ = some (.int .i64 416)) (first | exact HS9.out _ HDr.out | exact HS9.out _ HA1.out | exact HS9.out _ HA2.out)
        (first
          | (go_at_call 10; refine (H3.out _ HEd.out).mono ?_; rintro e we ⟨rfl, hbe⟩; have HA1 : Hid (Below W7.heap.size W7 we) := Lib.hid (bstep HDr.out hbe); have HEa := Lib.hid (HE8.out.below HA1.out); clear hbe)
          | (go_at_call 12; refine (H5.out _ HEa.out).mono ?_; rintro e wf ⟨rfl, hbf⟩; have HA2 : Hid (Below W7.heap.size W7 wf) := Lib.hid (bstep HA1.out hbf); clear hbf))
      have HB9 := Lib.hid (bstep HB8.out HA2.out)
      have HE9 := Lib.hid (HE8.out.below HA2.out)
      have HQ9 := Lib.hid (HQ8.out.below HA2.out)
      have hr9 := (HA2.out.block (w.heap.size + 1) (Array.getElem?_eq_some_iff.1 HR8.out).1).trans HR8.out
      have hp9 := (HA2.out.block q (Array.getElem?_eq_some_iff.1 HP8.out).1).trans HP8.out
      have HO9 := Lib.hid (own_keep HO8.out HA2.out)
      clear HB8 HE8 HX8 HQ8 HR8 HP8 HO8 HS9 HDr HEd HEa HA1 HA2
      obtain ⟨q0, q1, q2⟩ := HQ9.out.cells
      obtain ⟨r0, r1, -, -⟩ := two_of hr9
      obtain ⟨p0, p1, p2, -, -, -⟩ := three_facts hp9
      go_wp2_with fail
      refine (awake27 _ HE9.out).mono ?_
      rintro e wz ⟨rfl, hbz⟩
      go_wp2_with fail
      go_ret
      exact ⟨rfl, bstep HB9.out hbz⟩
  · have hx' : (a : Int) < (f.size : Int) := by omega
    rw [if_neg hx] at g1
    subst g1
    obtain ⟨k1, k2, k3, k4, k5⟩ := hprt rfl
    obtain ⟨c1, c2, c3⟩ := hcl hx
    rw [c1] at k1 k2 k4 k5 c3
    have hmin : min b ((f.size : Int) - 1) = clipB a b (f.size : Int) := by rw [c2]; split <;> omega
    generalize clipB a b (f.size : Int) = B at k2 k3 k4 k5 c3 hmin
    clear c1 c2 hoth hprt hcl
    obtain ⟨an, rfl⟩ : ∃ an : Nat, a = (an : Int) := ⟨a.toNat, by omega⟩
    obtain ⟨bn, rfl⟩ : ∃ bn : Nat, B = (bn : Int) := ⟨B.toNat, by omega⟩
    obtain ⟨v, hv⟩ : ∃ v, toldL (an : Int) (bn : Int) (f.size : Int) = v := ⟨_, rfl⟩
    obtain ⟨d1, d2, d3, d4⟩ := tell_told _ _ _ c3
    rw [hv] at k4 d1 d2 d3 d4
    subst k4
    have hvl : v.length ≤ 80 := by rw [← hv]; exact toldL_len _ _ _
    have HTe := Lib.hid (fun w hE => ranges_tell (bs v) w (by rw [bs_size]; omega) hE)
    rw [bs_data, d1, d2, d3, d4] at HTe
    have HG := Lib.hid (fun (W : World) vv (hh : HoldsF W vv [(crangeK, v)]) => get_k vv [(crangeK, v)] ⟨#[99, 111, 110, 116, 101, 110, 116, 45, 114, 97, 110, 103, 101]⟩ crangeK rfl W hh (by show 1 ≤ 1000000; decide))
    rw [(get_told v).1, (get_told v).2] at HG
    have hYB : bs Y = f.extract an (bn + 1) := by rw [k5, extract_bs]; rfl
    rw [hYB, show ([(crangeK, v)] : List (List UInt8 × List UInt8)).length = 1 from rfl] at HT
    have HYB : Hid (bs Y = f.extract an (bn + 1)) := Lib.hid hYB
    obtain ⟨YB, hYY⟩ : ∃ YB, f.extract an (bn + 1) = YB := ⟨_, rfl⟩
    have HYY := Lib.hid hYY
    rw [hYY] at HT
    generalize bs v = V at HG HTe
    have tx : decide ((an : Int) ≥ (f.size : Int)) = false := decide_eq_false hx
    have HM := Lib.hid hmin
    have HK : Hid (an ≤ bn ∧ bn < f.size) := Lib.hid (by omega)
    clear hx k1 k2 k3 k5 c3 hv d1 d2 d3 d4 hvl hYB hYY hmin hq
    go_enter Tryz.func5, Tryz.ntmps5
    go_wp2_with fail
    generalize ((w.alloc (.cells #[.string h, .string p, .string f] 23)).alloc (.cells #[.int .i64 (an : Int), .int .i64 b] 41)) = W0 at HB0 HE0 HQ0 HR0 HSZ q0 q1 q2 ⊢
    refine (HOv.out _).mono ?_
    rintro e w1 ⟨rfl, hb1⟩
    have hB2 := below_o3 w1 (.string h) (.string p) (.string f)
    have HB5 := Lib.hid (bstep (bstep HB0.out hb1) hB2)
    have HE5 := Lib.hid ((HE0.out.below hb1).below hB2)
    have HQ1 := Lib.hid (HQ0.out.below hb1)
    have HQ5 := Lib.hid ((HQ0.out.below hb1).below hB2)
    have hr1 := (hb1.block (w.heap.size + 1) (by have := HSZ.out; omega)).trans HR0.out
    have hr5 := (hB2.block (w.heap.size + 1) (Array.getElem?_eq_some_iff.1 hr1).1).trans hr1
    clear hb1 q0 q1 q2 HB0 HE0 HQ0
    obtain ⟨q0, q1, q2⟩ := HQ1.out.cells
    obtain ⟨r0, r1, -, -⟩ := two_of hr5
    have HR5 := Lib.hid hr5
    have hs5 := HQ1.out.lt
    clear hr1 hr5 hB2
    go_wp2_with fail
    have HX5 := Lib.hid (OAt.new w1 26 h p f)
    generalize (w1.alloc (.cells #[.string h, .string p, .string f] 26)) = W5 at HB5 HE5 HQ5 HR5 HX5 r0 r1 ⊢
    generalize w1.heap.size = X at HX5 ⊢
    refine (HPr.out _ HE5.out).mono ?_
    rintro e w2 ⟨rfl, hb2⟩
    have HB6 := Lib.hid (bstep HB5.out hb2)
    have HE6 := Lib.hid (HE5.out.below hb2)
    have HQ6 := Lib.hid (HQ5.out.below hb2)
    have HX6 := Lib.hid (HX5.out.below hb2)
    have HR6 := Lib.hid ((hb2.block (w.heap.size + 1) (Array.getElem?_eq_some_iff.1 HR5.out).1).trans HR5.out)
    clear hb2 q0 q1 q2 r0 r1 HB5 HE5 HQ5 HX5 HR5
    obtain ⟨x0, x1, x2⟩ := HX6.out.cells
    go_wp2_with fail
    refine (H1.out _).mono ?_
    rintro e w3 ⟨rfl, hb3⟩
    have HB7 := Lib.hid (bstep HB6.out hb3)
    have HE7 := Lib.hid (HE6.out.below hb3)
    have HQ7 := Lib.hid (HQ6.out.below hb3)
    have HX7 := Lib.hid (HX6.out.below hb3)
    have HR7 := Lib.hid ((hb3.block (w.heap.size + 1) (Array.getElem?_eq_some_iff.1 HR6.out).1).trans HR6.out)
    clear hb3 x0 x1 x2 HB6 HE6 HQ6 HX6 HR6
    go_wp2_with fail
    have HS7 : Hid (∀ W, Below w3.heap.size w3 W → W.cell? ⟨X, 0, none⟩ = some (.string h) ∧ W.cell? ⟨X, 1, none⟩ = some (.string p) ∧ W.cell? ⟨X, 2, none⟩ = some (.string f) ∧ W.cell? ⟨w.heap.size, 2, none⟩ = some (.string f)) := Lib.hid (fun W hW =>
      let ⟨y0, y1, y2⟩ := (HX7.out.below hW).cells
      let ⟨_, _, z2⟩ := (HQ7.out.below hW).cells
      ⟨y0, y1, y2, z2⟩)
    have HEE : Hid (∀ W, Below w3.heap.size w3 W → EnvF W) := Lib.hid (fun W hW => HE7.out.below hW)
    have HDr : Hid (Below w3.heap.size w3 w3.drew) := Lib.hid (Below.refl _ _).drew
    have HA0 : Hid (Below w3.heap.size w3 (w3.alloc (.cells #[.int .i64 0, .slice none 0 0, .string ⟨#[]⟩] 37)).drew) := Lib.hid ((Below.refl _ _).alloc (Nat.le_refl _) _).drew
    have HEd := Lib.hid (HEE.out _ HDr.out)
    have HEz := Lib.hid (HEE.out _ HA0.out)
    go_region_held3 (fun w' => w'.cell? ⟨X, 0, none⟩ = some (.string h) ∧ w'.cell? ⟨X, 1, none⟩ = some (.string p) ∧ w'.cell? ⟨X, 2, none⟩ = some (.string f) ∧ w'.cell? ⟨w.heap.size, 2, none⟩ = some (.string f)) (first | exact HS7.out _ HDr.out | exact HS7.out _ HA0.out | exact HS7.out _ HA1.out | exact HS7.out _ (HA1.out.alloc HA1.out.size _) | exact HS7.out _ HA2.out | exact HS7.out _ (HA2.out.alloc HA2.out.size _) | exact HS7.out _ (three_below HA2.out _ (Nat.le_refl _) _ _ _) | exact HS7.out _ (three_below HA2.out _ HA1.out.size _ _ _))
      (first
        | (go_at_call 10; (first | (with_reducible refine (H3.out _ HEd.out).mono ?_) | (with_reducible refine (H3.out _ HEz.out).mono ?_)); rintro e wa ⟨rfl, hba⟩; (first | (have HA1 : Hid (Below w3.heap.size w3 wa) := Lib.hid (bstep HDr.out hba)) | (have HA1 : Hid (Below w3.heap.size w3 wa) := Lib.hid (bstep HA0.out hba); have HZ := Lib.hid ((hba.block w3.heap.size (by simp)).trans (heap_alloc_new w3 _)); obtain ⟨z0, z1, z2, y0, y1, y2⟩ := three_facts HZ.out)); have HEa := Lib.hid (HEE.out _ HA1.out); have HEb := Lib.hid (HEE.out _ (HA1.out.alloc HA1.out.size (.cells #[.int .i64 0, .slice none 0 0, .string ⟨#[]⟩] 37))); clear hba)
        | (go_at_call 14; (first | (with_reducible refine (HT.out _ HEa.out).mono ?_) | (with_reducible refine (HT.out _ HEb.out).mono ?_)); rintro e wc ⟨ac, cc, rfl, hoc, hbc⟩; (first | (have HA2 : Hid (Below w3.heap.size w3 wc) := Lib.hid (bstep HA1.out hbc)) | (have HA2 : Hid (Below w3.heap.size w3 wc) := Lib.hid (bstep (HA1.out.alloc HA1.out.size (.cells #[.int .i64 0, .slice none 0 0, .string ⟨#[]⟩] 37)) hbc); have HZ := Lib.hid ((hbc.block wa.heap.size (by simp)).trans (heap_alloc_new wa _)); obtain ⟨z0, z1, z2, y0, y1, y2⟩ := three_facts HZ.out)); (try (have HZ2 := Lib.hid ((hbc.block w3.heap.size (Array.getElem?_eq_some_iff.1 HZ.out).1).trans HZ.out); clear z0 z1 z2 y0 y1 y2; obtain ⟨z0, z1, z2, y0, y1, y2⟩ := three_facts HZ2.out)); have HO2 := Lib.hid hoc; clear hoc hbc))
    all_goals
      first
        | (have H7 : Hid (RIn w3 (((wc.setCell ⟨w3.heap.size, 0, none⟩ (.int .i64 206)).setCell ⟨w3.heap.size, 1, none⟩ (.slice ac 1 cc)).setCell ⟨w3.heap.size, 2, none⟩ (.string YB)) w3.heap.size 206 ac 1 cc [(crangeK, v)] YB) := Lib.hid (rin_two HA2.out (Nat.le_refl _) HO2.out HZ2.out)
           clear HZ HZ2 z0 z1 z2 y0 y1 y2
           generalize (((wc.setCell ⟨w3.heap.size, 0, none⟩ (.int .i64 206)).setCell ⟨w3.heap.size, 1, none⟩ (.slice ac 1 cc)).setCell ⟨w3.heap.size, 2, none⟩ (.string YB)) = W7 at H7 ⊢
           generalize w3.heap.size = q at H7 ⊢)
        | (have H7 : Hid (RIn w3 (((wc.setCell ⟨wa.heap.size, 0, none⟩ (.int .i64 206)).setCell ⟨wa.heap.size, 1, none⟩ (.slice ac 1 cc)).setCell ⟨wa.heap.size, 2, none⟩ (.string YB)) wa.heap.size 206 ac 1 cc [(crangeK, v)] YB) := Lib.hid (rin_two HA2.out HA1.out.size HO2.out HZ.out)
           clear HZ z0 z1 z2 y0 y1 y2
           generalize (((wc.setCell ⟨wa.heap.size, 0, none⟩ (.int .i64 206)).setCell ⟨wa.heap.size, 1, none⟩ (.slice ac 1 cc)).setCell ⟨wa.heap.size, 2, none⟩ (.string YB)) = W7 at H7 ⊢
           generalize wa.heap.size = q at H7 ⊢)
        | (have H7 : Hid (RIn w3 (wc.alloc (.cells #[.int .i64 206, .slice ac 1 cc, .string YB] 37)) wc.heap.size 206 ac 1 cc [(crangeK, v)] YB) := Lib.hid (rin_one HA2.out HO2.out)
           generalize wc.alloc (.cells #[.int .i64 206, .slice ac 1 cc, .string YB] 37) = W7 at H7 ⊢
           generalize wc.heap.size = q at H7 ⊢)
      clear HA1 HA2 HO2 HEa HEb HEd HEz HA0 HDr HS7
      have HB8 := Lib.hid (bstep HB7.out H7.out.bel)
      have HE8 := Lib.hid (HE7.out.below H7.out.bel)
      have HX8 := Lib.hid (HX7.out.below H7.out.bel)
      have HQ8 := Lib.hid (HQ7.out.below H7.out.bel)
      have HR8 := Lib.hid ((H7.out.bel.block (w.heap.size + 1) (Array.getElem?_eq_some_iff.1 HR7.out).1).trans HR7.out)
      have HP8 := Lib.hid H7.out.blk
      have HO8 := Lib.hid H7.out.own
      clear HB7 HE7 HX7 HQ7 HR7 H7 HEE
      go_wp2_with fail
      have HS9 : Hid (∀ W, Below W7.heap.size W7 W → W.cell? ⟨X, 0, none⟩ = some (.string h) ∧ W.cell? ⟨X, 1, none⟩ = some (.string p) ∧ W.cell? ⟨X, 2, none⟩ = some (.string f) ∧ W.cell? ⟨q, 0, none⟩ = some (.int .i64 206)) := Lib.hid (fun W hW =>
        let ⟨y0, y1, y2⟩ := (HX8.out.below hW).cells
        let ⟨z0, _⟩ := three_facts ((hW.block q (Array.getElem?_eq_some_iff.1 HP8.out).1).trans HP8.out)
        ⟨y0, y1, y2, z0⟩)
      have HDr : Hid (Below W7.heap.size W7 W7.drew) := Lib.hid (Below.refl _ _).drew
      have HEd := Lib.hid (HE8.out.below HDr.out)
      go_region_held3 (fun w' => w'.cell? ⟨X, 0, none⟩ = some (.string h) ∧ w'.cell? ⟨X, 1, none⟩ = some (.string p) ∧ w'.cell? ⟨X, 2, none⟩ = some (.string f) ∧ w'.cell? ⟨q, 0, none⟩ = some (.int .i64 206)) (first | exact HS9.out _ HDr.out | exact HS9.out _ HA1.out | exact HS9.out _ HA2.out)
        (first
          | (go_at_call 10; refine (H3.out _ HEd.out).mono ?_; rintro e we ⟨rfl, hbe⟩; have HA1 : Hid (Below W7.heap.size W7 we) := Lib.hid (bstep HDr.out hbe); have HEa := Lib.hid (HE8.out.below HA1.out); clear hbe)
          | (go_at_call 12; refine (H5.out _ HEa.out).mono ?_; rintro e wf ⟨rfl, hbf⟩; have HA2 : Hid (Below W7.heap.size W7 wf) := Lib.hid (bstep HA1.out hbf); clear hbf))
      have HB9 := Lib.hid (bstep HB8.out HA2.out)
      have HE9 := Lib.hid (HE8.out.below HA2.out)
      have HQ9 := Lib.hid (HQ8.out.below HA2.out)
      have hr9 := (HA2.out.block (w.heap.size + 1) (Array.getElem?_eq_some_iff.1 HR8.out).1).trans HR8.out
      have hp9 := (HA2.out.block q (Array.getElem?_eq_some_iff.1 HP8.out).1).trans HP8.out
      have HO9 := Lib.hid (own_keep HO8.out HA2.out)
      clear HB8 HE8 HX8 HQ8 HR8 HP8 HO8 HS9 HDr HEd HEa HA1 HA2
      obtain ⟨q0, q1, q2⟩ := HQ9.out.cells
      obtain ⟨r0, r1, -, -⟩ := two_of hr9
      obtain ⟨p0, p1, p2, -, -, -⟩ := three_facts hp9
      have HR9 := Lib.hid hr9
      have HP9 := Lib.hid hp9
      clear hr9 hp9
      have hmin := HM.out
      have hkk := HK.out
      have tw1 : IntKind.i64.wrap ((f.size : Int) - 1) = (f.size : Int) - 1 := by rw [IntKind.wrap_i64]; omega
      have tw2 : IntKind.i64.wrap ((bn : Int) + 1) = (bn : Int) + 1 := by rw [IntKind.wrap_i64]; omega
      go_wp2_with fail
      refine (HG.out _ _ (HoldsF.of_own HO9.out)).mono ?_
      rintro e wg ⟨rfl, hbg⟩
      have HB10 := Lib.hid (bstep HB9.out hbg)
      have HE10 := Lib.hid (HE9.out.below hbg)
      have HQ10 := Lib.hid (HQ9.out.below hbg)
      have HR10 := Lib.hid ((hbg.block (w.heap.size + 1) (Array.getElem?_eq_some_iff.1 HR9.out).1).trans HR9.out)
      have HP10 := Lib.hid ((hbg.block q (Array.getElem?_eq_some_iff.1 HP9.out).1).trans HP9.out)
      clear hbg q0 q1 q2 r0 r1 p0 p1 p2 HB9 HE9 HQ9 HR9 HP9 HO9
      go_wp2_with fail
      refine (HTe.out _ HE10.out).mono ?_
      rintro e wt ⟨rfl, hbt⟩
      have hB11 := below_agg2 wt (.int .i64 (an : Int)) (.int .i64 (bn : Int)) 44
      have hb11 := bstep hbt hB11
      have HB11 := Lib.hid (bstep HB10.out hb11)
      have HE11 := Lib.hid (HE10.out.below hb11)
      have HQ11 := Lib.hid (HQ10.out.below hb11)
      have HR11 := Lib.hid ((hb11.block (w.heap.size + 1) (Array.getElem?_eq_some_iff.1 HR10.out).1).trans HR10.out)
      have HP11 := Lib.hid ((hb11.block q (Array.getElem?_eq_some_iff.1 HP10.out).1).trans HP10.out)
      have HT11 := Lib.hid (heap_alloc_new wt (.cells #[.int .i64 (an : Int), .int .i64 (bn : Int)] 44))
      clear hbt hB11 hb11 HB10 HE10 HQ10 HR10 HP10
      go_wp2_with fail
      generalize (wt.alloc (.cells #[.int .i64 (an : Int), .int .i64 (bn : Int)] 44)) = W9 at HB11 HE11 HQ11 HR11 HP11 HT11 ⊢
      generalize wt.heap.size = x9 at HT11 ⊢
      have HSA : Hid (∀ W, Below W9.heap.size W9 W → W.cell? ⟨q, 0, none⟩ = some (.int .i64 206) ∧ W.cell? ⟨q, 2, none⟩ = some (.string YB) ∧ W.cell? ⟨w.heap.size + 1, 0, none⟩ = some (.int .i64 (an : Int)) ∧ W.cell? ⟨w.heap.size, 2, none⟩ = some (.string f) ∧ W.cell? ⟨x9, 0, none⟩ = some (.int .i64 (an : Int)) ∧ W.cell? ⟨x9, 1, none⟩ = some (.int .i64 (bn : Int))) := Lib.hid (fun W hW => by
        obtain ⟨p0, -, p2, -, -, -⟩ := three_facts ((hW.block q (Array.getElem?_eq_some_iff.1 HP11.out).1).trans HP11.out)
        obtain ⟨-, -, q2⟩ := (HQ11.out.below hW).cells
        obtain ⟨r0, -, -, -⟩ := two_of ((hW.block (w.heap.size + 1) (Array.getElem?_eq_some_iff.1 HR11.out).1).trans HR11.out)
        obtain ⟨t0, t1, -, -⟩ := two_of ((hW.block x9 (Array.getElem?_eq_some_iff.1 HT11.out).1).trans HT11.out)
        exact ⟨p0, p2, r0, q2, t0, t1⟩)
      have HDr : Hid (Below W9.heap.size W9 W9.drew) := Lib.hid (Below.refl _ _).drew
      have HEd := Lib.hid (HE11.out.below HDr.out)
      have tw3 : IntKind.i64.wrap ((bn : Int) + 1 - 1) = (bn : Int) := by rw [IntKind.wrap_i64]; omega
      have tw4 : IntKind.i64.wrap (bn : Int) = (bn : Int) := by rw [IntKind.wrap_i64]; omega
      have heq := eq_rng
      have hgd := guard_rng
      have hyy := HYY.out
      have hk1 : an ≤ bn + 1 := by omega
      have hk2 : bn + 1 ≤ f.size := by omega
      have hk3 : (an : Int) ≤ (bn : Int) + 1 := by omega
      have hk4 : (bn : Int) + 1 ≤ (f.size : Int) := by omega
      have hk5 : (0 : Int) ≤ (bn : Int) + 1 := by omega
      have hk6 : ((bn : Int) + 1).toNat = bn + 1 := by omega
      clear HT11 HR11 HP11 HQ11 hkk hmin
      go_region_held3 (fun w' => w'.cell? ⟨q, 0, none⟩ = some (.int .i64 206) ∧ w'.cell? ⟨q, 2, none⟩ = some (.string YB) ∧ w'.cell? ⟨w.heap.size + 1, 0, none⟩ = some (.int .i64 (an : Int)) ∧ w'.cell? ⟨w.heap.size, 2, none⟩ = some (.string f) ∧ w'.cell? ⟨x9, 0, none⟩ = some (.int .i64 (an : Int)) ∧ w'.cell? ⟨x9, 1, none⟩ = some (.int .i64 (bn : Int))) (first | exact HSA.out _ HDr.out | exact HSA.out _ HA1.out)
        (first
          | (go_at_call 7; refine (awake27 _ HEd.out).mono ?_; rintro e wz ⟨rfl, hbz⟩; have HA1 : Hid (Below W9.heap.size W9 wz) := Lib.hid (bstep HDr.out hbz); clear hbz))
      go_wp2_with fail
      go_ret
      exact ⟨rfl, bstep HB11.out HA1.out⟩
end Go.Proofs.YtfcomhdgpdbnhaaGreatDoor
namespace Go.Proofs.YtfcomhdgpdbnhaaGreatDoor
open Go.RowKit

def renU : Go.Shelf.Ren := ⟨fun n => n, fun | 5 => 5 | 119 => 230 | 138 => 232 | 139 => 233 | n => n, fun | 3 => 3 | 4 => 4 | n => n⟩
theorem u8t : U8Types Tryz.prog renU := ⟨Tryz.underlying5, Tryz.underlying230, Tryz.underlying232, Tryz.underlying233⟩
theorem u8x : U8Extra Tryz.prog renU := ⟨by kernel_rfl, by kernel_rfl, by kernel_rfl, by kernel_rfl, by kernel_rfl, by kernel_rfl, by kernel_rfl⟩
theorem accept_data : (Rows.laid_unicode_utf8_acceptRanges : DataW Unit) = Go.Lib.acceptData := by kernel_rfl
theorem pow10_data : (Rows.laid_internal_strconv_uint64pow10 : DataW Unit) = Go.Lib.tabData .u64 Go.Lib.pow10Tab := rfl
theorem maxLen_cell {W : World} (h : W.ShapedOpen Tryz.prog) : ∃ m, W.cell? ⟨0, 0, none⟩ = some (.int .i64 m) := Tryz.laysM145.s1_3 W h
theorem lt_of_cell {W : World} {g : Nat} {v : Value} (h : W.cell? ⟨g, 0, none⟩ = some v) : g < W.heap.size := World.block_lt_of_cell? _ _ h
theorem err_star : "*" ++ "errors.errorString" = "*errors.errorString" := by decide
theorem err_row (u : TypeId) (h : Tryz.prog.typeName? 3 u = some "*errors.errorString") : u = 240 :=
  typeName_ptr_named (nm := "errors.errorString") (by rw [err_star]; kernel_rfl) (by kernel_rfl) (by decide) u (by rw [err_star]; exact h)
theorem env_of {W : World} {rest : List (String × DataW Unit)} (h : laidMet Tryz.prog (("math/bits.deBruijn32tab", Rows.laid_math_bits_deBruijn32tab) :: ("math/bits.deBruijn64tab", Rows.laid_math_bits_deBruijn64tab) :: ("internal/strconv.uint64pow10", Rows.laid_internal_strconv_uint64pow10) :: ("unicode/utf8.acceptRanges", Rows.laid_unicode_utf8_acceptRanges) :: ("strconv.ErrRange", Rows.laid_strconv_ErrRange) :: rest) W)
    (hf : ("unicode/utf8.first", Rows.laid_unicode_utf8_first) ∈ rest) (hsh : W.ShapedOpen Tryz.prog) : EnvF W := by
  have ht : Go.Lib.TabIs Tryz.prog W "internal/strconv.uint64pow10" .u64 Go.Lib.pow10Tab :=
    Go.Lib.tabIs_of_head (n := 20) (t := 235) (e := 218) g_pow10 (by kernel_rfl) (by kernel_rfl) (by kernel_rfl) (by kernel_rfl) (by kernel_rfl) h.tail.tail
  have h3 : Go.Lib.VarReads Tryz.prog W "unicode/utf8.first" Go.Lib.firstData := by
    have := Go.Lib.laidMet.reads h (n := "unicode/utf8.first") (d := Rows.laid_unicode_utf8_first) (by simp [hf])
    rwa [show (Rows.laid_unicode_utf8_first : DataW Unit) = Go.Lib.firstData from Pinned.utf8First_eq] at this
  have h4 : Go.Lib.VarReads Tryz.prog W "unicode/utf8.acceptRanges" Go.Lib.acceptData := by
    have := Go.Lib.laidMet.reads h (n := "unicode/utf8.acceptRanges") (d := Rows.laid_unicode_utf8_acceptRanges) (by simp)
    rwa [accept_data] at this
  obtain ⟨a0, s0, hv0, _, _, _⟩ := laid_sentinel h.tail.tail.tail.tail (g := 2) (ti := 68) (tp := 240) (te := 242) (ts := 9) (by kernel_rfl) (by kernel_rfl) Tryz.underlying68 err_row Tryz.underlying240 Tryz.underlying242 rfl rfl Tryz.underlying9 (by kernel_rfl) (by kernel_rfl)
  obtain ⟨m, hm⟩ := maxLen_cell hsh
  have hr : W.cell? ⟨2, 0, none⟩ = some (.iface 240 (.pointer (some a0))) := World.var?_cell (show Tryz.prog.globalNamed "strconv.ErrRange" = some 2 by kernel_rfl) hv0 0
  refine ⟨⟨m, hm⟩, lt_of_cell hm, utf8Tabs_of_readsT u8t u8x h3 h4, ht, ?_, ⟨_, _, hr⟩, lt_of_cell hr⟩
  rcases Nat.lt_or_ge 5 W.heap.size with hlt | hge
  · exact hlt
  · unfold Go.Lib.TabIs World.var? at ht
    rw [g_pow10] at ht
    simp [Array.getElem?_eq_none hge] at ht
end Go.Proofs.YtfcomhdgpdbnhaaGreatDoor
namespace Go.Proofs.YtfcomhdgpdbnhaaGreatDoor
open Go.RowKit
theorem originTells_go (h p f s : ByteArray) (_ : h.size ≤ maxLen) (_ : p.size ≤ maxLen) (_ : f.size ≤ maxLen) (_ : s.size ≤ maxLen) (W : World) (hL : laidMetH Tryz.prog Rows.originTellsRow.laid W) (hsh : W.ShapedOpen Tryz.prog) :
    Calls Tryz.prog 3 #[.agg #[.string h, .string p, .string f], .string s] W fun e W' => e = .returned (.bool true) ∧ Below W.heap.size W W' := by
  rw [MakeChecks.laidMetH_plain _ _ _ (by kernel_rfl)] at hL
  exact originTells_walk h p f s W (env_of hL (by simp) hsh)
theorem originOnly_go (h p f s : ByteArray) (_ : h.size ≤ maxLen) (_ : p.size ≤ maxLen) (_ : f.size ≤ maxLen) (_ : s.size ≤ maxLen) (W : World) (hL : laidMetH Tryz.prog Rows.originOnlyRow.laid W) (hsh : W.ShapedOpen Tryz.prog) :
    Calls Tryz.prog 4 #[.agg #[.string h, .string p, .string f], .string s] W fun e W' => e = .returned (.bool true) ∧ Below W.heap.size W W' := by
  rw [MakeChecks.laidMetH_plain _ _ _ (by kernel_rfl)] at hL
  exact originOnly_walk h p f s W (env_of hL (by simp) hsh)
theorem originServes_go (h p f : ByteArray) (a b : Int) (_ : h.size ≤ maxLen) (_ : p.size ≤ maxLen) (_ : f.size ≤ maxLen) (wa : (Lit.int .i64 a).wf = true) (wb : (Lit.int .i64 b).wf = true) (W : World) (hL : laidMetH Tryz.prog Rows.originServesRow.laid W) (hsh : W.ShapedOpen Tryz.prog) :
    Calls Tryz.prog 5 #[.agg #[.string h, .string p, .string f], .agg #[.int .i64 a, .int .i64 b]] W fun e W' => e = .returned (.bool true) ∧ Below W.heap.size W W' := by
  rw [MakeChecks.laidMetH_plain _ _ _ (by kernel_rfl)] at hL
  obtain ⟨b1, b2⟩ := bounds_i64 wa
  obtain ⟨b3, b4⟩ := bounds_i64 wb
  exact originServes_walk h p f a b W (env_of hL (by simp) hsh) (by omega) (by omega) (by omega) (by omega)
end Go.Proofs.YtfcomhdgpdbnhaaGreatDoor
