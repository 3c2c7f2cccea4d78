/- The law LinkClean. The law LinkAsks. Two arguments in their blocks; a block of faults that is written over. What an argument that is an array of two slices of the document's faults reads as. The law LinkScripts. What the listed variables give. The law function LinkClean, as the row's proof takes it. The law function LinkScripts, as the row's proof takes it. The law function LinkAsks, as the row's proof takes it. -/
import Derived.Test.YthcomjhpjlcpdaaGreatDoorPl14
import Derived.OpenShut
import Derived.WideShapes
import Derived.Lib.SmallJoins
import Derived.Test.YthcomjhpjlcpdaaGreatDoorRows
import Derived.MakeChecks
import Derived.Stop.LaidErr
import Derived.PinnedBridge
import Derived.Lib.LaidU8T
import Derived.ChangeSame
import Derived.ChangeArms
set_option linter.unusedVariables false
set_option linter.unusedSimpArgs false
namespace Go.Proofs.YthcomjhpjlcpdaaGreatDoor
open Go.RowKit
theorem flts_ok {l : List Flt} (h : ∀ x ∈ l, (Lit.int .u8 x.1).wf = true ∧ (Lit.int .i64 x.2.1).wf = true) (ht : ∀ x ∈ l, x.2.2.size ≤ 300) : ∀ x ∈ l, FltOk x := fun x hx => by
  obtain ⟨h1, h2⟩ := h x hx
  have a : IntKind.u8.min ≤ x.1 ∧ x.1 ≤ IntKind.u8.max := by simpa [Lit.wf] using h1
  have b : IntKind.i64.min ≤ x.2.1 ∧ x.2.1 ≤ IntKind.i64.max := by simpa [Lit.wf] using h2
  have := ht x hx
  exact ⟨a.1, b.1, b.2, by omega⟩
/-- the same text, asked once more than there are faults -/
def sameAsks (l : List Flt) (s : ByteArray) : List (List UInt8) := List.replicate (l.length + 1) s.data.toList
def clLog (h p f : ByteArray) (l : List Flt) (s : ByteArray) (k : Nat) : List Evt := stLog h p f l (sameAsks l s) k
theorem clLog_step (h p f : ByteArray) (l : List Flt) (s : ByteArray) (k : Nat) (hk : k < l.length + 1) : clLog h p f l s (k + 1) = clLog h p f l s k ++ [evK h p f ((l.drop k).headD noF) s] := by
  have hk' : k < (sameAsks l s).length := by unfold sameAsks; rw [List.length_replicate]; exact hk
  unfold clLog
  rw [stLog_step h p f l _ k hk']
  have e : bs ((sameAsks l s)[k]) = s := by
    show bs ((List.replicate (l.length + 1) s.data.toList)[k]'(by rw [List.length_replicate]; exact hk)) = s
    rw [List.getElem_replicate, bs_self]
  rw [e]
theorem clLog_len (h p f : ByteArray) (l : List Flt) (s : ByteArray) (k : Nat) (hk : k ≤ l.length + 1) : (clLog h p f l s k).length = k := stLog_len _ _ _ _ _ _ (by unfold sameAsks; rw [List.length_replicate]; exact hk)
theorem clHarm_step (h p f : ByteArray) (l : List Flt) (s : ByteArray) (k : Nat) (hk : k < l.length + 1) : harmsK (clLog h p f l s (k + 1)) = harmsK (clLog h p f l s k) + oneK (hurtK h p f ((l.drop k).headD noF) s) := by
  rw [clLog_step h p f l s k hk, harmsK_snoc]; rfl
theorem head_at (l : List Flt) (k : Nat) (hk : k < l.length) : (l.drop k).headD noF = l[k] := by
  rw [List.drop_eq_getElem_cons hk]; rfl
set_option maxRecDepth 100000 in
set_option maxHeartbeats 4000000 in
theorem linkClean_walk (h p f : ByteArray) (v : Value) (l : List Flt) (s : ByteArray) (w : World) (hE : EnvF w) (hv : FaultsArg w v l) :
    Calls Tryz.prog 4 #[.agg #[.string h, .string p, .string f], v, .string s] w fun e w' => e = .returned (.bool true) ∧ Below w.heap.size w w' := by
  have HOv := Lib.hid (fun w => ref_oover h p f 500 w)
  have HB0 := Lib.hid (below_ro3 w (.string h) (.string p) (.string f))
  have HE0 := Lib.hid (hE.below HB0.out)
  have HQ0 := Lib.hid (OAt.new w 23 h p f)
  have HV := Lib.hid hv
  have HEw := Lib.hid hE
  have HOf := Lib.hid (fun W (hW : Below w.heap.size w W) => over28s v l 20 W (by decide) (hv.1.below hW) hv.2.2)
  obtain ⟨a, c, hvv, -⟩ := hv.1.len
  subst hvv
  clear hE hv
  obtain ⟨q0, q1, q2⟩ := HQ0.out.cells
  cases h1 : overO h.data.toList p.data.toList f.data.toList 500 with
  | true =>
    rw [h1] at HOv
    clear h1
    go_enter Tryz.func4, Tryz.ntmps4
    go_wp2_with fail
    refine (HOv.out _).mono ?_
    rintro e w1 ⟨rfl, hb1⟩
    have HB1 := Lib.hid (bstep HB0.out hb1)
    have HE1 := Lib.hid (HE0.out.below hb1)
    clear hb1
    go_wp2_with fail
    refine (awake29 _ HE1.out).mono ?_
    rintro e w2 ⟨rfl, hb2⟩
    go_wp2_with fail
    go_ret
    exact ⟨rfl, bstep HB1.out hb2⟩
  | false =>
  rw [h1] at HOv
  cases h2 : overC l 20 with
  | true =>
    rw [h2] at HOf
    clear h1 h2
    go_enter Tryz.func4, Tryz.ntmps4
    go_wp2_with fail
    refine (HOv.out _).mono ?_
    rintro e w1 ⟨rfl, hb1⟩
    have HB1 := Lib.hid (bstep HB0.out hb1)
    have HE1 := Lib.hid (HE0.out.below hb1)
    clear hb1
    go_wp2_with fail
    refine (HOf.out _ HB1.out).mono ?_
    rintro e w2 ⟨rfl, hww⟩
    obtain rfl := hww.symm
    clear hww
    go_wp2_with fail
    refine (awake29 _ HE1.out).mono ?_
    rintro e w2 ⟨rfl, hb2⟩
    go_wp2_with fail
    go_ret
    exact ⟨rfl, bstep HB1.out hb2⟩
  | false =>
  rw [h2] at HOf
  by_cases hlong : (700 : Int) < (s.size : Int)
  · have tl : decide ((s.size : Int) > 700) = true := decide_eq_true hlong
    clear h1 h2 hlong q0 q1 q2
    go_enter Tryz.func4, Tryz.ntmps4
    go_wp2_with fail
    refine (HOv.out _).mono ?_
    rintro e w1 ⟨rfl, hb1⟩
    have HB1 := Lib.hid (bstep HB0.out hb1)
    have HE1 := Lib.hid (HE0.out.below hb1)
    have HQ1 := Lib.hid (HQ0.out.below hb1)
    clear hb1
    go_wp2_with fail
    refine (HOf.out _ HB1.out).mono ?_
    rintro e w2 ⟨rfl, hww⟩
    obtain rfl := hww.symm
    clear hww
    obtain ⟨q0, q1, q2⟩ := HQ1.out.cells
    go_wp2_with fail
    refine (awake29 _ HE1.out).mono ?_
    rintro e w2 ⟨rfl, hb2⟩
    go_wp2_with fail
    go_ret
    exact ⟨rfl, bstep HB1.out hb2⟩
  have tl : decide ((s.size : Int) > 700) = false := decide_eq_false hlong
  obtain ⟨b1, b2, b3⟩ := overO_false h p f 500 h1
  obtain ⟨l1, l2⟩ := overC_ok h2
  have HFO := Lib.hid (flts_ok HV.out.2.1 l2)
  have HLL := Lib.hid l1
  have HFS := Lib.hid (fun W (hW : Below w.heap.size w W) => law29_faults _ l W (HV.out.1.below hW) (by omega))
  have HCk := Lib.hid (fun W => origin_check h p f W)
  by_cases hO : orgE h.data.toList p.data.toList = 0
  · have HNk := Lib.hid (fun W v hv => link_new h p f v l W hO hv (by omega))
    have HAn : Hid (∀ W, EnvF W → Calls Tryz.prog 23 #[.agg #[.string h, .string p, .string f], .string s] W fun e w' => e = .returned (.string (wholeK h p f s)) ∧ Below W.heap.size W w') := Lib.hid (fun W hE => origin_answer h p f s W hE (by omega) (by omega))
    have HFs : Hid (f.size ≤ 100000 ∧ s.size ≤ 1000) := Lib.hid (by omega)
    obtain ⟨WH, hWH⟩ : ∃ S, wholeK h p f s = S := ⟨_, rfl⟩
    rw [hWH] at HAn
    have HWH := Lib.hid hWH
    clear hWH
    clear h1 h2 hlong q0 q1 q2 b1 b2 b3 l1 l2 hO
    go_enter Tryz.func4, Tryz.ntmps4
    go_wp2_with fail
    refine (HOv.out _).mono ?_
    rintro e w1 ⟨rfl, hb1⟩
    have HB1 := Lib.hid (bstep HB0.out hb1)
    have HE1 := Lib.hid (HE0.out.below hb1)
    have HQ1 := Lib.hid (HQ0.out.below hb1)
    clear hb1
    go_wp2_with fail
    refine (HOf.out _ HB1.out).mono ?_
    rintro e w2 ⟨rfl, hww⟩
    obtain rfl := hww.symm
    clear hww
    obtain ⟨q0, q1, q2⟩ := HQ1.out.cells
    go_wp2_with fail
    have hB2 := below_o3 w1 (.string h) (.string p) (.string f)
    have HB5 := Lib.hid (bstep HB1.out hB2)
    have HE5 := Lib.hid (HE1.out.below hB2)
    have HX5 := Lib.hid (OAt.new w1 34 h p f)
    clear hB2 HB1 HE1 HQ1 q0 q1 q2 HB0 HE0 HQ0
    generalize (w1.alloc (.cells #[.string h, .string p, .string f] 34)) = W5 at HB5 HE5 HX5 ⊢
    generalize w1.heap.size = Y at HX5 ⊢
    have HS : Hid (∀ W, Below W5.heap.size W5 W → W.cell? ⟨Y, 0, none⟩ = some (.string h) ∧ W.cell? ⟨Y, 1, none⟩ = some (.string p) ∧ W.cell? ⟨Y, 2, none⟩ = some (.string f)) := Lib.hid (fun W hW => (HX5.out.below hW).cells)
    have HDr : Hid (Below W5.heap.size W5 W5.drew) := Lib.hid (Below.refl _ _).drew
    go_region_held3 (fun w' => w'.cell? ⟨Y, 0, none⟩ = some (.string h) ∧ w'.cell? ⟨Y, 1, none⟩ = some (.string p) ∧ w'.cell? ⟨Y, 2, none⟩ = some (.string f)) (first | exact HS.out _ HDr.out | exact HS.out _ HA1.out | exact HS.out _ HA2.out)
      (first
        | (go_at_call 13; refine (HFS.out _ (bstep HB5.out HDr.out)).mono ?_; rintro e wa ⟨a1, c1, rfl, ho1, hba⟩; have HA1 : Hid (Below W5.heap.size W5 wa) := Lib.hid (bstep HDr.out hba); have HO1 := Lib.hid (HoldsC.of_own ho1); clear hba ho1)
        | (go_at_call 12; refine (HNk.out _ _ HO1.out).mono ?_; rintro e wb hnew; obtain ⟨P, rv, rfl, hPlo, hk1, hbb⟩ := KL.new (bstep HB5.out HA1.out) hnew; have HK1 := Lib.hid hk1; have HA2 : Hid (Below W5.heap.size W5 wb) := Lib.hid (bstep HA1.out hbb); clear hbb hnew hk1 hPlo))
    all_goals
      obtain ⟨y0, y1, y2⟩ := HS.out _ HA2.out
      go_wp2_with fail
      refine (HAn.out _ (HE5.out.below HA2.out)).mono ?_
      rintro e wc ⟨rfl, hbc⟩
      have HK2 := Lib.hid (HK1.out.step hbc)
      clear hbc y0 y1 y2 HK1
      go_wp2_with fail
      go_loopw [11, 12] (fun hm i wr => ∃ k : Nat, k ≤ l.length ∧ i = .int .i64 k ∧ hm = .int .i64 (harmsK (clLog h p f l s k) : Nat) ∧ ∃ rv lv, KL w wr P h p f (l.drop k) (clLog h p f l s k) (harmsK (clLog h p f l s k)) rv lv) (fun _ i _ => l.length - (intOf i).toNat)
      case atStart => exact ⟨0, Nat.zero_le _, rfl, rfl, _, _, HK2.out⟩
      case round =>
        obtain ⟨k, hk, rfl, rfl, rv1, lv1, hkl⟩ := hrel
        have HKL := Lib.hid hkl
        clear hkl HK2
        by_cases hlt : k < l.length
        · have HAsk := Lib.hid (HKL.out.ask HEw.out s (by have := HFs.out.2; omega) HFs.out.1 (flt_ok HFO.out k) (by have := HLL.out; rw [List.length_drop]; omega) (by have := HLL.out; rw [clLog_len _ _ _ _ _ _ (by omega)]; omega) (by have := HLL.out; have := harms_le (clLog h p f l s k); rw [clLog_len _ _ _ _ _ _ (by omega)] at this; omega))
          go_wp2_with fail
          refine HAsk.out.mono ?_
          rintro e wd ⟨rfl, rv2, lv2, hk2, -, -⟩
          have hst := clLog_step h p f l s k (by omega)
          have hhm := clHarm_step h p f l s k (by omega)
          rw [head_at l k hlt] at hk2 hst hhm ⊢
          rw [drop_tail, ← hst, ← hhm] at hk2
          clear hst
          have hml := harms_le (clLog h p f l s k)
          rw [clLog_len _ _ _ _ _ _ (by omega)] at hml
          have hml2 : harmsK (clLog h p f l s k) ≤ 20 := by have := HLL.out; omega
          clear hml
          have hwl1 : IntKind.i64.wrap ((l.length : Int) - 1) = (l.length : Int) - 1 := by rw [IntKind.wrap_i64]; have := HLL.out; omega
          have hwl2 : IntKind.i64.wrap ((l.length : Int) - 1 - (k : Int)) = (l.length : Int) - 1 - (k : Int) := by rw [IntKind.wrap_i64]; have := HLL.out; omega
          have hdl : ((l.drop (k + 1)).length : Int) = (l.length : Int) - 1 - (k : Int) := by rw [List.length_drop]; omega
          obtain ⟨a', c', hvv, -, hx⟩ := HV.out.1.below hk2.bel
          injection hvv with e1 e2 e3
          subst e1 e3
          obtain ⟨b, o, rfl, hbl, hcell⟩ := hx (fun e => by rw [e] at hlt; exact absurd hlt (Nat.not_lt_zero _))
          obtain ⟨c0, c1, c2⟩ := hcell k hlt
          rw [Nat.mul_comm 3 k] at c0 c1 c2
          obtain ⟨X, hX⟩ : ∃ X, l[k] = X := ⟨_, rfl⟩
          have hxo : FltOk X := by rw [← hX]; exact HFO.out _ (List.getElem_mem ..)
          rw [hX] at c0 c1 c2 hhm ⊢
          clear hX hcell hx hbl e2
          obtain ⟨x1, x2, x3⟩ := X
          have hap := fun W hE => fault_apply x1 x2 x3 (wholeK h p f s) W hE hxo.k0 hxo.n0 hxo.n1 hxo.t (by have := whole_size h p f s (by have := HFs.out.1; omega); have := HFs.out.1; omega)
          rw [show bs (applyF x1 x2 x3.data.toList (wholeK h p f s)) = gotK h p f (x1, x2, x3) s from rfl] at hap
          have HAp := Lib.hid hap
          have hne := hurt_eq h p f (x1, x2, x3) s
          have HK3 := Lib.hid hk2
          clear hk2 HAsk hap hxo
          generalize harmsK (clLog h p f l s k) = m at hhm hml2 ⊢
          generalize hM : harmsK (clLog h p f l s (k + 1)) = m' at hhm HK3
          have HM := Lib.hid hM
          clear hM
          generalize gotK h p f (x1, x2, x3) s = G at hne HAp ⊢
          generalize hurtK h p f (x1, x2, x3) s = B at hne hhm ⊢
          rw [HWH.out] at hne HAp
          cases B with
          | true =>
            obtain rfl : m' = m + 1 := hhm
            have hne2 : (G.toList == WH.toList) = false := by simpa using hne.symm
            clear hne
            have wr1 : IntKind.i64.wrap ((m : Int) + 1) = (m : Int) + 1 := by rw [IntKind.wrap_i64]; omega
            go_wp2_with fail
            refine (HAp.out _ (HEw.out.below HK3.out.bel).weak).mono ?_
            rintro e we ⟨rfl, hbe⟩
            have HK4 := Lib.hid (HK3.out.step hbe)
            have hl20 := HLL.out
            clear hbe HK3
            go_wp2_with fail
            have HLf : Calls Tryz.prog 17 #[.pointer (some ⟨P, 0, none⟩)] we fun e w' => e = .returned (.int .i64 ((l.length : Int) - 1 - (k : Int))) ∧ w' = we := by rw [← hdl]; exact link_left HK4.out.a
            refine HLf.mono ?_
            clear HLf
            rintro e w' ⟨rfl, hww⟩
            obtain rfl := hww.symm
            clear hww
            go_wp2_with fail
            go_roundw
            case rel => exact ⟨k + 1, by omega, by go_num, by rw [HM.out]; go_num, rv2, lv2, by rw [HM.out]; exact HK4.out⟩
            case measure => simp [intOf]; omega
          | false =>
            obtain rfl : m' = m := hhm
            have hne2 : (G.toList == WH.toList) = true := by simpa using hne.symm
            clear hne
            go_wp2_with fail
            refine (HAp.out _ (HEw.out.below HK3.out.bel).weak).mono ?_
            rintro e we ⟨rfl, hbe⟩
            have HK4 := Lib.hid (HK3.out.step hbe)
            have hl20 := HLL.out
            clear hbe HK3
            go_wp2_with fail
            have HLf : Calls Tryz.prog 17 #[.pointer (some ⟨P, 0, none⟩)] we fun e w' => e = .returned (.int .i64 ((l.length : Int) - 1 - (k : Int))) ∧ w' = we := by rw [← hdl]; exact link_left HK4.out.a
            refine HLf.mono ?_
            clear HLf
            rintro e w' ⟨rfl, hww⟩
            obtain rfl := hww.symm
            clear hww
            go_wp2_with fail
            go_roundw
            case rel => exact ⟨k + 1, by omega, by go_num, by rw [HM.out], rv2, lv2, by rw [HM.out]; exact HK4.out⟩
            case measure => simp [intOf]; omega
        · obtain rfl : k = l.length := by omega
          have HAsk := Lib.hid (HKL.out.ask HEw.out s (by have := HFs.out.2; omega) HFs.out.1 (flt_ok HFO.out l.length) (by have := HLL.out; rw [List.length_drop]; omega) (by have := HLL.out; rw [clLog_len _ _ _ _ _ _ (by omega)]; omega) (by have := HLL.out; have := harms_le (clLog h p f l s l.length); rw [clLog_len _ _ _ _ _ _ (by omega)] at this; omega))
          go_wp2_with fail
          refine HAsk.out.mono ?_
          rintro e wd ⟨rfl, rv2, lv2, hk2, -, -⟩
          rw [List.drop_length, show ([] : List Flt).headD noF = noF from rfl] at hk2 ⊢
          rw [hurt_none, show oneK false = 0 from rfl, Nat.add_zero, show evK h p f noF s = ((s.size : Int), (WH.size : Int), false) by unfold evK; rw [got_none, hurt_none, HWH.out]] at hk2
          rw [got_none, HWH.out]
          have hll := clLog_len h p f l s l.length (by omega)
          generalize clLog h p f l s l.length = L0 at hk2 hll ⊢
          have hlast : ∀ hq, (L0 ++ [((s.size : Int), (WH.size : Int), false)])[l.length]'hq = ((s.size : Int), (WH.size : Int), false) := fun hq => by
            rw [List.getElem_append_right (by omega)]; simp [hll]
          have hLl : (L0 ++ [((s.size : Int), (WH.size : Int), false)]).length = l.length + 1 := by rw [List.length_append, hll]; rfl
          generalize harmsK L0 = m at hk2 ⊢
          generalize L0 ++ [((s.size : Int), (WH.size : Int), false)] = L at hk2 hlast hLl ⊢
          have HK3 := Lib.hid hk2
          have HLa := Lib.hid hlast
          have hgd := guard_levt
          have heq := eq_levt (s.size : Int) (WH.size : Int) false
          clear hk2 HAsk hll hlast
          go_wp2_with fail
          refine (link_log HK3.out.a (by rw [hLl]; have := HLL.out; omega)).mono ?_
          rintro e we ⟨a7, c7, rfl, ho7, hb7⟩
          have HK4 := Lib.hid (HK3.out.step hb7)
          obtain ⟨g, c8, hvv, -, -, z0, z1, z2⟩ := own_cells3 ho7 l.length (by omega)
          injection hvv with e1 e2 e3
          subst e1 e3
          rw [HLa.out] at z0 z1 z2
          rw [hLl]
          clear hb7 ho7 HK3 HLa
          go_wp2_with fail
          refine (link_harms HK4.out.a).mono ?_
          rintro e w' ⟨rfl, hww⟩
          obtain rfl := hww.symm
          clear hww
          have hw1 : IntKind.i64.wrap ((l.length : Int) + 1) = (l.length : Int) + 1 := by rw [IntKind.wrap_i64]; have := HLL.out; omega
          have hw2 : ((l.length + 1 : Nat) : Int) = (l.length : Int) + 1 := by omega
          go_wp2_with fail
          refine (awake29 _ (HEw.out.below HK4.out.bel)).mono ?_
          rintro e wd ⟨rfl, hbd⟩
          go_wp2_with fail
          go_ret
          exact ⟨rfl, bstep HK4.out.bel hbd⟩
  · have HNb := Lib.hid (fun v W => link_new_bad h p f v W hO)
    have hO2 : orgE h.data.toList p.data.toList = 2 := by
      unfold orgE at hO ⊢
      split
      · rfl
      · rename_i hh; rw [if_neg hh] at hO; exact absurd rfl hO
    rw [hO2] at HCk
    clear h1 h2 hlong q0 q1 q2 b1 b2 b3 l1 l2 hO hO2
    go_enter Tryz.func4, Tryz.ntmps4
    go_wp2_with fail
    refine (HOv.out _).mono ?_
    rintro e w1 ⟨rfl, hb1⟩
    have HB1 := Lib.hid (bstep HB0.out hb1)
    have HE1 := Lib.hid (HE0.out.below hb1)
    have HQ1 := Lib.hid (HQ0.out.below hb1)
    clear hb1
    go_wp2_with fail
    refine (HOf.out _ HB1.out).mono ?_
    rintro e w2 ⟨rfl, hww⟩
    obtain rfl := hww.symm
    clear hww
    obtain ⟨q0, q1, q2⟩ := HQ1.out.cells
    go_wp2_with fail
    have hB2 := below_o3 w1 (.string h) (.string p) (.string f)
    have HB5 := Lib.hid (bstep HB1.out hB2)
    have HE5 := Lib.hid (HE1.out.below hB2)
    have HX5 := Lib.hid (OAt.new w1 34 h p f)
    clear hB2 HB1 HE1 HQ1 q0 q1 q2 HB0 HE0 HQ0
    generalize (w1.alloc (.cells #[.string h, .string p, .string f] 34)) = W5 at HB5 HE5 HX5 ⊢
    generalize w1.heap.size = Y at HX5 ⊢
    have HS : Hid (∀ W, Below W5.heap.size W5 W → W.cell? ⟨Y, 0, none⟩ = some (.string h) ∧ W.cell? ⟨Y, 1, none⟩ = some (.string p) ∧ W.cell? ⟨Y, 2, none⟩ = some (.string f)) := Lib.hid (fun W hW => (HX5.out.below hW).cells)
    have HDr : Hid (Below W5.heap.size W5 W5.drew) := Lib.hid (Below.refl _ _).drew
    go_region_held3 (fun w' => w'.cell? ⟨Y, 0, none⟩ = some (.string h) ∧ w'.cell? ⟨Y, 1, none⟩ = some (.string p) ∧ w'.cell? ⟨Y, 2, none⟩ = some (.string f)) (first | exact HS.out _ HDr.out | exact HS.out _ HA1.out | exact HS.out _ HA2.out)
      (first
        | (go_at_call 13; refine (HFS.out _ (bstep HB5.out HDr.out)).mono ?_; rintro e wa ⟨a1, c1, rfl, -, hba⟩; have HA1 : Hid (Below W5.heap.size W5 wa) := Lib.hid (bstep HDr.out hba); clear hba)
        | (go_at_call 12; refine (HNb.out _ _).mono ?_; rintro e wb ⟨rfl, hbb⟩; have HA2 : Hid (Below W5.heap.size W5 wb) := Lib.hid (bstep HA1.out hbb); clear hbb))
    all_goals
      obtain ⟨y0, y1, y2⟩ := HS.out _ HA2.out
      go_wp2_with fail
      refine (HCk.out _).mono ?_
      rintro e wc ⟨rfl, hbc⟩
      have HA3 : Hid (Below W5.heap.size W5 wc) := Lib.hid (bstep HA2.out hbc)
      clear hbc
      go_wp2_with fail
      refine (awake29 _ (HE5.out.below HA3.out)).mono ?_
      rintro e wd ⟨rfl, hbd⟩
      go_wp2_with fail
      go_ret
      exact ⟨rfl, bstep HB5.out (bstep HA3.out hbd)⟩
end Go.Proofs.YthcomjhpjlcpdaaGreatDoor
namespace Go.Proofs.YthcomjhpjlcpdaaGreatDoor
open Go.RowKit
/-- a store into a block of another type does nothing to a link -/
theorem KL.far {w0 w w' : World} {P : Nat} {h p f : ByteArray} {rest : List Flt} {log : List Evt} {n : Nat} {rv lv : Value} (k : KL w0 w P h p f rest log n rv lv) {X : Nat} {C : Array Value} {t : TypeId} (hX : w.heap[X]? = some (.cells C t (0, 0))) (h1 : t ≠ 63) (h2 : t ≠ 56) (h3 : t ≠ 53) (hlo : w0.heap.size ≤ X) (ht : Touch (fun g => g = X) w w') : KL w0 w' P h p f rest log n rv lv := by
  have hb : Below w0.heap.size w0 w' := k.bel.trans (ht.below (fun g hg => by rw [show g = X from hg]; exact hlo) k.bel.size)
  refine ⟨k.a.touch ht ?_ ?_ ?_, k.lo, hb⟩
  · intro e
    have e2 := k.a.blk
    rw [show _ = X from e, hX] at e2
    simp only [Option.some.injEq, Obj.cells.injEq] at e2
    exact h1 e2.2.1
  · intro b hb e
    obtain ⟨C', hC⟩ := k.a.tag b hb
    rw [show b = X from e, hX] at hC
    simp only [Option.some.injEq, Obj.cells.injEq] at hC
    exact h3 hC.2.1
  · intro b hb e
    exact own_not_row k.a.own hX h2.symm (by rw [hb]; exact congrArg some e)
theorem six_touch (w : World) (X : Nat) (y0 y1 y2 y3 y4 y5 : Value) : Touch (fun g => g = X) w ((((((w.setCell ⟨X, 0, none⟩ y0).setCell ⟨X, 1, none⟩ y1).setCell ⟨X, 2, none⟩ y2).setCell ⟨X, 3, none⟩ y3).setCell ⟨X, 4, none⟩ y4).setCell ⟨X, 5, none⟩ y5) :=
  touch_set _ (touch_set _ (touch_set _ (touch_set _ (touch_set _ (touch_set _ (Touch.refl _ _) (.inl rfl)) (.inl rfl)) (.inl rfl)) (.inl rfl)) (.inl rfl)) (.inl rfl)
theorem six_own {w : World} {b0 n : Nat} {L : Value} {xs : List Value} {X : Nat} {C : Array Value} (ho : w.ownsRow b0 67 3 L n xs) (hX : w.heap[X]? = some (.cells C 40 (0, 0))) (y0 y1 y2 y3 y4 y5 : Value) : ((((((w.setCell ⟨X, 0, none⟩ y0).setCell ⟨X, 1, none⟩ y1).setCell ⟨X, 2, none⟩ y2).setCell ⟨X, 3, none⟩ y3).setCell ⟨X, 4, none⟩ y4).setCell ⟨X, 5, none⟩ y5).ownsRow b0 67 3 L n xs :=
  own_kept ho (six_touch w X y0 y1 y2 y3 y4 y5) (fun g hg e => own_not_row ho hX (by decide) (by rw [hg]; exact congrArg some e))
/-- what the document's Ask hands over lies in block q -/
structure TookL (w2 W : World) (q : Nat) (h p f : ByteArray) (xr xl : Value) (n : Nat) (log : List Evt) : Prop where
  blk : W.heap[q]? = some (.cells #[.string h, .string p, .string f, xr, xl, .int .i64 (n : Int)] 40 (0, 0))
  bel : Below w2.heap.size w2 W
  lo : w2.heap.size ≤ q
  own : W.ownsRow w2.heap.size 67 3 xl log.length (evs log)
theorem tookL_one {w2 wc : World} {B : Nat} {h p f : ByteArray} {xr xl : Value} {n : Nat} {log : List Evt} (hb : Below w2.heap.size w2 wc) (ho : wc.ownsRow B 67 3 xl log.length (evs log)) (hB : w2.heap.size ≤ B) : TookL w2 (wc.alloc (.cells #[.string h, .string p, .string f, xr, xl, .int .i64 (n : Int)] 40)) wc.heap.size h p f xr xl n log :=
  ⟨heap_alloc_new wc _, hb.alloc hb.size _, hb.size, own_lowerF (own_keep ho ((Below.refl _ _).alloc (Nat.le_refl _) _)) hB⟩
theorem tookL_two {w2 wc : World} {B : Nat} {h p f : ByteArray} {xr xl : Value} {n : Nat} {log : List Evt} {x0 x1 x2 x3 x4 x5 : Value} (hb : Below w2.heap.size w2 wc) (ho : wc.ownsRow B 67 3 xl log.length (evs log)) (hB : w2.heap.size ≤ B) (hz : wc.heap[w2.heap.size]? = some (.cells #[x0, x1, x2, x3, x4, x5] 40 (0, 0))) :
    TookL w2 ((((((wc.setCell ⟨w2.heap.size, 0, none⟩ (.string h)).setCell ⟨w2.heap.size, 1, none⟩ (.string p)).setCell ⟨w2.heap.size, 2, none⟩ (.string f)).setCell ⟨w2.heap.size, 3, none⟩ xr).setCell ⟨w2.heap.size, 4, none⟩ xl).setCell ⟨w2.heap.size, 5, none⟩ (.int .i64 (n : Int))) w2.heap.size h p f xr xl n log :=
  ⟨six_all hz _ _ _ _ _ _, six_below hb _ (Nat.le_refl _) _ _ _ _ _ _, Nat.le_refl _, own_lowerF (six_own ho hz _ _ _ _ _ _) hB⟩
/-- the state of LinkAsks' loop -/
structure SL (w1 wr : World) (P X : Nat) (h p f : ByteArray) (rest : List Flt) (log : List Evt) (n : Nat) (rv lv xr xl : Value) : Prop where
  k : KL w1 wr P h p f rest log n rv lv
  x : wr.heap[X]? = some (.cells #[.string h, .string p, .string f, xr, xl, .int .i64 (n : Int)] 40 (0, 0))
  hold : HoldsC w1 xr rest
  own : wr.ownsRow w1.heap.size 67 3 xl log.length (evs log)
  lo : w1.heap.size ≤ X
theorem SL.start {w1 wb : World} {P : Nat} {h p f : ByteArray} {rest : List Flt} {rv lv v : Value} (k : KL w1 wb P h p f rest [] 0 rv lv) (hv : HoldsC w1 v rest) : SL w1 (wb.alloc (.cells #[.string h, .string p, .string f, v, .slice none 0 0, .int .i64 0] 40)) P wb.heap.size h p f rest [] 0 rv lv v (.slice none 0 0) :=
  ⟨k.step ((Below.refl _ _).alloc (Nat.le_refl _) _), heap_alloc_new wb _, hv, World.ownsRow_nil _ _ _ _, k.bel.size⟩
/-- behind the document's Ask, and the store into x -/
theorem SL.mid {w1 wr W : World} {P X q : Nat} {h p f : ByteArray} {rest : List Flt} {log log' : List Evt} {n n' : Nat} {rv lv xr xl xr' xl' : Value} (s : SL w1 wr P X h p f rest log n rv lv xr xl) (t : TookL wr W q h p f xr' xl' n' log') :
    KL w1 ((((((W.setCell ⟨X, 0, none⟩ (.string h)).setCell ⟨X, 1, none⟩ (.string p)).setCell ⟨X, 2, none⟩ (.string f)).setCell ⟨X, 3, none⟩ xr').setCell ⟨X, 4, none⟩ xl').setCell ⟨X, 5, none⟩ (.int .i64 (n' : Int))) P h p f rest log n rv lv ∧
    ((((((W.setCell ⟨X, 0, none⟩ (.string h)).setCell ⟨X, 1, none⟩ (.string p)).setCell ⟨X, 2, none⟩ (.string f)).setCell ⟨X, 3, none⟩ xr').setCell ⟨X, 4, none⟩ xl').setCell ⟨X, 5, none⟩ (.int .i64 (n' : Int))).heap[X]? = some (.cells #[.string h, .string p, .string f, xr', xl', .int .i64 (n' : Int)] 40 (0, 0)) ∧
    ((((((W.setCell ⟨X, 0, none⟩ (.string h)).setCell ⟨X, 1, none⟩ (.string p)).setCell ⟨X, 2, none⟩ (.string f)).setCell ⟨X, 3, none⟩ xr').setCell ⟨X, 4, none⟩ xl').setCell ⟨X, 5, none⟩ (.int .i64 (n' : Int))).ownsRow w1.heap.size 67 3 xl' log'.length (evs log') := by
  have hX := (t.bel.block X (Array.getElem?_eq_some_iff.1 s.x).1).trans s.x
  exact ⟨(s.k.step t.bel).far hX (by decide) (by decide) (by decide) s.lo (six_touch W X _ _ _ _ _ _), six_all hX _ _ _ _ _ _, own_lowerF (six_own t.own hX _ _ _ _ _ _) s.k.bel.size⟩
/-- a block of another type stands beside a link's request -/
theorem blk_beside {w0 w w' : World} {P : Nat} {h p f : ByteArray} {rest : List Flt} {log : List Evt} {n : Nat} {rv lv : Value} (k : KL w0 w P h p f rest log n rv lv) {X : Nat} {C : Array Value} {t : TypeId} (hX : w.heap[X]? = some (.cells C t (0, 0))) (h1 : t ≠ 63) (h2 : t ≠ 56) (ht : Touch (LS P lv) w w') : w'.heap[X]? = some (.cells C t (0, 0)) := by
  refine (ht.block X (Array.getElem?_eq_some_iff.1 hX).1 ?_).trans hX
  rintro (e | e)
  · have e2 := k.a.blk
    rw [← e, hX] at e2
    simp only [Option.some.injEq, Obj.cells.injEq] at e2
    exact h1 e2.2.1
  · exact own_not_row k.a.own hX h2.symm e
set_option maxRecDepth 100000 in
set_option maxHeartbeats 8000000 in
theorem linkAsks_walk (h p f : ByteArray) (v u : Value) (l : List Flt) (ls : List (List UInt8)) (w : World) (hE : EnvF w) (hv : FaultsArg w v l) (hu : StrArg w u ls) :
    Calls Tryz.prog 3 #[.agg #[.string h, .string p, .string f], v, u] w fun e w' => e = .returned (.bool true) ∧ Below w.heap.size w w' := by
  have HOv := Lib.hid (fun w => ref_oover h p f 500 w)
  have HB0 := Lib.hid (below_ro3 w (.string h) (.string p) (.string f))
  have HEw := Lib.hid hE
  have HQ0 := Lib.hid (OAt.new w 23 h p f)
  have HOf := Lib.hid (fun W (hW : Below w.heap.size w W) => over28s v l 20 W (by decide) (hv.1.below hW) hv.2.2)
  have HV1 := Lib.hid (fun W (hW : Below w.heap.size w W) => hv.1.below hW)
  have HOa := Lib.hid (fun W (hW : Below w.heap.size w W) => over29 u ls 20 3000 W (by decide) (by decide) (strArg_low hu hW))
  have HFS := Lib.hid (fun W (hW : Below w.heap.size w W) (hl : l.length ≤ 20) => law29_faults v l W (hv.1.below hW) (by omega))
  have HWF := Lib.hid hv.2.1
  obtain ⟨va, vc, hvv, -⟩ := hv.1.len
  subst hvv
  obtain ⟨⟨ua, uc, hvv, huc, hux⟩, -, hull⟩ := hu
  subst hvv
  unfold maxLen at hull
  have HCell : Hid (ls ≠ [] → ∃ b o, ua = some ⟨b, o, none⟩ ∧ ∀ k (hk : k < ls.length) W, Below w.heap.size w W → W.cell? ⟨b, o + k, none⟩ = some (.string (bs ls[k]))) := Lib.hid (fun hn => by
    obtain ⟨b, o, e1, e2, e3⟩ := hux hn
    exact ⟨b, o, e1, fun k hk W hW => (hW.cell (p := ⟨b, o + k, none⟩) e2).trans (e3 k hk)⟩)
  clear hE hv hux
  obtain ⟨q0, q1, q2⟩ := HQ0.out.cells
  go_enter Tryz.func3, Tryz.ntmps3
  go_wp2_with fail
  refine (HOv.out _).mono ?_
  rintro e w1 ⟨rfl, hb1⟩
  have HB1 := Lib.hid (bstep HB0.out hb1)
  have HE1 := Lib.hid (HEw.out.below HB1.out)
  have HQ1 := Lib.hid (HQ0.out.below hb1)
  clear hb1 q0 q1 q2 HB0 HQ0 HOv
  cases h1 : overO h.data.toList p.data.toList f.data.toList 500 with
  | true =>
    go_wp2_with fail
    refine (awake29 _ HE1.out).mono ?_
    rintro e w2 ⟨rfl, hb2⟩
    go_wp2_with fail
    go_ret
    exact ⟨rfl, bstep HB1.out hb2⟩
  | false =>
  go_wp2_with fail
  refine (HOf.out _ HB1.out).mono ?_
  rintro e w2 ⟨rfl, hww⟩
  obtain rfl := hww.symm
  clear hww HOf
  cases h2 : overC l 20 with
  | true =>
    clear h1 h2
    go_wp2_with fail
    refine (awake29 _ HE1.out).mono ?_
    rintro e w2 ⟨rfl, hb2⟩
    go_wp2_with fail
    go_ret
    exact ⟨rfl, bstep HB1.out hb2⟩
  | false =>
  go_wp2_with fail
  refine (HOa.out _ HB1.out).mono ?_
  rintro e w2 ⟨rfl, hww⟩
  obtain rfl := hww.symm
  clear hww HOa
  cases h3 : overB ls 20 3000 with
  | true =>
    clear h1 h2 h3
    go_wp2_with fail
    refine (awake29 _ HE1.out).mono ?_
    rintro e w2 ⟨rfl, hb2⟩
    go_wp2_with fail
    go_ret
    exact ⟨rfl, bstep HB1.out hb2⟩
  | false =>
  obtain ⟨b1, b2, b3⟩ := overO_false h p f 500 h1
  obtain ⟨n0, m0⟩ := overC_ok h2
  obtain ⟨n1, m1⟩ := small29 ls h3
  have HFO := Lib.hid (flts_ok HWF.out m0)
  have HLL := Lib.hid n0
  have HAs := Lib.hid (ask_small ls m1)
  have HFs : Hid (f.size ≤ 100000) := Lib.hid (by omega)
  have HS : Hid (∀ W, Below w1.heap.size w1 W → W.cell? ⟨w.heap.size, 0, none⟩ = some (.string h) ∧ W.cell? ⟨w.heap.size, 1, none⟩ = some (.string p) ∧ W.cell? ⟨w.heap.size, 2, none⟩ = some (.string f)) := Lib.hid (fun W hW => (HQ1.out.below hW).cells)
  have HDr : Hid (Below w1.heap.size w1 w1.drew) := Lib.hid (Below.refl _ _).drew
  clear HWF HQ1 m0 m1 huc hull
  obtain ⟨q0, q1, q2⟩ := HS.out _ (Below.refl _ w1)
  have HRC := Lib.hid (fun W => ref_ocheck h p f W (by omega) (by omega))
  have HHp : Hid (h.size ≤ 1000000 ∧ p.size ≤ 1000000) := Lib.hid (by omega)
  by_cases hO : orgE h.data.toList p.data.toList = 0
  · have HNk := Lib.hid (fun W v hv => link_new h p f v l W hO hv (by omega))
    rw [hO] at HRC
    clear h1 h2 h3 b1 b2 b3 n0 hO
    go_wp2_with fail
    go_region_held3 (fun w' => w'.cell? ⟨w.heap.size, 0, none⟩ = some (.string h) ∧ w'.cell? ⟨w.heap.size, 1, none⟩ = some (.string p) ∧ w'.cell? ⟨w.heap.size, 2, none⟩ = some (.string f)) (first | exact HS.out _ HDr.out | exact HS.out _ HX1.out | exact HS.out _ HX2.out)
      (first
        | (go_at_call 13; refine (HFS.out _ (bstep HB1.out HDr.out) HLL.out).mono ?_; rintro e wa ⟨a1, c1, rfl, ho1, hba⟩; have HX1 : Hid (Below w1.heap.size w1 wa) := Lib.hid (bstep HDr.out hba); have HO1 := Lib.hid (HoldsC.of_own ho1); clear hba ho1)
        | (go_at_call 12; refine (HNk.out _ _ HO1.out).mono ?_; rintro e wb hnew; obtain ⟨P, rv, rfl, hPlo, hk1, hbb⟩ := KL.new HX1.out hnew; have HK1 := Lib.hid hk1; have HX2 : Hid (Below w1.heap.size w1 wb) := Lib.hid (bstep HX1.out hbb); clear hbb hnew hk1 hPlo))
    all_goals
      clear HDr HNk HO1 HFS q0 q1 q2 HX1
      obtain ⟨q0, q1, q2⟩ := HS.out _ HX2.out
      go_wp2_with fail
      refine (HRC.out _).mono ?_
      rintro e wc ⟨rfl, hbc⟩
      have HK2 := Lib.hid (HK1.out.step hbc)
      clear hbc HK1 HRC HX2 q0 q1 q2
      obtain ⟨q0, q1, q2⟩ := HS.out _ HK2.out.bel
      go_wp2_with fail
      have HSL := Lib.hid (SL.start HK2.out (HV1.out _ HB1.out))
      clear HK2 q0 q1 q2 HV1
      generalize wc.alloc _ = W0 at HSL ⊢
      generalize wc.heap.size = X at HSL ⊢
      go_loopw [10] (fun i wr => ∃ k : Nat, k ≤ ls.length ∧ i = .int .i64 k ∧ ∃ rv lv xr xl, Hid (SL w1 wr P X h p f (l.drop k) (stLog h p f l ls k) (harmsK (stLog h p f l ls k)) rv lv xr xl)) (fun i _ => ls.length - (intOf i).toNat)
      case atStart => exact ⟨0, Nat.zero_le _, rfl, _, _, _, _, HSL⟩
      case round =>
        obtain ⟨k, hk, rfl, rva, lva, xr, xl, HKr⟩ := hrel
        clear HSL
        have hl20 := HLL.out
        have hml := harms_le (stLog h p f l ls k)
        rw [stLog_len _ _ _ _ _ _ (by omega)] at hml
        by_cases hlt : k < ls.length
        · obtain ⟨b, o, rfl, hcell⟩ := HCell.out (fun e => by rw [e] at hlt; exact absurd hlt (Nat.not_lt_zero _))
          have HCk : Hid (∀ W, Below w1.heap.size w1 W → W.cell? ⟨b, o + k, none⟩ = some (.string (bs ls[k]))) := Lib.hid (fun W hW => hcell k hlt _ (bstep HB1.out hW))
          have hsz := HAs.out k hlt
          have hst := stLog_step h p f l ls k hlt
          have hhm := stHarm_step h p f l ls k hlt
          obtain ⟨S, hS⟩ : ∃ S, bs ls[k] = S := ⟨_, rfl⟩
          rw [hS] at HCk hsz hst hhm
          clear hcell hS
          have hfx := flt_ok HFO.out k
          have hrl : (l.drop k).length ≤ 20 := by rw [List.length_drop]; omega
          have hll : (stLog h p f l ls k).length ≤ 20 := by rw [stLog_len _ _ _ _ _ _ (by omega)]; omega
          have hrl' : (l.drop (k + 1)).length ≤ 20 := by rw [List.length_drop]; omega
          have hml' := harms_le (stLog h p f l ls (k + 1))
          rw [stLog_len _ _ _ _ _ _ (by omega)] at hml'
          have htl : (l.drop k).tail = l.drop (k + 1) := drop_tail l k
          have hm20 : harmsK (stLog h p f l ls k) ≤ 20 := by omega
          have hm20' : harmsK (stLog h p f l ls (k + 1)) ≤ 21 := by omega
          clear hml hml'
          generalize hq2 : harmsK (stLog h p f l ls (k + 1)) = M' at hhm hm20'
          generalize hq1 : stLog h p f l ls (k + 1) = L' at hst hq2
          generalize harmsK (stLog h p f l ls k) = M at hhm hm20 HKr
          generalize stLog h p f l ls k = L at hst hll HKr
          generalize hq3 : l.drop (k + 1) = R' at hrl' htl
          have HQ := Lib.hid (And.intro hq1 (And.intro hq2 hq3))
          clear hq1 hq2 hq3
          generalize l.drop k = R at hrl htl hfx HKr hst hhm
          obtain ⟨xa, xc, hxx, -⟩ := HKr.out.hold.len
          subst hxx
          obtain ⟨ya, yc, hxx⟩ := slice_of_own HKr.out.own
          subst hxx
          have HSk : Hid (∀ W, Below wr.heap.size wr W → W.cell? ⟨X, 0, none⟩ = some (.string h) ∧ W.cell? ⟨X, 1, none⟩ = some (.string p) ∧ W.cell? ⟨X, 2, none⟩ = some (.string f) ∧ W.cell? ⟨X, 3, none⟩ = some (.slice xa R.length xc) ∧ W.cell? ⟨X, 4, none⟩ = some (.slice ya L.length yc) ∧ W.cell? ⟨X, 5, none⟩ = some (.int .i64 (M : Int)) ∧ W.cell? ⟨b, o + k, none⟩ = some (.string S)) := Lib.hid (fun W hW => by
            obtain ⟨⟨x0, x1, x2, x3, x4, x5⟩, -⟩ := six_facts ((hW.block X (Array.getElem?_eq_some_iff.1 HKr.out.x).1).trans HKr.out.x)
            exact ⟨x0, x1, x2, x3, x4, x5, HCk.out W (bstep HKr.out.k.bel hW)⟩)
          have hra := fun W (hW : Below wr.heap.size wr W) => ref_lask h p f R L M S _ _ w1.heap.size w1 W HKr.out.hold (bstep HKr.out.k.bel hW) (own_keep HKr.out.own hW) hfx (by omega) HHp.out.1 HHp.out.2 HFs.out (by omega) (by omega)
          have hka := fun W (rv2 lv2 : Value) (hk : KL w1 W P h p f R L M rv2 lv2) => hk.ask HE1.out S (by omega) HFs.out hfx (by omega) (by omega) (by omega)
          unfold RAsk at hra
          unfold KAsk at hka
          rw [htl, ← hst, ← hhm] at hra hka
          generalize gotK h p f (R.headD noF) S = G at hra hka
          have HRA := Lib.hid hra
          have HKA := Lib.hid hka
          have HD0 : Hid (Below wr.heap.size wr wr.drew) := Lib.hid (Below.refl _ _).drew
          have HA0 : Hid (Below wr.heap.size wr (wr.alloc (.cells #[.string ⟨#[]⟩, .string ⟨#[]⟩, .string ⟨#[]⟩, .slice none 0 0, .slice none 0 0, .int .i64 0] 40)).drew) := Lib.hid ((Below.refl _ _).alloc (Nat.le_refl _) _).drew
          have HRP1 := Lib.hid (HRA.out wr.drew HD0.out)
          have HRP2 := Lib.hid (HRA.out _ HA0.out)
          clear hra hka hst hhm htl hfx HRA hsz
          go_wp2_with fail
          go_region_held3 (fun w' => w'.cell? ⟨X, 0, none⟩ = some (.string h) ∧ w'.cell? ⟨X, 1, none⟩ = some (.string p) ∧ w'.cell? ⟨X, 2, none⟩ = some (.string f) ∧ w'.cell? ⟨X, 3, none⟩ = some (.slice xa R.length xc) ∧ w'.cell? ⟨X, 4, none⟩ = some (.slice ya L.length yc) ∧ w'.cell? ⟨X, 5, none⟩ = some (.int .i64 (M : Int)) ∧ w'.cell? ⟨b, o + k, none⟩ = some (.string S)) (first | with_reducible exact HSk.out _ HD0.out | with_reducible exact HSk.out _ HA0.out | with_reducible exact HSk.out _ HA1.out | with_reducible exact HSk.out _ (HA1.out.alloc HA1.out.size _) | with_reducible exact HSk.out _ (six_below HA1.out _ (Nat.le_refl _) _ _ _ _ _ _) | with_reducible exact HSk.out _ (six_below (HA1.out.alloc HA1.out.size _) _ HA1.out.size _ _ _ _ _ _))
            (first
              | (go_at_call 15; (first | (with_reducible refine HRP1.out.mono ?_) | (with_reducible refine HRP2.out.mono ?_)); rintro r wc ⟨xr2, xl2, rfl, hho, how, hbc⟩; obtain ⟨xa2, xc2, hxx, -⟩ := hho.len; subst hxx; obtain ⟨ya2, yc2, hxx⟩ := slice_of_own how; subst hxx; have HHO := Lib.hid hho; have HOW := Lib.hid how; (first | (have HA1 : Hid (Below wr.heap.size wr wc) := Lib.hid (bstep HD0.out hbc)) | (have HA1 : Hid (Below wr.heap.size wr wc) := Lib.hid (bstep HA0.out hbc); have HZ := Lib.hid ((hbc.block wr.heap.size (by simp)).trans (heap_alloc_new wr _)); obtain ⟨⟨z0, z1, z2, z3, z4, z5⟩, -⟩ := six_facts HZ.out; obtain ⟨d0, d1, d2, d3, d4, d5⟩ := six_free HZ.out)); clear hbc hho how))
          all_goals
            first
              | (have H7 : Hid (TookL wr ((((((wc.setCell ⟨wr.heap.size, 0, none⟩ (.string h)).setCell ⟨wr.heap.size, 1, none⟩ (.string p)).setCell ⟨wr.heap.size, 2, none⟩ (.string f)).setCell ⟨wr.heap.size, 3, none⟩ (.slice xa2 R'.length xc2)).setCell ⟨wr.heap.size, 4, none⟩ (.slice ya2 L'.length yc2)).setCell ⟨wr.heap.size, 5, none⟩ (.int .i64 (M' : Int))) wr.heap.size h p f (.slice xa2 R'.length xc2) (.slice ya2 L'.length yc2) M' L') := Lib.hid (tookL_two HA1.out HOW.out (by simp) HZ.out)
                 clear HZ z0 z1 z2 z3 z4 z5 d0 d1 d2 d3 d4 d5
                 generalize ((((((wc.setCell ⟨wr.heap.size, 0, none⟩ (.string h)).setCell ⟨wr.heap.size, 1, none⟩ (.string p)).setCell ⟨wr.heap.size, 2, none⟩ (.string f)).setCell ⟨wr.heap.size, 3, none⟩ (.slice xa2 R'.length xc2)).setCell ⟨wr.heap.size, 4, none⟩ (.slice ya2 L'.length yc2)).setCell ⟨wr.heap.size, 5, none⟩ (.int .i64 (M' : Int))) = W7 at H7 ⊢
                 generalize wr.heap.size = q at H7 ⊢)
              | (have H7 : Hid (TookL wr (wc.alloc (.cells #[.string h, .string p, .string f, .slice xa2 R'.length xc2, .slice ya2 L'.length yc2, .int .i64 (M' : Int)] 40)) wc.heap.size h p f (.slice xa2 R'.length xc2) (.slice ya2 L'.length yc2) M' L') := Lib.hid (tookL_one HA1.out HOW.out (Nat.le_refl _))
                 generalize wc.alloc (.cells #[.string h, .string p, .string f, .slice xa2 R'.length xc2, .slice ya2 L'.length yc2, .int .i64 (M' : Int)] 40) = W7 at H7 ⊢
                 generalize wc.heap.size = q at H7 ⊢)
            clear HA1 HRP1 HRP2 HSk HD0 HA0 HOW
            have hX7 := (H7.out.bel.block X (Array.getElem?_eq_some_iff.1 HKr.out.x).1).trans HKr.out.x
            obtain ⟨⟨z0, z1, z2, z3, z4, z5⟩, -⟩ := six_facts H7.out.blk
            obtain ⟨⟨x0, x1, x2, x3, x4, x5⟩, -⟩ := six_facts hX7
            obtain ⟨d0, d1, d2, d3, d4, d5⟩ := six_free hX7
            clear hX7
            go_wp2_with fail
            obtain ⟨k9, x9, o9⟩ := SL.mid HKr.out H7.out
            have HK9 := Lib.hid k9
            have HX9 := Lib.hid x9
            have HO9 := Lib.hid o9
            have HLo := Lib.hid HKr.out.lo
            clear k9 x9 o9 H7 HKr z0 z1 z2 z3 z4 z5 x0 x1 x2 x3 x4 x5 d0 d1 d2 d3 d4 d5
            generalize ((((((W7.setCell ⟨X, 0, none⟩ (.string h)).setCell ⟨X, 1, none⟩ (.string p)).setCell ⟨X, 2, none⟩ (.string f)).setCell ⟨X, 3, none⟩ (.slice xa2 R'.length xc2)).setCell ⟨X, 4, none⟩ (.slice ya2 L'.length yc2)).setCell ⟨X, 5, none⟩ (.int .i64 (M' : Int))) = W9 at HK9 HX9 HO9 ⊢
            have HKa := Lib.hid (HKA.out W9.drew _ _ (HK9.out.step (Below.refl _ _).drew))
            have HS9 : Hid (∀ W, Touch (LS P lva) W9 W → W.cell? ⟨X, 3, none⟩ = some (.slice xa2 R'.length xc2) ∧ W.cell? ⟨X, 5, none⟩ = some (.int .i64 (M' : Int)) ∧ W.cell? ⟨b, o + k, none⟩ = some (.string S)) := Lib.hid (fun W hW => by
              obtain ⟨⟨-, -, -, x3, -, x5⟩, -⟩ := six_facts (blk_beside HK9.out HX9.out (by decide) (by decide) hW)
              exact ⟨x3, x5, HCk.out W (HK9.out.bel.trans (hW.below HK9.out.low HK9.out.bel.size))⟩)
            have HT0 : Hid (Touch (LS P lva) W9 W9.drew) := Lib.hid (Touch.of_below (Below.refl _ _).drew)
            clear HKA
            go_region_held3 (fun w' => w'.cell? ⟨X, 3, none⟩ = some (.slice xa2 R'.length xc2) ∧ w'.cell? ⟨X, 5, none⟩ = some (.int .i64 (M' : Int)) ∧ w'.cell? ⟨b, o + k, none⟩ = some (.string S)) (first | with_reducible exact HS9.out _ HT0.out | with_reducible exact HS9.out _ HT1.out)
              (first
                | (go_at_call 16; refine HKa.out.mono ?_; rintro r wa' ⟨rfl, rv3, lv3, hk3, ht3, -⟩; have HT1 : Hid (Touch (LS P lva) W9 wa') := Lib.hid (HT0.out.trans ht3 (fun g hg => .inl hg)); have HK3 := Lib.hid hk3; clear hk3 ht3)
                | (go_at_call 17; refine (link_left HK3.out.a).mono ?_; rintro r w' ⟨rfl, hww⟩; obtain rfl := hww.symm; clear hww)
                | (go_at_call 18; refine (link_harms HK3.out.a).mono ?_; rintro r w' ⟨rfl, hww⟩; obtain rfl := hww.symm; clear hww))
            have HSn : Hid (SL w1 wa' P X h p f R' L' M' rv3 lv3 (.slice xa2 R'.length xc2) (.slice ya2 L'.length yc2)) := Lib.hid ⟨HK3.out, blk_beside HK9.out HX9.out (by decide) (by decide) HT1.out, HHO.out, row_beside HK9.out HO9.out (by decide) (by decide) HT1.out, HLo.out⟩
            clear HK9 HX9 HO9 HKa HS9 HT0 HT1 HK3 HHO HLo
            go_wp2_with fail
            go_roundw
            case rel => exact ⟨k + 1, by omega, by go_num, rv3, lv3, _, _, by rw [HQ.out.2.2, HQ.out.1, HQ.out.2.1]; exact HSn⟩
            case measure => simp [intOf]; omega
        · obtain rfl : k = ls.length := by omega
          have hLL : (stLog h p f l ls ls.length).length ≤ 20 := by rw [stLog_len _ _ _ _ _ _ (Nat.le_refl _)]; exact n1
          generalize harmsK (stLog h p f l ls ls.length) = M at HKr
          generalize stLog h p f l ls ls.length = L at HKr hLL
          generalize l.drop ls.length = R at HKr
          obtain ⟨ya, yc, hxx⟩ := slice_of_own HKr.out.own
          subst hxx
          have HLl := Lib.hid hLL
          have HD0 : Hid (Below wr.heap.size wr wr.drew) := Lib.hid (Below.refl _ _).drew
          have HKd := Lib.hid (HKr.out.k.step HD0.out)
          have HS4 : Hid (∀ W, Below wr.heap.size wr W → W.cell? ⟨X, 4, none⟩ = some (.slice ya L.length yc)) := Lib.hid (fun W hW => by
            obtain ⟨⟨-, -, -, -, x4, -⟩, -⟩ := six_facts ((hW.block X (Array.getElem?_eq_some_iff.1 HKr.out.x).1).trans HKr.out.x)
            exact x4)
          clear hLL hml hl20
          go_wp2_with fail
          go_region_held3 (fun w' => w'.cell? ⟨X, 4, none⟩ = some (.slice ya L.length yc)) (first | with_reducible exact HS4.out _ HD0.out | with_reducible exact HS4.out _ HL3.out | with_reducible exact HS4.out _ HL4.out | with_reducible exact HS4.out _ HL5.out | with_reducible exact HS4.out _ HL6.out)
            (first
              | (go_at_call 21; refine (link_log HKd.out.a (by have := HLl.out; omega)).mono ?_; rintro e wk ⟨a7, c7, rfl, ho7, hb7⟩; have HL3 : Hid (Below wr.heap.size wr wk) := Lib.hid (bstep HD0.out hb7); have HO7 := Lib.hid ho7; clear ho7 hb7)
              | (go_at_call 20; refine (law29_back _ _ _ _ HO7.out (by have := HLl.out; omega)).mono ?_; rintro e wl ⟨a8, c8, rfl, ho8, hb8⟩; have HL4 : Hid (Below wr.heap.size wr wl) := Lib.hid (bstep HL3.out hb8); have HO8 := Lib.hid ho8; clear ho8 hb8)
              | (go_at_call 19; refine (same29 _ _ _ _ _ _ HO8.out (own_keep HKr.out.own HL4.out) (by have := HLl.out; omega)).mono ?_; rintro e wm ⟨rfl, hb9⟩; have HL5 : Hid (Below wr.heap.size wr wm) := Lib.hid (bstep HL4.out hb9); clear hb9)
              | (go_at_call 11; refine (awake29 _ (HE1.out.below (bstep HKr.out.k.bel HL5.out))).mono ?_; rintro e wn ⟨rfl, hb9⟩; have HL6 : Hid (Below wr.heap.size wr wn) := Lib.hid (bstep HL5.out hb9); clear hb9))
          all_goals
            go_wp2_with fail
            go_ret
            exact ⟨rfl, bstep HB1.out (bstep HKr.out.k.bel HL6.out)⟩
  · have HNb := Lib.hid (fun v W => link_new_bad h p f v W hO)
    have hO2 : orgE h.data.toList p.data.toList = 2 := by
      unfold orgE at hO ⊢
      split
      · rfl
      · rename_i hh; rw [if_neg hh] at hO; exact absurd rfl hO
    rw [hO2] at HRC
    clear h1 h2 h3 b1 b2 b3 n0 hO n1 hO2
    go_wp2_with fail
    go_region_held3 (fun w' => w'.cell? ⟨w.heap.size, 0, none⟩ = some (.string h) ∧ w'.cell? ⟨w.heap.size, 1, none⟩ = some (.string p) ∧ w'.cell? ⟨w.heap.size, 2, none⟩ = some (.string f)) (first | exact HS.out _ HDr.out | exact HS.out _ HX1.out | exact HS.out _ HX2.out)
      (first
        | (go_at_call 13; refine (HFS.out _ (bstep HB1.out HDr.out) HLL.out).mono ?_; rintro e wa ⟨a1, c1, rfl, -, hba⟩; have HX1 : Hid (Below w1.heap.size w1 wa) := Lib.hid (bstep HDr.out hba); clear hba)
        | (go_at_call 12; refine (HNb.out _ _).mono ?_; rintro e wb ⟨rfl, hbb⟩; have HX2 : Hid (Below w1.heap.size w1 wb) := Lib.hid (bstep HX1.out hbb); clear hbb))
    all_goals
      clear q0 q1 q2
      obtain ⟨q0, q1, q2⟩ := HS.out _ HX2.out
      go_wp2_with fail
      refine (HRC.out _).mono ?_
      rintro e wc ⟨rfl, hbc⟩
      have HX3 : Hid (Below w1.heap.size w1 wc) := Lib.hid (bstep HX2.out hbc)
      clear hbc
      go_wp2_with fail
      refine (awake29 _ (HE1.out.below HX3.out)).mono ?_
      rintro e wd ⟨rfl, hbd⟩
      go_wp2_with fail
      go_ret
      exact ⟨rfl, bstep HB1.out (bstep HX3.out hbd)⟩
end Go.Proofs.YthcomjhpjlcpdaaGreatDoor
namespace Go.Proofs.YthcomjhpjlcpdaaGreatDoor
open Go.RowKit
/-- an origin and an array of two slices, in two blocks behind the world w -/
structure AK (w W : World) (h p f : ByteArray) (v0 v1 : Value) : Prop where
  b : Below w.heap.size w W
  o : W.heap[w.heap.size]? = some (.cells #[.string h, .string p, .string f] 23 (0, 0))
  l : W.heap[w.heap.size + 1]? = some (.cells #[v0, v1] 58 (0, 0))
theorem AK.new (w : World) (h p f : ByteArray) (v0 v1 : Value) : AK w ((w.alloc (.cells #[.string h, .string p, .string f] 23)).alloc (.cells #[v0, v1] 58)) h p f v0 v1 :=
  ⟨((Below.refl _ _).alloc (Nat.le_refl _) _).alloc (by simp) _, (((Below.refl _ _).alloc (Nat.le_refl _) (.cells #[v0, v1] 58)).block w.heap.size (by simp)).trans (heap_alloc_new w _), by
    have := heap_alloc_new (w.alloc (.cells #[.string h, .string p, .string f] 23)) (.cells #[v0, v1] 58)
    simpa using this⟩
theorem AK.below {w W W' : World} {h p f : ByteArray} {v0 v1 : Value} (k : AK w W h p f v0 v1) (hb : Below W.heap.size W W') : AK w W' h p f v0 v1 :=
  ⟨bstep k.b hb, (hb.block _ (Array.getElem?_eq_some_iff.1 k.o).1).trans k.o, (hb.block _ (Array.getElem?_eq_some_iff.1 k.l).1).trans k.l⟩
theorem AK.cells {w W : World} {h p f : ByteArray} {v0 v1 : Value} (k : AK w W h p f v0 v1) : W.cell? ⟨w.heap.size, 0, none⟩ = some (.string h) ∧ W.cell? ⟨w.heap.size, 1, none⟩ = some (.string p) ∧ W.cell? ⟨w.heap.size, 2, none⟩ = some (.string f) ∧ W.cell? ⟨w.heap.size + 1, 0, none⟩ = some v0 ∧ W.cell? ⟨w.heap.size + 1, 1, none⟩ = some v1 := by
  refine ⟨?_, ?_, ?_, ?_, ?_⟩
  · unfold World.cell?; rw [k.o]; rfl
  · unfold World.cell?; rw [k.o]; rfl
  · unfold World.cell?; rw [k.o]; rfl
  · unfold World.cell?; rw [k.l]; rfl
  · unfold World.cell?; rw [k.l]; rfl
theorem set_cells {w : World} {G i : Nat} {C : Array Value} {t : TypeId} (h : w.heap[G]? = some (.cells C t (0, 0))) (y : Value) : ∃ C', (w.setCell ⟨G, i, none⟩ y).heap[G]? = some (.cells C' t (0, 0)) ∧ C'.size = C.size := by
  simp [World.setCell, Array.getElem?_modify, h]
theorem cell_in {w : World} {G i : Nat} {C : Array Value} {t : TypeId} (h : w.heap[G]? = some (.cells C t (0, 0))) (hi : i < C.size) : ∃ x, w.cell? ⟨G, i, none⟩ = some x := by
  unfold World.cell?
  rw [h]
  simp [hi]
theorem free_in {w : World} {G i : Nat} {C : Array Value} {t : TypeId} (h : w.heap[G]? = some (.cells C t (0, 0))) : w.frozen? ⟨G, i, none⟩ = false := by
  simp [World.frozen?, h]
/-- a slice of n faults in a block of its own, which neither of two links has -/
def OwnB (w1 wr : World) (a : Option Addr) (n : Nat) (rv1 rv2 : Value) : Prop :=
  n = 0 ∨ ∃ G C, a = some ⟨G, 0, none⟩ ∧ wr.heap[G]? = some (.cells C 53 (0, 0)) ∧ n * 3 ≤ C.size ∧ w1.heap.size ≤ G ∧ ablk rv1 ≠ some G ∧ ablk rv2 ≠ some G
theorem OwnB.of {w1 wr : World} {b0 n c : Nat} {a : Option Addr} {xs : List Value} {rv1 rv2 : Value} (h : wr.ownsRow b0 53 3 (.slice a n c) n xs) (hlo : w1.heap.size ≤ b0) (h1 : ∀ g, b0 ≤ g → g < wr.heap.size → (Value.slice a n c).ownBlock = some g → ablk rv1 ≠ some g) (h2 : ∀ g, b0 ≤ g → g < wr.heap.size → ablk rv2 ≠ some g) : OwnB w1 wr a n rv1 rv2 := by
  rcases id h.2 with ⟨-, h0⟩ | ⟨g, cap, cur, hv, hb, hg, hle, hm, hs, ht⟩
  · exact .inl h0
  · injection hv with e1 e2 e3
    subst e1
    have hlt := (Array.getElem?_eq_some_iff.1 hg).1
    exact .inr ⟨g, cur, rfl, hg, by rw [hs]; exact Nat.mul_le_mul_right _ hle, Nat.le_trans hlo hb, h1 g hb hlt rfl, h2 g hb hlt⟩
end Go.Proofs.YthcomjhpjlcpdaaGreatDoor
namespace Go.Proofs.YthcomjhpjlcpdaaGreatDoor
open Go.RowKit
theorem okWide_array {P : Program} {w : World} {r : Reach} {base : Nat} {t e : TypeId} {n : Nat} {v : Value} (ht : P.underlying t = some (.array n e)) (h : Value.okWide P w r base t v) : ∃ cs, v = .agg cs ∧ cs.size = P.cellsOf t := by
  simp only [Value.okWide, ht] at h
  obtain ⟨cs, h1, h2, _⟩ := h
  exact ⟨cs, h1, h2⟩
theorem len_2 {α : Type} {l : List α} (h : l.length = 2) : ∃ a b, l = [a, b] := by
  match l, h with
  | [a, b], _ => exact ⟨a, b, rfl⟩
theorem faultsCell {H : Type} {enc : TypeId × Value → H} {W : World} {n : Nat} {c : Value} {x : DataW H × List MemPlace} (h : DataW.trod enc Tryz.prog W 0 (fun _ => true) true n 24 [c] = some x) : ∃ l, FaultsArg W c l := by
  rcases Go.Deep.open_slice Tryz.underlying24 h with ⟨hcs, _⟩ | ⟨a, len, cap, m, q, D, Pl, hcs, _⟩
  · injection hcs with h1 _
    subst h1
    exact faultsArg_of (d := x.1) (p := x.2) ⟨n, h⟩
  · injection hcs with h1 _
    subst h1
    exact faultsArg_of (d := x.1) (p := x.2) ⟨n, h⟩
set_option maxRecDepth 10000 in
theorem pairArg_of {H : Type} {enc : TypeId × Value → H} {W : World} {r : Reach} {b0 : Nat} {v : Value} {d : DataW H} {p : List MemPlace} (hv : Value.okWide Tryz.prog W r b0 58 v)
    (h : DataW.Trod enc Tryz.prog W 0 (fun _ => true) true 58 v d p) : ∃ v0 v1 : Value, v = .agg #[v0, v1] ∧ ∃ l0 l1, FaultsArg W v0 l0 ∧ FaultsArg W v1 l1 := by
  obtain ⟨cs, rfl, hsz⟩ := okWide_array Tryz.underlying58 hv
  have hs2 : cs.toList.length = 2 := by rw [Array.length_toList]; exact hsz.trans (show Tryz.prog.cellsOf 58 = 2 by kernel_rfl)
  obtain ⟨c0, c1, hc⟩ := len_2 hs2
  obtain rfl : cs = #[c0, c1] := by rw [← Array.toList_inj, hc]
  obtain ⟨fuel, hf⟩ := h
  obtain ⟨xs, m, _, _, _, hl, hg⟩ := DataW.trod_array Tryz.underlying58 hf
  obtain ⟨z0, z1, rfl⟩ := len_2 hl
  have g0 := hg 0 (by decide)
  have g1 := hg 1 (by decide)
  rw [show Tryz.prog.cellsOf 24 = 1 by kernel_rfl] at g0 g1
  exact ⟨c0, c1, rfl, (faultsCell (by simpa [Value.cells] using g0)).imp fun l0 k0 => (faultsCell (by simpa [Value.cells] using g1)).imp fun l1 k1 => ⟨k0, k1⟩⟩
end Go.Proofs.YthcomjhpjlcpdaaGreatDoor
namespace Go.Proofs.YthcomjhpjlcpdaaGreatDoor
open Go.RowKit
theorem clLog_zero (h p f : ByteArray) (l : List Flt) (s : ByteArray) : clLog h p f l s 0 = [] := rfl
set_option maxRecDepth 100000 in
set_option maxHeartbeats 8000000 in
theorem linkScripts_walk (h p f : ByteArray) (v0 v1 : Value) (l0 l1 : List Flt) (s : ByteArray) (w : World) (hE : EnvF w) (hv0 : FaultsArg w v0 l0) (hv1 : FaultsArg w v1 l1) :
    Calls Tryz.prog 5 #[.agg #[.string h, .string p, .string f], .agg #[v0, v1], .string s] w fun e w' => e = .returned (.bool true) ∧ Below w.heap.size w w' := by
  have HOv := Lib.hid (fun w => ref_oover h p f 500 w)
  have HEw := Lib.hid hE
  have HAK := Lib.hid (AK.new w h p f v0 v1)
  have HOf0 := Lib.hid (fun W (hW : Below w.heap.size w W) => over28s v0 l0 20 W (by decide) (hv0.1.below hW) hv0.2.2)
  have HOf1 := Lib.hid (fun W (hW : Below w.heap.size w W) => over28s v1 l1 20 W (by decide) (hv1.1.below hW) hv1.2.2)
  have HFS0 := Lib.hid (fun W (hW : Below w.heap.size w W) (hl : l0.length ≤ 20) => law29_faults v0 l0 W (hv0.1.below hW) (by omega))
  have HFS1 := Lib.hid (fun W (hW : Below w.heap.size w W) (hl : l1.length ≤ 20) => law29_faults v1 l1 W (hv1.1.below hW) (by omega))
  have HWF := Lib.hid (And.intro hv0.2.1 hv1.2.1)
  obtain ⟨a, c, hvv, -⟩ := hv1.1.len
  subst hvv
  clear hE hv0 hv1
  obtain ⟨q0, q1, q2, r0, r1⟩ := HAK.out.cells
  go_enter Tryz.func5, Tryz.ntmps5
  go_wp2_with fail
  refine (HOv.out _).mono ?_
  rintro e w1 ⟨rfl, hb1⟩
  have HA1 := Lib.hid (HAK.out.below hb1)
  clear hb1 q0 q1 q2 r0 r1 HAK HOv
  have HE1 := Lib.hid (HEw.out.below HA1.out.b)
  cases h1 : overO h.data.toList p.data.toList f.data.toList 500 with
  | true =>
    go_wp2_with fail
    refine (awake29 _ HE1.out).mono ?_
    rintro e w2 ⟨rfl, hb2⟩
    go_wp2_with fail
    go_ret
    exact ⟨rfl, bstep HA1.out.b hb2⟩
  | false =>
  obtain ⟨q0, q1, q2, r0, r1⟩ := HA1.out.cells
  go_wp2_with fail
  refine (HOf0.out _ HA1.out.b).mono ?_
  rintro e w2 ⟨rfl, hww⟩
  obtain rfl := hww.symm
  clear hww HOf0
  cases h2 : overC l0 20 with
  | true =>
    clear h1 h2
    go_wp2_with fail
    refine (awake29 _ HE1.out).mono ?_
    rintro e w2 ⟨rfl, hb2⟩
    go_wp2_with fail
    go_ret
    exact ⟨rfl, bstep HA1.out.b hb2⟩
  | false =>
  go_wp2_with fail
  refine (HOf1.out _ HA1.out.b).mono ?_
  rintro e w2 ⟨rfl, hww⟩
  obtain rfl := hww.symm
  clear hww HOf1
  cases h3 : overC l1 20 with
  | true =>
    clear h1 h2 h3
    go_wp2_with fail
    refine (awake29 _ HE1.out).mono ?_
    rintro e w2 ⟨rfl, hb2⟩
    go_wp2_with fail
    go_ret
    exact ⟨rfl, bstep HA1.out.b hb2⟩
  | false =>
  by_cases hlong : (700 : Int) < (s.size : Int)
  · have tl : decide ((s.size : Int) > 700) = true := decide_eq_true hlong
    clear h1 h2 h3 hlong
    go_wp2_with fail
    refine (awake29 _ HE1.out).mono ?_
    rintro e w2 ⟨rfl, hb2⟩
    go_wp2_with fail
    go_ret
    exact ⟨rfl, bstep HA1.out.b hb2⟩
  have tl : decide ((s.size : Int) > 700) = false := decide_eq_false hlong
  obtain ⟨b1, b2, b3⟩ := overO_false h p f 500 h1
  obtain ⟨n0, m0⟩ := overC_ok h2
  obtain ⟨n1, m1⟩ := overC_ok h3
  have HFO0 := Lib.hid (flts_ok HWF.out.1 m0)
  have HFO1 := Lib.hid (flts_ok HWF.out.2 m1)
  have HLL := Lib.hid (And.intro n0 n1)
  have HFs : Hid (f.size ≤ 100000 ∧ s.size ≤ 1000) := Lib.hid (by omega)
  have HS : Hid (∀ W, Below w1.heap.size w1 W → W.cell? ⟨w.heap.size, 0, none⟩ = some (.string h) ∧ W.cell? ⟨w.heap.size, 1, none⟩ = some (.string p) ∧ W.cell? ⟨w.heap.size, 2, none⟩ = some (.string f) ∧ W.cell? ⟨w.heap.size + 1, 0, none⟩ = some v0 ∧ W.cell? ⟨w.heap.size + 1, 1, none⟩ = some (.slice a l1.length c)) := Lib.hid (fun W hW => (HA1.out.below hW).cells)
  have HDr : Hid (Below w1.heap.size w1 w1.drew) := Lib.hid (Below.refl _ _).drew
  by_cases hO : orgE h.data.toList p.data.toList = 0
  · have HNk0 := Lib.hid (fun W v hv => link_new h p f v l0 W hO hv (by omega))
    have HNk1 := Lib.hid (fun W v hv => link_new h p f v l1 W hO hv (by omega))
    clear h1 h2 h3 hlong b1 b2 b3 n0 m0 n1 m1 hO HWF
    go_wp2_with fail
    go_region_held3 (fun w' => w'.cell? ⟨w.heap.size, 0, none⟩ = some (.string h) ∧ w'.cell? ⟨w.heap.size, 1, none⟩ = some (.string p) ∧ w'.cell? ⟨w.heap.size, 2, none⟩ = some (.string f) ∧ w'.cell? ⟨w.heap.size + 1, 0, none⟩ = some v0 ∧ w'.cell? ⟨w.heap.size + 1, 1, none⟩ = some (.slice a l1.length c)) (first | exact HS.out _ HDr.out | exact HS.out _ HX1.out | exact HS.out _ HX2.out)
      (first
        | (go_at_call 13; refine (HFS0.out _ (bstep HA1.out.b HDr.out) HLL.out.1).mono ?_; rintro e wa ⟨a1, c1, rfl, ho1, hba⟩; have HX1 : Hid (Below w1.heap.size w1 wa) := Lib.hid (bstep HDr.out hba); have HO1 := Lib.hid (HoldsC.of_own ho1); clear hba ho1)
        | (go_at_call 12; refine (HNk0.out _ _ HO1.out).mono ?_; rintro e wb hnew; obtain ⟨P, rv, rfl, hPlo, hk1, hbb⟩ := KL.new HX1.out hnew; have HK1 := Lib.hid hk1; have HX2 : Hid (Below w1.heap.size w1 wb) := Lib.hid (bstep HX1.out hbb); clear hbb hnew hk1 hPlo))
    all_goals
      clear HDr HNk0 HO1 HFS0 q0 q1 q2 r0 r1
      obtain ⟨q0, q1, q2, r0, r1⟩ := HS.out _ HX2.out
      have HDr : Hid (Below w1.heap.size w1 wb.drew) := Lib.hid HX2.out.drew
      have HKd := Lib.hid (HK1.out.step (Below.refl _ wb).drew)
      clear HX1 HK1
      go_wp2_with fail
      go_region_held3 (fun w' => w'.cell? ⟨w.heap.size, 0, none⟩ = some (.string h) ∧ w'.cell? ⟨w.heap.size, 1, none⟩ = some (.string p) ∧ w'.cell? ⟨w.heap.size, 2, none⟩ = some (.string f) ∧ w'.cell? ⟨w.heap.size + 1, 0, none⟩ = some v0 ∧ w'.cell? ⟨w.heap.size + 1, 1, none⟩ = some (.slice a l1.length c)) (first | exact HS.out _ HDr.out | exact HS.out _ HX3.out | exact HS.out _ HX4.out)
        (first
          | (go_at_call 13; refine (HFS1.out _ (bstep HA1.out.b HDr.out) HLL.out.2).mono ?_; rintro e wd ⟨a1, c1, rfl, ho1, hba⟩; have HX3 : Hid (Below w1.heap.size w1 wd) := Lib.hid (bstep HDr.out hba); have HO3 := Lib.hid (HoldsC.of_own ho1); have HK3 := Lib.hid (HKd.out.step hba); clear hba ho1)
          | (go_at_call 12; refine (HNk1.out _ _ HO3.out).mono ?_; rintro e we hnew; obtain ⟨Q, rv2, rfl, hQlo, hk2, hbb⟩ := KL.new HX3.out hnew; have HK4 := Lib.hid (K2.make HK3.out hk2 hQlo hbb (fun g hg => by cases hg)); have HX4 : Hid (Below w1.heap.size w1 we) := Lib.hid (bstep HX3.out hbb); clear hbb hnew hk2 hQlo))
      all_goals
        clear HDr HNk1 HO3 HKd HK3 HX3 HX4 HX2 q0 q1 q2 r0 r1
        have HAsk := Lib.hid (HK4.out.a.ask HE1.out s (by have := HFs.out.2; omega) HFs.out.1 (flt_ok HFO0.out 0) (by have := HLL.out.1; omega) (by simp) (by omega))
        go_wp2_with fail
        refine HAsk.out.mono ?_
        rintro e wf hka
        obtain ⟨rfl, rv3, lv3, hk5⟩ := HK4.out.asked hka
        rw [List.nil_append, Nat.zero_add] at hk5
        have hH0 : oneK (hurtK h p f (l0.headD noF) s) ≤ 1 := by unfold oneK; split <;> omega
        generalize oneK (hurtK h p f (l0.headD noF) s) = H0 at hH0 hk5
        generalize evK h p f (l0.headD noF) s = E0 at hk5
        generalize l0.tail = T0 at hk5
        have HK5 := Lib.hid hk5
        clear hka hk5 HAsk HK4
        go_wp2_with fail
        refine (link_harms HK5.out.a.a).mono ?_
        rintro e w' ⟨rfl, hww⟩
        obtain rfl := hww.symm
        clear hww
        obtain ⟨q0, q1, q2, r0, r1⟩ := HS.out _ HK5.out.a.bel
        go_wp2_with fail
        refine (HFS1.out _ (bstep HA1.out.b HK5.out.a.bel) HLL.out.2).mono ?_
        rintro e wg ⟨a5, c5, rfl, ho5, hb5⟩
        have hPl := HK5.out.a.a.lt
        have HQr := Lib.hid HK5.out.b.a.rlt
        have hsz := HK5.out.a.bel.size
        have HK6 := Lib.hid (HK5.out.step hb5)
        have HO6 := Lib.hid ho5
        clear ho5 hb5 HK5 q0 q1 q2 r0 r1
        go_wp2_with fail
        refine (HK6.out.script _ l1 (HoldsC.of_own HO6.out) (fun b hb => ?_) (by have := HLL.out.2; omega)).mono ?_
        · have := (HO6.out.lt b (own_ablk HO6.out b hb).1).1
          omega
        rintro e wh ⟨rfl, rv7, hk7, ht7, hr7⟩
        have HK7 := Lib.hid hk7
        have HOB : Hid (OwnB w1 wh a5 l1.length rv7 rv2) := Lib.hid (OwnB.of (own_kept HO6.out ht7 (fun g hg e => by have := (HO6.out.lt g hg).1; have e2 : g = P := e; omega)) hsz (fun g _ _ hg e => by have := hr7 g e; have := (HO6.out.lt g hg).2; omega) (fun g hg _ e => by have := HQr.out g e; omega))
        clear hk7 ht7 hr7 HQr hPl hsz HK6 HO6
        go_wp2_with fail
        go_loopw [14] (fun i wr => ∃ k : Nat, k ≤ l1.length ∧ i = .int .i64 k ∧ Hid (K2 w1 wr P Q h p f l1 l1 [E0] [] H0 0 rv7 rv2 lv3 (.slice none 0 0)) ∧ Hid (OwnB w1 wr a5 l1.length rv7 rv2)) (fun i _ => l1.length - (intOf i).toNat)
        case atStart => exact ⟨0, Nat.zero_le _, rfl, HK7, HOB⟩
        case round =>
          obtain ⟨k, hk, rfl, HKr, HBr⟩ := hrel
          clear HK7 HOB
          by_cases hlt : k < l1.length
          · rcases HBr.out with h0 | ⟨G, C, rfl, hC, hsz, hlo, hx1, hx2⟩
            · omega
            obtain ⟨x0, hx0⟩ := cell_in (i := k * 3) hC (by omega)
            obtain ⟨y0, hy0⟩ := cell_in (i := k * 3 + 1) hC (by omega)
            obtain ⟨z0, hz0⟩ := cell_in (i := k * 3 + 2) hC (by omega)
            have hf0 := free_in (i := k * 3) hC
            have hf1 := free_in (i := k * 3 + 1) hC
            have hf2 := free_in (i := k * 3 + 2) hC
            have hl20 := HLL.out.2
            have HG := Lib.hid (And.intro hC (And.intro hsz (And.intro hlo (And.intro hx1 hx2))))
            clear hC hsz hlo hx1 hx2 HBr
            go_wp2_with fail
            go_roundw
            case rel =>
              obtain ⟨C1, hC1, hs1⟩ := set_cells (i := k * 3) HG.out.1 (.int .u8 1)
              obtain ⟨C2, hC2, hs2⟩ := set_cells (i := k * 3 + 1) hC1 (.int .i64 0)
              obtain ⟨C3, hC3, hs3⟩ := set_cells (i := k * 3 + 2) hC2 (.string ⟨#[]⟩)
              have ht : Touch (fun g => g = G) wr (((wr.setCell ⟨G, k * 3, none⟩ (.int .u8 1)).setCell ⟨G, k * 3 + 1, none⟩ (.int .i64 0)).setCell ⟨G, k * 3 + 2, none⟩ (.string ⟨#[]⟩)) := touch_set _ (touch_set _ (touch_set _ (Touch.refl _ _) (.inl rfl)) (.inl rfl)) (.inl rfl)
              exact ⟨k + 1, by omega, by go_num, Lib.hid (HKr.out.beside HG.out.1 HG.out.2.2.1 HG.out.2.2.2.1 HG.out.2.2.2.2 ht), Lib.hid (.inr ⟨G, C3, rfl, hC3, by have := HG.out.2.1; omega, HG.out.2.2⟩)⟩
            case measure => simp [intOf]; omega
          · obtain rfl : k = l1.length := by omega
            obtain ⟨q0, q1, q2, r0, r1⟩ := HS.out _ HKr.out.a.bel
            clear HBr
            go_wp2_with fail
            go_loopw [15] (fun i wz => ∃ j : Nat, j ≤ l1.length + 1 ∧ i = .int .i64 j ∧ ∃ ra rb la lb, K2 w1 wz P Q h p f (l1.drop j) (l1.drop j) ([E0] ++ clLog h p f l1 s j) (clLog h p f l1 s j) (H0 + harmsK (clLog h p f l1 s j)) (harmsK (clLog h p f l1 s j)) ra rb la lb) (fun i _ => l1.length + 1 - (intOf i).toNat)
            case atStart => exact ⟨0, Nat.zero_le _, rfl, _, _, _, _, HKr.out⟩
            case round =>
              obtain ⟨j, hj, rfl, ra, rb, la, lb, hkj⟩ := hrel
              have HJ := Lib.hid hkj
              clear hkj HKr q0 q1 q2 r0 r1
              have hl20 := HLL.out.2
              by_cases hle : j ≤ l1.length
              · obtain ⟨q0, q1, q2, r0, r1⟩ := HS.out _ HJ.out.a.bel
                obtain ⟨G, hG⟩ : ∃ G, gotK h p f ((l1.drop j).headD noF) s = G := ⟨_, rfl⟩
                have HGo := Lib.hid hG
                clear hG
                have hml := harms_le (clLog h p f l1 s j)
                rw [clLog_len _ _ _ _ _ _ (by omega)] at hml
                go_wp2_with fail
                refine (link_left HJ.out.a.a).mono ?_
                rintro e w' ⟨rfl, hww⟩
                obtain rfl := hww.symm
                clear hww
                go_wp2_with fail
                refine (link_left HJ.out.b.a).mono ?_
                rintro e w' ⟨rfl, hww⟩
                obtain rfl := hww.symm
                clear hww
                go_wp2_with fail
                refine (HJ.out.a.ask HE1.out s (by have := HFs.out.2; omega) HFs.out.1 (flt_ok HFO1.out j) (by rw [List.length_drop]; omega) (by rw [List.length_append, clLog_len _ _ _ _ _ _ (by omega)]; simp; omega) (by omega)).mono ?_
                rintro e wk hka
                obtain ⟨rfl, ra2, la2, hk2⟩ := HJ.out.asked hka
                rw [HGo.out]
                have HJ2 := Lib.hid hk2
                clear hka hk2 q0 q1 q2 r0 r1
                go_wp2_with fail
                refine (HJ2.out.b.ask HE1.out s (by have := HFs.out.2; omega) HFs.out.1 (flt_ok HFO1.out j) (by rw [List.length_drop]; omega) (by rw [clLog_len _ _ _ _ _ _ (by omega)]; omega) (by omega)).mono ?_
                rintro e wm hkb
                obtain ⟨rfl, rb2, lb2, hk3⟩ := HJ2.out.swap.asked hkb
                rw [HGo.out]
                have hk4 := hk3.swap
                have hst := clLog_step h p f l1 s j (by omega)
                have hhm := clHarm_step h p f l1 s j (by omega)
                rw [drop_tail, List.append_assoc, ← hst, Nat.add_assoc, ← hhm] at hk4
                have hm2 := harms_le (clLog h p f l1 s (j + 1))
                rw [clLog_len _ _ _ _ _ _ (by omega)] at hm2
                have HJ3 := Lib.hid hk4
                clear hkb hk3 hk4 hst hhm HJ2 HJ hml
                generalize hM : harmsK (clLog h p f l1 s (j + 1)) = M at hm2 HJ3
                have HM := Lib.hid hM
                clear hM
                have HL1 : Calls Tryz.prog 18 #[.pointer (some ⟨P, 0, none⟩)] wm fun e w' => e = .returned (.int .i64 ((H0 : Int) + (M : Int))) ∧ w' = wm := by rw [← Int.natCast_add]; exact link_harms HJ3.out.a.a
                have hwr : IntKind.i64.wrap ((H0 : Int) + (M : Int) - (H0 : Int)) = (M : Int) := by rw [IntKind.wrap_i64]; omega
                have hwr2 : IntKind.i64.wrap (M : Int) = (M : Int) := by rw [IntKind.wrap_i64]; omega
                go_wp2_with fail
                refine HL1.mono ?_
                clear HL1
                rintro e w' ⟨rfl, hww⟩
                obtain rfl := hww.symm
                clear hww
                go_wp2_with fail
                refine (link_harms HJ3.out.b.a).mono ?_
                rintro e w' ⟨rfl, hww⟩
                obtain rfl := hww.symm
                clear hww
                go_wp2_with fail
                go_roundw
                case rel => exact ⟨j + 1, by omega, by go_num, ra2, rb2, la2, lb2, by rw [HM.out]; exact HJ3.out⟩
                case measure => simp [intOf]; omega
              · obtain rfl : j = l1.length + 1 := by omega
                have hln : ([E0] ++ clLog h p f l1 s (l1.length + 1)).length = l1.length + 2 := by rw [List.length_append, clLog_len _ _ _ _ _ _ (by omega)]; simp; omega
                generalize [E0] ++ clLog h p f l1 s (l1.length + 1) = LL at HJ hln
                have HJd := Lib.hid (HJ.out.step (Below.refl _ _).drew)
                obtain ⟨q0, q1, q2, r0, r1⟩ := HS.out _ HJ.out.a.bel
                have HLL2 := Lib.hid hln
                clear HJ hln
                have hw1 : IntKind.i64.wrap ((l1.length : Int) + 2) = (l1.length : Int) + 2 := by rw [IntKind.wrap_i64]; omega
                have hw2 : ((l1.length + 2 : Nat) : Int) = (l1.length : Int) + 2 := by omega
                go_wp2_with fail
                go_region_held3 (fun w' => w'.cell? ⟨w.heap.size + 1, 1, none⟩ = some (.slice a l1.length c)) (first | exact (HS.out _ HJd.out.a.bel).2.2.2.2 | exact (HS.out _ HL3.out).2.2.2.2 | exact (HS.out _ HL4.out).2.2.2.2)
                  (first
                    | (go_at_call 21; refine (link_log HJd.out.a.a (by rw [HLL2.out]; have := HLL.out.2; omega)).mono ?_; rintro e wk ⟨a7, c7, rfl, -, hb7⟩; rw [HLL2.out]; have HL3 : Hid (Below w1.heap.size w1 wk) := Lib.hid (bstep HJd.out.a.bel hb7); clear hb7)
                    | (go_at_call 11; refine (awake29 _ (HE1.out.below HL3.out)).mono ?_; rintro e wl ⟨rfl, hb8⟩; have HL4 : Hid (Below w1.heap.size w1 wl) := Lib.hid (bstep HL3.out hb8); clear hb8))
                all_goals
                  go_wp2_with fail
                  go_ret
                  exact ⟨rfl, bstep HA1.out.b HL4.out⟩
  · have HNb := Lib.hid (fun v W => link_new_bad h p f v W hO)
    clear h1 h2 h3 hlong b1 b2 b3 n0 m0 n1 m1 hO HWF
    go_wp2_with fail
    go_region_held3 (fun w' => w'.cell? ⟨w.heap.size, 0, none⟩ = some (.string h) ∧ w'.cell? ⟨w.heap.size, 1, none⟩ = some (.string p) ∧ w'.cell? ⟨w.heap.size, 2, none⟩ = some (.string f) ∧ w'.cell? ⟨w.heap.size + 1, 0, none⟩ = some v0 ∧ w'.cell? ⟨w.heap.size + 1, 1, none⟩ = some (.slice a l1.length c)) (first | exact HS.out _ HDr.out | exact HS.out _ HX1.out | exact HS.out _ HX2.out)
      (first
        | (go_at_call 13; refine (HFS0.out _ (bstep HA1.out.b HDr.out) HLL.out.1).mono ?_; rintro e wa ⟨a1, c1, rfl, -, hba⟩; have HX1 : Hid (Below w1.heap.size w1 wa) := Lib.hid (bstep HDr.out hba); clear hba)
        | (go_at_call 12; refine (HNb.out _ _).mono ?_; rintro e wb ⟨rfl, hbb⟩; have HX2 : Hid (Below w1.heap.size w1 wb) := Lib.hid (bstep HX1.out hbb); clear hbb))
    all_goals
      clear HDr HFS0 q0 q1 q2 r0 r1
      obtain ⟨q0, q1, q2, r0, r1⟩ := HS.out _ HX2.out
      have HDr : Hid (Below w1.heap.size w1 wb.drew) := Lib.hid HX2.out.drew
      clear HX1
      go_wp2_with fail
      go_region_held3 (fun w' => w'.cell? ⟨w.heap.size, 0, none⟩ = some (.string h) ∧ w'.cell? ⟨w.heap.size, 1, none⟩ = some (.string p) ∧ w'.cell? ⟨w.heap.size, 2, none⟩ = some (.string f) ∧ w'.cell? ⟨w.heap.size + 1, 0, none⟩ = some v0 ∧ w'.cell? ⟨w.heap.size + 1, 1, none⟩ = some (.slice a l1.length c)) (first | exact HS.out _ HDr.out | exact HS.out _ HX3.out | exact HS.out _ HX4.out)
        (first
          | (go_at_call 13; refine (HFS1.out _ (bstep HA1.out.b HDr.out) HLL.out.2).mono ?_; rintro e wd ⟨a1, c1, rfl, -, hba⟩; have HX3 : Hid (Below w1.heap.size w1 wd) := Lib.hid (bstep HDr.out hba); clear hba)
          | (go_at_call 12; refine (HNb.out _ _).mono ?_; rintro e we ⟨rfl, hbb⟩; have HX4 : Hid (Below w1.heap.size w1 we) := Lib.hid (bstep HX3.out hbb); clear hbb))
      all_goals
        clear HDr HX3 HX2 q0 q1 q2 r0 r1
        go_wp2_with fail
        refine (link_script_nil _ _).mono ?_
        rintro e w' ⟨rfl, hww⟩
        obtain rfl := hww.symm
        clear hww
        go_wp2_with fail
        refine (awake29 _ (HE1.out.below HX4.out)).mono ?_
        rintro e wd ⟨rfl, hbd⟩
        go_wp2_with fail
        go_ret
        exact ⟨rfl, bstep HA1.out.b (bstep HX4.out hbd)⟩
end Go.Proofs.YthcomjhpjlcpdaaGreatDoor
namespace Go.Proofs.YthcomjhpjlcpdaaGreatDoor
open Go.RowKit

def renU : Go.Shelf.Ren := ⟨fun n => n, fun | 5 => 5 | 119 => 242 | 138 => 244 | 139 => 245 | n => n, fun | 3 => 1 | 4 => 2 | n => n⟩
theorem u8t : U8Types Tryz.prog renU := ⟨Tryz.underlying5, Tryz.underlying242, Tryz.underlying244, Tryz.underlying245⟩
theorem u8x : U8Extra Tryz.prog renU := ⟨by kernel_rfl, by kernel_rfl, by kernel_rfl, by kernel_rfl, by kernel_rfl, by kernel_rfl, by kernel_rfl⟩
theorem accept_data : (Rows.laid_unicode_utf8_acceptRanges : DataW Unit) = Go.Lib.acceptData := by kernel_rfl
theorem pow10_data : (Rows.laid_internal_strconv_uint64pow10 : DataW Unit) = Go.Lib.tabData .u64 Go.Lib.pow10Tab := rfl
theorem maxLen_cell {W : World} (h : W.ShapedOpen Tryz.prog) : ∃ m, W.cell? ⟨3, 0, none⟩ = some (.int .i64 m) := Tryz.laysM145.s1_3 W h
theorem lt_of_cell {W : World} {g : Nat} {v : Value} (h : W.cell? ⟨g, 0, none⟩ = some v) : g < W.heap.size := World.block_lt_of_cell? _ _ h
theorem err_star : "*" ++ "errors.errorString" = "*errors.errorString" := by decide
theorem err_row (u : TypeId) (h : Tryz.prog.typeName? 3 u = some "*errors.errorString") : u = 309 :=
  typeName_ptr_named (nm := "errors.errorString") (by rw [err_star]; kernel_rfl) (by kernel_rfl) (by decide) u (by rw [err_star]; exact h)
theorem env_of {W : World} {rest : List (String × DataW Unit)} (h : laidMet Tryz.prog (("math/bits.deBruijn32tab", Rows.laid_math_bits_deBruijn32tab) :: ("math/bits.deBruijn64tab", Rows.laid_math_bits_deBruijn64tab) :: ("internal/strconv.uint64pow10", Rows.laid_internal_strconv_uint64pow10) :: ("unicode/utf8.acceptRanges", Rows.laid_unicode_utf8_acceptRanges) :: ("strconv.ErrRange", Rows.laid_strconv_ErrRange) :: rest) W)
    (hf : ("unicode/utf8.first", Rows.laid_unicode_utf8_first) ∈ rest) (hsh : W.ShapedOpen Tryz.prog) : EnvF W := by
  have ht : Go.Lib.TabIs Tryz.prog W "internal/strconv.uint64pow10" .u64 Go.Lib.pow10Tab :=
    Go.Lib.tabIs_of_head (n := 20) (t := 237) (e := 222) g_pow10 (by kernel_rfl) (by kernel_rfl) (by kernel_rfl) (by kernel_rfl) (by kernel_rfl) h.tail.tail
  have h3 : Go.Lib.VarReads Tryz.prog W "unicode/utf8.first" Go.Lib.firstData := by
    have := Go.Lib.laidMet.reads h (n := "unicode/utf8.first") (d := Rows.laid_unicode_utf8_first) (by simp [hf])
    rwa [show (Rows.laid_unicode_utf8_first : DataW Unit) = Go.Lib.firstData from Pinned.utf8First_eq] at this
  have h4 : Go.Lib.VarReads Tryz.prog W "unicode/utf8.acceptRanges" Go.Lib.acceptData := by
    have := Go.Lib.laidMet.reads h (n := "unicode/utf8.acceptRanges") (d := Rows.laid_unicode_utf8_acceptRanges) (by simp)
    rwa [accept_data] at this
  obtain ⟨a0, s0, hv0, _, _, _⟩ := laid_sentinel h.tail.tail.tail.tail (g := 7) (ti := 191) (tp := 309) (te := 311) (ts := 9) (by kernel_rfl) (by kernel_rfl) Tryz.underlying191 err_row Tryz.underlying309 Tryz.underlying311 rfl rfl Tryz.underlying9 (by kernel_rfl) (by kernel_rfl)
  obtain ⟨m, hm⟩ := maxLen_cell hsh
  have hr : W.cell? ⟨7, 0, none⟩ = some (.iface 309 (.pointer (some a0))) := World.var?_cell (show Tryz.prog.globalNamed "strconv.ErrRange" = some 7 by kernel_rfl) hv0 0
  refine ⟨⟨m, hm⟩, lt_of_cell hm, utf8Tabs_of_readsT u8t u8x h3 h4, ht, ?_, ⟨_, _, hr⟩, lt_of_cell hr⟩
  rcases Nat.lt_or_ge 0 W.heap.size with hlt | hge
  · exact hlt
  · unfold Go.Lib.TabIs World.var? at ht
    rw [g_pow10] at ht
    simp [Array.getElem?_eq_none hge] at ht
end Go.Proofs.YthcomjhpjlcpdaaGreatDoor
namespace Go.Proofs.YthcomjhpjlcpdaaGreatDoor
open Go.RowKit
theorem linkClean_go (h p f : ByteArray) (v : Value) (l : List Flt) (s : ByteArray) (W : World) (_ : h.size ≤ maxLen) (_ : p.size ≤ maxLen) (_ : f.size ≤ maxLen) (hv : FaultsArg W v l) (_ : s.size ≤ maxLen) (hL : laidMetH Tryz.prog Rows.linkCleanRow.laid W) (hsh : W.ShapedOpen Tryz.prog) :
    Calls Tryz.prog 4 #[.agg #[.string h, .string p, .string f], v, .string s] W fun e W' => e = .returned (.bool true) ∧ Below W.heap.size W W' := by
  rw [MakeChecks.laidMetH_plain _ _ _ (by kernel_rfl)] at hL
  exact linkClean_walk h p f v l s W (env_of hL (by simp) hsh) hv
end Go.Proofs.YthcomjhpjlcpdaaGreatDoor
namespace Go.Proofs.YthcomjhpjlcpdaaGreatDoor
open Go.RowKit
theorem linkScripts_go (h p f : ByteArray) (v0 v1 : Value) (s : ByteArray) (W : World) (_ : h.size ≤ maxLen) (_ : p.size ≤ maxLen) (_ : f.size ≤ maxLen) (hv : ∃ l0 l1, FaultsArg W v0 l0 ∧ FaultsArg W v1 l1) (_ : s.size ≤ maxLen) (hL : laidMetH Tryz.prog Rows.linkScriptsRow.laid W) (hsh : W.ShapedOpen Tryz.prog) :
    Calls Tryz.prog 5 #[.agg #[.string h, .string p, .string f], .agg #[v0, v1], .string s] W fun e W' => e = .returned (.bool true) ∧ Below W.heap.size W W' := by
  rw [MakeChecks.laidMetH_plain _ _ _ (by kernel_rfl)] at hL
  obtain ⟨l0, l1, h0, h1⟩ := hv
  exact linkScripts_walk h p f v0 v1 l0 l1 s W (env_of hL (by simp) hsh) h0 h1
end Go.Proofs.YthcomjhpjlcpdaaGreatDoor
namespace Go.Proofs.YthcomjhpjlcpdaaGreatDoor
open Go.RowKit
theorem linkAsks_go (h p f : ByteArray) (v : Value) (l : List Flt) (u : Value) (ls : List (List UInt8)) (W : World) (_ : h.size ≤ maxLen) (_ : p.size ≤ maxLen) (_ : f.size ≤ maxLen) (hv : FaultsArg W v l) (hu : StrArg W u ls) (hL : laidMetH Tryz.prog Rows.linkAsksRow.laid W) (hsh : W.ShapedOpen Tryz.prog) :
    Calls Tryz.prog 3 #[.agg #[.string h, .string p, .string f], v, u] W fun e W' => e = .returned (.bool true) ∧ Below W.heap.size W W' := by
  rw [MakeChecks.laidMetH_plain _ _ _ (by kernel_rfl)] at hL
  exact linkAsks_walk h p f v u l ls W (env_of hL (by simp) hsh) hv hu
end Go.Proofs.YthcomjhpjlcpdaaGreatDoor
