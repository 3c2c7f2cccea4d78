/- The law LinkForks. The law function LinkForks, as the row's proof takes it. -/
import Derived.Test.YthcomjhpjlcpdaaGreatDoorPl15
set_option linter.unusedVariables false
set_option linter.unusedSimpArgs false
namespace Go.Proofs.YthcomjhpjlcpdaaGreatDoor
open Go.RowKit
set_option maxRecDepth 100000 in
set_option maxHeartbeats 8000000 in
theorem linkForks_walk (h p f : ByteArray) (v u : Value) (l : List Flt) (ls : List (List UInt8)) (w : World) (hE : EnvF w) (hv : FaultsArg w v l) (hu : StrArg w u ls) :
    Calls Tryz.prog 6 #[.agg #[.string h, .string p, .string f], v, u] w fun e w' => e = .returned (.bool true) ∧ Below w.heap.size w w' := by
  have HOv := Lib.hid (fun w => ref_oover h p f 500 w)
  have HB0 := Lib.hid (below_ro3 w (.string h) (.string p) (.string f))
  have HEw := Lib.hid hE
  have HQ0 := Lib.hid (OAt.new w 23 h p f)
  have HOf := Lib.hid (fun W (hW : Below w.heap.size w W) => over28s v l 20 W (by decide) (hv.1.below hW) hv.2.2)
  have HOa := Lib.hid (fun W (hW : Below w.heap.size w W) => over29 u ls 20 3000 W (by decide) (by decide) (strArg_low hu hW))
  have HFS := Lib.hid (fun W (hW : Below w.heap.size w W) (hl : l.length ≤ 20) => law29_faults v l W (hv.1.below hW) (by omega))
  have HWF := Lib.hid hv.2.1
  obtain ⟨⟨ua, uc, hvv, huc, hux⟩, -, hull⟩ := hu
  subst hvv
  unfold maxLen at hull
  have HCell : Hid (ls ≠ [] → ∃ b o, ua = some ⟨b, o, none⟩ ∧ ∀ k (hk : k < ls.length) W, Below w.heap.size w W → W.cell? ⟨b, o + k, none⟩ = some (.string (bs ls[k]))) := Lib.hid (fun hn => by
    obtain ⟨b, o, e1, e2, e3⟩ := hux hn
    exact ⟨b, o, e1, fun k hk W hW => (hW.cell (p := ⟨b, o + k, none⟩) e2).trans (e3 k hk)⟩)
  clear hE hv hux
  obtain ⟨q0, q1, q2⟩ := HQ0.out.cells
  go_enter Tryz.func6, Tryz.ntmps6
  go_wp2_with fail
  refine (HOv.out _).mono ?_
  rintro e w1 ⟨rfl, hb1⟩
  have HB1 := Lib.hid (bstep HB0.out hb1)
  have HE1 := Lib.hid (HEw.out.below HB1.out)
  have HQ1 := Lib.hid (HQ0.out.below hb1)
  clear hb1 q0 q1 q2 HB0 HQ0 HOv
  cases h1 : overO h.data.toList p.data.toList f.data.toList 500 with
  | true =>
    go_wp2_with fail
    refine (awake29 _ HE1.out).mono ?_
    rintro e w2 ⟨rfl, hb2⟩
    go_wp2_with fail
    go_ret
    exact ⟨rfl, bstep HB1.out hb2⟩
  | false =>
  go_wp2_with fail
  refine (HOf.out _ HB1.out).mono ?_
  rintro e w2 ⟨rfl, hww⟩
  obtain rfl := hww.symm
  clear hww HOf
  cases h2 : overC l 20 with
  | true =>
    clear h1 h2
    go_wp2_with fail
    refine (awake29 _ HE1.out).mono ?_
    rintro e w2 ⟨rfl, hb2⟩
    go_wp2_with fail
    go_ret
    exact ⟨rfl, bstep HB1.out hb2⟩
  | false =>
  go_wp2_with fail
  refine (HOa.out _ HB1.out).mono ?_
  rintro e w2 ⟨rfl, hww⟩
  obtain rfl := hww.symm
  clear hww HOa
  cases h3 : overB ls 20 3000 with
  | true =>
    clear h1 h2 h3
    go_wp2_with fail
    refine (awake29 _ HE1.out).mono ?_
    rintro e w2 ⟨rfl, hb2⟩
    go_wp2_with fail
    go_ret
    exact ⟨rfl, bstep HB1.out hb2⟩
  | false =>
  obtain ⟨b1, b2, b3⟩ := overO_false h p f 500 h1
  obtain ⟨n0, m0⟩ := overC_ok h2
  obtain ⟨n1, m1⟩ := small29 ls h3
  have HFO := Lib.hid (flts_ok HWF.out m0)
  have HLL := Lib.hid n0
  have HAs := Lib.hid (ask_small ls m1)
  have HFs : Hid (f.size ≤ 100000) := Lib.hid (by omega)
  have HS : Hid (∀ W, Below w1.heap.size w1 W → W.cell? ⟨w.heap.size, 0, none⟩ = some (.string h) ∧ W.cell? ⟨w.heap.size, 1, none⟩ = some (.string p) ∧ W.cell? ⟨w.heap.size, 2, none⟩ = some (.string f)) := Lib.hid (fun W hW => (HQ1.out.below hW).cells)
  have HDr : Hid (Below w1.heap.size w1 w1.drew) := Lib.hid (Below.refl _ _).drew
  clear HWF HQ1 m0 m1 huc hull
  obtain ⟨q0, q1, q2⟩ := HS.out _ (Below.refl _ w1)
  by_cases hO : orgE h.data.toList p.data.toList = 0
  · have HNk := Lib.hid (fun W v hv => link_new h p f v l W hO hv (by omega))
    clear h1 h2 h3 b1 b2 b3 n0 hO
    go_wp2_with fail
    go_region_held3 (fun w' => w'.cell? ⟨w.heap.size, 0, none⟩ = some (.string h) ∧ w'.cell? ⟨w.heap.size, 1, none⟩ = some (.string p) ∧ w'.cell? ⟨w.heap.size, 2, none⟩ = some (.string f)) (first | exact HS.out _ HDr.out | exact HS.out _ HX1.out | exact HS.out _ HX2.out)
      (first
        | (go_at_call 13; refine (HFS.out _ (bstep HB1.out HDr.out) HLL.out).mono ?_; rintro e wa ⟨a1, c1, rfl, ho1, hba⟩; have HX1 : Hid (Below w1.heap.size w1 wa) := Lib.hid (bstep HDr.out hba); have HO1 := Lib.hid (HoldsC.of_own ho1); clear hba ho1)
        | (go_at_call 12; refine (HNk.out _ _ HO1.out).mono ?_; rintro e wb hnew; obtain ⟨P, rv, rfl, hPlo, hk1, hbb⟩ := KL.new HX1.out hnew; have HK1 := Lib.hid hk1; have HX2 : Hid (Below w1.heap.size w1 wb) := Lib.hid (bstep HX1.out hbb); clear hbb hnew hk1 hPlo))
    all_goals
      clear HDr HNk HO1 HFS q0 q1 q2 HX1 HX2 HS
      go_wp2_with fail
      rw [show (ls.length : Int) / 2 = ((ls.length / 2 : Nat) : Int) by omega]
      have hHn : ls.length / 2 ≤ ls.length := Nat.div_le_self _ _
      generalize ls.length / 2 = H at hHn ⊢
      go_loopw [10] (fun i wr => ∃ k : Nat, k ≤ H ∧ i = .int .i64 k ∧ ∃ rv lv, KL w1 wr P h p f (l.drop k) (stLog h p f l ls k) (harmsK (stLog h p f l ls k)) rv lv) (fun i _ => H - (intOf i).toNat)
      case atStart => exact ⟨0, Nat.zero_le _, rfl, _, _, HK1.out⟩
      case round =>
        obtain ⟨k, hk, rfl, rva, lva, hkl⟩ := hrel
        have HK := Lib.hid hkl
        clear hkl HK1
        have hl20 := HLL.out
        have hml := harms_le (stLog h p f l ls k)
        rw [stLog_len _ _ _ _ _ _ (by omega)] at hml
        by_cases hlt : k < H
        · have hkl : k < ls.length := by omega
          obtain ⟨b, o, rfl, hcell⟩ := HCell.out (fun e => by rw [e] at hkl; exact absurd hkl (Nat.not_lt_zero _))
          have c0 := hcell k hkl _ (bstep HB1.out HK.out.bel)
          have hsz := HAs.out k hkl
          have hst := stLog_step h p f l ls k hkl
          have hhm := stHarm_step h p f l ls k hkl
          obtain ⟨S, hS⟩ : ∃ S, bs ls[k] = S := ⟨_, rfl⟩
          rw [hS] at c0 hsz hst hhm
          clear hcell hS
          go_wp2_with fail
          refine (HK.out.ask HE1.out S (by omega) HFs.out (flt_ok HFO.out k) (by rw [List.length_drop]; omega) (by rw [stLog_len _ _ _ _ _ _ (by omega)]; omega) (by omega)).mono ?_
          rintro e wd ⟨rfl, rv2, lv2, hk2, -, -⟩
          rw [drop_tail, ← hst, ← hhm] at hk2
          have HK2 := Lib.hid hk2
          clear hk2 hst hhm HK c0
          go_wp2_with fail
          go_roundw
          case rel => exact ⟨k + 1, by omega, by go_num, rv2, lv2, HK2.out⟩
          case measure => simp [intOf]; omega
        · obtain rfl : H = k := by omega
          go_wp2_with fail
          refine (link_fork HK.out.a (by rw [List.length_drop]; omega) (by rw [stLog_len _ _ _ _ _ _ (by omega)]; omega)).mono ?_
          rintro e wd hfk
          obtain ⟨Q, rvq, lvq, rfl, hQ, hkq, hbq, hlq⟩ := KL.fork HK.out.bel hfk
          have HK2 := Lib.hid (K2.make HK.out hkq hQ hbq hlq)
          clear hfk hQ hkq hbq hlq HK
          go_wp2_with fail
          refine (link_log HK2.out.a.a (by rw [stLog_len _ _ _ _ _ _ (by omega)]; omega)).mono ?_
          rintro e we ⟨a3, c3, rfl, ho3, hb3⟩
          have HK3 := Lib.hid (HK2.out.step hb3)
          have HO3 := Lib.hid ho3
          clear ho3 hb3 HK2
          go_wp2_with fail
          refine (law29_back _ _ _ _ HO3.out (by rw [stLog_len _ _ _ _ _ _ (by omega)]; omega)).mono ?_
          rintro e wf ⟨a4, c4, rfl, ho4, hb4⟩
          have HK4 := Lib.hid (HK3.out.step hb4)
          have HO4 := Lib.hid ho4
          clear ho4 hb4 HK3 HO3
          go_wp2_with fail
          have hbase := Lib.hid (HO4.out)
          generalize we.heap.size = B4 at HO4
          have hw1s := HK4.out.a.bel.size
          clear hbase
          go_loopw [13, 14] (fun tv i wr => ∃ k : Nat, H ≤ k ∧ k ≤ ls.length ∧ i = .int .i64 k ∧ wr.ownsRow w1.heap.size 9 1 tv (heardL h p f l ls H (k - H)).length (strs (heardL h p f l ls H (k - H))) ∧ wr.ownsRow B4 67 3 (.slice a4 (stLog h p f l ls H).length c4) (stLog h p f l ls H).length (evs (stLog h p f l ls H)) ∧ ∃ ra rb la lb, Hid (K2 w1 wr P Q h p f (l.drop H) (l.drop k) (stLog h p f l ls H) (stLog h p f l ls k) (harmsK (stLog h p f l ls H)) (harmsK (stLog h p f l ls k)) ra rb la lb)) (fun _ i _ => ls.length - (intOf i).toNat)
          case atStart => exact ⟨H, Nat.le_refl _, hHn, rfl, by rw [Nat.sub_self]; exact World.ownsRow_nil _ _ _ _, HO4.out, _, _, _, _, HK4⟩
          case round =>
            obtain ⟨k, hk1, hk2, rfl, hto, hwa, ra, rb, la, lb, HK⟩ := hrel
            clear HK4 HO4
            have hml := harms_le (stLog h p f l ls k)
            rw [stLog_len _ _ _ _ _ _ (by omega)] at hml
            by_cases hlt : k < ls.length
            · obtain ⟨b, o, rfl, hcell⟩ := HCell.out (fun e => by rw [e] at hlt; exact absurd hlt (Nat.not_lt_zero _))
              have c0 := hcell k hlt _ (bstep HB1.out HK.out.a.bel)
              have hsz := HAs.out k hlt
              have hst := stLog_step h p f l ls k hlt
              have hhm := stHarm_step h p f l ls k hlt
              have hgo := gotAt_eq h p f l ls k hlt
              obtain ⟨S, hS⟩ : ∃ S, bs ls[k] = S := ⟨_, rfl⟩
              rw [hS] at c0 hsz hst hhm hgo
              have hts := heardL_succ h p f l ls H (k - H)
              rw [show H + (k - H) = k by omega, show k - H + 1 = k + 1 - H by omega] at hts
              have htn : (heardL h p f l ls H (k - H)).length ≤ 20 := by rw [heardL_len]; omega
              clear hcell hS
              go_wp2_with fail
              refine (HK.out.b.ask HE1.out S (by omega) HFs.out (flt_ok HFO.out k) (by rw [List.length_drop]; omega) (by rw [stLog_len _ _ _ _ _ _ (by omega)]; omega) (by omega)).mono ?_
              rintro e wk hka
              obtain ⟨rfl, rb2, lb2, hk3⟩ := HK.out.swap.asked hka
              obtain ⟨-, _, _, -, ht, -⟩ := hka
              have hk4 := hk3.swap
              rw [drop_tail, ← hst, ← hhm] at hk4
              have hto2 := row_beside HK.out.b hto (by decide) (by decide) ht
              have HWa := Lib.hid (row_beside HK.out.b hwa (by decide) (by decide) ht)
              have HK5 := Lib.hid hk4
              rw [hgo]
              clear hk3 hk4 hst hhm HK c0 hto hwa ht hgo
              generalize gotAt h p f l ls k = G at hts ⊢
              have HTs := Lib.hid hts
              clear hts
              go_wp2_with (at_builtin; go_loud (refine append_str wk (by rfl) _ _ (by rfl) w1.heap.size _ (heardL h p f l ls H (k - H)) (by rfl) hto2 G G.data.toList (bs_self G).symm (by rfl) (by omega) HK5.out.a.bel.size ?_); intro v' w' ho' hg' hne')
              have HK6 := Lib.hid (HK5.out.row hto2 (by decide) (by decide) (by decide) (Nat.le_refl _) hg')
              have HW6 := Lib.hid (row_row HWa.out hto2 (by decide) hg')
              go_roundw
              case rel => exact ⟨k + 1, by omega, by omega, by go_num, by rw [HTs.out]; exact ho', HW6.out, _, _, _, _, HK6⟩
              case measure => simp [intOf]; omega
            · obtain rfl : k = ls.length := by omega
              have hLN : (stLog h p f l ls ls.length).length = ls.length := stLog_len _ _ _ _ _ _ (Nat.le_refl _)
              have hLH : (stLog h p f l ls H).length ≤ 20 := by rw [stLog_len _ _ _ _ _ _ hHn]; omega
              go_wp2_with fail
              refine (link_log HK.out.a.a (by omega)).mono ?_
              rintro e wk ⟨a5, c5, rfl, ho5, hb5⟩
              have HK5 := Lib.hid (HK.out.step hb5)
              have HO5 := Lib.hid ho5
              have HW5 := Lib.hid (row_step hwa hb5)
              have HT5 := Lib.hid (row_step hto hb5)
              clear ho5 hb5 hwa hto HK
              go_wp2_with fail
              refine (law29_back _ _ _ _ HO5.out (by omega)).mono ?_
              rintro e wm ⟨a6, c6, rfl, ho6, hb6⟩
              have HK6 := Lib.hid (HK5.out.step hb6)
              have HO6 := Lib.hid ho6
              have HW6 := Lib.hid (row_step HW5.out hb6)
              have HT6 := Lib.hid (row_step HT5.out hb6)
              clear ho6 hb6 HO5 HW5 HT5 HK5
              go_wp2_with fail
              refine (same29 _ _ _ _ _ _ HO6.out HW6.out (by omega)).mono ?_
              rintro e wn ⟨rfl, hb7⟩
              have HK7 := Lib.hid (HK6.out.step hb7)
              have HT7 := Lib.hid (row_step HT6.out hb7)
              clear hb7 HO6 HW6 HT6 HK6
              go_wp2_with fail
              refine (link_log HK7.out.b.a (by omega)).mono ?_
              rintro e wo ⟨a8, c8, rfl, -, hb8⟩
              have HK8 := Lib.hid (HK7.out.step hb8)
              have ht8 := row_step HT7.out hb8
              obtain ⟨ta, tc, rfl⟩ := slice_of_own ht8
              have hml0 := heardL_len h p f l ls H (ls.length - H)
              generalize hTL : heardL h p f l ls H (ls.length - H) = TL at ht8 hml0 ⊢
              have HTL := Lib.hid hTL
              generalize hmm : TL.length = m at ht8 hml0 ⊢
              have HMM := Lib.hid (And.intro hmm hml0)
              have HT8 := Lib.hid ht8
              rw [hLN]
              clear hb8 HT7 HK7 ht8 hTL hmm hml0
              go_wp2_with fail
              go_loopw [15] (fun i wr => ∃ k : Nat, H ≤ k ∧ k ≤ ls.length ∧ i = .int .i64 k ∧ Hid (wr.ownsRow w1.heap.size 9 1 (.slice ta m tc) m (strs TL)) ∧ ∃ ra rb la lb, Hid (K2 w1 wr P Q h p f (l.drop k) (l.drop ls.length) (stLog h p f l ls k) (stLog h p f l ls ls.length) (harmsK (stLog h p f l ls k)) (harmsK (stLog h p f l ls ls.length)) ra rb la lb)) (fun i _ => ls.length - (intOf i).toNat)
              case atStart => exact ⟨H, Nat.le_refl _, hHn, rfl, HT8, _, _, _, _, HK8⟩
              case round =>
                obtain ⟨k, hk1, hk2, rfl, HT, ra, rb, la, lb, HK⟩ := hrel
                clear HT8 HK8
                have hml := harms_le (stLog h p f l ls k)
                rw [stLog_len _ _ _ _ _ _ (by omega)] at hml
                by_cases hlt : k < ls.length
                · obtain ⟨b, o, rfl, hcell⟩ := HCell.out (fun e => by rw [e] at hlt; exact absurd hlt (Nat.not_lt_zero _))
                  have c0 := hcell k hlt _ (bstep HB1.out HK.out.a.bel)
                  have hsz := HAs.out k hlt
                  have hst := stLog_step h p f l ls k hlt
                  have hhm := stHarm_step h p f l ls k hlt
                  have hgo := gotAt_eq h p f l ls k hlt
                  obtain ⟨S, hS⟩ : ∃ S, bs ls[k] = S := ⟨_, rfl⟩
                  rw [hS] at c0 hsz hst hhm hgo
                  have hSS := hS
                  clear hcell hS
                  obtain ⟨j, hj⟩ : ∃ j, k = H + j := ⟨k - H, by omega⟩
                  have hjm : j < m := by have := HMM.out.2; omega
                  have HJ := Lib.hid hj
                  have hwr : IntKind.i64.wrap ((k : Int) - (H : Int)) = (j : Int) := by rw [IntKind.wrap_i64]; have := HLL.out; omega
                  clear hj
                  have hgt : ∀ hq, bs (TL[j]'hq) = gotAt h p f l ls k := fun hq => by
                    have := HTL.out
                    subst this
                    rw [heardL_get, HJ.out]
                  obtain ⟨g, c', hvv, -, -, -⟩ := own_cellsS HT.out j (by rw [HMM.out.1]; exact hjm)
                  injection hvv with e1 e2 e3
                  subst e1 e3
                  clear e2
                  generalize gotAt h p f l ls k = G at hgt hgo
                  have HT0 : Hid (Touch (LS P la) wr wr.drew) := Lib.hid (Touch.of_below (Below.refl _ _).drew)
                  have HKd := Lib.hid (HK.out.step (Below.refl _ _).drew)
                  have hask := HKd.out.a.ask HE1.out S (by omega) HFs.out (flt_ok HFO.out k) (by rw [List.length_drop]; omega) (by rw [stLog_len _ _ _ _ _ _ (by omega)]; omega) (by omega)
                  have HAsk : Hid (Calls Tryz.prog 16 #[.pointer (some ⟨P, 0, none⟩), .string S] wr.drew fun e w' => e = .returned (.string G) ∧ ∃ ra2 la2, K2 w1 w' P Q h p f (l.drop (k + 1)) (l.drop ls.length) (stLog h p f l ls (k + 1)) (stLog h p f l ls ls.length) (harmsK (stLog h p f l ls (k + 1))) (harmsK (stLog h p f l ls ls.length)) ra2 rb la2 lb ∧ Touch (LS P la) wr w') := Lib.hid (hask.mono (by
                    rintro e w' hka
                    obtain ⟨rfl, ra2, la2, hk3⟩ := HKd.out.asked hka
                    obtain ⟨-, _, _, -, ht, -⟩ := hka
                    rw [drop_tail, ← hst, ← hhm] at hk3
                    exact ⟨by rw [hgo], ra2, la2, hk3, HT0.out.trans ht (fun g hg => .inl hg)⟩))
                  have HC1 : Hid (∀ W, Below w1.heap.size w1 W → W.cell? ⟨b, o + k, none⟩ = some (.string S)) := Lib.hid (fun W hW => by have := HCell.out (fun e => by rw [e] at hlt; exact absurd hlt (Nat.not_lt_zero _)); obtain ⟨b', o', e1, h2⟩ := this; injection e1 with e1; injection e1 with e1 e2; subst e1 e2; rw [← hSS]; exact h2 k hlt _ (bstep HB1.out hW))
                  have HS5 : Hid (∀ W, Touch (LS P la) wr W → W.cell? ⟨b, o + k, none⟩ = some (.string S) ∧ W.cell? ⟨g, j, none⟩ = some (.string G)) := Lib.hid (fun W hW => ⟨HC1.out W (HK.out.a.bel.trans (hW.below HK.out.a.low HK.out.a.bel.size)), by
                    obtain ⟨g', c'', hvv', -, -, t0⟩ := own_cellsS (row_beside HK.out.a HT.out (by decide) (by decide) hW) j (by rw [HMM.out.1]; exact hjm)
                    injection hvv' with e1 e2 e3
                    injection e1 with e1
                    injection e1 with e1
                    subst e1
                    rw [hgt] at t0
                    exact t0⟩)
                  have hm20 : m ≤ 20 := by have := HMM.out.2; omega
                  clear hask hst hhm c0 hgo hgt hLN hsz hml hSS
                  go_wp2_with fail
                  go_region_held3 (fun w' => w'.cell? ⟨b, o + k, none⟩ = some (.string S) ∧ w'.cell? ⟨g, j, none⟩ = some (.string G)) (first | with_reducible exact HS5.out _ HT0.out | with_reducible exact HS5.out _ HT1.out)
                    (first
                      | (go_at_call 16; refine HAsk.out.mono ?_; rintro e wk ⟨rfl, ra2, la2, hk3, ht⟩; have HT1 := Lib.hid ht; have HK5 := Lib.hid hk3; clear hk3 ht))
                  have HT2 := Lib.hid (row_beside HK.out.a HT.out (by decide) (by decide) HT1.out)
                  clear HK HT HT0 HT1 HKd HAsk HS5 HC1
                  go_wp2_with fail
                  go_roundw
                  case rel => exact ⟨k + 1, by omega, by omega, by go_num, HT2, _, _, _, _, HK5⟩
                  case measure => simp [intOf]; omega
                · obtain rfl : k = ls.length := by omega
                  clear HT HTL HMM hml
                  have hL20 : (stLog h p f l ls ls.length).length ≤ 20 := by omega
                  generalize harmsK (stLog h p f l ls ls.length) = M at HK
                  generalize stLog h p f l ls ls.length = L at HK hL20 hLN
                  generalize l.drop ls.length = R at HK
                  clear hLN hLH hHn hk1
                  go_wp2_with fail
                  refine (link_log HK.out.a.a (by omega)).mono ?_
                  rintro e wp ⟨a9, c9, rfl, ho9, hb9⟩
                  have HK9 := Lib.hid (HK.out.step hb9)
                  have HO9 := Lib.hid ho9
                  clear hb9 ho9 HK
                  go_wp2_with fail
                  refine (law29_back _ _ _ _ HO9.out (by omega)).mono ?_
                  rintro e wq ⟨aA, cA, rfl, hoA, hbA⟩
                  have HKA := Lib.hid (HK9.out.step hbA)
                  have HOA := Lib.hid hoA
                  clear hbA hoA HK9 HO9
                  go_wp2_with fail
                  refine (link_log HKA.out.b.a (by omega)).mono ?_
                  rintro e ws ⟨aB, cB, rfl, hoB, hbB⟩
                  have HKB := Lib.hid (HKA.out.step hbB)
                  have HOB := Lib.hid hoB
                  have HOA2 := Lib.hid (row_step HOA.out hbB)
                  clear hbB hoB HKA HOA
                  go_wp2_with fail
                  refine (law29_back _ _ _ _ HOB.out (by omega)).mono ?_
                  rintro e wt ⟨aC, cC, rfl, hoC, hbC⟩
                  have HKC := Lib.hid (HKB.out.step hbC)
                  have HOC := Lib.hid hoC
                  have HOA3 := Lib.hid (row_step HOA2.out hbC)
                  clear hbC hoC HKB HOB HOA2
                  go_wp2_with fail
                  refine (same29 _ _ _ _ _ _ HOA3.out HOC.out (by omega)).mono ?_
                  rintro e wu ⟨rfl, hbD⟩
                  have HKD := Lib.hid (HKC.out.step hbD)
                  clear hbD HKC HOC HOA3
                  go_wp2_with fail
                  refine (link_left HKD.out.a.a).mono ?_
                  rintro e w' ⟨rfl, hww⟩
                  obtain rfl := hww.symm
                  clear hww
                  go_wp2_with fail
                  refine (link_left HKD.out.b.a).mono ?_
                  rintro e w' ⟨rfl, hww⟩
                  obtain rfl := hww.symm
                  clear hww
                  go_wp2_with fail
                  refine (link_harms HKD.out.a.a).mono ?_
                  rintro e w' ⟨rfl, hww⟩
                  obtain rfl := hww.symm
                  clear hww
                  go_wp2_with fail
                  refine (link_harms HKD.out.b.a).mono ?_
                  rintro e w' ⟨rfl, hww⟩
                  obtain rfl := hww.symm
                  clear hww
                  go_wp2_with fail
                  refine (awake29 _ (HE1.out.below HKD.out.a.bel)).mono ?_
                  rintro e wv ⟨rfl, hbE⟩
                  go_wp2_with fail
                  go_ret
                  exact ⟨rfl, bstep HB1.out (bstep HKD.out.a.bel hbE)⟩
  · have HNb := Lib.hid (fun v W => link_new_bad h p f v W hO)
    clear h1 h2 h3 b1 b2 b3 n0 hO n1
    go_wp2_with fail
    go_region_held3 (fun w' => w'.cell? ⟨w.heap.size, 0, none⟩ = some (.string h) ∧ w'.cell? ⟨w.heap.size, 1, none⟩ = some (.string p) ∧ w'.cell? ⟨w.heap.size, 2, none⟩ = some (.string f)) (first | exact HS.out _ HDr.out | exact HS.out _ HX1.out | exact HS.out _ HX2.out)
      (first
        | (go_at_call 13; refine (HFS.out _ (bstep HB1.out HDr.out) HLL.out).mono ?_; rintro e wa ⟨a1, c1, rfl, -, hba⟩; have HX1 : Hid (Below w1.heap.size w1 wa) := Lib.hid (bstep HDr.out hba); clear hba)
        | (go_at_call 12; refine (HNb.out _ _).mono ?_; rintro e wb ⟨rfl, hbb⟩; have HX2 : Hid (Below w1.heap.size w1 wb) := Lib.hid (bstep HX1.out hbb); clear hbb))
    all_goals
      go_wp2_with fail
      refine (awake29 _ (HE1.out.below HX2.out)).mono ?_
      rintro e wd ⟨rfl, hbd⟩
      go_wp2_with fail
      go_ret
      exact ⟨rfl, bstep HB1.out (bstep HX2.out hbd)⟩
end Go.Proofs.YthcomjhpjlcpdaaGreatDoor
namespace Go.Proofs.YthcomjhpjlcpdaaGreatDoor
open Go.RowKit
theorem linkForks_go (h p f : ByteArray) (v : Value) (l : List Flt) (u : Value) (ls : List (List UInt8)) (W : World) (_ : h.size ≤ maxLen) (_ : p.size ≤ maxLen) (_ : f.size ≤ maxLen) (hv : FaultsArg W v l) (hu : StrArg W u ls) (hL : laidMetH Tryz.prog Rows.linkForksRow.laid W) (hsh : W.ShapedOpen Tryz.prog) :
    Calls Tryz.prog 6 #[.agg #[.string h, .string p, .string f], v, u] W fun e W' => e = .returned (.bool true) ∧ Below W.heap.size W W' := by
  rw [MakeChecks.laidMetH_plain _ _ _ (by kernel_rfl)] at hL
  exact linkForks_walk h p f v u l ls W (env_of hL (by simp) hsh) hv hu
end Go.Proofs.YthcomjhpjlcpdaaGreatDoor
