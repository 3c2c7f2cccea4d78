/- The law LinesBack of layer 21. -/
import Derived.Test.YtnfadmdndefanaaDoorLinesLaws
import Derived.Test.YtnfadmdndefanaaDoorLinesBackPlain
namespace Go.Proofs.YtnfadmdndefanaaDoor
open Go.RowKit

theorem bs_append (a b : List UInt8) : bs a ++ bs b = bs (a ++ b) := by
  have : (bs a ++ bs b).data.toList = a ++ b := by simp [bs]
  rw [← this, bs_self]
theorem bs_append_lit (a : List UInt8) : bs a ++ ⟨#[13, 10]⟩ = bs (a ++ [13, 10]) := bs_append a [13, 10]
theorem body_take (ls : List (List UInt8)) (k : Nat) (hk : k < ls.length) : body (ls.take (k + 1)) = body (ls.take k) ++ (ls[k] ++ [13, 10]) := by
  rw [List.take_succ_eq_append_getElem hk, body_append]; simp [body]
theorem good_take (ls : List (List UInt8)) (k : Nat) (hk : k < ls.length) (h : ∀ x ∈ ls.take k, goodLine x) (hg : goodLine ls[k]) : ∀ x ∈ ls.take (k + 1), goodLine x := by
  intro x hx
  rw [List.take_succ_eq_append_getElem hk, List.mem_append] at hx
  rcases hx with hx | hx
  · exact h x hx
  · simp at hx; subst hx; exact hg

set_option maxRecDepth 100000 in
set_option maxHeartbeats 4000000 in
theorem linesBack_walk (va : Value) (ls : List (List UInt8)) (beh : ByteArray) (c : Nat) (m : Int) (w : World) (hA : HoldsS w va ls) (hm : MaxLenIs w m) (hbeh : beh.size ≤ 9223372036854775807) (hls : ls.length ≤ 9223372036854775807)
    (hx : ∀ x ∈ ls, x.length ≤ 9223372036854775807) (hc : c < 65536) :
    Calls Tryd.prog 5 #[va, .string beh, .int .u16 c] w fun e w' => e = .returned (.bool true) ∧ Below w.heap.size w w' := by
  have Hm := Lib.hid hm
  clear hm
  have HA := Lib.hid hA
  obtain ⟨a, cap, rfl, hcap, hcells⟩ := hA
  by_cases h1 : (20 : Int) < (ls.length : Int)
  · go_enter Tryd.func5, Tryd.ntmps5
    go_wp2_with (go_at_call 12; refine (awake21 m _ Hm.out).mono ?_; rintro e w' ⟨rfl, hb⟩)
    go_ret
    exact ⟨rfl, by assumption⟩
  · by_cases h2 : (300 : Int) < (beh.size : Int)
    · go_enter Tryd.func5, Tryd.ntmps5
      go_wp2_with (go_at_call 12; refine (awake21 m _ Hm.out).mono ?_; rintro e w' ⟨rfl, hb⟩)
      go_ret
      exact ⟨rfl, by assumption⟩
    · have hd1 : decide ((20 : Int) < (ls.length : Int)) = false := by simpa using h1
      have hd2 : decide ((300 : Int) < (beh.size : Int)) = false := by simpa using h2
      have hd3 : decide (20 < ls.length) = false := by simp; omega
      have hd4 : decide (300 < beh.size) = false := by simp; omega
      have g1 : ls.length ≤ 20 := by omega
      have g2 : beh.size ≤ 300 := by omega
      clear h1 h2
      go_enter Tryd.func5, Tryd.ntmps5
      go_wp2_with fail
      go_loopw [7, 8] (fun sv j wr => ∃ (k : Nat) (S : ByteArray), k ≤ ls.length ∧ j = .int .i64 k ∧ sv = .string S ∧ S.size ≤ 2300 ∧ Hid (S = bs (body (ls.take k)) ∧ ∀ x ∈ ls.take k, goodLine x) ∧ Below w.heap.size w wr) (fun _ j _ => ls.length - (intOf j).toNat)
      case atStart => exact ⟨0, ⟨#[]⟩, by omega, rfl, rfl, by decide, Lib.hid ⟨rfl, fun x h => by simp at h⟩, Below.refl _ _⟩
      case round =>
        obtain ⟨k, S, hk, rfl, rfl, hS, HS, hb⟩ := hrel
        have Hm1 := Lib.hid (Hm.out.below hb)
        clear Hm
        by_cases hlt : k < ls.length
        · obtain ⟨bb, oo, rfl, hbb, hcs⟩ := hcells (by intro h; rw [h] at hlt; simp at hlt)
          have hcell := (hb.cell (p := ⟨bb, oo + k, none⟩) hbb).trans (hcs k hlt)
          have hxs := hx ls[k] (List.getElem_mem hlt)
          have hxs' : (bs ls[k]).size ≤ 9223372036854775807 := by rw [bs_size]; exact hxs
          have hbd := body_take ls k hlt
          have hgood := good_take ls k hlt HS.out.2
          obtain ⟨x, hxe⟩ : ∃ x, x = ls[k] := ⟨_, rfl⟩
          rw [← hxe] at hcell hxs' hbd hgood
          have Hbd := Lib.hid hbd
          have Hgood := Lib.hid hgood
          clear hbd hgood hcs hcells hxs hxe hx
          have hdx := bs_data x
          by_cases hE : putErr x = 0
          · have hP := putLine_bs x hE
            obtain ⟨hp1, hp2⟩ := putErr_good x hE
            have Hp1 := Lib.hid hp1
            clear hp1
            by_cases hx0 : x = []
            · subst hx0
              have he : (bs []).toList.isEmpty = true := by rw [isEmpty_bs]; rfl
              go_wp2_with (first
                | (go_at_call 15; refine (lines_put _ _ hxs').mono ?_; rintro e w' ⟨rfl, rfl⟩)
                | (go_at_call 12; refine (awake21 m _ Hm1.out).mono ?_; rintro e w' ⟨rfl, hb1⟩))
              go_ret
              exact ⟨rfl, bstep hb (by assumption)⟩
            · have he : (bs x).toList.isEmpty = false := by rw [isEmpty_bs]; cases x <;> simp_all
              have Hx0 := Lib.hid hx0
              clear hx0
              by_cases h2000 : (2000 : Int) < (S.size : Int)
              · go_wp2_with (first
                  | (go_at_call 15; refine (lines_put _ _ hxs').mono ?_; rintro e w' ⟨rfl, rfl⟩)
                  | (go_at_call 12; refine (awake21 m _ Hm1.out).mono ?_; rintro e w' ⟨rfl, hb1⟩))
                go_ret
                exact ⟨rfl, bstep hb (by assumption)⟩
              · have hsum : S.size + (bs (x ++ [13, 10])).size ≤ 9223372036854775807 := by rw [bs_size]; simp; omega
                go_wp2_with (go_at_call 15; refine (lines_put _ _ hxs').mono ?_; rintro e w' ⟨rfl, rfl⟩)
                go_roundw
                case rel =>
                  refine ⟨k + 1, S ++ bs (x ++ [13, 10]), by omega, by go_num, rfl, ?_, ?_, hb⟩
                  · rw [ByteArray.size_append, bs_size]; simp; omega
                  · refine Lib.hid ⟨?_, Hgood.out ⟨Hx0.out, Hp1.out, hp2⟩⟩
                    rw [HS.out.1, bs_append, Hbd.out]
                case measure => simp [intOf]; omega
          · have hP := putLine_bad x hE
            have hE' : (((putErr x : Nat) : Int) != 0) = true := by rw [bne_iff_ne]; omega
            have hE2 : (((putErr x : Nat) : Int) == 0) = false := by rw [beq_eq_false_iff_ne]; omega
            clear hE
            go_wp2_with (first
              | (go_at_call 15; refine (lines_put _ _ hxs').mono ?_; rintro e w' ⟨rfl, rfl⟩)
              | (go_at_call 12; refine (awake21 m _ Hm1.out).mono ?_; rintro e w' ⟨rfl, hb1⟩))
            go_ret
            exact ⟨rfl, bstep hb (by assumption)⟩
        · obtain rfl : k = ls.length := by omega
          have hS1 := HS.out.1
          have hgood := HS.out.2
          rw [List.take_length] at hS1 hgood
          clear HS
          have hsum : S.size + (ByteArray.mk #[13, 10]).size ≤ 9223372036854775807 := by show S.size + 2 ≤ _; omega
          have hT : S ++ ⟨#[13, 10]⟩ = bs (body ls ++ [13, 10]) := by rw [hS1, bs_append_lit]
          obtain ⟨T, hTT⟩ : ∃ T, T = S ++ ⟨#[13, 10]⟩ := ⟨_, rfl⟩
          have hTb : T.data.toList = body ls ++ [13, 10] := by rw [hTT, hT, bs_data]
          have hTs : T.size = (body ls).length + 2 := by rw [← size_len, hTb]; simp
          have hTs2 : T.size ≤ 2302 := by rw [hTT, ByteArray.size_append]; show S.size + 2 ≤ _; omega
          have hTs3 : 2 ≤ T.size := by omega
          have hsum2 : T.size + beh.size ≤ 9223372036854775807 := by omega
          have hTB : (T ++ beh).data.toList = [] ++ (body ls ++ 13 :: 10 :: beh.data.toList) := by
            rw [ByteArray.data_append, Array.toList_append, hTb]; simp
          have hTBs : (T ++ beh).size ≤ 9223372036854775807 := by rw [ByteArray.size_append]; exact hsum2
          by_cases h17 : 17 < ls.length
          · have hh : headOf (T ++ beh) = ([], 0, 21) := head_many (T ++ beh) beh.data.toList ls [] [] 18 hgood (by simpa using h17) (by simp) rfl hTB
            have Hh := Lib.hid hh
            have HT := Lib.hid hTT
            clear hh hTB hTb hTs hT hS1 hgood hcells hx
            go_wp2_with fail
            rw [← HT.out]
            refine (lines_head _ _ hTBs).mono ?_
            rintro e w1 ⟨v, rfl, hown, hb1⟩
            rw [Hh.out] at hown ⊢
            obtain ⟨av, cv, rfl⟩ := slice_of_own hown
            have hb2 := bstep hb hb1
            have Hm2 := Lib.hid (Hm1.out.below hb1)
            clear hown hb1 Hm1 hTT HT hb
            go_wp2_with (go_at_call 12; refine (awake21 m _ Hm2.out).mono ?_; rintro e w' ⟨rfl, hb1⟩)
            go_ret
            exact ⟨rfl, bstep hb2 (by assumption)⟩
          · have h17' : ls.length ≤ 17 := by omega
            have hh : headOf (T ++ beh) = (ls, (T.size : Int), 0) := by
              have := head_ok (T ++ beh) beh.data.toList ls [] [] 18 hgood (by simpa using h17') rfl hTB
              unfold headOf
              rw [hTs]
              simpa using this
            have hcut : headOf (T.extract 0 (c % T.size)) = ([], 0, 3) := by
              refine head_cut (T.extract 0 (c % T.size)) ls [] [] 18 (c % T.size) hgood (by simpa using h17') rfl ?_ ?_
              · rw [← hTs]; exact Nat.mod_lt _ (by omega)
              · rw [extract_bs, bs_data, hTb]; simp
            have hcs : (T.extract 0 (c % T.size)).size ≤ 9223372036854775807 := by
              rw [ByteArray.size_extract]; omega
            have Hh := Lib.hid hh
            have Hcut := Lib.hid hcut
            have HT := Lib.hid hTT
            have m0 : 0 ≤ (c : Int) % (T.size : Int) := Int.emod_nonneg _ (by omega)
            have m1 : (c : Int) % (T.size : Int) ≤ (T.size : Int) := Int.le_of_lt (Int.emod_lt_of_pos _ (by omega))
            have m2 : ((c : Int) % (T.size : Int)).toNat = c % T.size := by rw [← Int.natCast_emod]; rfl
            clear hh hTB hTb hTs hT hS1 hgood hcut
            go_wp2_with fail
            rw [← HT.out]
            refine (lines_head _ _ hTBs).mono ?_
            rintro e w1 ⟨v, rfl, hown, hb1⟩
            rw [Hh.out] at hown ⊢
            have hH := HoldsS.of_own hown
            obtain ⟨av, cv, rfl⟩ := slice_of_own hown
            have hb2 := bstep hb hb1
            have Hm2 := Lib.hid (Hm1.out.below hb1)
            clear hown hb1 Hm1 hTT HT hb
            go_wp2_with fail
            refine (lines_head _ _ hcs).mono ?_
            rintro e w2 ⟨v2, rfl, hown2, hb3⟩
            rw [Hcut.out] at hown2 ⊢
            obtain ⟨av2, cv2, rfl⟩ := slice_of_own hown2
            have hH2 := hH.below hb3
            have hb4 := bstep hb2 hb3
            have Hm3 := Lib.hid (Hm2.out.below hb3)
            have hA2 := HA.out.below hb4
            clear hown2 hb3 hH hb2 Hm2 Hh Hcut
            go_wp2_with fail
            refine (ref_same _ _ ls ls _ hH2 hA2 (by omega) (by omega)).mono ?_
            rintro e w3 ⟨rfl, hb5⟩
            have hb6 := bstep hb4 hb5
            have Hm4 := Lib.hid (Hm3.out.below hb5)
            clear hb5 hb4 Hm3 hH2 hA2
            go_wp2_with (go_at_call 12; refine (awake21 m _ Hm4.out).mono ?_; rintro e w' ⟨rfl, hb1⟩)
            go_ret
            exact ⟨rfl, bstep hb6 (by assumption)⟩
end Go.Proofs.YtnfadmdndefanaaDoor
