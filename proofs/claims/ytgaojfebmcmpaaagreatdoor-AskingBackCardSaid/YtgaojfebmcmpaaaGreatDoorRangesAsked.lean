/- What Asked of package ranges returns. -/
import Derived.Test.YtgaojfebmcmpaaaGreatDoorRangesNums
namespace Go.Proofs.YtgaojfebmcmpaaaGreatDoor
open Go.RowKit

theorem load_range (w : World) (b : Nat) (t : TypeId) (x y : Value) (h : w.heap[b]? = some (.cells #[x, y] t (0, 0))) : (loadVar 30 ⟨b, 0, none⟩).run Tryz.prog w = .ok (.agg #[x, y]) w :=
  run_loadVar_row w b t 30 #[x, y] (0, 0) _ h Tryz.underlying30 rfl (by kernel_rfl)
theorem c_cutAt (s : ByteArray) (c : UInt8) (w : World) (hs : s.size ≤ 1000000) (hE : EnvF w) :
    Calls Tryz.prog 96 #[.string s, .string ⟨#[c]⟩] w fun e w' => e = .returned (.tuple #[.string (bs (if hasB c s.data.toList = true then upTo c s.data.toList else s.data.toList)), .string (bs (if hasB c s.data.toList = true then behind c s.data.toList else [])), .bool (hasB c s.data.toList)]) ∧ Below w.heap.size w w' := by
  obtain ⟨m, hm⟩ := hE.m
  refine (Tryz.strings_Cut s ⟨#[c]⟩ m w (by omega) hm).mono ?_
  rintro e w' ⟨rfl, n, rfl⟩
  refine ⟨?_, (fun n => by induction n with | zero => exact Below.refl _ _ | succ n ih => exact ih.drew : ∀ n, Below w.heap.size w (w.drewN n)) n⟩
  have h2 := cut_one c s.data.toList
  have h3 : Go.Lib.cut s.data.toList (ByteArray.mk #[c]).data.toList = Go.Lib.cut s.data.toList [c] := rfl
  rw [h3, h2]
  cases hasB c s.data.toList <;> rfl
theorem c_cutPre (s p : ByteArray) (w : World) :
    Calls Tryz.prog 95 #[.string s, .string p] w fun e w' => e = .returned (.tuple #[.string (bs (Lib.trimPrefix s.data.toList p.data.toList)), .bool (p.data.toList.isPrefixOf s.data.toList)]) ∧ w' = w := Tryz.strings_CutPrefix s p w
theorem numV_le' (l : List UInt8) : numV l ≤ 9007199254740991 := by
  unfold numV
  split
  · rename_i h
    unfold numE at h
    split at h
    · exact absurd h (by decide)
    · split at h
      · exact absurd h (by decide)
      · omega
  · exact Nat.zero_le _
theorem twoE_nums (a b : List UInt8) : numsE [a, b] = twoE a b := by
  show (if numE a ≠ 0 then numE a else if numE b ≠ 0 then numE b else 0) = _
  unfold twoE
  split
  · rfl
  · split <;> omega
def rcell (w : World) (b : Nat) (x y : Int) : Prop := w.heap[b]? = some (.cells #[.int .i64 x, .int .i64 y] 30 (0, 0))
theorem askedSplit (l : List UInt8) : askedOk l = (asksL.isPrefixOf l && hasB 45 (if asksL.isPrefixOf l = true then l.drop 6 else l)) := by
  unfold askedOk
  cases h : asksL.isPrefixOf l <;> simp
set_option maxRecDepth 100000 in
set_option maxHeartbeats 2000000 in
theorem ranges_asked (s : ByteArray) (w : World) (hs : s.size ≤ 1000000) (hE : EnvF w) :
    Calls Tryz.prog 118 #[.string s] w fun e w' => e = .returned (.tuple #[.agg #[.int .i64 (askedA s.data.toList), .int .i64 (askedB s.data.toList)], .int .i64 (askedE s.data.toList : Nat)]) ∧ Below w.heap.size w w' := by
  obtain ⟨L, hL⟩ : ∃ L, s.data.toList = L := ⟨_, rfl⟩
  have hLl : L.length ≤ 1000000 := by rw [← hL, size_len]; exact hs
  have HP := Lib.hid (fun w => c_cutPre s ⟨#[98, 121, 116, 101, 115, 61]⟩ w)
  rw [hL] at HP
  rw [hL]
  obtain ⟨R, hR⟩ : ∃ R, bs (Lib.trimPrefix L (ByteArray.mk #[98, 121, 116, 101, 115, 61]).data.toList) = R := ⟨_, rfl⟩
  have hRd : R.data.toList = if asksL.isPrefixOf L = true then L.drop 6 else L := by rw [← hR, bs_data]; rfl
  have hRs : R.size ≤ 1000000 := by rw [← size_len, hRd]; split <;> (try rw [List.length_drop]) <;> omega
  rw [hR, show (ByteArray.mk #[98, 121, 116, 101, 115, 61]).data.toList = asksL from rfl] at HP
  have HC := Lib.hid (fun w hE => c_cutAt R 45 w hRs hE)
  have HE := Lib.hid (hE.below ((Below.refl _ _).alloc (Nat.le_refl _) (.cells #[.int .i64 0, .int .i64 0] 30)))
  have hok := askedSplit L
  rw [← hRd] at hok
  clear hE hR
  cases hp : asksL.isPrefixOf L with
  | false =>
    rw [hp] at HP hok
    have HA : Hid (askedE L = 4 ∧ askedA L = 0 ∧ askedB L = 0) := Lib.hid (by
      have : askedE L = 4 := by unfold askedE; rw [hok]; rfl
      unfold askedA askedB; rw [this]; exact ⟨rfl, rfl, rfl⟩)
    generalize bs (if hasB 45 R.data.toList = true then upTo 45 R.data.toList else R.data.toList) = X at HC
    generalize bs (if hasB 45 R.data.toList = true then behind 45 R.data.toList else []) = Y at HC
    generalize hasB 45 R.data.toList = B at HC
    clear hok hp hRd
    go_enter Tryz.func118, Tryz.ntmps118
    go_wp2_with fail
    refine (HP.out _).mono ?_
    rintro e w' ⟨rfl, rfl⟩
    go_wp2_with fail
    refine (HC.out _ HE.out).mono ?_
    rintro e w1 ⟨rfl, hb1⟩
    obtain ⟨k0, k1, f0, f1⟩ := two_of (two_box hb1)
    go_wp2_with fail
    refine ret_field (b := w.heap.size) (x := .int .i64 0) (y := .int .i64 0) rfl (load_range _ _ _ _ _ (two_set (two_box hb1) _ _)) rfl rfl rfl ?_
    refine ⟨?_, two_below (((Below.refl _ _).alloc (Nat.le_refl _) _).trans (hb1.mono (by simp))) _ (Nat.le_refl _) _ _⟩
    rw [HA.out.1, HA.out.2.1, HA.out.2.2]; rfl
  | true =>
    rw [hp] at HP hok
    rw [hp, if_pos rfl] at hRd
    rw [hRd] at HC
    rw [hRd] at hok
    cases hB : hasB 45 (L.drop 6) with
    | false =>
      rw [hB] at HC hok
      have HA : Hid (askedE L = 4 ∧ askedA L = 0 ∧ askedB L = 0) := Lib.hid (by
        have : askedE L = 4 := by unfold askedE; rw [hok]; rfl
        unfold askedA askedB; rw [this]; exact ⟨rfl, rfl, rfl⟩)
      rw [if_neg (by decide), if_neg (by decide)] at HC
      generalize bs (L.drop 6) = X at HC
      generalize bs [] = Y at HC
      clear hok hp hRd hB
      go_enter Tryz.func118, Tryz.ntmps118
      go_wp2_with fail
      refine (HP.out _).mono ?_
      rintro e w' ⟨rfl, rfl⟩
      go_wp2_with fail
      refine (HC.out _ HE.out).mono ?_
      rintro e w1 ⟨rfl, hb1⟩
      obtain ⟨k0, k1, f0, f1⟩ := two_of (two_box hb1)
      go_wp2_with fail
      refine ret_field (b := w.heap.size) (x := .int .i64 0) (y := .int .i64 0) rfl (load_range _ _ _ _ _ (two_set (two_box hb1) _ _)) rfl rfl rfl ?_
      refine ⟨?_, two_below (((Below.refl _ _).alloc (Nat.le_refl _) _).trans (hb1.mono (by simp))) _ (Nat.le_refl _) _ _⟩
      rw [HA.out.1, HA.out.2.1, HA.out.2.2]; rfl
    | true =>
      rw [hB] at HC hok
      rw [if_pos rfl, if_pos rfl] at HC
      obtain ⟨F, hF⟩ : ∃ F, upTo 45 (L.drop 6) = F := ⟨_, rfl⟩
      obtain ⟨T, hT⟩ : ∃ T, behind 45 (L.drop 6) = T := ⟨_, rfl⟩
      have hFl : F.length ≤ 1000000 := by rw [← hF]; have := upTo_le 45 (L.drop 6); rw [List.length_drop] at this; omega
      have hTl : T.length ≤ 1000000 := by rw [← hT]; unfold behind; rw [List.length_drop, List.length_drop]; omega
      have HA : Hid (askedE L = if twoE F T ≠ 0 then twoE F T else rErr (numV F : Nat) (numV T : Nat)) := Lib.hid (by
        unfold askedE; rw [hok]
        rw [if_neg (by decide)]
        unfold askedF askedT
        rw [hF, hT])
      have HAV : Hid (askedF L = numV F ∧ askedT L = numV T) := Lib.hid (by unfold askedF askedT; rw [hF, hT]; exact ⟨rfl, rfl⟩)
      rw [hF, hT] at HC
      have hnum := ranges_numbers (xs := [F, T]) (hne := by simp) (hlen := by simp) (hx := by intro x hx; simp at hx; rcases hx with rfl | rfl <;> assumption)
      have HN := Lib.hid hnum
      clear hok hp hRd hB hF hT hnum
      by_cases hz : twoE F T = 0
      · have HZ : Hid (numsE [F, T] = 0 ∧ askedE L = rErr (numV F : Nat) (numV T : Nat)) := Lib.hid ⟨(twoE_nums F T).trans hz, by rw [HA.out, if_neg (fun h => h hz)]⟩
        have HF : Hid (∀ b, numV b ≤ 9007199254740991) := Lib.hid numV_le'
        obtain ⟨P, hP⟩ : ∃ P, numV F = P := ⟨_, rfl⟩
        obtain ⟨Q, hQ⟩ : ∃ Q, numV T = Q := ⟨_, rfl⟩
        have hPl := HF.out F
        have hQl := HF.out T
        rw [hP] at HZ HAV hPl
        rw [hQ] at HZ HAV hQl
        have HI : Hid ([F, T].map numV = [P, Q]) := Lib.hid (by rw [← hP, ← hQ]; rfl)
        have HCk := Lib.hid (fun w => ranges_check (P : Int) (Q : Int) w)
        clear hz HA HF hP hQ
        go_enter Tryz.func118, Tryz.ntmps118
        go_wp2_with fail
        refine (HP.out _).mono ?_
        rintro e w' ⟨rfl, rfl⟩
        go_wp2_with fail
        refine (HC.out _ HE.out).mono ?_
        rintro e w1 ⟨rfl, hb1⟩
        have hb1' := Lib.hid hb1
        have hbl : w.heap.size < w1.heap.size := by have := hb1.size; simp at this; omega
        clear hb1
        go_wp2_with fail
        have hS : HoldsS (w1.alloc (.cells #[.string (bs F), .string (bs T)] 9)) (.slice (some ⟨w1.heap.size, 0, none⟩) 2 2) [F, T] := HoldsS.of_block (heap_alloc_new _ _) rfl rfl
        have hbA : Below w1.heap.size w1 (w1.alloc (.cells #[.string (bs F), .string (bs T)] 9)) := (Below.refl _ _).alloc (Nat.le_refl _) _
        refine (HN.out _ _ hS ((HE.out.below hb1'.out).below hbA)).mono ?_
        rintro e w2 ⟨v, rfl, hI, hb2⟩
        rw [HZ.out.1]
        have hI2 := hI HZ.out.1
        rw [HI.out] at hI2
        obtain ⟨g, c, hv, -, hg, -, hcell⟩ := hI2
        have c0 := hcell 0 (by simp)
        have c1 := hcell 1 (by simp)
        have hv2 : v = .slice (some ⟨g, 0, none⟩) 2 c := hv
        clear hcell hv hI
        subst hv2
        have hb2' : Below (w.alloc (.cells #[.int .i64 0, .int .i64 0] 30)).heap.size (w.alloc (.cells #[.int .i64 0, .int .i64 0] 30)) w2 := bstep hb1'.out (bstep hbA hb2)
        clear hb2 hbA hS
        have HB2 := Lib.hid hb2'
        have hw2 : w.heap.size < w2.heap.size := by have := hb2'.size; simp at this; omega
        clear hb2'
        change w2.cell? ⟨g, 0, none⟩ = some (.int .i64 (P : Int)) at c0
        change w2.cell? ⟨g, 1, none⟩ = some (.int .i64 (Q : Int)) at c1
        go_wp2_with fail
        go_region
        all_goals go_wp2_with fail
        have hbR : Below w2.heap.size w2 (w2.alloc (.cells #[.int .i64 (P : Int), .int .i64 (Q : Int)] 30)).drew := ((Below.refl _ _).alloc (Nat.le_refl _) _).drew
        have hnR : (w2.alloc (.cells #[.int .i64 (P : Int), .int .i64 (Q : Int)] 30)).drew.heap[w2.heap.size]? = some (.cells #[.int .i64 (P : Int), .int .i64 (Q : Int)] 30 (0, 0)) := heap_alloc_new w2 _
        have hlR : w2.heap.size < (w2.alloc (.cells #[.int .i64 (P : Int), .int .i64 (Q : Int)] 30)).drew.heap.size := by simp
        refine (HCk.out _).mono ?_
        rintro e w3 ⟨rfl, hb3⟩
        obtain ⟨j0, j1, -, -⟩ := two_of ((hb3.block _ hlR).trans hnR)
        have hb3' : Below (w.alloc (.cells #[.int .i64 0, .int .i64 0] 30)).heap.size (w.alloc (.cells #[.int .i64 0, .int .i64 0] 30)) w3 := bstep HB2.out (bstep hbR hb3)
        obtain ⟨k0, k1, f0, f1⟩ := two_of (two_box hb3')
        clear hb3 hbR hnR hlR c0 c1
        have HB3 := Lib.hid hb3'
        clear hb3'
        by_cases hr : rErr (P : Int) (Q : Int) = 0
        · have HR : Hid (askedE L = 0 ∧ askedA L = (P : Int) ∧ askedB L = (Q : Int)) := Lib.hid (by
            have e1 : askedE L = 0 := by rw [HZ.out.2, hr]
            refine ⟨e1, ?_, ?_⟩
            · unfold askedA; rw [if_pos e1, HAV.out.1]
            · unfold askedB; rw [if_pos e1, HAV.out.2])
          rw [hr]
          clear hr
          go_wp2_with fail
          refine ret_field (b := w.heap.size) (x := .int .i64 (P : Int)) (y := .int .i64 (Q : Int)) rfl (load_range _ _ _ _ _ (two_set (two_box HB3.out) _ _)) rfl rfl rfl ?_
          refine ⟨?_, two_below (((Below.refl _ _).alloc (Nat.le_refl _) _).trans (HB3.out.mono (by simp))) _ (Nat.le_refl _) _ _⟩
          rw [HR.out.1, HR.out.2.1, HR.out.2.2]; rfl
        · have h8 := (rErr_no _ _ hr).1
          have HR : Hid (askedE L = 8 ∧ askedA L = 0 ∧ askedB L = 0) := Lib.hid (by
            have e1 : askedE L = 8 := by rw [HZ.out.2, h8]
            refine ⟨e1, ?_, ?_⟩
            · unfold askedA; rw [e1, if_neg (by decide)]
            · unfold askedB; rw [e1, if_neg (by decide)])
          rw [h8]
          clear hr h8
          go_wp2_with fail
          refine ret_field (b := w.heap.size) (x := .int .i64 0) (y := .int .i64 0) rfl (load_range _ _ _ _ _ (two_set (two_box HB3.out) _ _)) rfl rfl rfl ?_
          refine ⟨?_, two_below (((Below.refl _ _).alloc (Nat.le_refl _) _).trans (HB3.out.mono (by simp))) _ (Nat.le_refl _) _ _⟩
          rw [HR.out.1, HR.out.2.1, HR.out.2.2]; rfl
      · have HZ : Hid (numsE [F, T] = twoE F T ∧ askedE L = twoE F T ∧ askedA L = 0 ∧ askedB L = 0) := Lib.hid (by
          have e1 : askedE L = twoE F T := by rw [HA.out, if_pos hz]
          refine ⟨twoE_nums F T, e1, ?_, ?_⟩
          · unfold askedA; rw [e1, if_neg hz]
          · unfold askedB; rw [e1, if_neg hz])
        have tz : ((twoE F T : Int) != 0) = true := by rw [bne_iff_ne]; omega
        generalize twoE F T = Z at HZ tz
        clear hz HA HAV
        go_enter Tryz.func118, Tryz.ntmps118
        go_wp2_with fail
        refine (HP.out _).mono ?_
        rintro e w' ⟨rfl, rfl⟩
        go_wp2_with fail
        refine (HC.out _ HE.out).mono ?_
        rintro e w1 ⟨rfl, hb1⟩
        have hb1' := Lib.hid hb1
        have hbl : w.heap.size < w1.heap.size := by have := hb1.size; simp at this; omega
        clear hb1
        go_wp2_with fail
        have hS : HoldsS (w1.alloc (.cells #[.string (bs F), .string (bs T)] 9)) (.slice (some ⟨w1.heap.size, 0, none⟩) 2 2) [F, T] := HoldsS.of_block (heap_alloc_new _ _) rfl rfl
        have hbA : Below w1.heap.size w1 (w1.alloc (.cells #[.string (bs F), .string (bs T)] 9)) := (Below.refl _ _).alloc (Nat.le_refl _) _
        refine (HN.out _ _ hS ((HE.out.below hb1'.out).below hbA)).mono ?_
        rintro e w2 ⟨v, rfl, -, hb2⟩
        rw [HZ.out.1]
        have hb2' : Below (w.alloc (.cells #[.int .i64 0, .int .i64 0] 30)).heap.size (w.alloc (.cells #[.int .i64 0, .int .i64 0] 30)) w2 := bstep hb1'.out (bstep hbA hb2)
        obtain ⟨k0, k1, f0, f1⟩ := two_of (two_box hb2')
        clear hb2 hbA hS
        go_wp2_with fail
        refine ret_field (b := w.heap.size) (x := .int .i64 0) (y := .int .i64 0) rfl (load_range _ _ _ _ _ (two_set (two_box hb2') _ _)) rfl rfl rfl ?_
        refine ⟨?_, two_below (((Below.refl _ _).alloc (Nat.le_refl _) _).trans (hb2'.mono (by simp))) _ (Nat.le_refl _) _ _⟩
        rw [HZ.out.2.1, HZ.out.2.2.1, HZ.out.2.2.2]; rfl
end Go.Proofs.YtgaojfebmcmpaaaGreatDoor
