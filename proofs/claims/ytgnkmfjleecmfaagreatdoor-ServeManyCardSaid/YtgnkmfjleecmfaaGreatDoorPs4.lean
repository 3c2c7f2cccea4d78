/- What Asked of package ranges returns. What Ask of package ranges, and Ask, cut, two and Asked of its reference return. What cut, two and Asked of the reference of ranges return. What path and host of package asking, and of its reference, return. What Path and Host of the reference of asking return. Results that lie in a block. What Check of package asking, and of its reference, and the law's Own return. A text cut at its blanks: the words (no program in sight). The words of a line: what lines.Words and the reference's Words return; ref.Same. The lines of a head: what lines.Head and the reference's Head return. Lines laid one behind the other read as a head; cut anywhere they are too short (no program in sight). Plain laws: trimming blanks and tabs byte by byte; what a field is printed as (no program in sight). -/
import Derived.Test.YtgnkmfjleecmfaaGreatDoorPs3
import Derived.BigQuiet
import Derived.Outline
set_option linter.unusedVariables false
namespace Go.Proofs.YtgnkmfjleecmfaaGreatDoor
open Go.RowKit

theorem load_range (w : World) (b : Nat) (t : TypeId) (x y : Value) (h : w.heap[b]? = some (.cells #[x, y] t (0, 0))) : (loadVar 105 ⟨b, 0, none⟩).run Tryz.prog w = .ok (.agg #[x, y]) w :=
  run_loadVar_row w b t 105 #[x, y] (0, 0) _ h Tryz.underlying105 rfl (by kernel_rfl)
theorem c_cutAt (s : ByteArray) (c : UInt8) (w : World) (hs : s.size ≤ 1000000) (hE : EnvF w) :
    Calls Tryz.prog 130 #[.string s, .string ⟨#[c]⟩] w fun e w' => e = .returned (.tuple #[.string (bs (if hasB c s.data.toList = true then upTo c s.data.toList else s.data.toList)), .string (bs (if hasB c s.data.toList = true then behind c s.data.toList else [])), .bool (hasB c s.data.toList)]) ∧ Below w.heap.size w w' := by
  obtain ⟨m, hm⟩ := hE.m
  refine (Tryz.strings_Cut s ⟨#[c]⟩ m w (by omega) hm).mono ?_
  rintro e w' ⟨rfl, n, rfl⟩
  refine ⟨?_, (fun n => by induction n with | zero => exact Below.refl _ _ | succ n ih => exact ih.drew : ∀ n, Below w.heap.size w (w.drewN n)) n⟩
  have h2 := cut_one c s.data.toList
  have h3 : Go.Lib.cut s.data.toList (ByteArray.mk #[c]).data.toList = Go.Lib.cut s.data.toList [c] := rfl
  rw [h3, h2]
  cases hasB c s.data.toList <;> rfl
theorem c_cutPre (s p : ByteArray) (w : World) :
    Calls Tryz.prog 127 #[.string s, .string p] w fun e w' => e = .returned (.tuple #[.string (bs (Lib.trimPrefix s.data.toList p.data.toList)), .bool (p.data.toList.isPrefixOf s.data.toList)]) ∧ w' = w := Tryz.strings_CutPrefix s p w
theorem numV_le' (l : List UInt8) : numV l ≤ 9007199254740991 := by
  unfold numV
  split
  · rename_i h
    unfold numE at h
    split at h
    · exact absurd h (by decide)
    · split at h
      · exact absurd h (by decide)
      · omega
  · exact Nat.zero_le _
theorem twoE_nums (a b : List UInt8) : numsE [a, b] = twoE a b := by
  show (if numE a ≠ 0 then numE a else if numE b ≠ 0 then numE b else 0) = _
  unfold twoE
  split
  · rfl
  · split <;> omega
def rcell (w : World) (b : Nat) (x y : Int) : Prop := w.heap[b]? = some (.cells #[.int .i64 x, .int .i64 y] 105 (0, 0))
theorem askedSplit (l : List UInt8) : askedOk l = (asksL.isPrefixOf l && hasB 45 (if asksL.isPrefixOf l = true then l.drop 6 else l)) := by
  unfold askedOk
  cases h : asksL.isPrefixOf l <;> simp
set_option maxRecDepth 100000 in
set_option maxHeartbeats 2000000 in
theorem ranges_asked (s : ByteArray) (w : World) (hs : s.size ≤ 1000000) (hE : EnvF w) :
    Calls Tryz.prog 125 #[.string s] w fun e w' => e = .returned (.tuple #[.agg #[.int .i64 (askedA s.data.toList), .int .i64 (askedB s.data.toList)], .int .i64 (askedE s.data.toList : Nat)]) ∧ Below w.heap.size w w' := by
  obtain ⟨L, hL⟩ : ∃ L, s.data.toList = L := ⟨_, rfl⟩
  have hLl : L.length ≤ 1000000 := by rw [← hL, size_len]; exact hs
  have HP := Lib.hid (fun w => c_cutPre s ⟨#[98, 121, 116, 101, 115, 61]⟩ w)
  rw [hL] at HP
  rw [hL]
  obtain ⟨R, hR⟩ : ∃ R, bs (Lib.trimPrefix L (ByteArray.mk #[98, 121, 116, 101, 115, 61]).data.toList) = R := ⟨_, rfl⟩
  have hRd : R.data.toList = if asksL.isPrefixOf L = true then L.drop 6 else L := by rw [← hR, bs_data]; rfl
  have hRs : R.size ≤ 1000000 := by rw [← size_len, hRd]; split <;> (try rw [List.length_drop]) <;> omega
  rw [hR, show (ByteArray.mk #[98, 121, 116, 101, 115, 61]).data.toList = asksL from rfl] at HP
  have HC := Lib.hid (fun w hE => c_cutAt R 45 w hRs hE)
  have HE := Lib.hid (hE.below ((Below.refl _ _).alloc (Nat.le_refl _) (.cells #[.int .i64 0, .int .i64 0] 105)))
  have hok := askedSplit L
  rw [← hRd] at hok
  clear hE hR
  cases hp : asksL.isPrefixOf L with
  | false =>
    rw [hp] at HP hok
    have HA : Hid (askedE L = 4 ∧ askedA L = 0 ∧ askedB L = 0) := Lib.hid (by
      have : askedE L = 4 := by unfold askedE; rw [hok]; rfl
      unfold askedA askedB; rw [this]; exact ⟨rfl, rfl, rfl⟩)
    generalize bs (if hasB 45 R.data.toList = true then upTo 45 R.data.toList else R.data.toList) = X at HC
    generalize bs (if hasB 45 R.data.toList = true then behind 45 R.data.toList else []) = Y at HC
    generalize hasB 45 R.data.toList = B at HC
    clear hok hp hRd
    go_enter Tryz.func125, Tryz.ntmps125
    go_wp2_with fail
    refine (HP.out _).mono ?_
    rintro e w' ⟨rfl, rfl⟩
    go_wp2_with fail
    refine (HC.out _ HE.out).mono ?_
    rintro e w1 ⟨rfl, hb1⟩
    obtain ⟨k0, k1, f0, f1⟩ := two_of (two_box hb1)
    go_wp2_with fail
    refine ret_field (b := w.heap.size) (x := .int .i64 0) (y := .int .i64 0) rfl (load_range _ _ _ _ _ (two_set (two_box hb1) _ _)) rfl rfl rfl ?_
    refine ⟨?_, two_below (((Below.refl _ _).alloc (Nat.le_refl _) _).trans (hb1.mono (by simp))) _ (Nat.le_refl _) _ _⟩
    rw [HA.out.1, HA.out.2.1, HA.out.2.2]; rfl
  | true =>
    rw [hp] at HP hok
    rw [hp, if_pos rfl] at hRd
    rw [hRd] at HC
    rw [hRd] at hok
    cases hB : hasB 45 (L.drop 6) with
    | false =>
      rw [hB] at HC hok
      have HA : Hid (askedE L = 4 ∧ askedA L = 0 ∧ askedB L = 0) := Lib.hid (by
        have : askedE L = 4 := by unfold askedE; rw [hok]; rfl
        unfold askedA askedB; rw [this]; exact ⟨rfl, rfl, rfl⟩)
      rw [if_neg (by decide), if_neg (by decide)] at HC
      generalize bs (L.drop 6) = X at HC
      generalize bs [] = Y at HC
      clear hok hp hRd hB
      go_enter Tryz.func125, Tryz.ntmps125
      go_wp2_with fail
      refine (HP.out _).mono ?_
      rintro e w' ⟨rfl, rfl⟩
      go_wp2_with fail
      refine (HC.out _ HE.out).mono ?_
      rintro e w1 ⟨rfl, hb1⟩
      obtain ⟨k0, k1, f0, f1⟩ := two_of (two_box hb1)
      go_wp2_with fail
      refine ret_field (b := w.heap.size) (x := .int .i64 0) (y := .int .i64 0) rfl (load_range _ _ _ _ _ (two_set (two_box hb1) _ _)) rfl rfl rfl ?_
      refine ⟨?_, two_below (((Below.refl _ _).alloc (Nat.le_refl _) _).trans (hb1.mono (by simp))) _ (Nat.le_refl _) _ _⟩
      rw [HA.out.1, HA.out.2.1, HA.out.2.2]; rfl
    | true =>
      rw [hB] at HC hok
      rw [if_pos rfl, if_pos rfl] at HC
      obtain ⟨F, hF⟩ : ∃ F, upTo 45 (L.drop 6) = F := ⟨_, rfl⟩
      obtain ⟨T, hT⟩ : ∃ T, behind 45 (L.drop 6) = T := ⟨_, rfl⟩
      have hFl : F.length ≤ 1000000 := by rw [← hF]; have := upTo_le 45 (L.drop 6); rw [List.length_drop] at this; omega
      have hTl : T.length ≤ 1000000 := by rw [← hT]; unfold behind; rw [List.length_drop, List.length_drop]; omega
      have HA : Hid (askedE L = if twoE F T ≠ 0 then twoE F T else rErr (numV F : Nat) (numV T : Nat)) := Lib.hid (by
        unfold askedE; rw [hok]
        rw [if_neg (by decide)]
        unfold askedF askedT
        rw [hF, hT])
      have HAV : Hid (askedF L = numV F ∧ askedT L = numV T) := Lib.hid (by unfold askedF askedT; rw [hF, hT]; exact ⟨rfl, rfl⟩)
      rw [hF, hT] at HC
      have hnum := ranges_numbers (xs := [F, T]) (hne := by simp) (hlen := by simp) (hx := by intro x hx; simp at hx; rcases hx with rfl | rfl <;> assumption)
      have HN := Lib.hid hnum
      clear hok hp hRd hB hF hT hnum
      by_cases hz : twoE F T = 0
      · have HZ : Hid (numsE [F, T] = 0 ∧ askedE L = rErr (numV F : Nat) (numV T : Nat)) := Lib.hid ⟨(twoE_nums F T).trans hz, by rw [HA.out, if_neg (fun h => h hz)]⟩
        have HF : Hid (∀ b, numV b ≤ 9007199254740991) := Lib.hid numV_le'
        obtain ⟨P, hP⟩ : ∃ P, numV F = P := ⟨_, rfl⟩
        obtain ⟨Q, hQ⟩ : ∃ Q, numV T = Q := ⟨_, rfl⟩
        have hPl := HF.out F
        have hQl := HF.out T
        rw [hP] at HZ HAV hPl
        rw [hQ] at HZ HAV hQl
        have HI : Hid ([F, T].map numV = [P, Q]) := Lib.hid (by rw [← hP, ← hQ]; rfl)
        have HCk := Lib.hid (fun w => ranges_check (P : Int) (Q : Int) w)
        clear hz HA HF hP hQ
        go_enter Tryz.func125, Tryz.ntmps125
        go_wp2_with fail
        refine (HP.out _).mono ?_
        rintro e w' ⟨rfl, rfl⟩
        go_wp2_with fail
        refine (HC.out _ HE.out).mono ?_
        rintro e w1 ⟨rfl, hb1⟩
        have hb1' := Lib.hid hb1
        have hbl : w.heap.size < w1.heap.size := by have := hb1.size; simp at this; omega
        clear hb1
        go_wp2_with fail
        have hS : HoldsS (w1.alloc (.cells #[.string (bs F), .string (bs T)] 9)) (.slice (some ⟨w1.heap.size, 0, none⟩) 2 2) [F, T] := HoldsS.of_block (heap_alloc_new _ _) rfl rfl
        have hbA : Below w1.heap.size w1 (w1.alloc (.cells #[.string (bs F), .string (bs T)] 9)) := (Below.refl _ _).alloc (Nat.le_refl _) _
        refine (HN.out _ _ hS ((HE.out.below hb1'.out).below hbA)).mono ?_
        rintro e w2 ⟨v, rfl, hI, hb2⟩
        rw [HZ.out.1]
        have hI2 := hI HZ.out.1
        rw [HI.out] at hI2
        obtain ⟨g, c, hv, -, hg, -, hcell⟩ := hI2
        have c0 := hcell 0 (by simp)
        have c1 := hcell 1 (by simp)
        have hv2 : v = .slice (some ⟨g, 0, none⟩) 2 c := hv
        clear hcell hv hI
        subst hv2
        have hb2' : Below (w.alloc (.cells #[.int .i64 0, .int .i64 0] 105)).heap.size (w.alloc (.cells #[.int .i64 0, .int .i64 0] 105)) w2 := bstep hb1'.out (bstep hbA hb2)
        clear hb2 hbA hS
        have HB2 := Lib.hid hb2'
        have hw2 : w.heap.size < w2.heap.size := by have := hb2'.size; simp at this; omega
        clear hb2'
        change w2.cell? ⟨g, 0, none⟩ = some (.int .i64 (P : Int)) at c0
        change w2.cell? ⟨g, 1, none⟩ = some (.int .i64 (Q : Int)) at c1
        go_wp2_with fail
        go_region
        all_goals go_wp2_with fail
        have hbR : Below w2.heap.size w2 (w2.alloc (.cells #[.int .i64 (P : Int), .int .i64 (Q : Int)] 105)).drew := ((Below.refl _ _).alloc (Nat.le_refl _) _).drew
        have hnR : (w2.alloc (.cells #[.int .i64 (P : Int), .int .i64 (Q : Int)] 105)).drew.heap[w2.heap.size]? = some (.cells #[.int .i64 (P : Int), .int .i64 (Q : Int)] 105 (0, 0)) := heap_alloc_new w2 _
        have hlR : w2.heap.size < (w2.alloc (.cells #[.int .i64 (P : Int), .int .i64 (Q : Int)] 105)).drew.heap.size := by simp
        refine (HCk.out _).mono ?_
        rintro e w3 ⟨rfl, hb3⟩
        obtain ⟨j0, j1, -, -⟩ := two_of ((hb3.block _ hlR).trans hnR)
        have hb3' : Below (w.alloc (.cells #[.int .i64 0, .int .i64 0] 105)).heap.size (w.alloc (.cells #[.int .i64 0, .int .i64 0] 105)) w3 := bstep HB2.out (bstep hbR hb3)
        obtain ⟨k0, k1, f0, f1⟩ := two_of (two_box hb3')
        clear hb3 hbR hnR hlR c0 c1
        have HB3 := Lib.hid hb3'
        clear hb3'
        by_cases hr : rErr (P : Int) (Q : Int) = 0
        · have HR : Hid (askedE L = 0 ∧ askedA L = (P : Int) ∧ askedB L = (Q : Int)) := Lib.hid (by
            have e1 : askedE L = 0 := by rw [HZ.out.2, hr]
            refine ⟨e1, ?_, ?_⟩
            · unfold askedA; rw [if_pos e1, HAV.out.1]
            · unfold askedB; rw [if_pos e1, HAV.out.2])
          rw [hr]
          clear hr
          go_wp2_with fail
          refine ret_field (b := w.heap.size) (x := .int .i64 (P : Int)) (y := .int .i64 (Q : Int)) rfl (load_range _ _ _ _ _ (two_set (two_box HB3.out) _ _)) rfl rfl rfl ?_
          refine ⟨?_, two_below (((Below.refl _ _).alloc (Nat.le_refl _) _).trans (HB3.out.mono (by simp))) _ (Nat.le_refl _) _ _⟩
          rw [HR.out.1, HR.out.2.1, HR.out.2.2]; rfl
        · have h8 := (rErr_no _ _ hr).1
          have HR : Hid (askedE L = 8 ∧ askedA L = 0 ∧ askedB L = 0) := Lib.hid (by
            have e1 : askedE L = 8 := by rw [HZ.out.2, h8]
            refine ⟨e1, ?_, ?_⟩
            · unfold askedA; rw [e1, if_neg (by decide)]
            · unfold askedB; rw [e1, if_neg (by decide)])
          rw [h8]
          clear hr h8
          go_wp2_with fail
          refine ret_field (b := w.heap.size) (x := .int .i64 0) (y := .int .i64 0) rfl (load_range _ _ _ _ _ (two_set (two_box HB3.out) _ _)) rfl rfl rfl ?_
          refine ⟨?_, two_below (((Below.refl _ _).alloc (Nat.le_refl _) _).trans (HB3.out.mono (by simp))) _ (Nat.le_refl _) _ _⟩
          rw [HR.out.1, HR.out.2.1, HR.out.2.2]; rfl
      · have HZ : Hid (numsE [F, T] = twoE F T ∧ askedE L = twoE F T ∧ askedA L = 0 ∧ askedB L = 0) := Lib.hid (by
          have e1 : askedE L = twoE F T := by rw [HA.out, if_pos hz]
          refine ⟨twoE_nums F T, e1, ?_, ?_⟩
          · unfold askedA; rw [e1, if_neg hz]
          · unfold askedB; rw [e1, if_neg hz])
        have tz : ((twoE F T : Int) != 0) = true := by rw [bne_iff_ne]; omega
        generalize twoE F T = Z at HZ tz
        clear hz HA HAV
        go_enter Tryz.func125, Tryz.ntmps125
        go_wp2_with fail
        refine (HP.out _).mono ?_
        rintro e w' ⟨rfl, rfl⟩
        go_wp2_with fail
        refine (HC.out _ HE.out).mono ?_
        rintro e w1 ⟨rfl, hb1⟩
        have hb1' := Lib.hid hb1
        have hbl : w.heap.size < w1.heap.size := by have := hb1.size; simp at this; omega
        clear hb1
        go_wp2_with fail
        have hS : HoldsS (w1.alloc (.cells #[.string (bs F), .string (bs T)] 9)) (.slice (some ⟨w1.heap.size, 0, none⟩) 2 2) [F, T] := HoldsS.of_block (heap_alloc_new _ _) rfl rfl
        have hbA : Below w1.heap.size w1 (w1.alloc (.cells #[.string (bs F), .string (bs T)] 9)) := (Below.refl _ _).alloc (Nat.le_refl _) _
        refine (HN.out _ _ hS ((HE.out.below hb1'.out).below hbA)).mono ?_
        rintro e w2 ⟨v, rfl, -, hb2⟩
        rw [HZ.out.1]
        have hb2' : Below (w.alloc (.cells #[.int .i64 0, .int .i64 0] 105)).heap.size (w.alloc (.cells #[.int .i64 0, .int .i64 0] 105)) w2 := bstep hb1'.out (bstep hbA hb2)
        obtain ⟨k0, k1, f0, f1⟩ := two_of (two_box hb2')
        clear hb2 hbA hS
        go_wp2_with fail
        refine ret_field (b := w.heap.size) (x := .int .i64 0) (y := .int .i64 0) rfl (load_range _ _ _ _ _ (two_set (two_box hb2') _ _)) rfl rfl rfl ?_
        refine ⟨?_, two_below (((Below.refl _ _).alloc (Nat.le_refl _) _).trans (hb2'.mono (by simp))) _ (Nat.le_refl _) _ _⟩
        rw [HZ.out.2.1, HZ.out.2.2.1, HZ.out.2.2.2]; rfl
end Go.Proofs.YtgnkmfjleecmfaaGreatDoor
namespace Go.Proofs.YtgnkmfjleecmfaaGreatDoor
open Go.RowKit

theorem textR_len (a b : Int) (ha : a ≤ 9223372036854775807) (hb : b ≤ 9223372036854775807) : (textR a b).length ≤ 41 := by
  unfold textR
  have h1 := digL_len a ha
  have h2 := digL_len b hb
  rw [List.length_append, List.length_cons]; omega
theorem box_two {w w1 : World} {x y : Value} {t : TypeId} (hb : Below (w.alloc (.cells #[x, y] t)).heap.size (w.alloc (.cells #[x, y] t)) w1) : w1.cell? ⟨w.heap.size, 0, none⟩ = some x ∧ w1.cell? ⟨w.heap.size, 1, none⟩ = some y :=
  ⟨(two_of (two_box hb)).c0, (two_of (two_box hb)).c1⟩
theorem below_agg2 (w : World) (x y : Value) (t : TypeId) : Below w.heap.size w (w.alloc (.cells #[x, y] t)) := (Below.refl _ _).alloc (Nat.le_refl _) _
theorem ask_ok (a b : Int) (h : rErr a b = 0) (X : ByteArray) (hX : bs (textR a b) = X) : (⟨#[98, 121, 116, 101, 115, 61]⟩ : ByteArray) ++ X = bs (askL a b) := by
  unfold askL
  rw [if_pos h, ← hX]
  exact bs_cat asksL (textR a b)
set_option maxRecDepth 100000 in
set_option maxHeartbeats 1000000 in
theorem ref_ask (a b : Int) (w : World) (ha : a ≤ 9223372036854775807) (hb : b ≤ 9223372036854775807) :
    Calls Tryz.prog 49 #[.agg #[.int .i64 a, .int .i64 b]] w fun e w' => e = .returned (.tuple #[.string (bs (askL a b)), .int .i64 (rErr a b : Nat)]) ∧ Below w.heap.size w w' := by
  have HK := Lib.hid (fun w => ref_rcheck a b w)
  by_cases hr : rErr a b = 0
  · have HA := Lib.hid (fun w => ref_digitsZ a w ha)
    have HB := Lib.hid (fun w => ref_digitsZ b w hb)
    obtain ⟨X, hX⟩ : ∃ X, bs (digL a) = X := ⟨_, rfl⟩
    obtain ⟨Y, hY⟩ : ∃ Y, bs (digL b) = Y := ⟨_, rfl⟩
    have hXs : X.size ≤ 20 := by rw [← hX, bs_size]; exact digL_len a ha
    have hYs : Y.size ≤ 20 := by rw [← hY, bs_size]; exact digL_len b hb
    have HR : Hid (((⟨#[98, 121, 116, 101, 115, 61]⟩ ++ X) ++ ⟨#[45]⟩) ++ Y = bs (askL a b)) := Lib.hid (by
      unfold askL
      rw [if_pos hr, ← hX, ← hY, show (⟨#[98, 121, 116, 101, 115, 61]⟩ : ByteArray) = bs asksL from rfl, show (⟨#[45]⟩ : ByteArray) = bs [45] from rfl, bs_cat, bs_cat, bs_cat]
      unfold textR; simp)
    rw [hX] at HA
    rw [hY] at HB
    have p1 := fun w => run_string_add_sum (P := Tryz.prog) w ⟨#[98, 121, 116, 101, 115, 61]⟩ X (by show 6 + _ ≤ _; omega)
    have p2 := fun w => run_string_add_sum (P := Tryz.prog) w (⟨#[98, 121, 116, 101, 115, 61]⟩ ++ X) ⟨#[45]⟩ (by rw [ByteArray.size_append]; show 6 + _ + 1 ≤ _; omega)
    have p3 := fun w => run_string_add_sum (P := Tryz.prog) w ((⟨#[98, 121, 116, 101, 115, 61]⟩ ++ X) ++ ⟨#[45]⟩) Y (by rw [ByteArray.size_append, ByteArray.size_append]; show 6 + _ + 1 + _ ≤ _; omega)
    rw [hr]
    rw [hr] at HK
    clear hr hX hY
    go_enter Tryz.func49, Tryz.ntmps49
    go_wp2_with fail
    refine (HK.out _).mono ?_
    rintro e w1 ⟨rfl, hb1⟩
    obtain ⟨c0, c1⟩ := box_two hb1
    have hbl : w.heap.size < w1.heap.size := by have := hb1.size; simp at this; omega
    have hb1' := Lib.hid (bstep (below_agg2 w _ _ _) hb1)
    clear hb1
    go_wp2_with fail
    have k0 : ∀ p : BelowOf w1, p.world.cell? ⟨w.heap.size, 0, none⟩ = some (.int .i64 a) := fun p => cell_of p hbl c0
    have k1 : ∀ p : BelowOf w1, p.world.cell? ⟨w.heap.size, 1, none⟩ = some (.int .i64 b) := fun p => cell_of p hbl c1
    clear c0 c1
    refine wp_region_quiet_below (by kernel_rfl) (by kernel_rfl) ?_
    repeat (go_big_quiet_step (fail))
    go_big_quiet_step ((go_at_call 39; exact below_same (HA.out _)))
    repeat (go_big_quiet_step (fail))
    go_big_quiet_step ((go_at_call 39; exact below_same (HB.out _)))
    repeat (go_big_quiet_step (fail))
    refine wpQuiet_nil ?_
    intro W1 hw'
    have hb2 := of_class hw'
    clear hw'
    go_wp2_with fail
    go_ret2
    exact ⟨by rw [← HR.out]; rfl, bstep hb1'.out hb2⟩
  · obtain ⟨h8, -⟩ := rErr_no _ _ hr
    have HR : Hid (askL a b = []) := Lib.hid (by unfold askL; rw [if_neg hr])
    rw [h8]
    rw [h8] at HK
    clear hr h8
    go_enter Tryz.func49, Tryz.ntmps49
    go_wp2_with fail
    refine (HK.out _).mono ?_
    rintro e w1 ⟨rfl, hb1⟩
    go_wp2_with fail
    go_ret2
    exact ⟨by rw [HR.out]; rfl, bstep (below_agg2 w _ _ _) hb1⟩
end Go.Proofs.YtgnkmfjleecmfaaGreatDoor
namespace Go.Proofs.YtgnkmfjleecmfaaGreatDoor
open Go.RowKit

theorem upTo_at (c : UInt8) (l : List UInt8) (k : Nat) (hk : k < l.length) (h : ∀ j (hj : j < l.length), j < k → l[j] ≠ c) (hc : l[k] = c) : upTo c l = l.take k ∧ hasB c l = true ∧ behind c l = l.drop (k + 1) := by
  have e : upTo c l = l.take k := by
    unfold upTo
    conv => lhs; rw [← List.take_append_drop k l]
    rw [List.takeWhile_append_of_pos (by
      intro x hx
      obtain ⟨j, hj, rfl⟩ := List.getElem_of_mem hx
      rw [List.length_take] at hj
      rw [List.getElem_take]
      have := h j (by omega) (by omega)
      simpa using this)]
    rw [List.drop_eq_getElem_cons hk, List.takeWhile_cons_of_neg (by simp [hc]), List.append_nil]
  have hl : (upTo c l).length = k := by rw [e, List.length_take]; omega
  refine ⟨e, ?_, ?_⟩
  · unfold hasB; rw [hl]; exact decide_eq_true hk
  · unfold behind; rw [hl]
theorem upTo_none (c : UInt8) (l : List UInt8) (h : ∀ j (hj : j < l.length), l[j] ≠ c) : hasB c l = false := by
  have e : upTo c l = l := by
    unfold upTo
    have := @List.takeWhile_append_of_pos _ (fun x => x != c) l [] (by
      intro x hx
      obtain ⟨j, hj, rfl⟩ := List.getElem_of_mem hx
      simpa using h j hj)
    simpa using this
  unfold hasB; rw [e]; exact decide_eq_false (Nat.lt_irrefl _)
theorem load_rrange (w : World) (b : Nat) (t : TypeId) (x y : Value) (h : w.heap[b]? = some (.cells #[x, y] t (0, 0))) : (loadVar 56 ⟨b, 0, none⟩).run Tryz.prog w = .ok (.agg #[x, y]) w :=
  run_loadVar_row w b t 56 #[x, y] (0, 0) _ h Tryz.underlying56 rfl (by kernel_rfl)
/-- two numbers, if both are -/
def twoA (a b : List UInt8) : Nat := if twoE a b = 0 then numV a else 0
def twoB (a b : List UInt8) : Nat := if twoE a b = 0 then numV b else 0
theorem prefix_asks (l : List UInt8) (h : 6 ≤ l.length) : asksL.isPrefixOf l = (l.take 6 == asksL) := by
  rw [Bool.eq_iff_iff, beq_iff_eq, List.isPrefixOf_iff_prefix, List.prefix_iff_eq_take]
  exact ⟨fun e => e.symm, fun e => e.symm⟩
theorem prefix_short (l : List UInt8) (h : l.length < 6) : asksL.isPrefixOf l = false := by
  rw [Bool.eq_false_iff]
  intro hp
  have := (List.isPrefixOf_iff_prefix.1 hp).length_le
  have e : asksL.length = 6 := rfl
  omega
end Go.Proofs.YtgnkmfjleecmfaaGreatDoor
namespace Go.Proofs.YtgnkmfjleecmfaaGreatDoor
open Go.RowKit

def pathN (x : Nat) : Bool := decide (33 ≤ x) && decide (x ≤ 126)
def pathB (l : List UInt8) : Bool := [47].isPrefixOf l && decide (l.length ≤ 64) && l.all (fun c => pathN c.toNat)
def hostN (x : Nat) : Bool := letN x || digN x || x == 45 || x == 46
def hostB (l : List UInt8) : Bool := !l.isEmpty && decide (l.length ≤ 32) && l.all (fun c => hostN c.toNat)
theorem pathN_ge (x : Nat) (h : 128 ≤ x) : pathN x = false := by unfold pathN; rw [decide_eq_false (show ¬ x ≤ 126 by omega), Bool.and_false]
theorem hostN_ge (x : Nat) (h : 128 ≤ x) : hostN x = false := by
  unfold hostN letN digN
  rw [decide_eq_false (show ¬ x ≤ 122 by omega), decide_eq_false (show ¬ x ≤ 57 by omega), beq_eq_false_iff_ne.2 (show x ≠ 45 by omega), beq_eq_false_iff_ne.2 (show x ≠ 46 by omega), Bool.and_false, Bool.and_false]; rfl
theorem path1 (x : Nat) (w : World) : Calls Tryz.prog 145 #[.int .i32 (x : Int)] w fun e w' => e = .returned (.bool (!pathN x)) ∧ w' = w := by
  by_cases h1 : x ≤ 32
  · have H : Hid (pathN x = false) := Lib.hid (by unfold pathN; rw [decide_eq_false (by omega)]; rfl)
    have t1 : decide ((x : Int) ≤ 32) = true := decide_eq_true (by omega)
    go_enter Tryz.func145, Tryz.ntmps145
    go_wp2_with fail
    go_ret
    exact ⟨by rw [H.out]; rfl, rfl⟩
  have t1 : decide ((x : Int) ≤ 32) = false := decide_eq_false (by omega)
  by_cases h2 : 126 < x
  · have H : Hid (pathN x = false) := Lib.hid (by unfold pathN; rw [decide_eq_false (show ¬ x ≤ 126 by omega), Bool.and_false])
    have t2 : decide ((x : Int) > 126) = true := decide_eq_true (by omega)
    go_enter Tryz.func145, Tryz.ntmps145
    go_wp2_with fail
    go_ret
    exact ⟨by rw [H.out]; rfl, rfl⟩
  · have H : Hid (pathN x = true) := Lib.hid (by unfold pathN; rw [decide_eq_true (show x ≤ 126 by omega), decide_eq_true (show 33 ≤ x by omega)]; rfl)
    have t2 : decide ((x : Int) > 126) = false := decide_eq_false (by omega)
    go_enter Tryz.func145, Tryz.ntmps145
    go_wp2_with fail
    go_ret
    exact ⟨by rw [H.out]; rfl, rfl⟩
theorem hostN_of (x : Nat) (a b c d e f : Bool) (h1 : decide (97 ≤ x) = a) (h2 : decide (x ≤ 122) = b) (h3 : decide (48 ≤ x) = c) (h4 : decide (x ≤ 57) = d) (h5 : (x == 45) = e) (h6 : (x == 46) = f) : hostN x = ((a && b) || (c && d) || e || f) := by
  unfold hostN letN digN
  rw [h1, h2, h3, h4, h5, h6]
theorem dec_cast (x k : Nat) (a : Bool) (h : decide (k ≤ x) = a) : decide ((x : Int) ≥ (k : Int)) = a := by
  rw [← h]; exact decide_eq_decide.2 (by omega)
theorem dec_cast2 (x k : Nat) (a : Bool) (h : decide (x ≤ k) = a) : decide ((x : Int) ≤ (k : Int)) = a := by
  rw [← h]; exact decide_eq_decide.2 (by omega)
theorem beq_cast (x k : Nat) (a : Bool) (h : (x == k) = a) : ((x : Int) == (k : Int)) = a := by
  rw [← h, Bool.eq_iff_iff, beq_iff_eq, beq_iff_eq]; omega
set_option maxHeartbeats 8000000 in
theorem host1 (x : Nat) (w : World) : Calls Tryz.prog 147 #[.int .i32 (x : Int)] w fun e w' => e = .returned (.bool (!hostN x)) ∧ w' = w := by
  cases h1 : decide (97 ≤ x) <;> cases h2 : decide (x ≤ 122) <;> cases h3 : decide (48 ≤ x) <;> cases h4 : decide (x ≤ 57) <;> cases h5 : (x == 45) <;> cases h6 : (x == 46)
  all_goals
    have H := Lib.hid (hostN_of x _ _ _ _ _ _ h1 h2 h3 h4 h5 h6)
    have t1 : decide ((x : Int) ≥ 97) = _ := dec_cast x 97 _ h1
    have t2 : decide ((x : Int) ≤ 122) = _ := dec_cast2 x 122 _ h2
    have t3 : decide ((x : Int) ≥ 48) = _ := dec_cast x 48 _ h3
    have t4 : decide ((x : Int) ≤ 57) = _ := dec_cast2 x 57 _ h4
    have t5 : ((x : Int) == 45) = _ := beq_cast x 45 _ h5
    have t6 : ((x : Int) == 46) = _ := beq_cast x 46 _ h6
    clear h1 h2 h3 h4 h5 h6
    go_enter Tryz.func147, Tryz.ntmps147
    go_wp2_with fail
    go_ret
    exact ⟨by rw [H.out]; rfl, rfl⟩
theorem idx_path (s : ByteArray) (w : World) :
    Calls Tryz.prog 146 #[.string s, .func (.func 145) #[] #[]] w fun e w' => e = .returned (.int .i64 (Lib.idxFunc (fun x => !pathN x) true s)) ∧ Below w.heap.size w w' :=
  Tryz.strings_IndexFunc_grows 145 #[] (enters_of Tryz.func145 (by kernel_rfl) rfl) (fun x => !pathN x) s w
    (fun W x _ _ => (path1 x W).mono fun e w' ⟨he, hw⟩ => ⟨he, hw ▸ Below.refl _ _⟩)
theorem idx_host (s : ByteArray) (w : World) :
    Calls Tryz.prog 146 #[.string s, .func (.func 147) #[] #[]] w fun e w' => e = .returned (.int .i64 (Lib.idxFunc (fun x => !hostN x) true s)) ∧ Below w.heap.size w w' :=
  Tryz.strings_IndexFunc_grows 147 #[] (enters_of Tryz.func147 (by kernel_rfl) rfl) (fun x => !hostN x) s w
    (fun W x _ _ => (host1 x W).mono fun e w' ⟨he, hw⟩ => ⟨he, hw ▸ Below.refl _ _⟩)
theorem all_path_eq (s : ByteArray) : decide (Lib.idxFunc (fun x => !pathN x) true s < 0) = s.data.toList.all (fun c => pathN c.toNat) := by
  rw [idx_all _ (fun x h => by rw [pathN_ge x h]; rfl)]; simp
theorem all_host_eq (s : ByteArray) : decide (Lib.idxFunc (fun x => !hostN x) true s < 0) = s.data.toList.all (fun c => hostN c.toNat) := by
  rw [idx_all _ (fun x h => by rw [hostN_ge x h]; rfl)]; simp
theorem c_hasSlash (s : ByteArray) (w : World) : Calls Tryz.prog 16 #[.string s, .string ⟨#[47]⟩] w fun e w' => e = .returned (.bool ([47].isPrefixOf s.data.toList)) ∧ w' = w := Tryz.strings_HasPrefix s ⟨#[47]⟩ w
set_option maxHeartbeats 1000000 in
theorem asking_path (s : ByteArray) (w : World) :
    Calls Tryz.prog 111 #[.string s] w fun e w' => e = .returned (.bool (pathB s.data.toList)) ∧ Below w.heap.size w w' := by
  have HP := Lib.hid (fun w => c_hasSlash s w)
  have HB : Hid (pathB s.data.toList = ([47].isPrefixOf s.data.toList && decide (s.size ≤ 64) && s.data.toList.all (fun c => pathN c.toNat))) := Lib.hid (by unfold pathB; rw [size_len])
  have HI := Lib.hid (fun w => idx_path s w)
  have HA := Lib.hid (all_path_eq s)
  generalize s.data.toList.all (fun c => pathN c.toNat) = A at HA HB
  generalize Lib.idxFunc (fun x => !pathN x) true s = i at HA HI
  cases hp : [47].isPrefixOf s.data.toList with
  | false =>
    rw [hp] at HP HB
    clear hp
    go_enter Tryz.func111, Tryz.ntmps111
    go_wp2_with fail
    refine (HP.out _).mono ?_
    rintro e w' ⟨rfl, rfl⟩
    go_wp2_with fail
    go_ret
    exact ⟨by rw [HB.out]; rfl, Below.refl _ _⟩
  | true =>
    rw [hp] at HP HB
    clear hp
    by_cases hl : s.size ≤ 64
    · rw [decide_eq_true hl] at HB
      have tl : decide ((s.size : Int) ≤ 64) = true := decide_eq_true (by omega)
      go_enter Tryz.func111, Tryz.ntmps111
      go_wp2_with fail
      refine (HP.out _).mono ?_
      rintro e w' ⟨rfl, rfl⟩
      go_wp2_with fail
      refine (HI.out _).mono ?_
      rintro e w1 ⟨rfl, hb1⟩
      go_wp2_with fail
      go_ret
      exact ⟨by rw [HB.out, ← HA.out]; rfl, hb1⟩
    · rw [decide_eq_false hl] at HB
      have tl : decide ((s.size : Int) ≤ 64) = false := decide_eq_false (by omega)
      go_enter Tryz.func111, Tryz.ntmps111
      go_wp2_with fail
      refine (HP.out _).mono ?_
      rintro e w' ⟨rfl, rfl⟩
      go_wp2_with fail
      go_ret
      exact ⟨by rw [HB.out]; rfl, Below.refl _ _⟩
set_option maxHeartbeats 1000000 in
theorem asking_host (s : ByteArray) (w : World) :
    Calls Tryz.prog 112 #[.string s] w fun e w' => e = .returned (.bool (hostB s.data.toList)) ∧ Below w.heap.size w w' := by
  have HB : Hid (hostB s.data.toList = (!s.toList.isEmpty && decide (s.size ≤ 32) && s.data.toList.all (fun c => hostN c.toNat))) := Lib.hid (by unfold hostB; rw [size_len, ByteArray.toList_eq])
  have HI := Lib.hid (fun w => idx_host s w)
  have HA := Lib.hid (all_host_eq s)
  generalize s.data.toList.all (fun c => hostN c.toNat) = A at HA HB
  generalize Lib.idxFunc (fun x => !hostN x) true s = i at HA HI
  cases hp : s.toList.isEmpty with
  | true =>
    rw [hp] at HB
    go_enter Tryz.func112, Tryz.ntmps112
    go_wp2_with fail
    go_ret
    exact ⟨by rw [HB.out]; rfl, Below.refl _ _⟩
  | false =>
    rw [hp] at HB
    by_cases hl : s.size ≤ 32
    · rw [decide_eq_true hl] at HB
      have tl : decide ((s.size : Int) ≤ 32) = true := decide_eq_true (by omega)
      go_enter Tryz.func112, Tryz.ntmps112
      go_wp2_with fail
      refine (HI.out _).mono ?_
      rintro e w1 ⟨rfl, hb1⟩
      go_wp2_with fail
      go_ret
      exact ⟨by rw [HB.out, ← HA.out]; rfl, hb1⟩
    · rw [decide_eq_false hl] at HB
      have tl : decide ((s.size : Int) ≤ 32) = false := decide_eq_false (by omega)
      go_enter Tryz.func112, Tryz.ntmps112
      go_wp2_with fail
      go_ret
      exact ⟨by rw [HB.out]; rfl, Below.refl _ _⟩
end Go.Proofs.YtgnkmfjleecmfaaGreatDoor
namespace Go.Proofs.YtgnkmfjleecmfaaGreatDoor
open Go.RowKit

theorem all_iff (l : List UInt8) (p : Nat → Bool) (h : ∀ j (hj : j < l.length), p l[j].toNat = true) : l.all (fun c => p c.toNat) = true := by
  rw [List.all_eq_true]
  intro c hc
  obtain ⟨j, hj, rfl⟩ := List.getElem_of_mem hc
  exact h j hj
theorem all_not (l : List UInt8) (p : Nat → Bool) (j : Nat) (hj : j < l.length) (h : p l[j].toNat = false) : l.all (fun c => p c.toNat) = false := by
  rw [List.all_eq_false]
  exact ⟨l[j], List.getElem_mem hj, by rw [h]; decide⟩
theorem slash_iff (s : ByteArray) (h : 0 < s.size) : [47].isPrefixOf s.data.toList = (s[0] == 47) := by
  have := List.drop_eq_getElem_cons (l := s.data.toList) (i := 0) (by rw [size_len]; exact h)
  rw [List.drop_zero] at this
  rw [this]
  show ((47 : UInt8) == s[0] && true) = _
  rw [Bool.and_true, Bool.eq_iff_iff, beq_iff_eq, beq_iff_eq]
  exact ⟨fun e => e.symm, fun e => e.symm⟩
set_option maxRecDepth 100000 in
set_option maxHeartbeats 2000000 in
theorem ref_path (s : ByteArray) (w : World) (hs : s.size ≤ 9223372036854775807) :
    Calls Tryz.prog 77 #[.string s] w fun e w' => e = .returned (.bool (pathB s.data.toList)) ∧ w' = w := by
  obtain ⟨ANS, hANS⟩ : ∃ ANS, pathB s.data.toList = ANS := ⟨_, rfl⟩
  rw [hANS]
  have HANS := Lib.hid hANS
  clear hANS
  go_enter Tryz.func77, Tryz.ntmps77
  go_wp2_with fail
  go_loopg [3] s.size (fun gk s3 wx => ∃ k : Nat, s3 = .int .i64 (k : Int) ∧ wx = w ∧ k + gk = s.size ∧ Hid (∀ j (hj : j < s.data.toList.length), j < k → pathN s.data.toList[j].toNat = true))
  case atStart => exact ⟨0, by simp, rfl, by omega, Lib.hid (fun j hj h => absurd h (Nat.not_lt_zero _))⟩
  case round =>
    obtain ⟨k, rfl, rfl, hgk, HK⟩ := hrel
    by_cases hk : k < s.size
    · have tk : decide ((k : Int) < (s.size : Int)) = true := decide_eq_true (by omega)
      have hkl : k < s.data.toList.length := by rw [size_len]; exact hk
      have hge : s.data.toList[k] = s[k] := rfl
      by_cases hb : 33 ≤ s[k].toNat ∧ s[k].toNat ≤ 126
      · have t1 : decide ((s[k].toNat : Int) < 33) = false := decide_eq_false (by omega)
        have t2 : decide ((s[k].toNat : Int) > 126) = false := decide_eq_false (by omega)
        have HK2 : Hid (∀ j (hj : j < s.data.toList.length), j < k + 1 → pathN s.data.toList[j].toNat = true) := Lib.hid (fun j hj h => by
          by_cases e : j = k
          · subst e; rw [hge]; unfold pathN; rw [decide_eq_true hb.1, decide_eq_true hb.2]; rfl
          · exact HK.out j hj (by omega))
        obtain ⟨g', rfl⟩ : ∃ g', gk = g' + 1 := ⟨gk - 1, by omega⟩
        clear hge hb
        go_wp2_with fail
        go_roundg g'
        case measure => omega
        case rel => exact ⟨k + 1, by simp, rfl, by omega, HK2⟩
      · have HR : Hid (ANS = false) := Lib.hid (by
          rw [← HANS.out]; unfold pathB
          rw [all_not _ pathN k hkl (by
            rw [hge]; unfold pathN
            by_cases h1 : 33 ≤ s[k].toNat
            · rw [decide_eq_false (show ¬ s[k].toNat ≤ 126 from fun h => hb ⟨h1, h⟩), Bool.and_false]
            · rw [decide_eq_false h1]; rfl), Bool.and_false])
        by_cases h1 : s[k].toNat < 33
        · have t1 : decide ((s[k].toNat : Int) < 33) = true := decide_eq_true (by omega)
          clear hge hb
          go_wp2_with fail
          go_ret
          exact ⟨by rw [HR.out]; rfl, rfl⟩
        · have t1 : decide ((s[k].toNat : Int) < 33) = false := decide_eq_false (by omega)
          have t2 : decide ((s[k].toNat : Int) > 126) = true := decide_eq_true (by omega)
          clear hge hb
          go_wp2_with fail
          go_ret
          exact ⟨by rw [HR.out]; rfl, rfl⟩
    · obtain rfl : k = s.size := by omega
      have tk : decide ((s.size : Int) < (s.size : Int)) = false := decide_eq_false (by omega)
      have hall := all_iff s.data.toList pathN (fun j hj => HK.out j hj (by rw [size_len] at hj; exact hj))
      have hR : ANS = ([47].isPrefixOf s.data.toList && decide (s.size ≤ 64)) := by
        rw [← HANS.out]; unfold pathB; rw [hall, Bool.and_true, size_len]
      by_cases h0 : 0 < s.size
      · have t0 : decide ((s.size : Int) ≥ 1) = true := decide_eq_true (by omega)
        rw [slash_iff s h0] at hR
        by_cases h64 : s.size ≤ 64
        · have t64 : decide ((s.size : Int) ≤ 64) = true := decide_eq_true (by omega)
          rw [decide_eq_true h64, Bool.and_true] at hR
          have hq : ((s[0].toNat : Int) == 47) = ANS := by
            rw [hR, Bool.eq_iff_iff, beq_iff_eq, beq_iff_eq, ← UInt8.toNat_inj]
            exact ⟨fun h => by show _ = 47; omega, fun h => by have : s[0].toNat = 47 := h; omega⟩
          clear hR hall HK
          cases ANS
          all_goals
            go_wp2_with fail
            go_ret
            exact ⟨rfl, rfl⟩
        · have t64 : decide ((s.size : Int) ≤ 64) = false := decide_eq_false (by omega)
          rw [decide_eq_false h64, Bool.and_false] at hR
          have HR := Lib.hid hR
          clear hR hall HK
          go_wp2_with fail
          go_ret
          exact ⟨by rw [HR.out]; rfl, rfl⟩
      · have t0 : decide ((s.size : Int) ≥ 1) = false := decide_eq_false (by omega)
        have HR : Hid (ANS = false) := Lib.hid (by
          have hn : s.data.toList = [] := List.length_eq_zero_iff.1 (by rw [size_len]; omega)
          rw [hR, hn]; rfl)
        clear hR hall HK
        go_wp2_with fail
        go_ret
        exact ⟨by rw [HR.out]; rfl, rfl⟩
theorem dec_lt (x k : Nat) (a : Bool) (h : decide (k ≤ x) = a) : decide ((x : Int) < (k : Int)) = !a := by
  rw [← h, ← decide_not]; exact decide_eq_decide.2 (by omega)
theorem dec_gt (x k : Nat) (a : Bool) (h : decide (x ≤ k) = a) : decide ((x : Int) > (k : Int)) = !a := by
  rw [← h, ← decide_not]; exact decide_eq_decide.2 (by omega)
theorem bne_cast (x k : Nat) (a : Bool) (h : (x == k) = a) : ((x : Int) != (k : Int)) = !a := by
  rw [← beq_cast x k a h]; rfl
set_option maxRecDepth 100000 in
set_option maxHeartbeats 16000000 in
theorem ref_host (s : ByteArray) (w : World) (hs : s.size ≤ 9223372036854775807) :
    Calls Tryz.prog 78 #[.string s] w fun e w' => e = .returned (.bool (hostB s.data.toList)) ∧ w' = w := by
  obtain ⟨ANS, hANS⟩ : ∃ ANS, hostB s.data.toList = ANS := ⟨_, rfl⟩
  rw [hANS]
  have HANS := Lib.hid hANS
  clear hANS
  go_enter Tryz.func78, Tryz.ntmps78
  go_wp2_with fail
  go_loopg [3] s.size (fun gk s3 wx => ∃ k : Nat, s3 = .int .i64 (k : Int) ∧ wx = w ∧ k + gk = s.size ∧ Hid (∀ j (hj : j < s.data.toList.length), j < k → hostN s.data.toList[j].toNat = true))
  case atStart => exact ⟨0, by simp, rfl, by omega, Lib.hid (fun j hj h => absurd h (Nat.not_lt_zero _))⟩
  case round =>
    obtain ⟨k, rfl, rfl, hgk, HK⟩ := hrel
    by_cases hk : k < s.size
    · have tk : decide ((k : Int) < (s.size : Int)) = true := decide_eq_true (by omega)
      have hkl : k < s.data.toList.length := by rw [size_len]; exact hk
      have hge : s.data.toList[k] = s[k] := rfl
      obtain ⟨g', rfl⟩ : ∃ g', gk = g' + 1 := ⟨gk - 1, by omega⟩
      have HG : Hid (hostN s[k].toNat = true → ∀ j (hj : j < s.data.toList.length), j < k + 1 → hostN s.data.toList[j].toNat = true) := Lib.hid (fun hb j hj h => by
        by_cases e : j = k
        · subst e; rw [hge]; exact hb
        · exact HK.out j hj (by omega))
      have HF : Hid (hostN s[k].toNat = false → ANS = false) := Lib.hid (fun hb => by
        rw [← HANS.out]; unfold hostB
        rw [all_not _ hostN k hkl (by rw [hge]; exact hb), Bool.and_false])
      clear hge
      cases h1 : decide (97 ≤ s[k].toNat) <;> cases h2 : decide (s[k].toNat ≤ 122) <;> cases h3 : decide (48 ≤ s[k].toNat) <;> cases h4 : decide (s[k].toNat ≤ 57) <;> cases h5 : (s[k].toNat == 45) <;> cases h6 : (s[k].toNat == 46)
      all_goals
        have H := Lib.hid (hostN_of s[k].toNat _ _ _ _ _ _ h1 h2 h3 h4 h5 h6)
        have t1 : decide ((s[k].toNat : Int) < 97) = _ := dec_lt _ 97 _ h1
        have t2 : decide ((s[k].toNat : Int) > 122) = _ := dec_gt _ 122 _ h2
        have t3 : decide ((s[k].toNat : Int) < 48) = _ := dec_lt _ 48 _ h3
        have t4 : decide ((s[k].toNat : Int) > 57) = _ := dec_gt _ 57 _ h4
        have t5 : ((s[k].toNat : Int) != 45) = _ := bne_cast _ 45 _ h5
        have t6 : ((s[k].toNat : Int) != 46) = _ := bne_cast _ 46 _ h6
        simp only [Bool.not_false, Bool.not_true] at t1 t2 t3 t4 t5 t6
        clear h1 h2 h3 h4 h5 h6
        go_wp2_with fail
        first
          | (go_ret; exact ⟨by rw [HF.out (by rw [H.out]; rfl)]; rfl, rfl⟩)
          | skip
      all_goals
        go_roundg g'
        case measure => omega
        case rel => exact ⟨k + 1, by simp, rfl, by omega, Lib.hid (HG.out (by rw [H.out]; rfl))⟩
    · obtain rfl : k = s.size := by omega
      have tk : decide ((s.size : Int) < (s.size : Int)) = false := decide_eq_false (by omega)
      have hall := all_iff s.data.toList hostN (fun j hj => HK.out j hj (by rw [size_len] at hj; exact hj))
      have hR : ANS = (!s.data.toList.isEmpty && decide (s.size ≤ 32)) := by
        rw [← HANS.out]; unfold hostB; rw [hall, Bool.and_true, size_len]
      by_cases h0 : 0 < s.size
      · have t0 : decide ((s.size : Int) ≥ 1) = true := decide_eq_true (by omega)
        have hne : s.data.toList.isEmpty = false := by
          rw [List.isEmpty_eq_false_iff]; intro e; have := congrArg List.length e; rw [size_len, List.length_nil] at this; omega
        rw [hne] at hR
        by_cases h32 : s.size ≤ 32
        · have t32 : decide ((s.size : Int) ≤ 32) = true := decide_eq_true (by omega)
          rw [decide_eq_true h32] at hR
          have HR : Hid (ANS = true) := Lib.hid hR
          clear hR hall HK hne
          go_wp2_with fail
          go_ret
          exact ⟨by rw [HR.out]; rfl, rfl⟩
        · have t32 : decide ((s.size : Int) ≤ 32) = false := decide_eq_false (by omega)
          rw [decide_eq_false h32] at hR
          have HR : Hid (ANS = false) := Lib.hid hR
          clear hR hall HK hne
          go_wp2_with fail
          go_ret
          exact ⟨by rw [HR.out]; rfl, rfl⟩
      · have t0 : decide ((s.size : Int) ≥ 1) = false := decide_eq_false (by omega)
        have HR : Hid (ANS = false) := Lib.hid (by
          have hn : s.data.toList = [] := List.length_eq_zero_iff.1 (by rw [size_len]; omega)
          rw [hR, hn]; rfl)
        clear hR hall HK
        go_wp2_with fail
        go_ret
        exact ⟨by rw [HR.out]; rfl, rfl⟩
end Go.Proofs.YtgnkmfjleecmfaaGreatDoor
namespace Go.Proofs.YtgnkmfjleecmfaaGreatDoor
open Go.RowKit

theorem kcell {W w1 : World} (hb : Below W.heap.size W w1) : (∀ b o, b < W.heap.size → w1.cell? ⟨b, o, none⟩ = W.cell? ⟨b, o, none⟩) ∧ (∀ b o, b < W.heap.size → w1.frozen? ⟨b, o, none⟩ = W.frozen? ⟨b, o, none⟩) :=
  ⟨fun b o h => hb.cell (p := ⟨b, o, none⟩) h, fun b o h => hb.frozen (p := ⟨b, o, none⟩) h⟩
theorem ret_cell {fn : Func} {R : Ending → World → Prop} {a : Act} {w : World} {A : Addr} {V : Value} {p : Tmp} {ty : TypeId} (hres : fn.results = #[.cell p ty])
    (hload : (loadVar ty A).run Tryz.prog w = .ok V w)
    (hp : a.tmps.getD p undef = .pointer (some A)) (hdef : a.defers = [])
    (hR : R (.returned V) w) : bodyPost Tryz.prog fn R .ret a w := by
  refine bodyPost_ret_by (v := V) ?_ hdef hR
  have hp' : a.tmps[p]?.getD undef = .pointer (some A) := by simpa using hp
  simp [results, hres, hp', asAddr, hload]
theorem ret_cell2 {fn : Func} {R : Ending → World → Prop} {a : Act} {w : World} {A : Addr} {V E : Value} {p u : Tmp} {ty : TypeId} (hres : fn.results = #[.cell p ty, .tmp u])
    (hload : (loadVar ty A).run Tryz.prog w = .ok V w)
    (hp : a.tmps.getD p undef = .pointer (some A)) (hE : a.tmps.getD u undef = E) (hdef : a.defers = [])
    (hR : R (.returned (.tuple #[V, E])) w) : bodyPost Tryz.prog fn R .ret a w := by
  refine bodyPost_ret_by (v := .tuple #[V, E]) ?_ hdef hR
  rw [results_cell_tmp hres, hp, hE]
  simp [asAddr, hload, Result.andThen]
theorem ret_cell3 {fn : Func} {R : Ending → World → Prop} {a : Act} {w : World} {A : Addr} {V E F : Value} {p u v : Tmp} {ty : TypeId} (hres : fn.results = #[.cell p ty, .tmp u, .tmp v])
    (hload : (loadVar ty A).run Tryz.prog w = .ok V w)
    (hp : a.tmps.getD p undef = .pointer (some A)) (hE : a.tmps.getD u undef = E) (hF : a.tmps.getD v undef = F) (hdef : a.defers = [])
    (hR : R (.returned (.tuple #[V, E, F])) w) : bodyPost Tryz.prog fn R .ret a w := by
  refine bodyPost_ret_by (v := .tuple #[V, E, F]) ?_ hdef hR
  have hp' : a.tmps[p]?.getD undef = .pointer (some A) := by simpa using hp
  have hE' : a.tmps[u]?.getD undef = E := by simpa using hE
  have hF' : a.tmps[v]?.getD undef = F := by simpa using hF
  simp [results, hres, hp', hE', hF', asAddr, hload, Result.andThen]
end Go.Proofs.YtgnkmfjleecmfaaGreatDoor
namespace Go.Proofs.YtgnkmfjleecmfaaGreatDoor
open Go.RowKit

/-- may a request be? -/
def aErr (p h : List UInt8) (a b : Int) : Nat := if pathB p = false ∨ hostB h = false then 2 else rErr a b
theorem box4 (w : World) (x y z u : Value) (t : TypeId) : (w.alloc (.cells #[x, y, z, u] t)).cell? ⟨w.heap.size, 0, none⟩ = some x ∧ (w.alloc (.cells #[x, y, z, u] t)).cell? ⟨w.heap.size, 1, none⟩ = some y ∧ (w.alloc (.cells #[x, y, z, u] t)).cell? ⟨w.heap.size, 2, none⟩ = some z ∧ (w.alloc (.cells #[x, y, z, u] t)).cell? ⟨w.heap.size, 3, none⟩ = some u := by
  have hh := heap_alloc_new w (.cells #[x, y, z, u] t)
  refine ⟨?_, ?_, ?_, ?_⟩ <;> (unfold World.cell?; rw [hh]; rfl)
theorem below_agg4 (w : World) (x y z u : Value) (t : TypeId) : Below w.heap.size w (w.alloc (.cells #[x, y, z, u] t)) := (Below.refl _ _).alloc (Nat.le_refl _) _
theorem box_four {w w1 : World} {x y z u : Value} {t : TypeId} (hb : Below (w.alloc (.cells #[x, y, z, u] t)).heap.size (w.alloc (.cells #[x, y, z, u] t)) w1) : w1.cell? ⟨w.heap.size, 0, none⟩ = some x ∧ w1.cell? ⟨w.heap.size, 1, none⟩ = some y ∧ w1.cell? ⟨w.heap.size, 2, none⟩ = some z ∧ w1.cell? ⟨w.heap.size, 3, none⟩ = some u := by
  obtain ⟨a, b, c, d⟩ := box4 w x y z u t
  exact ⟨(hb.cell (p := ⟨w.heap.size, 0, none⟩) (by simp)).trans a, (hb.cell (p := ⟨w.heap.size, 1, none⟩) (by simp)).trans b, (hb.cell (p := ⟨w.heap.size, 2, none⟩) (by simp)).trans c, (hb.cell (p := ⟨w.heap.size, 3, none⟩) (by simp)).trans d⟩
set_option maxRecDepth 100000 in
set_option maxHeartbeats 1000000 in
theorem asking_check (p h : ByteArray) (a b : Int) (w : World) :
    Calls Tryz.prog 76 #[.agg #[.string p, .string h, .int .i64 a, .int .i64 b]] w fun e w' => e = .returned (.int .i64 (aErr p.data.toList h.data.toList a b : Nat)) ∧ Below w.heap.size w w' := by
  have HP := Lib.hid (fun w => asking_path p w)
  have HH := Lib.hid (fun w => asking_host h w)
  have HC := Lib.hid (fun w => ranges_check a b w)
  cases hp : pathB p.data.toList with
  | false =>
    have HR : Hid (aErr p.data.toList h.data.toList a b = 2) := Lib.hid (if_pos (.inl hp))
    rw [hp] at HP
    clear hp
    go_enter Tryz.func76, Tryz.ntmps76
    go_wp2_with fail
    refine (HP.out _).mono ?_
    rintro e w1 ⟨rfl, hb1⟩
    go_wp2_with fail
    go_ret
    exact ⟨by rw [HR.out]; rfl, bstep (below_agg4 w _ _ _ _ _) hb1⟩
  | true =>
    rw [hp] at HP
    cases hh : hostB h.data.toList with
    | false =>
      have HR : Hid (aErr p.data.toList h.data.toList a b = 2) := Lib.hid (if_pos (.inr hh))
      rw [hh] at HH
      clear hp hh
      go_enter Tryz.func76, Tryz.ntmps76
      go_wp2_with fail
      refine (HP.out _).mono ?_
      rintro e w1 ⟨rfl, hb1⟩
      obtain ⟨c0, c1, c2, c3⟩ := box_four hb1
      have HB1 := Lib.hid (bstep (below_agg4 w _ _ _ _ _) hb1)
      clear hb1
      go_wp2_with fail
      refine (HH.out _).mono ?_
      rintro e w2 ⟨rfl, hb2⟩
      go_wp2_with fail
      go_ret
      exact ⟨by rw [HR.out]; rfl, bstep HB1.out hb2⟩
    | true =>
      have HR : Hid (aErr p.data.toList h.data.toList a b = rErr a b) := Lib.hid (if_neg (fun e => e.elim (fun e => by rw [hp] at e; exact absurd e (by decide)) (fun e => by rw [hh] at e; exact absurd e (by decide))))
      rw [hh] at HH
      clear hp hh
      go_enter Tryz.func76, Tryz.ntmps76
      go_wp2_with fail
      refine (HP.out _).mono ?_
      rintro e w1 ⟨rfl, hb1⟩
      obtain ⟨c0, c1, c2, c3⟩ := box_four hb1
      have HB1 := Lib.hid hb1
      clear hb1
      go_wp2_with fail
      refine (HH.out _).mono ?_
      rintro e w2 ⟨rfl, hb2⟩
      have HB2 := Lib.hid (bstep HB1.out hb2)
      obtain ⟨c0, c1, c2, c3⟩ := box_four HB2.out
      clear hb2
      go_wp2_with fail
      refine (HC.out _).mono ?_
      rintro e w3 ⟨rfl, hb3⟩
      go_wp2_with fail
      go_ret
      exact ⟨by rw [HR.out]; rfl, bstep (below_agg4 w _ _ _ _ _) (bstep HB2.out hb3)⟩
set_option maxRecDepth 100000 in
set_option maxHeartbeats 1000000 in
theorem ref_acheck (p h : ByteArray) (a b : Int) (w : World) (hps : p.size ≤ 9223372036854775807) (hhs : h.size ≤ 9223372036854775807) :
    Calls Tryz.prog 48 #[.agg #[.string p, .string h, .int .i64 a, .int .i64 b]] w fun e w' => e = .returned (.int .i64 (aErr p.data.toList h.data.toList a b : Nat)) ∧ Below w.heap.size w w' := by
  have HP := Lib.hid (fun w => ref_path p w hps)
  have HH := Lib.hid (fun w => ref_host h w hhs)
  have HC := Lib.hid (fun w => ref_rcheck a b w)
  cases hp : pathB p.data.toList with
  | false =>
    have HR : Hid (aErr p.data.toList h.data.toList a b = 2) := Lib.hid (if_pos (.inl hp))
    rw [hp] at HP
    clear hp
    go_enter Tryz.func48, Tryz.ntmps48
    go_wp2_with fail
    refine (HP.out _).mono ?_
    rintro e w' ⟨rfl, rfl⟩
    go_wp2_with fail
    go_ret
    exact ⟨by rw [HR.out]; rfl, below_agg4 w _ _ _ _ _⟩
  | true =>
    rw [hp] at HP
    cases hh : hostB h.data.toList with
    | false =>
      have HR : Hid (aErr p.data.toList h.data.toList a b = 2) := Lib.hid (if_pos (.inr hh))
      rw [hh] at HH
      clear hp hh
      go_enter Tryz.func48, Tryz.ntmps48
      go_wp2_with fail
      refine (HP.out _).mono ?_
      rintro e w' ⟨rfl, rfl⟩
      go_wp2_with fail
      refine (HH.out _).mono ?_
      rintro e w' ⟨rfl, rfl⟩
      go_wp2_with fail
      go_ret
      exact ⟨by rw [HR.out]; rfl, below_agg4 w _ _ _ _ _⟩
    | true =>
      have HR : Hid (aErr p.data.toList h.data.toList a b = rErr a b) := Lib.hid (if_neg (fun e => e.elim (fun e => by rw [hp] at e; exact absurd e (by decide)) (fun e => by rw [hh] at e; exact absurd e (by decide))))
      rw [hh] at HH
      clear hp hh
      go_enter Tryz.func48, Tryz.ntmps48
      go_wp2_with fail
      refine (HP.out _).mono ?_
      rintro e w' ⟨rfl, rfl⟩
      go_wp2_with fail
      refine (HH.out _).mono ?_
      rintro e w' ⟨rfl, rfl⟩
      go_wp2_with fail
      refine (HC.out _).mono ?_
      rintro e w3 ⟨rfl, hb3⟩
      go_wp2_with fail
      go_ret
      exact ⟨by rw [HR.out]; rfl, bstep (below_agg4 w _ _ _ _ _) hb3⟩
theorem load_req (w : World) (b : Nat) (t : TypeId) (x y z u : Value) (h : w.heap[b]? = some (.cells #[x, y, z, u] t (0, 0))) : (loadVar 107 ⟨b, 0, none⟩).run Tryz.prog w = .ok (.agg #[x, y, z, u]) w :=
  run_loadVar_row w b t 107 #[x, y, z, u] (0, 0) _ h Tryz.underlying107 rfl (by kernel_rfl)
theorem load_rreq (w : World) (b : Nat) (t : TypeId) (x y z u : Value) (h : w.heap[b]? = some (.cells #[x, y, z, u] t (0, 0))) : (loadVar 58 ⟨b, 0, none⟩).run Tryz.prog w = .ok (.agg #[x, y, z, u]) w :=
  run_loadVar_row w b t 58 #[x, y, z, u] (0, 0) _ h Tryz.underlying58 rfl (by kernel_rfl)
theorem four_set {w : World} {b : Nat} {x y z u : Value} {t : TypeId} (h : w.heap[b]? = some (.cells #[x, y, z, u] t (0, 0))) (x' y' z' u' : Value) :
    ((((w.setCell ⟨b, 0, none⟩ x').setCell ⟨b, 1, none⟩ y').setCell ⟨b, 2, none⟩ z').setCell ⟨b, 3, none⟩ u').heap[b]? = some (.cells #[x', y', z', u'] t (0, 0)) := by
  simp [World.setCell, Array.getElem?_modify, h]
theorem four_below {B : Nat} {w0 w : World} (h : Below B w0 w) (b : Nat) (hB : B ≤ b) (x' y' z' u' : Value) : Below B w0 ((((w.setCell ⟨b, 0, none⟩ x').setCell ⟨b, 1, none⟩ y').setCell ⟨b, 2, none⟩ z').setCell ⟨b, 3, none⟩ u') :=
  (((h.setCell (p := ⟨b, 0, none⟩) hB _).setCell (p := ⟨b, 1, none⟩) hB _).setCell (p := ⟨b, 2, none⟩) hB _).setCell (p := ⟨b, 3, none⟩) hB _
end Go.Proofs.YtgnkmfjleecmfaaGreatDoor
namespace Go.Proofs.YtgnkmfjleecmfaaGreatDoor

def words : List UInt8 → List (List UInt8)
  | [] => [[]]
  | c :: r => if c = 32 then [] :: words r else match words r with
    | w :: ws => (c :: w) :: ws
    | [] => [[c]]

theorem words_ne (l : List UInt8) : words l ≠ [] := by
  cases l with
  | nil => simp [words]
  | cons c r =>
    unfold words
    split
    · simp
    · split <;> simp

/-- bytes put ahead of the first word -/
def addPre (p : List UInt8) : List (List UInt8) → List (List UInt8)
  | [] => [p]
  | w :: t => (p ++ w) :: t

theorem addPre_nil (l : List UInt8) : addPre [] (words l) = words l := by
  cases h : words l with
  | nil => exact absurd h (words_ne l)
  | cons w t => rfl

theorem addPre_blank (p r : List UInt8) : addPre p (words (32 :: r)) = p :: words r := by
  rw [words, if_pos rfl]; simp [addPre]

theorem addPre_other (p r : List UInt8) (c : UInt8) (hc : c ≠ 32) : addPre p (words (c :: r)) = addPre (p ++ [c]) (words r) := by
  rw [words, if_neg hc]
  cases h : words r with
  | nil => exact absurd h (words_ne r)
  | cons w t => simp [addPre]

open Go.Lib in
theorem index_cons (c : UInt8) (r : List UInt8) : index (c :: r) [32] = if c = 32 then 0 else if index r [32] == -1 then -1 else index r [32] + 1 := by
  by_cases h : c = 32
  · subst h
    unfold index
    simp
  · rw [if_neg h]
    have h0 : [(32 : UInt8)].isPrefixOf (c :: r) = false := by simp [List.isPrefixOf]; exact fun e => h e.symm
    rw [index.eq_def]
    simp only [h0]
    rfl

open Go.Lib in
theorem split_words (l : List UInt8) : split l [32] = words l := by
  induction l with
  | nil => rfl
  | cons c r ih =>
    by_cases hc : c = 32
    · have hi : index (c :: r) [32] = (0 : Nat) := by rw [index_cons, if_pos hc]; rfl
      unfold split
      rw [count_hit (by simp) hi, Nat.add_comm, splitK, if_neg (by rw [hi]; decide), hi, words, if_pos hc, ← ih]
      rfl
    · rw [words, if_neg hc]
      rcases index_spec r [32] with ⟨hm, _⟩ | ⟨i, hi, _⟩
      · have h1 : index (c :: r) [32] = -1 := by rw [index_cons, if_neg hc, hm]; rfl
        have e1 : split (c :: r) [32] = [c :: r] := by unfold split; rw [count_miss h1]; rfl
        have e2 : split r [32] = [r] := by unfold split; rw [count_miss hm]; rfl
        rw [e1, ← ih, e2]
      · have h1 : index (c :: r) [32] = ((i + 1 : Nat) : Int) := by
          rw [index_cons, if_neg hc, hi, if_neg (by simp <;> omega)]; rfl
        have e1 : split (c :: r) [32] = (c :: r.take i) :: splitK [32] 0 (count (r.drop (i + 1)) [32]) (r.drop (i + 1)) := by
          unfold split
          rw [count_hit (by simp) h1, Nat.add_comm, splitK, if_neg (by rw [h1]; simp <;> omega), h1]
          rfl
        have e2 : split r [32] = (r.take i) :: splitK [32] 0 (count (r.drop (i + 1)) [32]) (r.drop (i + 1)) := by
          unfold split
          rw [count_hit (by simp) hi, Nat.add_comm, splitK, if_neg (by rw [hi]; simp <;> omega), hi]
          rfl
        rw [e1, ← ih, e2]

open Go.Lib in
/-- what strings.Split lays, cut at a blank. -/
theorem splitB_words (s : ByteArray) : (splitB ⟨#[32]⟩ 0 (countB s ⟨#[32]⟩) s).map Value.string = strs (words s.data.toList) := by
  have h := splitB_data ⟨#[32]⟩ 0 (countB s ⟨#[32]⟩) s
  have h2 : splitK (⟨#[32]⟩ : ByteArray).data.toList 0 (countB s ⟨#[32]⟩) s.data.toList = words s.data.toList := split_words s.data.toList
  rw [h2] at h
  unfold strs
  rw [← h, List.map_map]
  apply List.map_congr_left
  intro x _
  simp only [Function.comp_apply, bs_self]

open Go.Lib in
theorem countB_words (s : ByteArray) : countB s ⟨#[32]⟩ + 1 = (words s.data.toList).length := by
  have h := splitB_words s
  have h2 := congrArg List.length h
  rw [strs_length, List.length_map] at h2
  rw [← h2]
  have h3 := splitB_data ⟨#[32]⟩ 0 (countB s ⟨#[32]⟩) s
  have key : ∀ l : List UInt8, (split l [32]).length = count l [32] + 1 := by
    intro l
    induction l with
    | nil => rfl
    | cons c r ih =>
      rcases index_spec (c :: r) [32] with ⟨hm, _⟩ | ⟨i, hi, _⟩
      · have e1 : split (c :: r) [32] = [c :: r] := by unfold split; rw [count_miss hm]; rfl
        rw [e1, count_miss hm]; rfl
      · by_cases hc : c = 32
        · have hi0 : index (c :: r) [32] = (0 : Nat) := by rw [index_cons, if_pos hc]; rfl
          have e2 : split (c :: r) [32] = [] :: split r [32] := by
            unfold split
            rw [count_hit (by simp) hi0, Nat.add_comm, splitK, if_neg (by rw [hi0]; decide), hi0]; rfl
          rw [e2, count_hit (by simp) hi0, List.length_cons, ih]
          show _ = 1 + count r [32] + 1
          omega
        · rcases index_spec r [32] with ⟨hm, _⟩ | ⟨j, hj, _⟩
          · have h1 : index (c :: r) [32] = -1 := by rw [index_cons, if_neg hc, hm]; rfl
            rw [h1] at hi; omega
          · have h1 : index (c :: r) [32] = ((j + 1 : Nat) : Int) := by
              rw [index_cons, if_neg hc, hj, if_neg (by simp <;> omega)]; rfl
            have e1 : split (c :: r) [32] = (c :: r.take j) :: splitK [32] 0 (count (r.drop (j + 1)) [32]) (r.drop (j + 1)) := by
              unfold split
              rw [count_hit (by simp) h1, Nat.add_comm, splitK, if_neg (by rw [h1]; simp <;> omega), h1]
              rfl
            have e2 : split r [32] = (r.take j) :: splitK [32] 0 (count (r.drop (j + 1)) [32]) (r.drop (j + 1)) := by
              unfold split
              rw [count_hit (by simp) hj, Nat.add_comm, splitK, if_neg (by rw [hj]; simp <;> omega), hj]
              rfl
            have e3 : count (c :: r) [32] = count r [32] := by
              rw [count_hit (by simp) h1, count_hit (by simp) hj]; rfl
            rw [e1, e3, ← ih, e2]; rfl
  have h4 := key s.data.toList
  have h5 := congrArg List.length h3
  rw [List.length_map] at h5
  rw [h5]
  exact h4.symm
end Go.Proofs.YtgnkmfjleecmfaaGreatDoor
namespace Go.Proofs.YtgnkmfjleecmfaaGreatDoor
open Go.RowKit

theorem words_blank (l : List UInt8) (a i : Nat) (hi : i < l.length) (h : l[i] = 32) (xs : List (List UInt8)) (hw : words l = xs ++ addPre ((l.take i).drop a) (words (l.drop i))) :
    words l = (xs ++ [(l.take i).drop a]) ++ addPre ((l.take (i + 1)).drop (i + 1)) (words (l.drop (i + 1))) := by
  rw [List.drop_eq_getElem_cons hi, h, addPre_blank] at hw
  rw [hw, show (l.take (i + 1)).drop (i + 1) = [] from List.drop_of_length_le (List.length_take_le _ _), addPre_nil]
  simp
theorem words_other (l : List UInt8) (a i : Nat) (ha : a ≤ i) (hi : i < l.length) (h : l[i] ≠ 32) (xs : List (List UInt8)) (hw : words l = xs ++ addPre ((l.take i).drop a) (words (l.drop i))) :
    words l = xs ++ addPre ((l.take (i + 1)).drop a) (words (l.drop (i + 1))) := by
  rw [List.drop_eq_getElem_cons hi, addPre_other _ _ _ h] at hw
  rw [hw, List.take_succ_eq_append_getElem hi, List.drop_append_of_le_length (by simp; omega)]
theorem words_end (l : List UInt8) (a : Nat) (xs : List (List UInt8)) (hw : words l = xs ++ addPre ((l.take l.length).drop a) (words (l.drop l.length))) : words l = xs ++ [l.drop a] := by
  rw [List.drop_length, List.take_length] at hw
  rw [hw]; simp [words, addPre]

end Go.Proofs.YtgnkmfjleecmfaaGreatDoor
namespace Go.Proofs.YtgnkmfjleecmfaaGreatDoor
open Go.RowKit

def headR : Nat → ByteArray → Int → List (List UInt8) → List (List UInt8) × Int × Nat
  | 0, _, _, _ => ([], 0, 21)
  | f + 1, s, a, xs => if takeErr s a ≠ 0 then ([], 0, takeErr s a) else if (takeLine s a).toList.isEmpty = true then (xs, takeNext s a, 0)
      else if xs.length = 17 then ([], 0, 21) else headR f s (takeNext s a) (xs ++ [(takeLine s a).data.toList])
/-- the lines of a head, the place behind it, and the error. -/
def headOf (s : ByteArray) : List (List UInt8) × Int × Nat := headR 18 s 0 []

theorem headR_err (f : Nat) (s : ByteArray) (a : Int) (xs : List (List UInt8)) (h : takeErr s a ≠ 0) : headR (f + 1) s a xs = ([], 0, takeErr s a) := by rw [headR, if_pos h]
theorem headR_end (f : Nat) (s : ByteArray) (a : Int) (xs : List (List UInt8)) (h : takeErr s a = 0) (h2 : (takeLine s a).toList.isEmpty = true) : headR (f + 1) s a xs = (xs, takeNext s a, 0) := by
  rw [headR, if_neg (by simp [h]), if_pos h2]
theorem headR_many (f : Nat) (s : ByteArray) (a : Int) (xs : List (List UInt8)) (h : takeErr s a = 0) (h2 : (takeLine s a).toList.isEmpty = false) (h3 : xs.length = 17) : headR (f + 1) s a xs = ([], 0, 21) := by
  rw [headR, if_neg (by simp [h]), if_neg (by simp [h2]), if_pos h3]
theorem headR_more (f : Nat) (s : ByteArray) (a : Int) (xs : List (List UInt8)) (h : takeErr s a = 0) (h2 : (takeLine s a).toList.isEmpty = false) (h3 : xs.length ≠ 17) : headR (f + 1) s a xs = headR f s (takeNext s a) (xs ++ [(takeLine s a).data.toList]) := by
  rw [headR, if_neg (by simp [h]), if_neg (by simp [h2]), if_neg h3]

/-- the answer of a head, as it lies in memory. -/
def HeadPost (s : ByteArray) (w : World) (e : Ending) (w' : World) : Prop :=
  ∃ v, e = .returned (.tuple #[v, .int .i64 (headOf s).2.1, .int .i64 (headOf s).2.2]) ∧ w'.ownsRow w.heap.size 9 1 v (headOf s).1.length (strs (headOf s).1) ∧ Below w.heap.size w w'

def HeadRel (s : ByteArray) (w : World) (v j : Value) (wr : World) : Prop :=
  ∃ (a : Int) (xs : List (List UInt8)), xs.length ≤ 17 ∧ j = .int .i64 a ∧ wr.ownsRow w.heap.size 9 1 v xs.length (strs xs) ∧ Below w.heap.size w wr ∧ headR (18 - xs.length) s a xs = headOf s

theorem head_fin (s : ByteArray) (w w' : World) (v : Value) (n : Int) (e : Nat) (xs : List (List UInt8)) (h : headOf s = (xs, n, e)) (hown : w'.ownsRow w.heap.size 9 1 v xs.length (strs xs)) (hb : Below w.heap.size w w') :
    HeadPost s w (.returned (.tuple #[v, .int .i64 n, .int .i64 e])) w' := by
  unfold HeadPost
  rw [h]
  exact ⟨v, rfl, hown, hb⟩

theorem slice_of_own {w : World} {base n : Nat} {e : TypeId} {size : Nat} {v : Value} {xs : List Value} (h : w.ownsRow base e size v n xs) : ∃ a c, v = .slice a n c := by
  rcases h.2 with ⟨rfl, rfl⟩ | ⟨g, cap, cur, rfl, _⟩
  · exact ⟨_, _, rfl⟩
  · exact ⟨_, _, rfl⟩

def headM (v : Value) : Nat := match v with
  | .slice _ n _ => 18 - n
  | _ => 0

set_option maxRecDepth 100000 in
set_option maxHeartbeats 2000000 in
theorem lines_head (s : ByteArray) (w : World) (hs : s.size ≤ 9223372036854775807) :
    Calls Tryz.prog 30 #[.string s] w (HeadPost s w) := by
  go_enter Tryz.func30, Tryz.ntmps30
  go_wp2_with fail
  go_loopw [2, 5] (fun v j wr => HeadRel s w v j wr) (fun v _ _ => headM v)
  case atStart => exact ⟨0, [], by simp, rfl, World.ownsRow_nil _ _ _ _, Below.refl _ _, rfl⟩
  case round =>
    obtain ⟨a, xs, hx, rfl, hown, hb, hr⟩ := hrel
    obtain ⟨av, cv, rfl⟩ := slice_of_own hown
    obtain ⟨f, hf⟩ : ∃ f, 18 - xs.length = f + 1 := ⟨17 - xs.length, by omega⟩
    rw [hf] at hr
    by_cases he : takeErr s a = 0
    · have he' : ((takeErr s a : Nat) : Int) = 0 := by omega
      by_cases hl : (takeLine s a).toList.isEmpty = true
      · have H := Lib.hid ((headR_end f s a xs he hl).symm.trans hr)
        have Hf := Lib.hid hf
        clear hr hf he
        go_wp2_with (go_at_call 58; refine (lines_take _ _ _ hs).mono ?_; rintro e w' ⟨rfl, rfl⟩)
        go_ret3
        exact head_fin s w _ _ _ 0 xs H.out.symm hown hb
      · have hl' : (takeLine s a).toList.isEmpty = false := by simpa using hl
        clear hl
        by_cases h17 : xs.length = 17
        · have H := Lib.hid ((headR_many f s a xs he hl' h17).symm.trans hr)
          have Hf := Lib.hid hf
          have hd : 16 < xs.length := by omega
          have H17 := Lib.hid h17
          clear hr hf he h17
          go_wp2_with (go_at_call 58; refine (lines_take _ _ _ hs).mono ?_; rintro e w' ⟨rfl, rfl⟩)
          go_ret3
          exact head_fin s w _ _ _ 21 [] H.out.symm (World.ownsRow_nil _ _ _ _) hb
        · have H := Lib.hid ((headR_more f s a xs he hl' h17).symm.trans hr)
          have Hf := Lib.hid hf
          have hd : xs.length < 17 := by omega
          have hd2 : xs.length ≤ 16 := by omega
          clear hr hf he h17
          have He := Lib.hid (bs_self (takeLine s a)).symm
          go_wp2_with (first
            | (go_at_call 58; refine (lines_take _ _ _ hs).mono ?_; rintro e w' ⟨rfl, rfl⟩)
            | (at_builtin; refine append_str _ (by rfl) _ _ (by rfl) w.heap.size _ xs (by rfl) hown (takeLine s a) (takeLine s a).data.toList He.out (by rfl) (by omega) hb.size ?_; intro v' w1 hown1 hg1 hne1))
          have hb1 := below_own hb hg1 hown (Nat.le_refl _) hb.size
          have hlen : (xs ++ [(takeLine s a).data.toList]).length = xs.length + 1 := by simp
          obtain ⟨av', cv', rfl⟩ := slice_of_own hown1
          go_roundw
          case rel => exact ⟨takeNext s a, xs ++ [(takeLine s a).data.toList], by omega, rfl, hown1, hb1, by rw [← H.out, hlen]; congr 1; have := Hf.out; omega⟩
          case measure => simp [headM]; omega
    · have he' : (((takeErr s a : Nat) : Int) != 0) = true := by rw [bne_iff_ne]; omega
      have H := Lib.hid ((headR_err f s a xs he).symm.trans hr)
      have Hf := Lib.hid hf
      clear hr hf he
      go_wp2_with (go_at_call 58; refine (lines_take _ _ _ hs).mono ?_; rintro e w' ⟨rfl, rfl⟩)
      go_ret3
      exact head_fin s w _ _ _ _ [] H.out.symm (World.ownsRow_nil _ _ _ _) hb

set_option maxRecDepth 100000 in
set_option maxHeartbeats 2000000 in
theorem ref_head (s : ByteArray) (w : World) (hs : s.size ≤ 9223372036854775807) :
    Calls Tryz.prog 31 #[.string s] w (HeadPost s w) := by
  go_enter Tryz.func31, Tryz.ntmps31
  go_wp2_with fail
  go_loopw [5, 6] (fun v j wr => HeadRel s w v j wr) (fun v _ _ => headM v)
  case atStart => exact ⟨0, [], by simp, rfl, World.ownsRow_nil _ _ _ _, Below.refl _ _, rfl⟩
  case round =>
    obtain ⟨a, xs, hx, rfl, hown, hb, hr⟩ := hrel
    obtain ⟨av, cv, rfl⟩ := slice_of_own hown
    obtain ⟨f, hf⟩ : ∃ f, 18 - xs.length = f + 1 := ⟨17 - xs.length, by omega⟩
    rw [hf] at hr
    by_cases he : takeErr s a = 0
    · have he' : ((takeErr s a : Nat) : Int) = 0 := by omega
      by_cases hl : (takeLine s a).toList.isEmpty = true
      · have H := Lib.hid ((headR_end f s a xs he hl).symm.trans hr)
        have Hf := Lib.hid hf
        clear hr hf he
        go_wp2_with (go_at_call 59; refine (ref_take _ _ _ hs).mono ?_; rintro e w' ⟨rfl, rfl⟩)
        go_ret3
        exact head_fin s w _ _ _ 0 xs H.out.symm hown hb
      · have hl' : (takeLine s a).toList.isEmpty = false := by simpa using hl
        clear hl
        by_cases h17 : xs.length = 17
        · have H := Lib.hid ((headR_many f s a xs he hl' h17).symm.trans hr)
          have Hf := Lib.hid hf
          have hd : 16 < xs.length := by omega
          have H17 := Lib.hid h17
          clear hr hf he h17
          go_wp2_with (go_at_call 59; refine (ref_take _ _ _ hs).mono ?_; rintro e w' ⟨rfl, rfl⟩)
          go_ret3
          exact head_fin s w _ _ _ 21 [] H.out.symm (World.ownsRow_nil _ _ _ _) hb
        · have H := Lib.hid ((headR_more f s a xs he hl' h17).symm.trans hr)
          have Hf := Lib.hid hf
          have hd : xs.length < 17 := by omega
          have hd2 : xs.length ≤ 16 := by omega
          clear hr hf he h17
          have He := Lib.hid (bs_self (takeLine s a)).symm
          go_wp2_with (first
            | (go_at_call 59; refine (ref_take _ _ _ hs).mono ?_; rintro e w' ⟨rfl, rfl⟩)
            | (at_builtin; refine append_str _ (by rfl) _ _ (by rfl) w.heap.size _ xs (by rfl) hown (takeLine s a) (takeLine s a).data.toList He.out (by rfl) (by omega) hb.size ?_; intro v' w1 hown1 hg1 hne1))
          have hb1 := below_own hb hg1 hown (Nat.le_refl _) hb.size
          have hlen : (xs ++ [(takeLine s a).data.toList]).length = xs.length + 1 := by simp
          obtain ⟨av', cv', rfl⟩ := slice_of_own hown1
          go_roundw
          case rel => exact ⟨takeNext s a, xs ++ [(takeLine s a).data.toList], by omega, rfl, hown1, hb1, by rw [← H.out, hlen]; congr 1; have := Hf.out; omega⟩
          case measure => simp [headM]; omega
    · have he' : (((takeErr s a : Nat) : Int) != 0) = true := by rw [bne_iff_ne]; omega
      have H := Lib.hid ((headR_err f s a xs he).symm.trans hr)
      have Hf := Lib.hid hf
      clear hr hf he
      go_wp2_with (go_at_call 59; refine (ref_take _ _ _ hs).mono ?_; rintro e w' ⟨rfl, rfl⟩)
      go_ret3
      exact head_fin s w _ _ _ _ [] H.out.symm (World.ownsRow_nil _ _ _ _) hb
end Go.Proofs.YtgnkmfjleecmfaaGreatDoor
namespace Go.Proofs.YtgnkmfjleecmfaaGreatDoor
open Go.RowKit

def plainL (x : List UInt8) : Prop := ∀ c ∈ x, plainB c.toNat = true
/-- the lines, each with its end. -/
def body : List (List UInt8) → List UInt8
  | [] => []
  | x :: t => x ++ 13 :: 10 :: body t
theorem body_append (l m : List (List UInt8)) : body (l ++ m) = body l ++ body m := by
  induction l with
  | nil => rfl
  | cons x t ih => simp [body, ih]

theorem plain_not13 : plainB 13 = false := by decide

theorem scan_line (x rest : List UInt8) : ∀ n, plainL x → n + x.length ≤ 256 → scan (x ++ 13 :: 10 :: rest) n = (n + x.length, 0) := by
  induction x with
  | nil => intro n _ _; rw [List.nil_append, scan, if_neg (by simp), if_pos (by simp)]; rfl
  | cons c t ih =>
    intro n hp hl
    have hc := hp c (List.mem_cons_self ..)
    have h13 : c ≠ 13 := fun e => by rw [e] at hc; exact absurd hc (by decide)
    rw [List.cons_append, scan, if_neg (by simp [h13]), if_neg (by simp [h13]), if_neg (by simp [hc]), if_neg (by simp at hl; omega), ih (n + 1) (fun c h => hp c (List.mem_cons_of_mem _ h)) (by simp at hl; omega)]
    simp; omega

/-- a proper beginning of a line with its end is too short. -/
theorem scan_cut (x : List UInt8) : ∀ n k, plainL x → n + x.length ≤ 256 → k < x.length + 2 → (scan ((x ++ [13, 10]).take k) n).2 = 3 := by
  induction x with
  | nil =>
    intro n k _ _ hk
    match k, hk with
    | 0, _ => simp [scan]
    | 1, _ => simp [scan]
  | cons c t ih =>
    intro n k hp hl hk
    cases k with
    | zero => simp [scan]
    | succ k =>
      have hc := hp c (List.mem_cons_self ..)
      have h13 : c ≠ 13 := fun e => by rw [e] at hc; exact absurd hc (by decide)
      rw [List.cons_append, List.take_succ_cons, scan, if_neg (by simp [h13]), if_neg (by simp [h13]), if_neg (by simp [hc]), if_neg (by simp at hl; omega)]
      exact ih (n + 1) k (fun c h => hp c (List.mem_cons_of_mem _ h)) (by simp at hl; omega) (by simp at hk; omega)

theorem take_line (s : ByteArray) (pre x rest : List UInt8) (hs : s.data.toList = pre ++ (x ++ 13 :: 10 :: rest)) (hp : plainL x) (hl : x.length ≤ 256) :
    takeErr s (pre.length : Int) = 0 ∧ takeLine s (pre.length : Int) = bs x ∧ takeNext s (pre.length : Int) = ((pre ++ (x ++ [13, 10])).length : Int) := by
  have hsz : pre.length ≤ s.size := by rw [← size_len, hs]; simp
  have hsc : scanAt s.data.toList pre.length 0 = (x.length, 0) := by
    unfold scanAt
    rw [hs, List.drop_left, scan_line x rest 0 hp (by omega)]; simp
  have he : takeErr s (pre.length : Int) = 0 := by rw [takeErr_in s _ hsz, hsc]
  refine ⟨he, ?_, ?_⟩
  · unfold takeLine
    rw [if_pos he, Int.toNat_natCast, hsc, extract_bs, hs]
    congr 1
    rw [← List.append_assoc, ← List.length_append, List.take_left, List.drop_left]
  · unfold takeNext
    rw [if_pos he, Int.toNat_natCast, hsc]
    simp; omega

theorem take_cut (s : ByteArray) (pre x : List UInt8) (k : Nat) (hs : s.data.toList = pre ++ (x ++ [13, 10]).take k) (hk : k < x.length + 2) (hp : plainL x) (hl : x.length ≤ 256) : takeErr s (pre.length : Int) = 3 := by
  have hsz : pre.length ≤ s.size := by rw [← size_len, hs]; simp
  rw [takeErr_in s _ hsz]
  unfold scanAt
  rw [hs, List.drop_left]
  exact scan_cut x 0 k hp (by omega) hk

theorem isEmpty_bs (x : List UInt8) : (bs x).toList.isEmpty = x.isEmpty := by rw [ByteArray.toList_eq, bs_data]

def goodLine (x : List UInt8) : Prop := x ≠ [] ∧ plainL x ∧ x.length ≤ 256

theorem head_ok (s : ByteArray) (rest : List UInt8) : ∀ (ls : List (List UInt8)) (pre : List UInt8) (xs : List (List UInt8)) (f : Nat), (∀ x ∈ ls, goodLine x) → xs.length + ls.length ≤ 17 → f + xs.length = 18 →
    s.data.toList = pre ++ (body ls ++ 13 :: 10 :: rest) → headR f s (pre.length : Int) xs = (xs ++ ls, ((pre ++ body ls).length : Int) + 2, 0) := by
  intro ls
  induction ls with
  | nil =>
    intro pre xs f _ hle hf hs
    obtain ⟨f, rfl⟩ : ∃ g, f = g + 1 := ⟨f - 1, by simp at hle; omega⟩
    obtain ⟨h1, h2, h3⟩ := take_line s pre [] rest (by simpa [body] using hs) (fun c h => by simp at h) (by simp)
    rw [headR_end f s _ xs h1 (by rw [h2, isEmpty_bs]; rfl), h3]
    simp [body]
  | cons x t ih =>
    intro pre xs f hg hle hf hs
    obtain ⟨hx0, hxp, hxl⟩ := hg x (List.mem_cons_self ..)
    obtain ⟨f, rfl⟩ : ∃ g, f = g + 1 := ⟨f - 1, by simp at hle; omega⟩
    have hs' : s.data.toList = pre ++ (x ++ 13 :: 10 :: (body t ++ 13 :: 10 :: rest)) := by rw [hs]; simp [body]
    obtain ⟨h1, h2, h3⟩ := take_line s pre x _ hs' hxp hxl
    rw [headR_more f s _ xs h1 (by rw [h2, isEmpty_bs]; cases x <;> simp_all) (by simp at hle; omega), h3, h2, bs_data]
    rw [ih (pre ++ (x ++ [13, 10])) (xs ++ [x]) f (fun y hy => hg y (List.mem_cons_of_mem _ hy)) (by simp at hle ⊢; omega) (by simp; omega) (by rw [hs']; simp)]
    simp [body]

theorem head_many (s : ByteArray) (rest : List UInt8) : ∀ (ls : List (List UInt8)) (pre : List UInt8) (xs : List (List UInt8)) (f : Nat), (∀ x ∈ ls, goodLine x) → 17 < xs.length + ls.length → xs.length ≤ 17 → f + xs.length = 18 →
    s.data.toList = pre ++ (body ls ++ 13 :: 10 :: rest) → headR f s (pre.length : Int) xs = ([], 0, 21) := by
  intro ls
  induction ls with
  | nil => intro pre xs f _ hle h2 _ _; simp at hle; omega
  | cons x t ih =>
    intro pre xs f hg hle h17 hf hs
    obtain ⟨hx0, hxp, hxl⟩ := hg x (List.mem_cons_self ..)
    obtain ⟨f, rfl⟩ : ∃ g, f = g + 1 := ⟨f - 1, by omega⟩
    have hs' : s.data.toList = pre ++ (x ++ 13 :: 10 :: (body t ++ 13 :: 10 :: rest)) := by rw [hs]; simp [body]
    obtain ⟨h1, h2, h3⟩ := take_line s pre x _ hs' hxp hxl
    have he : (takeLine s (pre.length : Int)).toList.isEmpty = false := by rw [h2, isEmpty_bs]; cases x <;> simp_all
    by_cases h : xs.length = 17
    · exact headR_many f s _ xs h1 he h
    · rw [headR_more f s _ xs h1 he h, h3, h2, bs_data]
      exact ih (pre ++ (x ++ [13, 10])) (xs ++ [x]) f (fun y hy => hg y (List.mem_cons_of_mem _ hy)) (by simp at hle ⊢; omega) (by simp; omega) (by simp; omega) (by rw [hs']; simp)

theorem head_cut (s : ByteArray) : ∀ (ls : List (List UInt8)) (pre : List UInt8) (xs : List (List UInt8)) (f k : Nat), (∀ x ∈ ls, goodLine x) → xs.length + ls.length ≤ 17 → f + xs.length = 18 →
    k < (body ls).length + 2 → s.data.toList = pre ++ (body ls ++ [13, 10]).take k → headR f s (pre.length : Int) xs = ([], 0, 3) := by
  intro ls
  induction ls with
  | nil =>
    intro pre xs f k _ hle hf hk hs
    obtain ⟨f, rfl⟩ : ∃ g, f = g + 1 := ⟨f - 1, by simp at hle; omega⟩
    have h := take_cut s pre [] k (by simpa [body] using hs) (by simpa [body] using hk) (fun c h => by simp at h) (by simp)
    rw [headR_err f s _ xs (by rw [h]; decide), h]
  | cons x t ih =>
    intro pre xs f k hg hle hf hk hs
    obtain ⟨hx0, hxp, hxl⟩ := hg x (List.mem_cons_self ..)
    obtain ⟨f, rfl⟩ : ∃ g, f = g + 1 := ⟨f - 1, by simp at hle; omega⟩
    have hb : body (x :: t) ++ [13, 10] = (x ++ [13, 10]) ++ (body t ++ [13, 10]) := by simp [body]
    rw [hb] at hs
    by_cases hkx : k < x.length + 2
    · rw [List.take_append_of_le_length (by simp; omega)] at hs
      have h := take_cut s pre x k hs hkx hxp hxl
      rw [headR_err f s _ xs (by rw [h]; decide), h]
    · have hlen : (x ++ [13, 10]).length ≤ k := by simp; omega
      rw [List.take_append, List.take_of_length_le hlen] at hs
      have hs' : s.data.toList = pre ++ (x ++ 13 :: 10 :: (body t ++ [13, 10]).take (k - (x ++ [13, 10]).length)) := by rw [hs]; simp
      obtain ⟨h1, h2, h3⟩ := take_line s pre x _ hs' hxp hxl
      rw [headR_more f s _ xs h1 (by rw [h2, isEmpty_bs]; cases x <;> simp_all) (by simp at hle; omega), h3, h2, bs_data]
      exact ih (pre ++ (x ++ [13, 10])) (xs ++ [x]) f (k - (x ++ [13, 10]).length) (fun y hy => hg y (List.mem_cons_of_mem _ hy)) (by simp at hle ⊢; omega) (by simp; omega) (by simp [body] at hk ⊢; omega) (by rw [hs]; simp)

theorem putErr_good (x : List UInt8) (h : putErr x = 0) : plainL x ∧ x.length ≤ 256 := by
  unfold putErr at h
  split at h
  · cases h
  · rename_i h1
    split at h
    · cases h
    · refine ⟨fun c hc => ?_, by omega⟩
      have h2 : (x.all fun c => plainB c.toNat) = true := by simpa using h1
      exact List.all_eq_true.1 h2 c hc
theorem putLine_bs (x : List UInt8) (h : putErr x = 0) : putLine (bs x) = bs (x ++ [13, 10]) := by
  unfold putLine
  rw [bs_data, if_pos h]
  have : (bs x ++ ⟨#[13, 10]⟩ : ByteArray).data.toList = x ++ [13, 10] := by simp [bs]
  rw [← this, bs_self]
theorem putLine_bad (x : List UInt8) (h : putErr x ≠ 0) : putLine (bs x) = ⟨#[]⟩ := by
  unfold putLine
  rw [bs_data, if_neg h]
end Go.Proofs.YtgnkmfjleecmfaaGreatDoor
namespace Go.Proofs.YtgnkmfjleecmfaaGreatDoor
open Go.RowKit

theorem gapL_contains (c : UInt8) : gapL.contains c = gapB c := by
  unfold gapL gapB
  simp only [List.contains, List.elem]
  cases (c == 32) <;> cases (c == 9) <;> rfl
theorem trimS_cons (g : UInt8) (X : List UInt8) (h : gapB g = true) : Go.Lib.trimS (g :: X) gapL = Go.Lib.trimS X gapL := by
  have hg : gapL.contains g = true := (gapL_contains g).trans h
  unfold Go.Lib.trimS Go.Lib.trimRightS Go.Lib.trimLeftS
  rw [List.reverse_cons, List.dropWhile_append]
  split
  · rename_i he
    rw [List.isEmpty_iff] at he
    rw [he, List.dropWhile_cons_of_pos hg]; rfl
  · rw [List.reverse_append]
    show List.dropWhile _ (g :: _) = _
    rw [List.dropWhile_cons_of_pos hg]; rfl
theorem trimS_snoc (X : List UInt8) (g : UInt8) (h : gapB g = true) : Go.Lib.trimS (X ++ [g]) gapL = Go.Lib.trimS X gapL := by
  have hg : gapL.contains g = true := (gapL_contains g).trans h
  unfold Go.Lib.trimS Go.Lib.trimRightS
  rw [List.reverse_append]
  show Go.Lib.trimLeftS (List.dropWhile _ (g :: _)).reverse _ = _
  rw [List.dropWhile_cons_of_pos hg]; rfl
theorem trimS_le (X : List UInt8) : (Go.Lib.trimS X gapL).length ≤ X.length := by
  unfold Go.Lib.trimS Go.Lib.trimRightS Go.Lib.trimLeftS
  refine Nat.le_trans (List.dropWhile_suffix _).length_le ?_
  rw [List.length_reverse]
  refine Nat.le_trans (List.dropWhile_suffix _).length_le ?_
  rw [List.length_reverse]; exact Nat.le_refl _
def headGap (X : List UInt8) : Bool := match X with | [] => false | c :: _ => gapB c
def noGap (X : List UInt8) : Bool := !headGap X && !headGap X.reverse
theorem trimS_done (X : List UInt8) (h1 : headGap X = false) (h2 : headGap X.reverse = false) : Go.Lib.trimS X gapL = X := by
  have key : ∀ Y : List UInt8, headGap Y = false → Y.dropWhile (gapL.contains ·) = Y := by
    intro Y h
    cases Y with
    | nil => rfl
    | cons c t => exact List.dropWhile_cons_of_neg (by rw [gapL_contains]; show ¬ gapB c = true; rw [show gapB c = false from h]; decide)
  unfold Go.Lib.trimS Go.Lib.trimRightS Go.Lib.trimLeftS
  rw [key _ h2, List.reverse_reverse, key _ h1]
theorem trimS_iff (X : List UInt8) : Go.Lib.trimS X gapL = X ↔ noGap X = true := by
  unfold noGap
  constructor
  · intro h
    have a : headGap X = false := by
      cases X with
      | nil => rfl
      | cons c t =>
        rw [Bool.eq_false_iff]
        intro hc
        have := trimS_le t
        rw [← trimS_cons c t hc, h] at this
        simp at this
        omega
    have b : headGap X.reverse = false := by
      cases hr : X.reverse with
      | nil => rfl
      | cons c t =>
        rw [Bool.eq_false_iff]
        intro hc
        have e : X = t.reverse ++ [c] := by rw [← List.reverse_reverse X, hr, List.reverse_cons]
        have := trimS_le t.reverse
        rw [← trimS_snoc t.reverse c hc, ← e, h, e] at this
        simp at this
        omega
    rw [a, b]; rfl
  · intro h
    simp only [Bool.and_eq_true, Bool.not_eq_true'] at h
    exact trimS_done X h.1 h.2

/-- what stands behind a name's colon -/
def tailV (v : List UInt8) : List UInt8 := if v.isEmpty then [] else 32 :: v
def printL (n v : List UInt8) : List UInt8 := titL true n ++ 58 :: tailV v
def printOk (n v : List UInt8) : Bool := nameL n && plainAll v && noGap v
def fieldE (n v : List UInt8) : Nat := if printOk n v = true then (if 256 < (printL n v).length then 5 else 0) else 4
def fieldS (n v : List UInt8) : List UInt8 := if fieldE n v = 0 then printL n v else []

theorem titL_append (b : Bool) (x y : List UInt8) : titL b (x ++ y) = titL b x ++ titL (match x.getLast? with | none => b | some c => stB c) y := by
  induction x generalizing b with
  | nil => rfl
  | cons c t ih =>
    show UInt8.ofNat _ :: titL (stB c) (t ++ y) = (UInt8.ofNat _ :: titL (stB c) t) ++ _
    rw [ih, List.cons_append, List.getLast?_cons]
    congr 2
    cases t.getLast? <;> rfl
theorem titL_len (b : Bool) (l : List UInt8) : (titL b l).length = l.length := by
  induction l generalizing b with
  | nil => rfl
  | cons c t ih => simp [titL, ih]
/-- trimming the end of a printed name, colon, blank and value: the blank goes just where there is no value -/
theorem trimR_print (t v : List UInt8) (h : noGap v = true) : Go.Lib.trimRightS (t ++ [58, 32] ++ v) gapL = t ++ 58 :: tailV v := by
  unfold Go.Lib.trimRightS tailV
  cases hv : v with
  | nil =>
    simp only [List.isEmpty_nil, if_true]
    have e : (t ++ [58, 32] ++ []).reverse = 32 :: 58 :: t.reverse := by simp
    rw [e, List.dropWhile_cons_of_pos (by decide), List.dropWhile_cons_of_neg (by decide)]
    simp
  | cons a r =>
    rw [← hv]
    have hb : headGap v.reverse = false := by
      unfold noGap at h; simp only [Bool.and_eq_true, Bool.not_eq_true'] at h; exact h.2
    have e : (t ++ [58, 32] ++ v).reverse = v.reverse ++ (32 :: 58 :: t.reverse) := by simp
    rw [e]
    cases hr : v.reverse with
    | nil => rw [List.reverse_eq_nil_iff.1 hr] at hv; exact absurd hv (by simp)
    | cons c u =>
      rw [hr] at hb
      rw [List.cons_append, List.dropWhile_cons_of_neg (by rw [gapL_contains]; rw [show gapB c = false from hb]; decide), ← List.cons_append, ← hr, List.reverse_append]
      simp [hv]
end Go.Proofs.YtgnkmfjleecmfaaGreatDoor
