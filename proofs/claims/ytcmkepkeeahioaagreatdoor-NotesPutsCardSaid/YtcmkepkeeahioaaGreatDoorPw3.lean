/- What is taken of bytes is within bounds: plain words. What short, Count and Quote of package jtext return. What Check of package notes returns. What an assertion of a value's type yields. (Printed by wip/genassert.py.) What check and Check of package notes return. What Quote of package jtext returns. What lay of package notes does. What text, Put and Same of package notes return. -/
import Derived.Test.YtcmkepkeeahioaaGreatDoorPw2
import Derived.Deep.LoopGhost
import Derived.Lib.BufferKept
set_option linter.unusedVariables false
set_option linter.unusedSimpArgs false
namespace Go.Proofs.YtcmkepkeeahioaaGreatDoor
open Go.RowKit
theorem stepT_four (r : List UInt8) : (stepT r).2.2.length ≤ 4 := by
  unfold stepT
  split
  · simp
  split
  · split
    · simp
    split
    · simp
    · exact enc_four _
  split
  · simp
  · show (r.take (rwd r)).length ≤ 4
    rw [List.length_take]
    have := rwd_four r
    omega
theorem takeR_len (f : Nat) : ∀ (r : List UInt8) (i : Nat) (acc : List UInt8), (takeR f r i acc).1.length ≤ acc.length + 4 * r.length := by
  induction f with
  | zero => intro r i acc; unfold takeR; simp
  | succ f ih =>
    intro r i acc
    unfold takeR
    by_cases h0 : r = []
    · rw [if_pos h0]; simp
    rw [if_neg h0]
    have hpos := List.length_pos_iff.2 h0
    rcases stepT_kind r with hk | hk | hk | hk
    · obtain ⟨s1, s2⟩ := stepT_on r h0 hk
      rw [hk, if_neg (by decide), if_neg (by decide), if_neg (by decide)]
      have h1 := ih (r.drop (stepT r).2.1) (i + (stepT r).2.1) (acc ++ (stepT r).2.2)
      have h2 := stepT_four r
      rw [List.length_append, List.length_drop] at h1
      omega
    · rw [hk, if_pos rfl]; simp
    · rw [hk, if_neg (by decide), if_pos rfl]; simp
    · rw [hk, if_neg (by decide), if_neg (by decide), if_pos rfl]; simp
theorem txtV_len (r : List UInt8) : (txtV r).1.length ≤ 4 * r.length := by
  unfold txtV
  split
  · show (takeP r 0).1.length ≤ _
    unfold takeP
    rw [if_neg (by omega)]
    split
    · simp
    split
    · simp
    have h := takeR_len (r.length + 1) (r.drop ((0 : Int).toNat + 1)) ((0 : Int).toNat + 1) []
    rw [List.length_drop] at h
    simp only [List.length_nil] at h
    refine Nat.le_trans h ?_
    omega
  · simp
theorem word_small (r w : List UInt8) (v : JV) (hv : smallJ v) (v' : JV) (r' : List UInt8) (h : wordV r w v = (v', r', 0)) : smallJ v' := by
  unfold wordV at h
  split at h
  · cases h; exact hv
  · split at h
    · cases h
    · cases h
theorem num_small (n : Int) (h : okNum n = true) : smallJ (.num n) := by
  obtain ⟨h1, h2⟩ := (okNum_iff n).1 h
  rw [smallJ]; omega
set_option maxHeartbeats 1000000 in
theorem small_all : ∀ f : Nat, (∀ d r v r', valV f d r = (v, r', 0) → 4 * r.length ≤ 100000 → smallJ v) ∧
    (∀ d n r acc v r', lstV f d n r acc = (v, r', 0) → 4 * r.length ≤ 100000 → acc.length = n → n ≤ 64 → smallL acc → smallJ v) ∧
    (∀ d n r acc v r', objV f d n r acc = (v, r', 0) → 4 * r.length ≤ 100000 → acc.length = n → n ≤ 64 → smallO acc → smallJ v) := by
  intro f
  induction f with
  | zero =>
    refine ⟨fun d r v r' h => ?_, fun d n r acc v r' h => ?_, fun d n r acc v r' h => ?_⟩
    · rw [valV] at h; cases h
    · rw [lstV] at h; cases h
    · rw [objV] at h; cases h
  | succ f ih =>
    obtain ⟨ihv, ihl, iho⟩ := ih
    refine ⟨fun d r v r' h hr => ?_, fun d n r acc v r' h hr hn hn2 hc => ?_, fun d n r acc v r' h hr hn hn2 hc => ?_⟩
    · cases r with
      | nil => rw [valV] at h; cases h
      | cons c t =>
        have hsl := (skipB_suf t).length_le
        rw [List.length_cons] at hr
        rw [valV] at h
        by_cases c1 : c = 110
        · rw [if_pos c1] at h; exact word_small _ _ _ (by rw [smallJ]; trivial) v r' h
        rw [if_neg c1] at h
        by_cases c2 : c = 102
        · rw [if_pos c2] at h; exact word_small _ _ _ (by rw [smallJ]; trivial) v r' h
        rw [if_neg c2] at h
        by_cases c3 : c = 116
        · rw [if_pos c3] at h; exact word_small _ _ _ (by rw [smallJ]; trivial) v r' h
        rw [if_neg c3] at h
        by_cases c4 : c = 34
        · rw [if_pos c4] at h
          by_cases e : (txtV (c :: t)).2.2 = 0
          · rw [if_pos e] at h
            cases h
            rw [smallJ]
            have := txtV_len (c :: t)
            rw [List.length_cons] at this
            omega
          · rw [if_neg e] at h
            exact absurd (congrArg (fun x : Res => x.2.2) h) e
        rw [if_neg c4] at h
        by_cases c5 : c = 91
        · rw [if_pos c5] at h
          by_cases e : 4 < d
          · rw [if_pos e] at h; cases h
          rw [if_neg e] at h
          by_cases e2 : (skipB t).head? = some 93
          · rw [if_pos e2] at h
            cases h
            rw [smallJ, smallL]; exact ⟨by simp, trivial⟩
          · rw [if_neg e2] at h
            exact ihl d 0 _ [] v r' h (by omega) rfl (by omega) (by rw [smallL]; trivial)
        rw [if_neg c5] at h
        by_cases c6 : c = 123
        · rw [if_pos c6] at h
          by_cases e : 4 < d
          · rw [if_pos e] at h; cases h
          rw [if_neg e] at h
          by_cases e2 : (skipB t).head? = some 125
          · rw [if_pos e2] at h
            cases h
            rw [smallJ, smallO]; exact ⟨by simp, trivial⟩
          · rw [if_neg e2] at h
            exact iho d 0 _ [] v r' h (by omega) rfl (by omega) (by rw [smallO]; trivial)
        rw [if_neg c6] at h
        by_cases c7 : c = 45 ∨ digB c = true
        · rw [if_pos c7] at h
          unfold numV at h
          by_cases e : (numT ((c :: t).takeWhile numCh)).2 = 0
          · rw [if_pos e] at h
            cases h
            exact num_small _ (numT_good _ e)
          · rw [if_neg e] at h
            exact absurd (congrArg (fun x : Res => x.2.2) h) e
        · rw [if_neg c7] at h; cases h
    · have hok := (ok_all f).1 (d + 1) r
      rw [lstV] at h
      by_cases e0 : n = 64 ∧ r ≠ []
      · rw [if_pos e0] at h; cases h
      rw [if_neg e0] at h
      by_cases e1 : (valV f (d + 1) r).2.2 = 0
      · rw [if_neg (fun e => e e1)] at h
        have hv := ihv (d + 1) r (valV f (d + 1) r).1 (valV f (d + 1) r).2.1 (by rw [← e1]) hr
        have hr2 : r ≠ [] := fun e => val_nil f (d + 1) (by rw [← e]; exact e1)
        have hn3 : n < 64 := by
          rcases Nat.lt_or_ge n 64 with h' | h'
          · exact h'
          · exact absurd ⟨by omega, hr2⟩ e0
        have hc2 := smallL_snoc acc _ hc hv
        have hl1 := hok.1.length_le
        have hl2 := (skipB_suf (valV f (d + 1) r).2.1).length_le
        cases hs : skipB (valV f (d + 1) r).2.1 with
        | nil => rw [hs] at h; cases h
        | cons c t =>
          rw [hs] at h hl2
          rw [List.length_cons] at hl2
          simp only [] at h
          by_cases c1 : c = 93
          · rw [if_pos c1] at h
            cases h
            rw [smallJ, List.length_append]
            exact ⟨by simp; omega, hc2⟩
          rw [if_neg c1] at h
          by_cases c2 : c = 44
          · rw [if_pos c2] at h
            have hl3 := (skipB_suf t).length_le
            exact ihl d (n + 1) _ _ v r' h (by omega) (by rw [List.length_append, hn]; rfl) (by omega) hc2
          · rw [if_neg c2] at h; cases h
      · rw [if_pos e1] at h
        exact absurd (congrArg (fun x : Res => x.2.2) h) e1
    · rw [objV] at h
      by_cases e0 : n = 64 ∧ r ≠ []
      · rw [if_pos e0] at h; cases h
      rw [if_neg e0] at h
      by_cases t1 : (txtV r).2.2 = 0
      · rw [if_neg (fun e => e t1)] at h
        by_cases t2 : (txtV r).1 ∈ acc.map (·.1)
        · rw [if_pos t2] at h; cases h
        rw [if_neg t2] at h
        have hl1 := (txtV_suf r).length_le
        have hl2 := (skipB_suf (txtV r).2.1).length_le
        cases hs0 : skipB (txtV r).2.1 with
        | nil => rw [hs0] at h; cases h
        | cons c0 t0 =>
          rw [hs0] at h hl2
          rw [List.length_cons] at hl2
          simp only [] at h
          by_cases c0' : c0 = 58
          · rw [if_neg (fun e => e c0')] at h
            have hl3 := (skipB_suf t0).length_le
            have hok := (ok_all f).1 (d + 1) (skipB t0)
            by_cases e1 : (valV f (d + 1) (skipB t0)).2.2 = 0
            · rw [if_neg (fun e => e e1)] at h
              have hv := ihv (d + 1) _ (valV f (d + 1) (skipB t0)).1 (valV f (d + 1) (skipB t0)).2.1 (by rw [← e1]) (by omega)
              have hr2 : r ≠ [] := fun e => by
                have := (txtV_good r t1).2
                rw [e, take0, if_pos (by rfl)] at this
                exact absurd this (by decide)
              have hn3 : n < 64 := by
                rcases Nat.lt_or_ge n 64 with h' | h'
                · exact h'
                · exact absurd ⟨by omega, hr2⟩ e0
              have hc2 := smallO_snoc acc (txtV r).1 _ hc (Nat.le_trans (txtV_len r) hr) hv
              have hl4 := hok.1.length_le
              have hl5 := (skipB_suf (valV f (d + 1) (skipB t0)).2.1).length_le
              cases hs : skipB (valV f (d + 1) (skipB t0)).2.1 with
              | nil => rw [hs] at h; cases h
              | cons c t =>
                rw [hs] at h hl5
                rw [List.length_cons] at hl5
                simp only [] at h
                by_cases c1 : c = 125
                · rw [if_pos c1] at h
                  cases h
                  rw [smallJ, List.length_append]
                  exact ⟨by simp; omega, hc2⟩
                rw [if_neg c1] at h
                by_cases c2 : c = 44
                · rw [if_pos c2] at h
                  have hl6 := (skipB_suf t).length_le
                  exact iho d (n + 1) _ _ v r' h (by omega) (by rw [List.length_append, hn]; rfl) (by omega) hc2
                · rw [if_neg c2] at h; cases h
            · rw [if_pos e1] at h
              exact absurd (congrArg (fun x : Res => x.2.2) h) e1
          · rw [if_pos c0'] at h; cases h
      · rw [if_pos t1] at h
        exact absurd (congrArg (fun x : Res => x.2.2) h) t1
/-- what is taken of a text is within bounds -/
theorem take_small (l : List UInt8) (h : (takeV l).2.2 = 0) : smallJ (takeV l).1 := by
  unfold takeV at h ⊢
  split at h
  · exact absurd h (by decide)
  rename_i h0
  rw [if_neg h0]
  simp only [] at h ⊢
  split at h
  · rename_i h1; exact absurd h h1
  rename_i h1
  rw [if_neg h1]
  split at h
  · exact absurd h (by show ¬ (4 = 0); decide)
  rename_i h2
  rw [if_neg h2]
  have hl := (skipB_suf l).length_le
  have h3 : (valV (2 * l.length + 2) 1 (skipB l)).2.2 = 0 := Classical.byContradiction fun e => h1 e
  exact (small_all _).1 1 _ _ (valV (2 * l.length + 2) 1 (skipB l)).2.1 (by rw [← h3]) (by omega)
end Go.Proofs.YtcmkepkeeahioaaGreatDoor
namespace Go.Proofs.YtcmkepkeeahioaaGreatDoor
open Go.RowKit Go.Lib

theorem short (c : Nat) (w : World) :
    Calls Tryz.prog 82 #[.int .i32 (c : Int)] w fun e w' => e = .returned (.tuple #[.int .u8 (shortN c : Nat), .bool (decide (shortN c ≠ 0))]) ∧ w' = w := by
  by_cases b1 : c = 34
  · subst b1
    go_enter Tryz.func82, Tryz.ntmps82
    go_wp2_with fail
    go_ret2
    exact ⟨rfl, rfl⟩
  by_cases b2 : c = 92
  · subst b2
    go_enter Tryz.func82, Tryz.ntmps82
    go_wp2_with fail
    go_ret2
    exact ⟨rfl, rfl⟩
  by_cases b3 : c = 8
  · subst b3
    go_enter Tryz.func82, Tryz.ntmps82
    go_wp2_with fail
    go_ret2
    exact ⟨rfl, rfl⟩
  by_cases b4 : c = 9
  · subst b4
    go_enter Tryz.func82, Tryz.ntmps82
    go_wp2_with fail
    go_ret2
    exact ⟨rfl, rfl⟩
  by_cases b5 : c = 10
  · subst b5
    go_enter Tryz.func82, Tryz.ntmps82
    go_wp2_with fail
    go_ret2
    exact ⟨rfl, rfl⟩
  by_cases b6 : c = 12
  · subst b6
    go_enter Tryz.func82, Tryz.ntmps82
    go_wp2_with fail
    go_ret2
    exact ⟨rfl, rfl⟩
  by_cases b7 : c = 13
  · subst b7
    go_enter Tryz.func82, Tryz.ntmps82
    go_wp2_with fail
    go_ret2
    exact ⟨rfl, rfl⟩
  have H : Hid (shortN c = 0) := Lib.hid (by
    unfold shortN
    rw [if_neg (by omega), if_neg b3, if_neg b4, if_neg b5, if_neg b6, if_neg b7])
  have t1 : ((c : Int) == 34) = false := by rw [beq_eq_false_iff_ne]; omega
  have t2 : ((c : Int) == 92) = false := by rw [beq_eq_false_iff_ne]; omega
  have t3 : ((c : Int) == 8) = false := by rw [beq_eq_false_iff_ne]; omega
  have t4 : ((c : Int) == 9) = false := by rw [beq_eq_false_iff_ne]; omega
  have t5 : ((c : Int) == 10) = false := by rw [beq_eq_false_iff_ne]; omega
  have t6 : ((c : Int) == 12) = false := by rw [beq_eq_false_iff_ne]; omega
  have t7 : ((c : Int) == 13) = false := by rw [beq_eq_false_iff_ne]; omega
  clear b1 b2 b3 b4 b5 b6 b7
  go_enter Tryz.func82, Tryz.ntmps82
  go_wp2_with fail
  go_ret2
  exact ⟨by rw [H.out]; rfl, rfl⟩

theorem dec_drop (s : ByteArray) (k : Nat) : Utf8.decode s k = Lib.decodeL (s.data.toList.drop k) := (Lib.decodeL_drop s k).symm
theorem drop_ne (s : ByteArray) (k : Nat) (h : k < s.size) : s.data.toList.drop k ≠ [] := by
  intro e; have := congrArg List.length e; rw [List.length_drop, size_len, List.length_nil] at this; omega

end Go.Proofs.YtcmkepkeeahioaaGreatDoor
namespace Go.Proofs.YtcmkepkeeahioaaGreatDoor
open Go.RowKit
def boundN (n d : Nat) : Nat := if 4 < d then 20 else if 64 < n then 21 else 0
theorem n_bounds (n d : Nat) (w : World) : Calls Tryz.prog 64 #[.int .i64 (n : Int), .int .i64 (d : Int)] w fun e w' => e = .returned (.int .i64 (boundN n d : Nat)) ∧ w' = w := by
  by_cases h1 : 4 < d
  · have t1 : decide ((d : Int) > 4) = true := decide_eq_true (by omega)
    have HB : Hid (boundN n d = 20) := Lib.hid (if_pos h1)
    go_enter Tryz.func64, Tryz.ntmps64
    go_wp2_with fail
    go_ret
    exact ⟨by rw [HB.out]; rfl, rfl⟩
  · have t1 : decide ((d : Int) > 4) = false := decide_eq_false (by omega)
    by_cases h2 : 64 < n
    · have t2 : decide ((n : Int) > 64) = true := decide_eq_true (by omega)
      have HB : Hid (boundN n d = 21) := Lib.hid (by unfold boundN; rw [if_neg h1, if_pos h2])
      go_enter Tryz.func64, Tryz.ntmps64
      go_wp2_with fail
      go_ret
      exact ⟨by rw [HB.out]; rfl, rfl⟩
    · have t2 : decide ((n : Int) > 64) = false := decide_eq_false (by omega)
      have HB : Hid (boundN n d = 0) := Lib.hid (by unfold boundN; rw [if_neg h1, if_neg h2])
      go_enter Tryz.func64, Tryz.ntmps64
      go_wp2_with fail
      go_ret
      exact ⟨by rw [HB.out]; rfl, rfl⟩
/-- check is right so deep -/
def CheckOk (d : Nat) : Prop := ∀ (v : JV) (x : Value) (w : World) (S : Nat → Prop), smallJ v → AV S w v x → (∀ i, S i → i < w.heap.size) → U8 w → Calls Tryz.prog 27 #[x, .int .i64 (d : Int)] w fun e w' => e = .returned (.int .i64 (chk v d : Nat)) ∧ Below w.heap.size w w'
theorem chkL_drop (l : List JV) (i d : Nat) (hi : i < l.length) : chkL (l.drop i) d = if chk l[i] d ≠ 0 then chk l[i] d else chkL (l.drop (i + 1)) d := by
  rw [List.drop_eq_getElem_cons hi, chkL]
set_option maxRecDepth 100000 in
set_option maxHeartbeats 2000000 in
theorem n_checkList (d : Nat) (hd : d ≤ 100) (IH : d ≤ 4 → CheckOk (d + 1)) (l : List JV) (a : Option Addr) (c : Nat) (w : World) (S : Nat → Prop) (hc : l.length ≤ c) (hs : smallL l) (hl : l.length ≤ 100000) (hx : l ≠ [] → ∃ b o, a = some ⟨b, o, none⟩ ∧ S b ∧ AVL S w b o l) (hS : ∀ i, S i → i < w.heap.size) (hU : U8 w) :
    Calls Tryz.prog 43 #[.slice a l.length c, .int .i64 (d : Int)] w fun e w' => e = .returned (.int .i64 (chk (.lst l) d : Nat)) ∧ Below w.heap.size w w' := by
  obtain ⟨A, hA⟩ : ∃ A, chk (.lst l) d = A := ⟨_, rfl⟩
  rw [hA]
  rw [chk] at hA
  have HB := Lib.hid (fun w => n_bounds l.length d w)
  obtain ⟨B, hB⟩ : ∃ B, boundN l.length d = B := ⟨_, rfl⟩
  rw [hB] at HB
  unfold boundN at hB
  obtain ⟨N, hN⟩ : ∃ N, l.length = N := ⟨_, rfl⟩
  rw [hN] at HB hB hA hc hl ⊢
  have HN := Lib.hid hN
  have HS := Lib.hid hs
  have HX := Lib.hid hx
  have HSS := Lib.hid hS
  have HU := Lib.hid hU
  have td : IntKind.i64.wrap ((d : Int) + 1) = ((d + 1 : Nat) : Int) := by rw [IntKind.wrap_i64]; omega
  clear hx hs hS hN hU
  by_cases h1 : 4 < d
  · rw [if_pos h1] at hA hB
    subst hB
    have HA := Lib.hid hA
    clear hA h1 IH
    go_enter Tryz.func43, Tryz.ntmps43
    go_wp2_with fail
    refine (HB.out _).mono ?_
    rintro e w1 ⟨rfl, rfl⟩
    go_wp2_with fail
    go_ret
    exact ⟨by rw [← HA.out]; rfl, Below.refl _ _⟩
  rw [if_neg h1] at hA hB
  by_cases h2 : 64 < N
  · rw [if_pos h2] at hA hB
    subst hB
    have HA := Lib.hid hA
    clear hA h1 h2 IH
    go_enter Tryz.func43, Tryz.ntmps43
    go_wp2_with fail
    refine (HB.out _).mono ?_
    rintro e w1 ⟨rfl, rfl⟩
    go_wp2_with fail
    go_ret
    exact ⟨by rw [← HA.out]; rfl, Below.refl _ _⟩
  rw [if_neg h2] at hA hB
  subst hB
  have HA := Lib.hid hA
  have HIH := Lib.hid (IH (by omega))
  clear hA h1 h2 IH
  go_enter Tryz.func43, Tryz.ntmps43
  go_wp2_with fail
  refine (HB.out _).mono ?_
  rintro e w1 ⟨rfl, rfl⟩
  go_wp2_with fail
  go_loopg [7, 8, 18] N (fun gk _ _ s18 wx => ∃ i : Nat, s18 = .int .i64 (i : Int) ∧ i + gk = N ∧ Hid (Below w1.heap.size w1 wx) ∧ Hid (chkL (l.drop i) (d + 1) = A))
  case atStart => exact ⟨0, by simp, by omega, Lib.hid (Below.refl _ _), HA⟩
  case round =>
    obtain ⟨i, rfl, hgk, HB2, HC⟩ := hrel
    by_cases hi : i < N
    · have hil : i < l.length := by rw [HN.out]; exact hi
      have ti : decide ((i : Int) < (N : Int)) = true := decide_eq_true (by omega)
      obtain ⟨b, o, rfl, hb, hav⟩ := HX.out (fun e => by rw [e] at hil; exact absurd hil (Nat.not_lt_zero _))
      obtain ⟨x, hx, hxa⟩ := hav.get o l i hil
      have cx := (HB2.out.cell (p := ⟨b, o + i, none⟩) (HSS.out b hb)).trans hx
      have hst := chkL_drop l i (d + 1) hil
      rw [HC.out] at hst
      have HCK := Lib.hid (HIH.out l[i] x wr S (smallL_get l HS.out i hil) (hxa.kept (fun _ h => h) (KeptS.of_below HB2.out HSS.out)) (fun j hj => Nat.lt_of_lt_of_le (HSS.out j hj) HB2.out.size) (HU.out.below HB2.out))
      generalize chk l[i] (d + 1) = R at hst HCK
      obtain ⟨g', rfl⟩ : ∃ g', gk = g' + 1 := ⟨gk - 1, by omega⟩
      clear hx hxa hav HC
      by_cases hr : R = 0
      · subst hr
        have HST : Hid (chkL (l.drop (i + 1)) (d + 1) = A) := Lib.hid (by rw [hst]; rfl)
        clear hst
        go_wp2_with fail
        refine HCK.out.mono ?_
        rintro e w2 ⟨rfl, hb2⟩
        have HB3 := Lib.hid (bstep HB2.out hb2)
        clear hb2
        go_wp2_with fail
        go_roundg g'
        case measure => omega
        case rel => exact ⟨i + 1, by simp, by omega, HB3, HST⟩
      · have HST : Hid (R = A) := Lib.hid (by rw [hst, if_pos hr])
        have tr : ((R : Int) != 0) = true := by rw [bne_iff_ne]; omega
        clear hst hr
        go_wp2_with fail
        refine HCK.out.mono ?_
        rintro e w2 ⟨rfl, hb2⟩
        have HB3 := Lib.hid (bstep HB2.out hb2)
        clear hb2
        go_wp2_with fail
        go_ret
        exact ⟨by rw [HST.out]; rfl, HB3.out⟩
    · have ti : decide ((i : Int) < (N : Int)) = false := decide_eq_false (by omega)
      have HR : Hid (A = 0) := Lib.hid (by rw [← HC.out, List.drop_eq_nil_of_le (by rw [HN.out]; omega), chkL])
      clear HC
      go_wp2_with fail
      go_ret
      exact ⟨by rw [HR.out]; rfl, HB2.out⟩
theorem chkO_drop (prev : List (List UInt8)) (l : List (List UInt8 × JV)) (i d : Nat) (hi : i < l.length) : chkO prev (l.drop i) d = if valR l[i].1 = false then 4 else if l[i].1 ∈ prev then 22 else if chk l[i].2 d ≠ 0 then chk l[i].2 d else chkO (prev ++ [l[i].1]) (l.drop (i + 1)) d := by
  rw [List.drop_eq_getElem_cons hi]
  obtain ⟨k, v⟩ := l[i]
  rw [chkO]
theorem take_keys (l : List (List UInt8 × JV)) (i : Nat) (hi : i < l.length) : (l.map (·.1)).take (i + 1) = (l.map (·.1)).take i ++ [l[i].1] := by
  rw [List.take_succ_eq_append_getElem (by simpa using hi)]
  simp
theorem two_box (w : World) (x y : Value) (t : TypeId) : (w.alloc (.cells #[x, y] t)).cell? ⟨w.heap.size, 0, none⟩ = some x ∧ (w.alloc (.cells #[x, y] t)).cell? ⟨w.heap.size, 1, none⟩ = some y := by
  have h := heap_alloc_new w (.cells #[x, y] t)
  exact ⟨by unfold World.cell?; rw [h]; rfl, by unfold World.cell?; rw [h]; rfl⟩
set_option maxRecDepth 100000 in
set_option maxHeartbeats 4000000 in
theorem n_checkPairs (d : Nat) (hd : d ≤ 100) (IH : d ≤ 4 → CheckOk (d + 1)) (l : List (List UInt8 × JV)) (a : Option Addr) (c : Nat) (w : World) (S : Nat → Prop) (hc : l.length ≤ c) (hs : smallO l) (hl : l.length ≤ 100000) (hx : l ≠ [] → ∃ b o, a = some ⟨b, o, none⟩ ∧ S b ∧ AVO S w b o l) (hS : ∀ i, S i → i < w.heap.size) (hU : U8 w) :
    Calls Tryz.prog 44 #[.slice a l.length c, .int .i64 (d : Int)] w fun e w' => e = .returned (.int .i64 (chk (.obj l) d : Nat)) ∧ Below w.heap.size w w' := by
  obtain ⟨A, hA⟩ : ∃ A, chk (.obj l) d = A := ⟨_, rfl⟩
  rw [hA]
  rw [chk] at hA
  have HB := Lib.hid (fun w => n_bounds l.length d w)
  obtain ⟨B, hB⟩ : ∃ B, boundN l.length d = B := ⟨_, rfl⟩
  rw [hB] at HB
  unfold boundN at hB
  obtain ⟨N, hN⟩ : ∃ N, l.length = N := ⟨_, rfl⟩
  rw [hN] at HB hB hA hc hl ⊢
  have HN := Lib.hid hN
  have HS := Lib.hid hs
  have HX := Lib.hid hx
  have HSS := Lib.hid hS
  have HU := Lib.hid hU
  have td : IntKind.i64.wrap ((d : Int) + 1) = ((d + 1 : Nat) : Int) := by rw [IntKind.wrap_i64]; omega
  clear hx hs hS hN hU
  by_cases h1 : 4 < d
  · rw [if_pos h1] at hA hB
    subst hB
    have HA := Lib.hid hA
    clear hA h1 IH
    go_enter Tryz.func44, Tryz.ntmps44
    go_wp2_with fail
    refine (HB.out _).mono ?_
    rintro e w1 ⟨rfl, rfl⟩
    go_wp2_with fail
    go_ret
    exact ⟨by rw [← HA.out]; rfl, Below.refl _ _⟩
  rw [if_neg h1] at hA hB
  by_cases h2 : 64 < N
  · rw [if_pos h2] at hA hB
    subst hB
    have HA := Lib.hid hA
    clear hA h1 h2 IH
    go_enter Tryz.func44, Tryz.ntmps44
    go_wp2_with fail
    refine (HB.out _).mono ?_
    rintro e w1 ⟨rfl, rfl⟩
    go_wp2_with fail
    go_ret
    exact ⟨by rw [← HA.out]; rfl, Below.refl _ _⟩
  rw [if_neg h2] at hA hB
  subst hB
  have HA : Hid (chkO ((l.map (·.1)).take 0) (l.drop 0) (d + 1) = A) := Lib.hid (by simpa using hA)
  have HIH := Lib.hid (IH (by omega))
  clear hA h1 h2 IH
  go_enter Tryz.func44, Tryz.ntmps44
  go_wp2_with fail
  refine (HB.out _).mono ?_
  rintro e w1 ⟨rfl, rfl⟩
  go_wp2_with fail
  go_loopg [6, 7, 8, 18] N (fun gk _ _ _ s18 wx => ∃ i : Nat, s18 = .int .i64 (i : Int) ∧ i + gk = N ∧ Hid (Below w1.heap.size w1 wx) ∧ Hid (chkO ((l.map (·.1)).take i) (l.drop i) (d + 1) = A))
  case atStart => exact ⟨0, by simp, by omega, Lib.hid (Below.refl _ _), HA⟩
  case round =>
    obtain ⟨i, rfl, hgk, HB2, HC⟩ := hrel
    by_cases hi : i < N
    · have hil : i < l.length := by rw [HN.out]; exact hi
      have ti : decide ((i : Int) < (N : Int)) = true := decide_eq_true (by omega)
      obtain ⟨b, o, rfl, hb, hav⟩ := HX.out (fun e => by rw [e] at hil; exact absurd hil (Nat.not_lt_zero _))
      obtain ⟨hk, x, hx, hxa⟩ := hav.get o l i hil
      have hbs := HSS.out b hb
      have ck := (HB2.out.cell (p := ⟨b, o + 2 * i, none⟩) hbs).trans hk
      have cx := (HB2.out.cell (p := ⟨b, o + 2 * i + 1, none⟩) hbs).trans hx
      rw [show o + 2 * i = o + i * 2 by omega] at ck cx
      have hst := chkO_drop ((l.map (·.1)).take i) l i (d + 1) hil
      rw [HC.out] at hst
      have hkl := (smallO_get l HS.out i hil).1
      have hsh := hxa.shape
      obtain ⟨W1, hW1⟩ : ∃ W1, wr.alloc (.cells #[.string (bs l[i].1), x] 56) = W1 := ⟨_, rfl⟩
      obtain ⟨p0, p1⟩ := two_box wr (.string (bs l[i].1)) x 56
      have hB3 : Below wr.heap.size wr W1 := by rw [← hW1]; exact (Below.refl _ _).alloc (Nat.le_refl _) _
      have hlt : wr.heap.size < W1.heap.size := by rw [← hW1]; simp
      rw [hW1] at p0 p1
      have HV := Lib.hid (fun W (hU : U8 W) => valid (bs l[i].1) W (by rw [bs_size]; omega) hU)
      rw [bs_data] at HV
      have HAV : Hid (∀ W, Below w1.heap.size w1 W → AVO S W b o l) := Lib.hid (fun W hW => hav.kept (fun _ h => h) (KeptS.of_below hW HSS.out) hb)
      have HXA : Hid (∀ W, Below w1.heap.size w1 W → AV S W l[i].2 x) := Lib.hid (fun W hW => hxa.kept (fun _ h => h) (KeptS.of_below hW HSS.out))
      have HB3 := Lib.hid (bstep HB2.out hB3)
      have HW1 := Lib.hid hW1
      have HP : Hid (∀ W, Below W1.heap.size W1 W → W.cell? ⟨wr.heap.size, 0, none⟩ = some (.string (bs l[i].1)) ∧ W.cell? ⟨wr.heap.size, 1, none⟩ = some x) := Lib.hid (fun W hW => ⟨(hW.cell (p := ⟨wr.heap.size, 0, none⟩) hlt).trans p0, (hW.cell (p := ⟨wr.heap.size, 1, none⟩) hlt).trans p1⟩)
      have HCT := Lib.hid (fun W (hW : Below w1.heap.size w1 W) Bx (hBx : Bx < W.heap.size) (hc : W.cell? ⟨Bx, 0, none⟩ = some (.string (bs l[i].1))) => c_contains l[i].1 Bx b o i c S l W hBx hc (Nat.lt_of_lt_of_le hbs hW.size) (HAV.out W hW) (by omega) (by omega))
      have HCK := Lib.hid (fun W (hW : Below w1.heap.size w1 W) => HIH.out l[i].2 x W S (smallO_get l HS.out i hil).2 (HXA.out W hW) (fun j hj => Nat.lt_of_lt_of_le (HSS.out j hj) hW.size) (HU.out.below hW))
      have hkeys := take_keys l i hil
      obtain ⟨K, hK⟩ : ∃ K, l[i].1 = K := ⟨_, rfl⟩
      rw [hK] at hst hkeys HV HCT HP HW1 ck p0
      generalize chk l[i].2 (d + 1) = R at hst HCK
      obtain ⟨Y, hY⟩ : ∃ Y, bs K = Y := ⟨_, rfl⟩
      rw [hY] at HV HCT HP HW1 ck p0
      clear hk hx hxa hav HC hB3 hkl hW1 HXA
      obtain ⟨g', rfl⟩ : ∃ g', gk = g' + 1 := ⟨gk - 1, by omega⟩
      rcases hsh with rfl | ⟨tx, ux, rfl⟩
      all_goals
        cases hv : valR K with
        | false =>
          rw [hv, if_pos rfl] at hst
          rw [hv] at HV
          have HST := Lib.hid hst
          clear hst hv hK hkeys
          go_wp2_with fail
          rw [HW1.out]
          refine (HV.out _ (HU.out.below HB3.out)).mono ?_
          rintro e w2 ⟨rfl, hb2⟩
          have HB4 := Lib.hid (bstep HB3.out hb2)
          clear hb2
          go_wp2_with fail
          go_ret
          exact ⟨by rw [HST.out]; rfl, HB4.out⟩
        | true =>
          rw [hv, if_neg (by decide)] at hst
          rw [hv] at HV
          have hi0 : (0 : Int) ≤ (i : Int) := by omega
          have hic : (i : Int) ≤ (c : Int) := by omega
          obtain ⟨D, hD⟩ : ∃ D, decide (K ∈ (l.map (·.1)).take i) = D := ⟨_, rfl⟩
          rw [hD] at HCT
          have HSTD := Lib.hid (And.intro hst (And.intro hD hkeys))
          clear hst hv hK hkeys hD
          go_wp2_with fail
          rw [HW1.out]
          refine (HV.out _ (HU.out.below HB3.out)).mono ?_
          rintro e w2 ⟨rfl, hb2⟩
          have HB4 := Lib.hid (bstep HB3.out hb2)
          have HP4 := Lib.hid (fun W (hW : Below w2.heap.size w2 W) => HP.out W (bstep hb2 hW))
          have HD4 := Lib.hid ((Below.refl w2.heap.size w2).drew)
          clear hb2
          go_wp2_with fail
          go_region_held3 (fun w' => w'.cell? ⟨wr.heap.size, 0, none⟩ = some (.string Y)) (first | exact (HP4.out _ HD4.out).1 | exact (HP4.out _ HB5.out).1 | exact (HP4.out _ HB6.out).1) (first
            | (go_at_call 26; refine (n_named Y _).mono ?_; rintro e w3 ⟨rfl, hw3⟩; have hbx := named_box Y w2.drew; rw [← hw3] at hbx; have HB5 : Hid (Below w2.heap.size w2 w3) := Lib.hid (by rw [hw3]; exact (Below.refl w2.heap.size w2).drew.alloc (Nat.le_refl _) _); have HX5 := Lib.hid hbx; clear hbx hw3)
            | (go_at_call 65; refine (HCT.out _ (bstep HB4.out HB5.out) _ HX5.out.2 HX5.out.1).mono ?_; rintro e w4 ⟨rfl, hb4⟩; have HB6 := Lib.hid (bstep HB5.out hb4); clear hb4))
          have HB7 := Lib.hid (bstep HB4.out HB6.out)
          obtain ⟨y0, y1⟩ := HP4.out _ HB6.out
          cases D with
          | true =>
            have HST : Hid (A = 22) := Lib.hid (by rw [HSTD.out.1, if_pos (of_decide_eq_true HSTD.out.2.1)])
            go_wp2_with fail
            go_ret
            exact ⟨by rw [HST.out]; rfl, HB7.out⟩
          | false =>
            have hst2 := HSTD.out.1
            rw [if_neg (of_decide_eq_false HSTD.out.2.1), ← HSTD.out.2.2] at hst2
            by_cases hr : R = 0
            · subst hr
              have HST : Hid (chkO ((l.map (·.1)).take (i + 1)) (l.drop (i + 1)) (d + 1) = A) := Lib.hid (by rw [hst2]; rfl)
              clear hst2
              go_wp2_with fail
              refine (HCK.out _ HB7.out).mono ?_
              rintro e w5 ⟨rfl, hb5⟩
              have HB8 := Lib.hid (bstep HB7.out hb5)
              clear hb5
              go_wp2_with fail
              go_roundg g'
              case measure => omega
              case rel => exact ⟨i + 1, by simp, by omega, HB8, HST⟩
            · have HST : Hid (R = A) := Lib.hid (by rw [hst2, if_pos hr])
              have tr : ((R : Int) != 0) = true := by rw [bne_iff_ne]; omega
              clear hst2 hr
              go_wp2_with fail
              refine (HCK.out _ HB7.out).mono ?_
              rintro e w5 ⟨rfl, hb5⟩
              have HB8 := Lib.hid (bstep HB7.out hb5)
              clear hb5
              go_wp2_with fail
              go_ret
              exact ⟨by rw [HST.out]; rfl, HB8.out⟩
    · have ti : decide ((i : Int) < (N : Int)) = false := decide_eq_false (by omega)
      have HR : Hid (A = 0) := Lib.hid (by rw [← HC.out, List.drop_eq_nil_of_le (by rw [HN.out]; omega), chkO])
      clear HC
      go_wp2_with fail
      go_ret
      exact ⟨by rw [HR.out]; rfl, HB2.out⟩
end Go.Proofs.YtcmkepkeeahioaaGreatDoor
namespace Go.Proofs.YtcmkepkeeahioaaGreatDoor
open Go.RowKit
theorem ta_nil : (∀ w, (Instr.typeAssert .nilIface 20 4 true).run Tryz.prog w = .ok (.tuple #[.bool false, .bool false]) w) ∧ (∀ w, (Instr.typeAssert .nilIface 20 3 true).run Tryz.prog w = .ok (.tuple #[.int .i64 0, .bool false]) w) ∧ (∀ w, (Instr.typeAssert .nilIface 20 9 true).run Tryz.prog w = .ok (.tuple #[.string ⟨#[]⟩, .bool false]) w) ∧ (∀ w, (Instr.typeAssert .nilIface 20 57 true).run Tryz.prog w = .ok (.tuple #[.slice none 0 0, .bool false]) w) ∧ (∀ w, (Instr.typeAssert .nilIface 20 58 true).run Tryz.prog w = .ok (.tuple #[.slice none 0 0, .bool false]) w) ∧ (∀ w, (Instr.typeAssert .nilIface 20 59 true).run Tryz.prog w = .ok (.tuple #[.float .f64 0, .bool false]) w) := by
  refine ⟨fun w => ?_, fun w => ?_, fun w => ?_, fun w => ?_, fun w => ?_, fun w => ?_⟩ <;> kernel_rfl
theorem ta_bool (v : Value) : (∀ w, (Instr.typeAssert (.iface 4 v) 20 4 true).run Tryz.prog w = .ok (.tuple #[v, .bool true]) w) ∧ (∀ w, (Instr.typeAssert (.iface 4 v) 20 3 true).run Tryz.prog w = .ok (.tuple #[.int .i64 0, .bool false]) w) ∧ (∀ w, (Instr.typeAssert (.iface 4 v) 20 9 true).run Tryz.prog w = .ok (.tuple #[.string ⟨#[]⟩, .bool false]) w) ∧ (∀ w, (Instr.typeAssert (.iface 4 v) 20 57 true).run Tryz.prog w = .ok (.tuple #[.slice none 0 0, .bool false]) w) ∧ (∀ w, (Instr.typeAssert (.iface 4 v) 20 58 true).run Tryz.prog w = .ok (.tuple #[.slice none 0 0, .bool false]) w) ∧ (∀ w, (Instr.typeAssert (.iface 4 v) 20 59 true).run Tryz.prog w = .ok (.tuple #[.float .f64 0, .bool false]) w) := by
  refine ⟨fun w => ?_, fun w => ?_, fun w => ?_, fun w => ?_, fun w => ?_, fun w => ?_⟩ <;> kernel_rfl
theorem ta_int (v : Value) : (∀ w, (Instr.typeAssert (.iface 3 v) 20 4 true).run Tryz.prog w = .ok (.tuple #[.bool false, .bool false]) w) ∧ (∀ w, (Instr.typeAssert (.iface 3 v) 20 3 true).run Tryz.prog w = .ok (.tuple #[v, .bool true]) w) ∧ (∀ w, (Instr.typeAssert (.iface 3 v) 20 9 true).run Tryz.prog w = .ok (.tuple #[.string ⟨#[]⟩, .bool false]) w) ∧ (∀ w, (Instr.typeAssert (.iface 3 v) 20 57 true).run Tryz.prog w = .ok (.tuple #[.slice none 0 0, .bool false]) w) ∧ (∀ w, (Instr.typeAssert (.iface 3 v) 20 58 true).run Tryz.prog w = .ok (.tuple #[.slice none 0 0, .bool false]) w) ∧ (∀ w, (Instr.typeAssert (.iface 3 v) 20 59 true).run Tryz.prog w = .ok (.tuple #[.float .f64 0, .bool false]) w) := by
  refine ⟨fun w => ?_, fun w => ?_, fun w => ?_, fun w => ?_, fun w => ?_, fun w => ?_⟩ <;> kernel_rfl
theorem ta_str (v : Value) : (∀ w, (Instr.typeAssert (.iface 9 v) 20 4 true).run Tryz.prog w = .ok (.tuple #[.bool false, .bool false]) w) ∧ (∀ w, (Instr.typeAssert (.iface 9 v) 20 3 true).run Tryz.prog w = .ok (.tuple #[.int .i64 0, .bool false]) w) ∧ (∀ w, (Instr.typeAssert (.iface 9 v) 20 9 true).run Tryz.prog w = .ok (.tuple #[v, .bool true]) w) ∧ (∀ w, (Instr.typeAssert (.iface 9 v) 20 57 true).run Tryz.prog w = .ok (.tuple #[.slice none 0 0, .bool false]) w) ∧ (∀ w, (Instr.typeAssert (.iface 9 v) 20 58 true).run Tryz.prog w = .ok (.tuple #[.slice none 0 0, .bool false]) w) ∧ (∀ w, (Instr.typeAssert (.iface 9 v) 20 59 true).run Tryz.prog w = .ok (.tuple #[.float .f64 0, .bool false]) w) := by
  refine ⟨fun w => ?_, fun w => ?_, fun w => ?_, fun w => ?_, fun w => ?_, fun w => ?_⟩ <;> kernel_rfl
theorem ta_lst (v : Value) : (∀ w, (Instr.typeAssert (.iface 57 v) 20 4 true).run Tryz.prog w = .ok (.tuple #[.bool false, .bool false]) w) ∧ (∀ w, (Instr.typeAssert (.iface 57 v) 20 3 true).run Tryz.prog w = .ok (.tuple #[.int .i64 0, .bool false]) w) ∧ (∀ w, (Instr.typeAssert (.iface 57 v) 20 9 true).run Tryz.prog w = .ok (.tuple #[.string ⟨#[]⟩, .bool false]) w) ∧ (∀ w, (Instr.typeAssert (.iface 57 v) 20 57 true).run Tryz.prog w = .ok (.tuple #[v, .bool true]) w) ∧ (∀ w, (Instr.typeAssert (.iface 57 v) 20 58 true).run Tryz.prog w = .ok (.tuple #[.slice none 0 0, .bool false]) w) ∧ (∀ w, (Instr.typeAssert (.iface 57 v) 20 59 true).run Tryz.prog w = .ok (.tuple #[.float .f64 0, .bool false]) w) := by
  refine ⟨fun w => ?_, fun w => ?_, fun w => ?_, fun w => ?_, fun w => ?_, fun w => ?_⟩ <;> kernel_rfl
theorem ta_obj (v : Value) : (∀ w, (Instr.typeAssert (.iface 58 v) 20 4 true).run Tryz.prog w = .ok (.tuple #[.bool false, .bool false]) w) ∧ (∀ w, (Instr.typeAssert (.iface 58 v) 20 3 true).run Tryz.prog w = .ok (.tuple #[.int .i64 0, .bool false]) w) ∧ (∀ w, (Instr.typeAssert (.iface 58 v) 20 9 true).run Tryz.prog w = .ok (.tuple #[.string ⟨#[]⟩, .bool false]) w) ∧ (∀ w, (Instr.typeAssert (.iface 58 v) 20 57 true).run Tryz.prog w = .ok (.tuple #[.slice none 0 0, .bool false]) w) ∧ (∀ w, (Instr.typeAssert (.iface 58 v) 20 58 true).run Tryz.prog w = .ok (.tuple #[v, .bool true]) w) ∧ (∀ w, (Instr.typeAssert (.iface 58 v) 20 59 true).run Tryz.prog w = .ok (.tuple #[.float .f64 0, .bool false]) w) := by
  refine ⟨fun w => ?_, fun w => ?_, fun w => ?_, fun w => ?_, fun w => ?_, fun w => ?_⟩ <;> kernel_rfl
theorem ta_flo (v : Value) : (∀ w, (Instr.typeAssert (.iface 59 v) 20 4 true).run Tryz.prog w = .ok (.tuple #[.bool false, .bool false]) w) ∧ (∀ w, (Instr.typeAssert (.iface 59 v) 20 3 true).run Tryz.prog w = .ok (.tuple #[.int .i64 0, .bool false]) w) ∧ (∀ w, (Instr.typeAssert (.iface 59 v) 20 9 true).run Tryz.prog w = .ok (.tuple #[.string ⟨#[]⟩, .bool false]) w) ∧ (∀ w, (Instr.typeAssert (.iface 59 v) 20 57 true).run Tryz.prog w = .ok (.tuple #[.slice none 0 0, .bool false]) w) ∧ (∀ w, (Instr.typeAssert (.iface 59 v) 20 58 true).run Tryz.prog w = .ok (.tuple #[.slice none 0 0, .bool false]) w) ∧ (∀ w, (Instr.typeAssert (.iface 59 v) 20 59 true).run Tryz.prog w = .ok (.tuple #[v, .bool true]) w) := by
  refine ⟨fun w => ?_, fun w => ?_, fun w => ?_, fun w => ?_, fun w => ?_, fun w => ?_⟩ <;> kernel_rfl
theorem ta_must (v : Value) (w : World) : (Instr.typeAssert (.iface 9 v) 20 9 false).run Tryz.prog w = .ok v w := by kernel_rfl
end Go.Proofs.YtcmkepkeeahioaaGreatDoor
namespace Go.Proofs.YtcmkepkeeahioaaGreatDoor
open Go.RowKit
set_option maxRecDepth 100000 in
set_option maxHeartbeats 2000000 in
theorem n_check_step (d : Nat) (hd : d ≤ 100) (IH : d ≤ 4 → CheckOk (d + 1)) : CheckOk d := by
  intro v x w S hs hx hS hU
  cases v with
  | nul =>
    rw [AV] at hx; subst hx
    obtain ⟨z1, z2, z3, z4, z5, z6⟩ := ta_nil
    rw [chk]
    go_enter Tryz.func27, Tryz.ntmps27
    go_wp2_with fail
    go_ret
    exact ⟨rfl, Below.refl _ _⟩
  | boo b =>
    rw [AV] at hx; subst hx
    obtain ⟨z1, z2, z3, z4, z5, z6⟩ := ta_bool (.bool b)
    rw [chk]
    go_enter Tryz.func27, Tryz.ntmps27
    go_wp2_with fail
    go_ret
    exact ⟨rfl, Below.refl _ _⟩
  | num n =>
    rw [AV] at hx; subst hx
    obtain ⟨z1, z2, z3, z4, z5, z6⟩ := ta_int (.int .i64 n)
    obtain ⟨R, hR⟩ : ∃ R, chk (JV.num n) d = R := ⟨_, rfl⟩
    rw [hR]
    rw [chk] at hR
    have hb := okNum_iff n
    by_cases h1 : n > 9007199254740991
    · have t1 : decide (n > 9007199254740991) = true := decide_eq_true h1
      have HR : Hid (R = 11) := Lib.hid (by rw [← hR, if_neg]; intro h; have := hb.1 h; omega)
      clear hb hR
      go_enter Tryz.func27, Tryz.ntmps27
      go_wp2_with fail
      go_ret
      exact ⟨by rw [HR.out]; rfl, Below.refl _ _⟩
    have t1 : decide (n > 9007199254740991) = false := decide_eq_false h1
    by_cases h2 : n < -9007199254740991
    · have t2 : decide (n < -9007199254740991) = true := decide_eq_true h2
      have HR : Hid (R = 11) := Lib.hid (by rw [← hR, if_neg]; intro h; have := hb.1 h; omega)
      clear hb hR
      go_enter Tryz.func27, Tryz.ntmps27
      go_wp2_with fail
      go_ret
      exact ⟨by rw [HR.out]; rfl, Below.refl _ _⟩
    have t2 : decide (n < -9007199254740991) = false := decide_eq_false h2
    have HR : Hid (R = 0) := Lib.hid (by rw [← hR, if_pos (hb.2 (by omega))])
    clear hb hR
    go_enter Tryz.func27, Tryz.ntmps27
    go_wp2_with fail
    go_ret
    exact ⟨by rw [HR.out]; rfl, Below.refl _ _⟩
  | txt s =>
    rw [AV] at hx; subst hx
    rw [smallJ] at hs
    rw [chk]
    have HV := Lib.hid (valid (bs s) w (by rw [bs_size]; omega) hU)
    rw [bs_data] at HV
    generalize bs s = Y at HV ⊢
    obtain ⟨z1, z2, z3, z4, z5, z6⟩ := ta_str (.string Y)
    cases hv : valR s with
    | true =>
      rw [hv] at HV
      clear hv
      go_enter Tryz.func27, Tryz.ntmps27
      go_wp2_with fail
      refine HV.out.mono ?_
      rintro e w1 ⟨rfl, hb⟩
      go_wp2_with fail
      go_ret
      exact ⟨rfl, hb⟩
    | false =>
      rw [hv] at HV
      clear hv
      go_enter Tryz.func27, Tryz.ntmps27
      go_wp2_with fail
      refine HV.out.mono ?_
      rintro e w1 ⟨rfl, hb⟩
      go_wp2_with fail
      go_ret
      exact ⟨rfl, hb⟩
  | lst l =>
    rw [AV] at hx
    obtain ⟨a, c, rfl, hc, hx⟩ := hx
    rw [smallJ] at hs
    have HL := Lib.hid (n_checkList d hd IH l a c w S hc hs.2 hs.1 hx hS hU)
    generalize chk (.lst l) d = R at HL ⊢
    obtain ⟨z1, z2, z3, z4, z5, z6⟩ := ta_lst (.slice a l.length c)
    clear hs hx hc IH
    go_enter Tryz.func27, Tryz.ntmps27
    go_wp2_with fail
    refine HL.out.mono ?_
    rintro e w1 ⟨rfl, hb⟩
    go_wp2_with fail
    go_ret
    exact ⟨rfl, hb⟩
  | obj l =>
    rw [AV] at hx
    obtain ⟨a, c, rfl, hc, hx⟩ := hx
    rw [smallJ] at hs
    have HL := Lib.hid (n_checkPairs d hd IH l a c w S hc hs.2 hs.1 hx hS hU)
    generalize chk (.obj l) d = R at HL ⊢
    obtain ⟨z1, z2, z3, z4, z5, z6⟩ := ta_obj (.slice a l.length c)
    clear hs hx hc IH
    go_enter Tryz.func27, Tryz.ntmps27
    go_wp2_with fail
    refine HL.out.mono ?_
    rintro e w1 ⟨rfl, hb⟩
    go_wp2_with fail
    go_ret
    exact ⟨rfl, hb⟩
  | bad =>
    rw [AV] at hx; subst hx
    obtain ⟨z1, z2, z3, z4, z5, z6⟩ := ta_flo (.float .f64 0x3FF8000000000000)
    rw [chk]
    go_enter Tryz.func27, Tryz.ntmps27
    go_wp2_with fail
    go_ret
    exact ⟨rfl, Below.refl _ _⟩
theorem n_check_all (m : Nat) : ∀ d, 5 ≤ d + m → d ≤ 50 → CheckOk d := by
  induction m with
  | zero => intro d h1 h2; exact n_check_step d (by omega) (fun h => by omega)
  | succ m ih => intro d h1 h2; exact n_check_step d (by omega) (fun h => ih (d + 1) (by omega) (by omega))
theorem n_Check (v : JV) (x : Value) (w : World) (S : Nat → Prop) (hs : smallJ v) (hx : AV S w v x) (hS : ∀ i, S i → i < w.heap.size) (hU : U8 w) :
    Calls Tryz.prog 14 #[x] w fun e w' => e = .returned (.int .i64 (chk v 1 : Nat)) ∧ Below w.heap.size w w' := by
  have H := Lib.hid (n_check_all 4 1 (by omega) (by omega) v x w S hs hx hS hU)
  generalize chk v 1 = R at H ⊢
  clear hx hS
  go_enter Tryz.func14, Tryz.ntmps14
  go_wp2_with fail
  refine H.out.mono ?_
  rintro e w1 ⟨rfl, hb⟩
  go_wp2_with fail
  go_ret
  exact ⟨rfl, hb⟩
end Go.Proofs.YtcmkepkeeahioaaGreatDoor
namespace Go.Proofs.YtcmkepkeeahioaaGreatDoor
open Go.RowKit Go.Lib

/-- how a rune stands in quotes -/
def qr (c : Nat) : List UInt8 := if shortN c ≠ 0 then [92, UInt8.ofNat (shortN c)] else if c < 32 then [92, 117, 48, 48, hexB (c / 16), hexB (c % 16)] else Lib.encodeRune (c : Int)
theorem dec_high (l : List UInt8) (hb : ¬ badR l) (hh : 128 ≤ (l.getD 0 0).toNat) : 128 ≤ (Lib.decodeL l).1 := by
  unfold badR at hb
  rw [Go.Lib.decodeL_N] at hb ⊢
  rcases Go.Lib.decodeN_shape l.length (l.getD 0 0).toNat (l.getD 1 0).toNat (l.getD 2 0).toNat (l.getD 3 0).toNat with ⟨c, e⟩ | ⟨c1, c2, c3, cv, e⟩ | ⟨c1, c2, c3, c4, cv, cs, e⟩ | ⟨c1, c2, c3, c4, c5, cv, cw, e⟩ | e
  · omega
  · rw [e]; show 128 ≤ _; omega
  · rw [e]; show 128 ≤ _; omega
  · rw [e]; show 128 ≤ _; omega
  · rw [e] at hb; exact absurd ⟨rfl, rfl⟩ hb
theorem short_high (c : Nat) (h : 128 ≤ c) : shortN c = 0 := by
  unfold shortN
  rw [if_neg (by omega), if_neg (by omega), if_neg (by omega), if_neg (by omega), if_neg (by omega), if_neg (by omega)]
theorem quo_step (l : List UInt8) (h : l ≠ []) (hb : ¬ badR l) : l.flatMap qb = qr (Lib.decodeL l).1 ++ (l.drop (rwd l)).flatMap qb := by
  by_cases hl : (l.getD 0 0).toNat < 128
  · obtain ⟨x, t, rfl⟩ : ∃ x t, l = x :: t := by cases l with
      | nil => exact absurd rfl h
      | cons x t => exact ⟨x, t, rfl⟩
    have hx : x.toNat < 128 := hl
    have hd := low_rune x t hx
    have hw : rwd (x :: t) = 1 := by unfold rwd; rw [hd]
    rw [hw, hd, List.flatMap_cons]
    show qb x ++ _ = qr x.toNat ++ t.flatMap qb
    congr 1
    unfold qb qr
    rw [enc_low x hx]
  · have hh : 128 ≤ (l.getD 0 0).toNat := by omega
    have hc := dec_high l hb hh
    have e1 : qr (Lib.decodeL l).1 = l.take (rwd l) := by
      unfold qr
      rw [if_neg (by rw [short_high _ hc]; decide), if_neg (by omega)]
      exact Lib.encode_decode l h hb
    rw [e1]
    conv => lhs; rw [← List.take_append_drop (rwd l) l]
    rw [List.flatMap_append, flat_high _ (take_high l h hb hh)]
theorem short_byte : ∀ c : Fin 256, (UInt8.ofNat (shortN c.val)).toNat = shortN c.val := by decide +kernel
theorem qr_len (c : Nat) : (qr c).length ≤ 6 := by
  unfold qr; split
  · show 2 ≤ 6; decide
  · split
    · show 6 ≤ 6; decide
    · have := Lib.encodeRuneZ_length (c : Int)
      have e : (Lib.encodeRune (c : Int)).length = (Lib.encodeRuneZ (c : Int)).length := by unfold Lib.encodeRune; rw [List.length_map]
      omega
theorem and15 : ∀ c : Fin 32, bits BinOp.and IntKind.i32 ((c.val : Nat) : Int) 15 = ((c.val % 16 : Nat) : Int) := by decide +kernel
theorem hex_get (d : Nat) (h : d < 16) (hb : d < (⟨#[48, 49, 50, 51, 52, 53, 54, 55, 56, 57, 97, 98, 99, 100, 101, 102]⟩ : ByteArray).size) : (⟨#[48, 49, 50, 51, 52, 53, 54, 55, 56, 57, 97, 98, 99, 100, 101, 102]⟩ : ByteArray)[d] = hexB d := by
  have : ∀ (e : Fin 16), (⟨#[48, 49, 50, 51, 52, 53, 54, 55, 56, 57, 97, 98, 99, 100, 101, 102]⟩ : ByteArray)[e.val]'e.isLt = hexB e.val := by decide
  exact this ⟨d, h⟩

set_option maxRecDepth 100000 in
set_option maxHeartbeats 400000 in
theorem quote (s : ByteArray) (w : World) (hs : s.size ≤ 1000000) (hu : U8 w) :
    Calls Tryz.prog 60 #[.string s] w fun e w' => e = .returned (.tuple #[.string (bs (if valR s.data.toList = true then quoL s.data.toList else [])), .int .i64 (if valR s.data.toList = true then 0 else 4)]) ∧ Below w.heap.size w w' := by
  have c := valid s w (by omega) hu
  cases hv : valR s.data.toList
  · rw [hv] at c
    go_enter Tryz.func60, Tryz.ntmps60
    go_wp2_with fail
    refine c.mono ?_
    rintro e w1 ⟨rfl, hb⟩
    go_wp2_with fail
    go_ret2
    exact ⟨rfl, hb⟩
  · rw [hv] at c
    go_enter Tryz.func60, Tryz.ntmps60
    go_wp2_with fail
    refine c.mono ?_
    rintro e w1 ⟨rfl, hb⟩
    have hB := BI.fresh w1
    have hsz : w1.heap.size ≤ (w1.alloc (.cells #[.pointer none, .slice none 0 0] 81 (0, 0))).heap.size := by simp
    have hA : Below w1.heap.size w1 (w1.alloc (.cells #[.pointer none, .slice none 0 0] 81 (0, 0))) := (Below.refl _ w1).alloc (Nat.le_refl _) _
    go_wp2_with fail
    refine (c_byte w1.heap.size [] 34 _ hB (by simp) hsz).mono ?_
    rintro e w2 ⟨rfl, hB2, b2, -⟩
    have hA2 := hA.trans b2
    have hlt2 : w1.heap.size < w2.heap.size := hB2.elim (fun x => x.lt) (fun x => x.lt)
    clear hB hsz hA b2
    go_wp2_with fail
    go_loopg [] s.size (fun gk wx => ∃ (k : Nat) (acc : List UInt8), BI w1.heap.size acc wx ∧ wx.heap[w2.heap.size]? = some (.stringIter s k) ∧ Below w1.heap.size w1 wx ∧
      Hid (acc ++ (s.data.toList.drop k).flatMap qb = 34 :: s.data.toList.flatMap qb) ∧ Hid (valR (s.data.toList.drop k) = true) ∧ acc.length ≤ 6 * k + 1 ∧ s.size ≤ k + gk ∧ k ≤ s.size)
    case atStart =>
      refine ⟨0, [34], BI.alloc hB2 _, World.iter_heap w2 s 0, hA2.trans ((Below.refl _ w2).alloc (by omega) _), Lib.hid ?_, Lib.hid ?_, by simp, by omega, by omega⟩
      · rw [List.drop_zero]; rfl
      · rw [List.drop_zero]; exact hv
    case round =>
      obtain ⟨k, acc, hI, hit, hbx, HS, HV, hal, hfu, hks⟩ := hrel
      have hszI : w2.heap.size < wr.heap.size := (Array.getElem?_eq_some_iff.1 hit).1
      by_cases hlt : k < s.size
      · obtain ⟨g', rfl⟩ : ∃ g', gk = g' + 1 := ⟨gk - 1, by omega⟩
        have hne := drop_ne s k hlt
        have hnx : ∀ ty, (Instr.next (.pointer (some ⟨w2.heap.size, 0, none⟩)) true ty).run Tryz.prog wr = _ := fun ty => Lib.run_next_any_at wr w2.heap.size s k ty hit hlt
        rw [dec_drop] at hnx
        have hnb := val_head _ hne HV.out
        have hq := quo_step _ hne hnb
        have hvs := valR_step _ hne hnb
        have hw := rwd_pos (s.data.toList.drop k)
        have hw2 := rwd_le _ hne
        rw [List.length_drop, size_len] at hw2
        have hcr := Lib.decodeL_rune (s.data.toList.drop k)
        obtain ⟨R, hR⟩ : ∃ R, (Lib.decodeL (s.data.toList.drop k)).1 = R := ⟨_, rfl⟩
        obtain ⟨M, hM⟩ : ∃ M, (Lib.decodeL (s.data.toList.drop k)).2 = M := ⟨_, rfl⟩
        rw [hR, hM] at hnx
        rw [hR] at hcr
        have hMw : rwd (s.data.toList.drop k) = M := hM
        rw [hMw, hR, List.drop_drop] at hq
        rw [hMw, List.drop_drop] at hvs
        rw [hMw] at hw hw2
        have HS2 : Hid ((acc ++ qr R) ++ (s.data.toList.drop (k + M)).flatMap qb = 34 :: s.data.toList.flatMap qb) := Lib.hid (by rw [← HS.out, hq, List.append_assoc])
        have HV2 : Hid (valR (s.data.toList.drop (k + M)) = true) := Lib.hid (by rw [← hvs]; exact HV.out)
        have hql := qr_len R
        have hit2 := Lib.iterAt_heap wr w2.heap.size s k (k + M) hit
        have hI2 : BI w1.heap.size acc (wr.iterAt w2.heap.size s (k + M)) := hI.iterAt hit (k + M)
        have hb2 : Below w1.heap.size w1 (wr.iterAt w2.heap.size s (k + M)) := hbx.trans ((Lib.below_iterAt (Below.refl w2.heap.size wr) (Nat.le_refl _) s (k + M)).mono (by omega))
        obtain ⟨W, hW⟩ : ∃ W, wr.iterAt w2.heap.size s (k + M) = W := ⟨_, rfl⟩
        rw [hW] at hnx hI2 hit2 hb2
        have hszW : w2.heap.size < W.heap.size := (Array.getElem?_eq_some_iff.1 hit2).1
        clear hq hvs hMw hM hit hI hbx hR hW HS HV hnb hne
        have cS := short R W
        by_cases hsh : shortN R ≠ 0
        · have hdd : decide (shortN R ≠ 0) = true := decide_eq_true hsh
          have hqr : qr R = [92, UInt8.ofNat (shortN R)] := if_pos hsh
          have hs8 : ((UInt8.ofNat (shortN R)).toNat : Int) = (shortN R : Int) := by
            have := short_low _ hsh
            rw [short_byte ⟨R, by omega⟩]
          rw [hqr] at HS2
          rw [hdd, ← hs8] at cS
          obtain ⟨lb, hlb⟩ : ∃ x : UInt8, UInt8.ofNat (shortN R) = x := ⟨_, rfl⟩
          rw [hlb] at HS2 cS
          clear hdd hqr hs8 hsh hql hlb
          go_wp2_with fail
          refine cS.mono ?_
          rintro e W' ⟨rfl, rfl⟩
          go_wp2_with fail
          refine (c_byte w1.heap.size acc 92 W' hI2 (by omega) (by omega)).mono ?_
          rintro e W3 ⟨rfl, hI3, b3, k3⟩
          have hit3 := k3.iter hit2 (by omega)
          have hb3 := hb2.trans b3
          have hszW3 : w2.heap.size < W3.heap.size := (Array.getElem?_eq_some_iff.1 hit3).1
          clear hI2 b3 k3 hit2 hb2 hszW
          go_wp2_with fail
          refine (c_byte w1.heap.size (acc ++ [92]) lb W3 hI3 (by rw [List.length_append, List.length_singleton]; omega) (by omega)).mono ?_
          rintro e W4 ⟨rfl, hI4, b4, k4⟩
          have hit4 := k4.iter hit3 (by omega)
          have hb4 := hb3.trans b4
          clear hI3 b4 k4 hit3 hb3 hszW3
          go_wp2_with fail
          go_roundg g'
          case measure => omega
          case rel => exact ⟨k + M, _, hI4, hit4, hb4, Lib.hid (by rw [List.append_assoc acc]; exact HS2.out), HV2, by simp; omega, by omega, by omega⟩
        · have hdd : decide (shortN R ≠ 0) = false := decide_eq_false hsh
          rw [hdd] at cS
          by_cases hc : R < 32
          · have hqr : qr R = [92, 117, 48, 48, hexB (R / 16), hexB (R % 16)] := by unfold qr; rw [if_neg hsh, if_pos hc]
            rw [hqr] at HS2
            have t1 : decide ((R : Int) < 32) = true := decide_eq_true (by omega)
            clear hdd hqr hsh hql
            have hx1 : R / 16 < 16 := by omega
            have hx2 : R % 16 < 16 := by omega
            have hb15 : bits BinOp.and IntKind.i32 (R : Int) 15 = ((R % 16 : Nat) : Int) := and15 ⟨R, hc⟩
            go_wp2_with fail
            refine cS.mono ?_
            rintro e W' ⟨rfl, rfl⟩
            go_wp2_with fail
            refine (c_str w1.heap.size acc _ W' hI2 (by show _ + 4 ≤ _; omega) (by omega)).mono ?_
            rintro e W3 ⟨rfl, hI3, b3, k3⟩
            have hit3 := k3.iter hit2 (by omega)
            have hb3 := hb2.trans b3
            have hszW3 : w2.heap.size < W3.heap.size := (Array.getElem?_eq_some_iff.1 hit3).1
            clear hI2 b3 k3 hit2 hb2 hszW
            go_wp2_with fail
            rw [hex_get (R / 16) hx1]
            refine (c_byte w1.heap.size _ (hexB (R / 16)) W3 hI3 (by rw [List.length_append]; show _ + 4 ≤ _; omega) (by omega)).mono ?_
            rintro e W4 ⟨rfl, hI4, b4, k4⟩
            have hit4 := k4.iter hit3 (by omega)
            have hb4 := hb3.trans b4
            have hszW4 : w2.heap.size < W4.heap.size := (Array.getElem?_eq_some_iff.1 hit4).1
            clear hI3 b4 k4 hit3 hb3 hszW3
            go_wp2_with fail
            rw [hex_get (R % 16) hx2]
            refine (c_byte w1.heap.size _ (hexB (R % 16)) W4 hI4 (by rw [List.length_append, List.length_append]; show _ + 4 + 1 ≤ _; omega) (by omega)).mono ?_
            rintro e W5 ⟨rfl, hI5, b5, k5⟩
            have hit5 := k5.iter hit4 (by omega)
            have hb5 := hb4.trans b5
            clear hI4 b5 k5 hit4 hb4 hszW4
            go_wp2_with fail
            go_roundg g'
            case measure => omega
            case rel => exact ⟨k + M, _, hI5, hit5, hb5, Lib.hid (by rw [List.append_assoc acc, List.append_assoc acc]; exact HS2.out), HV2, by rw [List.length_append, List.length_append, List.length_append]; show _ + 4 + 1 + 1 ≤ _; omega, by omega, by omega⟩
          · have hqr : qr R = Lib.encodeRune (R : Int) := by unfold qr; rw [if_neg hsh, if_neg hc]
            rw [hqr] at HS2
            rw [hqr] at hql
            have t1 : decide ((R : Int) < 32) = false := decide_eq_false (by omega)
            clear hdd hqr hsh
            go_wp2_with fail
            refine cS.mono ?_
            rintro e W' ⟨rfl, rfl⟩
            go_wp2_with fail
            refine (c_rune w1.heap.size acc (R : Int) (by omega) (by omega) W' hI2 (by omega) (by omega)).mono ?_
            rintro e W3 ⟨rfl, hI3, b3, k3⟩
            have hit3 := k3.iter hit2 (by omega)
            have hb3 := hb2.trans b3
            clear hI2 b3 k3 hit2 hb2 hszW
            go_wp2_with fail
            go_roundg g'
            case measure => omega
            case rel => exact ⟨k + M, _, hI3, hit3, hb3, HS2, HV2, by rw [List.length_append]; omega, by omega, by omega⟩
      · obtain rfl : k = s.size := by omega
        have hnx : ∀ ty, (Instr.next (.pointer (some ⟨w2.heap.size, 0, none⟩)) true ty).run Tryz.prog wr = _ := fun ty => Lib.run_next_end_at wr w2.heap.size s s.size ty hit hlt
        have HS2 : Hid (acc = 34 :: s.data.toList.flatMap qb) := Lib.hid (by rw [← HS.out, ← size_len s, List.drop_length]; exact (List.append_nil _).symm)
        clear HS hit
        go_wp2_with fail
        refine (c_byte w1.heap.size acc 34 wr hI (by omega) (by omega)).mono ?_
        rintro e W3 ⟨rfl, hI3, b3, -⟩
        have hb3 := hbx.trans b3
        have hszW3 : w1.heap.size ≤ W3.heap.size := by have := b3.size; omega
        clear b3 hbx
        go_wp2_with fail
        refine (c_text w1.heap.size _ W3 hI3 hszW3).mono ?_
        rintro e W4 ⟨rfl, -, b4⟩
        go_wp2_with fail
        go_ret2
        exact ⟨by rw [HS2.out]; rfl, bstep hb (hb3.trans b4)⟩
end Go.Proofs.YtcmkepkeeahioaaGreatDoor
namespace Go.Proofs.YtcmkepkeeahioaaGreatDoor
open Go.RowKit Go.Lib
theorem c_fbool (b : Bool) (w : World) : Calls Tryz.prog 58 #[.bool b] w fun e w' => e = .returned (.string (bs (if b = true then [116, 114, 117, 101] else [102, 97, 108, 115, 101]))) ∧ w' = w := by
  have h := Tryz.strconv_FormatBool b w
  have e : Go.Lib.formatBool b = (if b = true then [116, 114, 117, 101] else [102, 97, 108, 115, 101]) := by cases b <;> decide +kernel
  rw [e] at h
  exact h
/-- what has been laid -/
def LayPost (b : Nat) (l : List UInt8) (w : World) (e : Ending) (w' : World) : Prop := e = .returned (.tuple #[]) ∧ BI b l w' ∧ Below b w w' ∧ Lib.OthersKept 5 (some b) w w'
/-- what a writing call of the builder leaves -/
def WPost (b : Nat) (l : List UInt8) (w w' : World) : Prop := BI b l w' ∧ Below b w w' ∧ Lib.OthersKept 5 (some b) w w'
theorem WPost.refl {b : Nat} {l : List UInt8} {w : World} (h : BI b l w) : WPost b l w w := ⟨h, Below.refl _ _, Lib.OthersKept.refl _ _ _⟩
theorem WPost.trans {b : Nat} {l m : List UInt8} {w w1 w2 : World} (h : WPost b l w w1) (k : WPost b m w1 w2) : WPost b m w w2 := ⟨k.1, h.2.1.trans k.2.1, h.2.2.trans k.2.2⟩
theorem WPost.below {b : Nat} {l : List UInt8} {w w1 w2 : World} (h : WPost b l w w1) (hb : b ≤ w1.heap.size) (k : Below w1.heap.size w1 w2) : WPost b l w w2 := ⟨h.1.below k, h.2.1.trans (k.mono hb), h.2.2.trans ((Lib.OthersKept.refl _ _ _).below k)⟩
theorem w_byte (b : Nat) (l : List UInt8) (c : UInt8) (w : World) (h : BI b l w) (hl : l.length ≤ 100000000) (hb : b ≤ w.heap.size) :
    Calls Tryz.prog 61 #[.pointer (some ⟨b, 0, none⟩), .int .u8 (c.toNat : Int)] w fun e w' => e = .returned .nilIface ∧ WPost b (l ++ [c]) w w' := c_byte b l c w h hl hb
theorem w_str (b : Nat) (l m : List UInt8) (w : World) (h : BI b l w) (hl : l.length + m.length ≤ 100000000) (hb : b ≤ w.heap.size) :
    Calls Tryz.prog 35 #[.pointer (some ⟨b, 0, none⟩), .string (bs m)] w fun e w' => e = .returned (.tuple #[.int .i64 (bs m).size, .nilIface]) ∧ WPost b (l ++ m) w w' := by
  have h1 := c_str b l (bs m) w h (by rw [bs_size]; exact hl) hb
  rw [bs_data] at h1
  exact h1
/-- lay is right so deep -/
def LayOk (w0 : World) (b d : Nat) : Prop := ∀ (v : JV) (x : Value) (w : World) (S : Nat → Prop) (acc : List UInt8), chk v d = 0 → smallJ v → AV S w v x → (∀ i, S i → i < b) → BI b acc w → b < w.heap.size → acc.length + (json v).length ≤ 50000000 → Below w0.heap.size w0 w →
  Calls Tryz.prog 38 #[.pointer (some ⟨b, 0, none⟩), x] w (LayPost b (acc ++ json v) w)
set_option maxRecDepth 100000 in
set_option maxHeartbeats 4000000 in
theorem n_lay_list (w0 : World) (b d : Nat) (hlo : w0.heap.size ≤ b) (IH : LayOk w0 b (d + 1)) (l : List JV) (a : Option Addr) (c : Nat) (w : World) (S : Nat → Prop) (acc : List UInt8) (hck : chkL l (d + 1) = 0) (hs : smallL l) (hl : l.length ≤ 100000) (hc : l.length ≤ c) (hx : l ≠ [] → ∃ b o, a = some ⟨b, o, none⟩ ∧ S b ∧ AVL S w b o l) (hS : ∀ i, S i → i < b) (hB : BI b acc w) (hb : b < w.heap.size) (hlen : acc.length + (json (.lst l)).length ≤ 50000000) (hb0 : Below w0.heap.size w0 w) :
    Calls Tryz.prog 38 #[.pointer (some ⟨b, 0, none⟩), .iface 57 (.slice a l.length c)] w (LayPost b (acc ++ json (.lst l)) w) := by
  obtain ⟨z1, z2, z3, z4, z5, z6⟩ := ta_lst (.slice a l.length c)
  obtain ⟨N, hN⟩ : ∃ N, l.length = N := ⟨_, rfl⟩
  rw [hN] at hl hc z1 z2 z3 z4 z5 z6 ⊢
  have hj : json (.lst l) = 91 :: (jsonL true l ++ [93]) := by rw [json]
  have HN := Lib.hid hN
  have HS := Lib.hid hs
  have HX := Lib.hid hx
  have HSS := Lib.hid hS
  have HW0 := Lib.hid (WPost.refl hB)
  have HLEN : Hid (acc.length + (jsonL true l).length + 2 ≤ 50000000) := Lib.hid (by rw [hj] at hlen; simp at hlen; omega)
  have HJ := Lib.hid hj
  have HIH := Lib.hid IH
  have HBW := Lib.hid (And.intro hb hb0)
  have H1 := Lib.hid (w_byte b acc 91 w hB (by have := HLEN.out; omega) (Nat.le_of_lt hb))
  have HCK := Lib.hid hck
  clear hj hN hs hx hS hB hlen IH hb hb0 hck
  generalize json (.lst l) = J at HJ ⊢
  go_enter Tryz.func38, Tryz.ntmps38
  go_wp2_with fail
  refine H1.out.mono ?_
  rintro e w1 ⟨rfl, p1⟩
  have HP1 := Lib.hid p1
  clear p1
  go_wp2_with fail
  go_loopg [11, 12, 52] N (fun gk _ _ s52 wx => ∃ i : Nat, s52 = .int .i64 (i : Int) ∧ i + gk = N ∧ Hid (∃ m, WPost b m w wx ∧ m.length ≤ 50000000 ∧ m ++ jsonL (decide (i = 0)) (l.drop i) = acc ++ 91 :: jsonL true l ∧ chkL (l.drop i) (d + 1) = 0))
  case atStart => exact ⟨0, by simp, by omega, Lib.hid ⟨acc ++ [91], HP1.out, by have := HLEN.out; simp; omega, by simp, HCK.out⟩⟩
  case round =>
    obtain ⟨i, rfl, hgk, HW⟩ := hrel
    by_cases hi : i < N
    · have hil : i < l.length := by rw [HN.out]; exact hi
      have ti : decide ((i : Int) < (N : Int)) = true := decide_eq_true (by omega)
      obtain ⟨m, hw, hml, hm, hck⟩ := HW.out
      rw [List.drop_eq_getElem_cons hil] at hm hck
      obtain ⟨hc1, hc2⟩ := chkL_cons _ _ _ hck
      obtain ⟨bb, o, rfl, hbb, hav⟩ := HX.out (fun e => by rw [e] at hil; exact absurd hil (Nat.not_lt_zero _))
      obtain ⟨x, hx, hxa⟩ := hav.get o l i hil
      have cx := (hw.2.1.cell (p := ⟨bb, o + i, none⟩) (HSS.out bb hbb)).trans hx
      have hbx : b ≤ wr.heap.size := Nat.le_trans (Nat.le_of_lt HBW.out.1) hw.2.1.size
      have hlen0 := congrArg List.length hm
      have hLE := HLEN.out
      have HX2 : Hid (∀ W k, WPost b k w W → k.length + (json l[i]).length ≤ 50000000 → Calls Tryz.prog 38 #[.pointer (some ⟨b, 0, none⟩), x] W (LayPost b (k ++ json l[i]) W)) := Lib.hid (fun W k hk hkl => HIH.out l[i] x W S k hc1 (smallL_get l HS.out i hil) (hxa.kept (fun _ h => h) (KeptS.of_below hk.2.1 HSS.out)) HSS.out hk.1 (Nat.lt_of_lt_of_le HBW.out.1 hk.2.1.size) hkl (HBW.out.2.trans (hk.2.1.mono hlo)))
      obtain ⟨g', rfl⟩ : ∃ g', gk = g' + 1 := ⟨gk - 1, by omega⟩
      obtain ⟨V, hV⟩ : ∃ V, json l[i] = V := ⟨_, rfl⟩
      rw [hV] at HX2
      by_cases h0 : i = 0
      · have t0 : decide ((i : Int) > 0) = false := decide_eq_false (by omega)
        have n0 : ¬ 0 < i := by omega
        have hm2 : m ++ V ++ jsonL (decide (i + 1 = 0)) (l.drop (i + 1)) = acc ++ 91 :: jsonL true l := by
          rw [← hm, jsonL, hV, decide_eq_true h0, if_pos rfl, decide_eq_false (by omega)]; simp
        have hml2 : (m ++ V).length ≤ 50000000 := by
          have := congrArg List.length hm2
          simp only [List.length_append, List.length_cons] at this hlen0 ⊢
          omega
        have HC := Lib.hid (HX2.out wr m hw (by simpa using hml2))
        have HNX := Lib.hid (And.intro hw (And.intro hm2 (And.intro hml2 hc2)))
        clear hx hxa hav hck hm hml hw hlen0 hm2 hml2 hc1 hc2 hV h0 HW
        go_wp2_with fail
        refine HC.out.mono ?_
        rintro e w2 ⟨rfl, p2⟩
        go_wp2_with fail
        go_roundg g'
        case measure => omega
        case rel => exact ⟨i + 1, by simp, by omega, Lib.hid ⟨_, HNX.out.1.trans p2, HNX.out.2.2.1, HNX.out.2.1, HNX.out.2.2.2⟩⟩
      · have t0 : decide ((i : Int) > 0) = true := decide_eq_true (by omega)
        have n0 : 0 < i := by omega
        have hm2 : m ++ [44] ++ V ++ jsonL (decide (i + 1 = 0)) (l.drop (i + 1)) = acc ++ 91 :: jsonL true l := by
          rw [← hm, jsonL, hV, decide_eq_false h0, if_neg (by decide), decide_eq_false (by omega)]; simp
        have hml2 : (m ++ [44] ++ V).length ≤ 50000000 := by
          have := congrArg List.length hm2
          simp only [List.length_append, List.length_cons] at this hlen0 ⊢
          omega
        have HBY := Lib.hid (w_byte b m 44 wr hw.1 (by omega) hbx)
        have HNX := Lib.hid (And.intro hw (And.intro hm2 (And.intro hml2 hc2)))
        clear hx hxa hav hck hm hml hw hlen0 hm2 hml2 hc1 hc2 hV h0 HW
        go_wp2_with fail
        refine HBY.out.mono ?_
        rintro e w2 ⟨rfl, p2⟩
        have HW2 := Lib.hid (HNX.out.1.trans p2)
        clear p2
        go_wp2_with fail
        refine (HX2.out w2 _ HW2.out (by have := HNX.out.2.2.1; simp only [List.length_append] at this ⊢; omega)).mono ?_
        rintro e w3 ⟨rfl, p3⟩
        go_wp2_with fail
        go_roundg g'
        case measure => omega
        case rel => exact ⟨i + 1, by simp, by omega, Lib.hid ⟨_, HW2.out.trans p3, HNX.out.2.2.1, HNX.out.2.1, HNX.out.2.2.2⟩⟩
    · have ti : decide ((i : Int) < (N : Int)) = false := decide_eq_false (by omega)
      obtain ⟨m, hw, hml, hm, hck⟩ := HW.out
      rw [List.drop_eq_nil_of_le (by rw [HN.out]; omega), jsonL, List.append_nil] at hm
      have HBY := Lib.hid (w_byte b m 93 wr hw.1 (by omega) (Nat.le_trans (Nat.le_of_lt HBW.out.1) hw.2.1.size))
      have HF := Lib.hid (And.intro hm hw)
      clear hm hck hml hw HW
      go_wp2_with fail
      refine HBY.out.mono ?_
      rintro e w2 ⟨rfl, p2⟩
      have HW2 := Lib.hid (HF.out.2.trans p2)
      clear p2
      go_wp2_with fail
      go_end0
      refine ⟨rfl, ?_⟩
      have h2 := HW2.out
      rw [HF.out.1] at h2
      have ej : (acc ++ 91 :: jsonL true l) ++ [93] = acc ++ J := by rw [HJ.out]; simp
      rw [ej] at h2
      exact h2
theorem box_kept (b g : Nat) (x y : Value) (k : List UInt8) (w0 w w' : World) (hg : g = w0.heap.size) (hw : w = w0.alloc (.cells #[x, y] 56)) (hb : b < w0.heap.size) (h : WPost b k w w') : w'.cell? ⟨g, 0, none⟩ = some x ∧ w'.cell? ⟨g, 1, none⟩ = some y := by
  subst hg hw
  have h1 := h.2.2 _ _ (heap_alloc_new w0 (.cells #[x, y] 56)) (fun e => by have := Option.some.inj e; omega) (fun c fz e => by injection e with _ e2 _; exact absurd e2 (by decide))
  exact ⟨by unfold World.cell?; rw [h1]; rfl, by unfold World.cell?; rw [h1]; rfl⟩
set_option maxRecDepth 100000 in
set_option maxHeartbeats 4000000 in
theorem n_lay_pairs (w0 : World) (b d : Nat) (hlo : w0.heap.size ≤ b) (IH : LayOk w0 b (d + 1)) (l : List (List UInt8 × JV)) (a : Option Addr) (c : Nat) (w : World) (S : Nat → Prop) (acc : List UInt8) (prev : List (List UInt8)) (hck : chkO prev l (d + 1) = 0) (hs : smallO l) (hl : l.length ≤ 100000) (hc : l.length ≤ c) (hx : l ≠ [] → ∃ b o, a = some ⟨b, o, none⟩ ∧ S b ∧ AVO S w b o l) (hS : ∀ i, S i → i < b) (hB : BI b acc w) (hb : b < w.heap.size) (hlen : acc.length + (json (.obj l)).length ≤ 50000000) (hb0 : Below w0.heap.size w0 w) :
    Calls Tryz.prog 38 #[.pointer (some ⟨b, 0, none⟩), .iface 58 (.slice a l.length c)] w (LayPost b (acc ++ json (.obj l)) w) := by
  obtain ⟨z1, z2, z3, z4, z5, z6⟩ := ta_obj (.slice a l.length c)
  obtain ⟨N, hN⟩ : ∃ N, l.length = N := ⟨_, rfl⟩
  rw [hN] at hl hc z1 z2 z3 z4 z5 z6 ⊢
  have hj : json (.obj l) = 123 :: (jsonO true l ++ [125]) := by rw [json]
  have HN := Lib.hid hN
  have HS := Lib.hid hs
  have HX := Lib.hid hx
  have HSS := Lib.hid hS
  have HW0 := Lib.hid (WPost.refl hB)
  have HLEN : Hid (acc.length + (jsonO true l).length + 2 ≤ 50000000) := Lib.hid (by rw [hj] at hlen; simp at hlen; omega)
  have HJ := Lib.hid hj
  have HIH := Lib.hid IH
  have HBW := Lib.hid (And.intro hb hb0)
  have H1 := Lib.hid (w_byte b acc 123 w hB (by have := HLEN.out; omega) (Nat.le_of_lt hb))
  have HCK := Lib.hid hck
  clear hj hN hs hx hS hB hlen IH hb hb0 hck
  generalize json (.obj l) = J at HJ ⊢
  go_enter Tryz.func38, Tryz.ntmps38
  go_wp2_with fail
  refine H1.out.mono ?_
  rintro e w1 ⟨rfl, p1⟩
  have HP1 := Lib.hid p1
  clear p1
  go_wp2_with fail
  go_loopg [14, 15, 74] N (fun gk _ _ s74 wx => ∃ i : Nat, s74 = .int .i64 (i : Int) ∧ i + gk = N ∧ Hid (∃ m, WPost b m w wx ∧ m.length ≤ 50000000 ∧ m ++ jsonO (decide (i = 0)) (l.drop i) = acc ++ 123 :: jsonO true l ∧ ∃ prev, chkO prev (l.drop i) (d + 1) = 0))
  case atStart => exact ⟨0, by simp, by omega, Lib.hid ⟨acc ++ [123], HP1.out, by have := HLEN.out; simp; omega, by simp, prev, HCK.out⟩⟩
  case round =>
    obtain ⟨i, rfl, hgk, HW⟩ := hrel
    by_cases hi : i < N
    · have hil : i < l.length := by rw [HN.out]; exact hi
      have ti : decide ((i : Int) < (N : Int)) = true := decide_eq_true (by omega)
      obtain ⟨m, hw, hml, hm, pv, hck⟩ := HW.out
      obtain ⟨bb, o, rfl, hbb, hav⟩ := HX.out (fun e => by rw [e] at hil; exact absurd hil (Nat.not_lt_zero _))
      obtain ⟨hk, x, hx, hxa⟩ := hav.get o l i hil
      have hbs := HSS.out bb hbb
      have ck := (hw.2.1.cell (p := ⟨bb, o + 2 * i, none⟩) hbs).trans hk
      have cx := (hw.2.1.cell (p := ⟨bb, o + 2 * i + 1, none⟩) hbs).trans hx
      rw [show o + 2 * i = o + i * 2 by omega] at ck cx
      obtain ⟨hkl, hsv⟩ := smallO_get l HS.out i hil
      have hsh := hxa.shape
      have hbx : b < wr.heap.size := Nat.lt_of_lt_of_le HBW.out.1 hw.2.1.size
      have hlen0 := congrArg List.length hm
      have hLE := HLEN.out
      obtain ⟨W1, hW1⟩ : ∃ W1, wr.alloc (.cells #[.string (bs l[i].1), x] 56) = W1 := ⟨_, rfl⟩
      have hwp : WPost b m w W1 := hw.below (Nat.le_of_lt hbx) (by rw [← hW1]; exact (Below.refl _ _).alloc (Nat.le_refl _) _)
      obtain ⟨p0, p1⟩ := two_box wr (.string (bs l[i].1)) x 56
      rw [hW1] at p0 p1
      have HP : Hid (∀ W k, WPost b k W1 W → W.cell? ⟨wr.heap.size, 0, none⟩ = some (.string (bs l[i].1)) ∧ W.cell? ⟨wr.heap.size, 1, none⟩ = some x) := Lib.hid (fun W k hW => box_kept b _ _ _ k wr W1 W rfl hW1.symm hbx hW)
      obtain ⟨⟨K, u⟩, hKu⟩ : ∃ q, l[i] = q := ⟨_, rfl⟩
      rw [List.drop_eq_getElem_cons hil] at hm hck
      rw [hKu] at hm hck hkl hsv hxa HP hW1 p0 ck
      obtain ⟨hc0, _, hc1, hc2⟩ := chkO_cons _ _ _ _ _ hck
      rw [jsonO] at hm
      have HX2 : Hid (∀ W k, WPost b k w W → k.length + (json u).length ≤ 50000000 → Calls Tryz.prog 38 #[.pointer (some ⟨b, 0, none⟩), x] W (LayPost b (k ++ json u) W)) := Lib.hid (fun W k hk hkl => HIH.out u x W S k hc1 hsv (hxa.kept (fun _ h => h) (KeptS.of_below hk.2.1 HSS.out)) HSS.out hk.1 (Nat.lt_of_lt_of_le HBW.out.1 hk.2.1.size) hkl (HBW.out.2.trans (hk.2.1.mono hlo)))
      have HT2 : Hid (∀ W k, WPost b k w W → k.length + (quoL K).length ≤ 50000000 → Calls Tryz.prog 38 #[.pointer (some ⟨b, 0, none⟩), .iface 9 (.string (bs K))] W (LayPost b (k ++ quoL K) W)) := Lib.hid (fun W k hk hkl2 => by
        have h := HIH.out (.txt K) (.iface 9 (.string (bs K))) W (fun _ => False) k (by rw [chk, if_pos hc0]) (by rw [smallJ]; exact hkl) (by rw [AV]) (fun _ h => h.elim) hk.1 (Nat.lt_of_lt_of_le HBW.out.1 hk.2.1.size) (by rw [json]; exact hkl2) (HBW.out.2.trans (hk.2.1.mono hlo))
        rw [json] at h
        exact h)
      have hc2 : ∃ prev, chkO prev (l.drop (i + 1)) (d + 1) = 0 := ⟨_, hc2⟩
      obtain ⟨V, hV⟩ : ∃ V, json u = V := ⟨_, rfl⟩
      rw [hV] at HX2 hm
      obtain ⟨Y, hY⟩ : ∃ Y, bs K = Y := ⟨_, rfl⟩
      rw [hY] at HT2 HP hW1 p0 ck
      have HW1 := Lib.hid hW1
      have HWP := Lib.hid hwp
      clear hk hx hxa hav hck hw hV hY HW hc0 hc1 hkl hsv hKu hW1 hwp hbx
      obtain ⟨g', rfl⟩ : ∃ g', gk = g' + 1 := ⟨gk - 1, by omega⟩
      rcases hsh with rfl | ⟨tx, ux, rfl⟩
      all_goals
        by_cases h0 : i = 0
        · have t0 : decide ((i : Int) > 0) = false := decide_eq_false (by omega)
          have n0 : ¬ 0 < i := by omega
          have hm2 : m ++ quoL K ++ [58] ++ V ++ jsonO (decide (i + 1 = 0)) (l.drop (i + 1)) = acc ++ 123 :: jsonO true l := by
            rw [← hm, decide_eq_true h0, if_pos rfl, decide_eq_false (by omega)]; simp
          have hml2 : (m ++ quoL K ++ [58] ++ V).length ≤ 50000000 := by
            have := congrArg List.length hm2
            simp only [List.length_append, List.length_cons] at this hlen0 ⊢
            omega
          have HNX := Lib.hid (And.intro hm2 (And.intro hml2 hc2))
          have HML := Lib.hid (show m.length ≤ 50000000 from hml)
          have n1 : (quoL K).length ≤ 50000000 := by simp only [List.length_append] at hml2; omega
          clear hm hml hm2 hml2 hc2 h0 hlen0 n1 hLE
          go_wp2_with fail
          rw [HW1.out]
          refine (HT2.out W1 m HWP.out (by have := HNX.out.2.1; simp only [List.length_append] at this ⊢; omega)).mono ?_
          rintro e w2 ⟨rfl, p2⟩
          have HW2 := Lib.hid (HWP.out.trans p2)
          have HP2 : Hid (WPost b _ W1 w2) := Lib.hid p2
          clear p2
          obtain ⟨y0, y1⟩ := HP.out w2 _ HP2.out
          go_wp2_with fail
          refine (w_byte b _ 58 w2 HW2.out.1 (by have := HNX.out.2.1; simp only [List.length_append] at this ⊢; omega) (Nat.le_trans (Nat.le_of_lt HBW.out.1) HW2.out.2.1.size)).mono ?_
          rintro e w3 ⟨rfl, p3⟩
          have HW3 := Lib.hid (HW2.out.trans p3)
          obtain ⟨z0, z1⟩ := HP.out w3 _ (HP2.out.trans p3)
          clear p3
          go_wp2_with fail
          refine (HX2.out w3 _ HW3.out (by have := HNX.out.2.1; simp only [List.length_append] at this ⊢; omega)).mono ?_
          rintro e w4 ⟨rfl, p4⟩
          have HW4 := Lib.hid (HW3.out.trans p4)
          clear p4
          go_wp2_with fail
          go_roundg g'
          case measure => omega
          case rel => exact ⟨i + 1, by simp, by omega, Lib.hid ⟨_, HW4.out, HNX.out.2.1, HNX.out.1, HNX.out.2.2⟩⟩
        · have t0 : decide ((i : Int) > 0) = true := decide_eq_true (by omega)
          have n0 : 0 < i := by omega
          have hm2 : m ++ [44] ++ quoL K ++ [58] ++ V ++ jsonO (decide (i + 1 = 0)) (l.drop (i + 1)) = acc ++ 123 :: jsonO true l := by
            rw [← hm, decide_eq_false h0, if_neg (by decide), decide_eq_false (by omega)]; simp
          have hml2 : (m ++ [44] ++ quoL K ++ [58] ++ V).length ≤ 50000000 := by
            have := congrArg List.length hm2
            simp only [List.length_append, List.length_cons] at this hlen0 ⊢
            omega
          have HNX := Lib.hid (And.intro hm2 (And.intro hml2 hc2))
          have HML := Lib.hid (show m.length ≤ 50000000 from hml)
          have n1 : (quoL K).length ≤ 50000000 := by simp only [List.length_append] at hml2; omega
          clear hm hml hm2 hml2 hc2 h0 hlen0 n1 hLE
          go_wp2_with fail
          rw [HW1.out]
          refine (w_byte b m 44 W1 HWP.out.1 (by have := HML.out; omega) (Nat.le_trans (Nat.le_of_lt HBW.out.1) HWP.out.2.1.size)).mono ?_
          rintro e wc ⟨rfl, pc⟩
          have HWC := Lib.hid (HWP.out.trans pc)
          obtain ⟨yc0, yc1⟩ := HP.out wc _ pc
          have HPC := Lib.hid pc
          clear pc
          go_wp2_with fail
          refine (HT2.out wc _ HWC.out (by have := HNX.out.2.1; simp only [List.length_append] at this ⊢; omega)).mono ?_
          rintro e w2 ⟨rfl, p2⟩
          have HW2 := Lib.hid (HWC.out.trans p2)
          have HP2 := Lib.hid (HPC.out.trans p2)
          clear p2
          obtain ⟨y0, y1⟩ := HP.out w2 _ HP2.out
          go_wp2_with fail
          refine (w_byte b _ 58 w2 HW2.out.1 (by have := HNX.out.2.1; simp only [List.length_append] at this ⊢; omega) (Nat.le_trans (Nat.le_of_lt HBW.out.1) HW2.out.2.1.size)).mono ?_
          rintro e w3 ⟨rfl, p3⟩
          have HW3 := Lib.hid (HW2.out.trans p3)
          obtain ⟨z0, z1⟩ := HP.out w3 _ (HP2.out.trans p3)
          clear p3
          go_wp2_with fail
          refine (HX2.out w3 _ HW3.out (by have := HNX.out.2.1; simp only [List.length_append] at this ⊢; omega)).mono ?_
          rintro e w4 ⟨rfl, p4⟩
          have HW4 := Lib.hid (HW3.out.trans p4)
          clear p4
          go_wp2_with fail
          go_roundg g'
          case measure => omega
          case rel => exact ⟨i + 1, by simp, by omega, Lib.hid ⟨_, HW4.out, HNX.out.2.1, HNX.out.1, HNX.out.2.2⟩⟩
    · have ti : decide ((i : Int) < (N : Int)) = false := decide_eq_false (by omega)
      obtain ⟨m, hw, hml, hm, pv, hck⟩ := HW.out
      rw [List.drop_eq_nil_of_le (by rw [HN.out]; omega), jsonO, List.append_nil] at hm
      have HBY := Lib.hid (w_byte b m 125 wr hw.1 (by omega) (Nat.le_trans (Nat.le_of_lt HBW.out.1) hw.2.1.size))
      have HF := Lib.hid (And.intro hm hw)
      clear hm hck hml hw HW
      go_wp2_with fail
      refine HBY.out.mono ?_
      rintro e w2 ⟨rfl, p2⟩
      have HW2 := Lib.hid (HF.out.2.trans p2)
      clear p2
      go_wp2_with fail
      go_end0
      refine ⟨rfl, ?_⟩
      have h2 := HW2.out
      rw [HF.out.1] at h2
      have ej : (acc ++ 123 :: jsonO true l) ++ [125] = acc ++ J := by rw [HJ.out]; simp
      rw [ej] at h2
      exact h2
set_option maxRecDepth 100000 in
set_option maxHeartbeats 4000000 in
theorem n_lay_step (w0 : World) (hE : NEnv w0) (b d : Nat) (hlo : w0.heap.size ≤ b) (IH : d ≤ 4 → LayOk w0 b (d + 1)) : LayOk w0 b d := by
  intro v x w S acc hck hs hx hS hB hb hlen hb0
  have HE := Lib.hid (hE.below hb0)
  cases v with
  | nul =>
    rw [AV] at hx; subst hx
    obtain ⟨z1, z2, z3, z4, z5, z6⟩ := ta_nil
    have HW := Lib.hid (w_str b acc [110, 117, 108, 108] w hB (by rw [json] at hlen; omega) (Nat.le_of_lt hb))
    rw [json]
    clear hB hlen hb hb0 IH hck hs
    go_enter Tryz.func38, Tryz.ntmps38
    go_wp2_with fail
    refine HW.out.mono ?_
    rintro e w1 ⟨rfl, h1⟩
    have H1 := Lib.hid h1
    clear h1
    go_wp2_with fail
    go_end0
    exact ⟨rfl, H1.out⟩
  | boo q =>
    rw [AV] at hx; subst hx
    obtain ⟨z1, z2, z3, z4, z5, z6⟩ := ta_bool (.bool q)
    have HF := Lib.hid (fun W => c_fbool q W)
    have HW := Lib.hid (w_str b acc (json (.boo q)) w hB (by omega) (Nat.le_of_lt hb))
    have hj : json (.boo q) = (if q = true then [116, 114, 117, 101] else [102, 97, 108, 115, 101]) := by rw [json]
    rw [← hj] at HF
    generalize json (.boo q) = J at HW HF ⊢
    clear hB hlen hb hb0 IH hck hs hj
    generalize bs J = Y at HW HF
    go_enter Tryz.func38, Tryz.ntmps38
    go_wp2_with fail
    refine (HF.out _).mono ?_
    rintro e w2 ⟨rfl, rfl⟩
    go_wp2_with fail
    refine HW.out.mono ?_
    rintro e w1 ⟨rfl, h1⟩
    have H1 := Lib.hid h1
    clear h1
    go_wp2_with fail
    go_end0
    exact ⟨rfl, H1.out⟩
  | num n =>
    rw [AV] at hx; subst hx
    rw [smallJ] at hs
    obtain ⟨z1, z2, z3, z4, z5, z6⟩ := ta_int (.int .i64 n)
    have HF := Lib.hid (c_itoa n hs.1 hs.2 w HE.out)
    have HW : Hid (∀ W, Below w.heap.size w W → Calls Tryz.prog 35 #[.pointer (some ⟨b, 0, none⟩), .string (bs (json (.num n)))] W fun e w' => e = .returned (.tuple #[.int .i64 (bs (json (.num n))).size, .nilIface]) ∧ WPost b (acc ++ json (.num n)) W w') := Lib.hid (fun W hW => w_str b acc (json (.num n)) W (hB.below hW) (by omega) (Nat.le_trans (Nat.le_of_lt hb) hW.size))
    have hj : json (.num n) = Go.Lib.itoa n := by rw [json]
    have HB := Lib.hid (And.intro hB hb)
    rw [← hj] at HF
    generalize json (.num n) = J at HW HF ⊢
    clear hB hlen hb hb0 IH hck hs hj
    generalize bs J = Y at HW HF
    go_enter Tryz.func38, Tryz.ntmps38
    go_wp2_with fail
    refine HF.out.mono ?_
    rintro e w2 ⟨rfl, hb2⟩
    have HB2 := Lib.hid hb2
    clear hb2
    go_wp2_with fail
    refine (HW.out _ HB2.out).mono ?_
    rintro e w1 ⟨rfl, h1⟩
    have H1 := Lib.hid (((WPost.refl HB.out.1).below (Nat.le_of_lt HB.out.2) HB2.out).trans h1)
    clear h1
    go_wp2_with fail
    go_end0
    exact ⟨rfl, H1.out⟩
  | txt s =>
    rw [AV] at hx; subst hx
    rw [smallJ] at hs
    rw [chk] at hck
    have hv : valR s = true := by
      cases e : valR s with
      | true => rfl
      | false => rw [e] at hck; exact absurd hck (by decide)
    obtain ⟨z1, z2, z3, z4, z5, z6⟩ := ta_str (.string (bs s))
    have HF := Lib.hid (quote (bs s) w (by rw [bs_size]; omega) HE.out.tabs)
    rw [bs_data, hv, if_pos rfl, if_pos rfl] at HF
    have hj : json (.txt s) = quoL s := by rw [json]
    rw [hj] at hlen ⊢
    have HW : Hid (∀ W, Below w.heap.size w W → Calls Tryz.prog 35 #[.pointer (some ⟨b, 0, none⟩), .string (bs (quoL s))] W fun e w' => e = .returned (.tuple #[.int .i64 (bs (quoL s)).size, .nilIface]) ∧ WPost b (acc ++ quoL s) W w') := Lib.hid (fun W hW => w_str b acc (quoL s) W (hB.below hW) (by omega) (Nat.le_trans (Nat.le_of_lt hb) hW.size))
    have HB := Lib.hid (And.intro hB hb)
    generalize quoL s = J at HW HF ⊢
    clear hB hlen hb hb0 IH hck hs hj hv
    generalize bs J = Y at HW HF
    generalize bs s = Z at HF z1 z2 z3 z4 z5 z6 ⊢
    go_enter Tryz.func38, Tryz.ntmps38
    go_wp2_with fail
    refine HF.out.mono ?_
    rintro e w2 ⟨rfl, hb2⟩
    have HB2 := Lib.hid hb2
    clear hb2
    go_wp2_with fail
    refine (HW.out _ HB2.out).mono ?_
    rintro e w1 ⟨rfl, h1⟩
    have H1 := Lib.hid (((WPost.refl HB.out.1).below (Nat.le_of_lt HB.out.2) HB2.out).trans h1)
    clear h1
    go_wp2_with fail
    go_end0
    exact ⟨rfl, H1.out⟩
  | lst l =>
    rw [AV] at hx
    obtain ⟨a, c, rfl, hc, hx⟩ := hx
    rw [smallJ] at hs
    rw [chk] at hck
    split at hck
    · exact absurd hck (by decide)
    split at hck
    · exact absurd hck (by decide)
    exact n_lay_list w0 b d hlo (IH (by omega)) l a c w S acc hck hs.2 hs.1 hc hx hS hB hb hlen hb0
  | obj l =>
    rw [AV] at hx
    obtain ⟨a, c, rfl, hc, hx⟩ := hx
    rw [smallJ] at hs
    rw [chk] at hck
    split at hck
    · exact absurd hck (by decide)
    split at hck
    · exact absurd hck (by decide)
    exact n_lay_pairs w0 b d hlo (IH (by omega)) l a c w S acc [] hck hs.2 hs.1 hc hx hS hB hb hlen hb0
  | bad => rw [chk] at hck; exact absurd hck (by decide)
theorem n_lay_all (w0 : World) (hE : NEnv w0) (b : Nat) (hlo : w0.heap.size ≤ b) (m : Nat) : ∀ d, 5 ≤ d + m → LayOk w0 b d := by
  induction m with
  | zero => intro d h1; exact n_lay_step w0 hE b d hlo (fun h => by omega)
  | succ m ih => intro d h1; exact n_lay_step w0 hE b d hlo (fun h => ih (d + 1) (by omega))
end Go.Proofs.YtcmkepkeeahioaaGreatDoor
namespace Go.Proofs.YtcmkepkeeahioaaGreatDoor
open Go.RowKit
theorem bs_same (x y : List UInt8) : ((bs x).toList == (bs y).toList) = decide (x = y) := by
  rw [ByteArray.toList_eq, ByteArray.toList_eq, bs_data, bs_data]
  by_cases e : x = y <;> simp [e]
set_option maxRecDepth 100000 in
set_option maxHeartbeats 2000000 in
theorem n_text (v : JV) (x : Value) (w : World) (S : Nat → Prop) (hck : chk v 1 = 0) (hs : smallJ v) (hx : AV S w v x) (hS : ∀ i, S i → i < w.heap.size) (hE : NEnv w) (hlen : (json v).length ≤ 50000000) :
    Calls Tryz.prog 23 #[x] w fun e w' => e = .returned (.string (bs (json v))) ∧ Below w.heap.size w w' := by
  obtain ⟨W, hW⟩ : ∃ W, w.alloc (.cells #[.pointer none, .slice none 0 0] 81 (0, 0)) = W := ⟨_, rfl⟩
  have hB : Below w.heap.size w W := by rw [← hW]; exact (Below.refl _ _).alloc (Nat.le_refl _) _
  have hBI : BI w.heap.size [] W := by rw [← hW]; exact BI.fresh w
  have hlt : w.heap.size < W.heap.size := by rw [← hW]; simp
  have HL := Lib.hid (n_lay_all w hE w.heap.size (Nat.le_refl _) 4 1 (by omega) v x W S [] hck hs (hx.kept (fun _ h => h) (KeptS.of_below hB hS)) hS hBI hlt (by simpa using hlen) hB)
  rw [List.nil_append] at HL
  have HT : Hid (∀ W2, WPost w.heap.size (json v) W W2 → Calls Tryz.prog 37 #[.pointer (some ⟨w.heap.size, 0, none⟩)] W2 fun e w' => e = .returned (.string (bs (json v))) ∧ BI w.heap.size (json v) w' ∧ Below w.heap.size W2 w') := Lib.hid (fun W2 h => c_text w.heap.size (json v) W2 h.1 (Nat.le_trans (Nat.le_of_lt hlt) h.2.1.size))
  generalize json v = J at HL HT ⊢
  generalize bs J = Y at HT ⊢
  have HW := Lib.hid (And.intro hW hB)
  clear hx hs hck hS hE hlen hB hBI hlt hW
  go_enter Tryz.func23, Tryz.ntmps23
  go_wp2_with fail
  rw [HW.out.1]
  refine HL.out.mono ?_
  rintro e w1 ⟨rfl, h1⟩
  have H1 : Hid (WPost w.heap.size J W w1) := Lib.hid h1
  clear h1
  go_wp2_with fail
  refine (HT.out _ H1.out).mono ?_
  rintro e w2 ⟨rfl, h2, h3⟩
  have H3 := Lib.hid ((HW.out.2.trans H1.out.2.1).trans h3)
  clear h2 h3
  go_wp2_with fail
  go_ret
  exact ⟨rfl, H3.out⟩
/-- what Put tells of a value -/
def putT (v : JV) : List UInt8 := if chk v 1 ≠ 0 then [] else if 4096 < (json v).length then [] else json v
def putF (v : JV) : Nat := if chk v 1 ≠ 0 then chk v 1 else if 4096 < (json v).length then 5 else 0
set_option maxRecDepth 100000 in
set_option maxHeartbeats 2000000 in
theorem n_Put (v : JV) (x : Value) (w : World) (S : Nat → Prop) (hs : smallJ v) (hx : AV S w v x) (hS : ∀ i, S i → i < w.heap.size) (hE : NEnv w) (hlen : chk v 1 = 0 → (json v).length ≤ 50000000) :
    Calls Tryz.prog 9 #[x] w fun e w' => e = .returned (.tuple #[.string (bs (putT v)), .int .i64 (putF v : Nat)]) ∧ Below w.heap.size w w' := by
  have HC := Lib.hid (n_Check v x w S hs hx hS hE.tabs)
  by_cases h0 : chk v 1 = 0
  · rw [h0] at HC
    have e1 : putT v = if 4096 < (json v).length then [] else json v := by unfold putT; rw [if_neg (by simp [h0])]
    have e2 : putF v = if 4096 < (json v).length then 5 else 0 := by unfold putF; rw [if_neg (by simp [h0])]
    rw [e1, e2]
    clear e1 e2
    have HT : Hid (∀ W, Below w.heap.size w W → Calls Tryz.prog 23 #[x] W fun e w' => e = .returned (.string (bs (json v))) ∧ Below w.heap.size w w') := Lib.hid (fun W hW => (n_text v x W S h0 hs (hx.kept (fun _ h => h) (KeptS.of_below hW hS)) (fun i hi => Nat.lt_of_lt_of_le (hS i hi) hW.size) (hE.below hW) (hlen h0)).mono (fun e w' h => ⟨h.1, bstep hW h.2⟩))
    have hz : (bs (json v)).size = (json v).length := bs_size _
    have hl := hlen h0
    generalize json v = J at HT hz hl ⊢
    clear hx hs hS hE h0 hlen
    by_cases h1 : 4096 < J.length
    · rw [if_pos h1, if_pos h1]
      generalize bs J = Y at HT hz
      have n1 : 4096 < Y.size := by omega
      have t1 : decide ((Y.size : Int) > 4096) = true := decide_eq_true (by omega)
      clear h1 hz
      go_enter Tryz.func9, Tryz.ntmps9
      go_wp2_with fail
      refine HC.out.mono ?_
      rintro e w1 ⟨rfl, hb1⟩
      have HB1 := Lib.hid hb1
      clear hb1
      go_wp2_with fail
      refine (HT.out _ HB1.out).mono ?_
      rintro e w2 ⟨rfl, hb2⟩
      go_wp2_with fail
      go_ret2
      exact ⟨rfl, hb2⟩
    · rw [if_neg h1, if_neg h1]
      generalize bs J = Y at HT hz ⊢
      have n1 : ¬ 4096 < Y.size := by omega
      have t1 : decide ((Y.size : Int) > 4096) = false := decide_eq_false (by omega)
      clear h1 hz
      go_enter Tryz.func9, Tryz.ntmps9
      go_wp2_with fail
      refine HC.out.mono ?_
      rintro e w1 ⟨rfl, hb1⟩
      have HB1 := Lib.hid hb1
      clear hb1
      go_wp2_with fail
      refine (HT.out _ HB1.out).mono ?_
      rintro e w2 ⟨rfl, hb2⟩
      go_wp2_with fail
      go_ret2
      exact ⟨rfl, hb2⟩
  · have e1 : putT v = [] := by unfold putT; rw [if_pos h0]
    have e2 : putF v = chk v 1 := by unfold putF; rw [if_pos h0]
    rw [e1, e2]
    clear e1 e2
    generalize chk v 1 = R at HC h0 ⊢
    have tr : ((R : Int) != 0) = true := by rw [bne_iff_ne]; omega
    clear hx hs hS hE hlen h0
    go_enter Tryz.func9, Tryz.ntmps9
    go_wp2_with fail
    refine HC.out.mono ?_
    rintro e w1 ⟨rfl, hb1⟩
    have HB1 := Lib.hid hb1
    clear hb1
    go_wp2_with fail
    go_ret2
    exact ⟨rfl, HB1.out⟩
/-- what Same tells of two values -/
def sameJ (a b : JV) : Bool := decide (chk a 1 = 0) && decide (chk b 1 = 0) && decide (json a = json b)
set_option maxRecDepth 100000 in
set_option maxHeartbeats 4000000 in
theorem n_Same (u v : JV) (x y : Value) (w : World) (S : Nat → Prop) (hsu : smallJ u) (hsv : smallJ v) (hx : AV S w u x) (hy : AV S w v y) (hS : ∀ i, S i → i < w.heap.size) (hE : NEnv w) (hlu : chk u 1 = 0 → (json u).length ≤ 50000000) (hlv : chk v 1 = 0 → (json v).length ≤ 50000000) :
    Calls Tryz.prog 17 #[x, y] w fun e w' => e = .returned (.bool (sameJ u v)) ∧ Below w.heap.size w w' := by
  have HC : ∀ (v : JV) (x : Value), smallJ v → AV S w v x → Hid (∀ W, Below w.heap.size w W → Calls Tryz.prog 14 #[x] W fun e w' => e = .returned (.int .i64 (chk v 1 : Nat)) ∧ Below w.heap.size w w') := fun v x hs hx => Lib.hid (fun W hW => (n_Check v x W S hs (hx.kept (fun _ h => h) (KeptS.of_below hW hS)) (fun i hi => Nat.lt_of_lt_of_le (hS i hi) hW.size) (hE.below hW).tabs).mono (fun e w' h => ⟨h.1, bstep hW h.2⟩))
  have HT : ∀ (v : JV) (x : Value), smallJ v → AV S w v x → chk v 1 = 0 → (json v).length ≤ 50000000 → Hid (∀ W, Below w.heap.size w W → Calls Tryz.prog 23 #[x] W fun e w' => e = .returned (.string (bs (json v))) ∧ Below w.heap.size w w') := fun v x hs hx h0 hl => Lib.hid (fun W hW => (n_text v x W S h0 hs (hx.kept (fun _ h => h) (KeptS.of_below hW hS)) (fun i hi => Nat.lt_of_lt_of_le (hS i hi) hW.size) (hE.below hW) hl).mono (fun e w' h => ⟨h.1, bstep hW h.2⟩))
  have C1 := HC u x hsu hx
  have C2 := HC v y hsv hy
  have HB0 := Lib.hid (Below.refl w.heap.size w)
  unfold sameJ
  by_cases h1 : chk u 1 = 0
  · by_cases h2 : chk v 1 = 0
    · have T1 := HT u x hsu hx h1 (hlu h1)
      have T2 := HT v y hsv hy h2 (hlv h2)
      rw [h1] at C1
      rw [h2] at C2
      rw [decide_eq_true h1, decide_eq_true h2, Bool.true_and, Bool.true_and]
      have HQ := Lib.hid (bs_same (json u) (json v))
      generalize bs (json u) = X at T1 HQ
      generalize bs (json v) = Y at T2 HQ
      rw [← HQ.out]
      clear HC HT hx hy hsu hsv hS hE hlu hlv h1 h2 HQ
      go_enter Tryz.func17, Tryz.ntmps17
      go_wp2_with fail
      refine (C1.out _ HB0.out).mono ?_
      rintro e w1 ⟨rfl, hb1⟩
      have HB1 := Lib.hid hb1
      clear hb1
      go_wp2_with fail
      refine (C2.out _ HB1.out).mono ?_
      rintro e w2 ⟨rfl, hb2⟩
      have HB2 := Lib.hid hb2
      clear hb2
      go_wp2_with fail
      refine (T1.out _ HB2.out).mono ?_
      rintro e w3 ⟨rfl, hb3⟩
      have HB3 := Lib.hid hb3
      clear hb3
      go_wp2_with fail
      refine (T2.out _ HB3.out).mono ?_
      rintro e w4 ⟨rfl, hb4⟩
      have HB4 := Lib.hid hb4
      clear hb4
      go_wp2_with fail
      go_ret
      exact ⟨rfl, HB4.out⟩
    · rw [decide_eq_false h2, Bool.and_false, Bool.false_and]
      rw [h1] at C1
      generalize chk v 1 = R at C2 h2
      have tr : ((R : Int) == 0) = false := by rw [beq_eq_false_iff_ne]; omega
      clear HC HT hx hy hsu hsv hS hE hlu hlv h1 h2
      go_enter Tryz.func17, Tryz.ntmps17
      go_wp2_with fail
      refine (C1.out _ HB0.out).mono ?_
      rintro e w1 ⟨rfl, hb1⟩
      have HB1 := Lib.hid hb1
      clear hb1
      go_wp2_with fail
      refine (C2.out _ HB1.out).mono ?_
      rintro e w2 ⟨rfl, hb2⟩
      have HB2 := Lib.hid hb2
      clear hb2
      go_wp2_with fail
      go_ret
      exact ⟨rfl, HB2.out⟩
  · rw [decide_eq_false h1, Bool.false_and, Bool.false_and]
    generalize chk u 1 = R at C1 h1
    have tr : ((R : Int) == 0) = false := by rw [beq_eq_false_iff_ne]; omega
    clear HC HT hx hy hsu hsv hS hE hlu hlv h1 C2
    go_enter Tryz.func17, Tryz.ntmps17
    go_wp2_with fail
    refine (C1.out _ HB0.out).mono ?_
    rintro e w1 ⟨rfl, hb1⟩
    have HB1 := Lib.hid hb1
    clear hb1
    go_wp2_with fail
    go_ret
    exact ⟨rfl, HB1.out⟩
end Go.Proofs.YtcmkepkeeahioaaGreatDoor
