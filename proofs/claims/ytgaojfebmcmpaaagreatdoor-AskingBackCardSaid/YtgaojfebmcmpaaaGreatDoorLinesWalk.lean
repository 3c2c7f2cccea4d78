/- What the functions Take and Put of package lines and of its reference return. -/
import Derived.Test.YtgaojfebmcmpaaaGreatDoorProg
import Derived.Test.YtgaojfebmcmpaaaGreatDoorLinesPlain
import Derived.WalkKit
import Derived.Below
import Derived.Deep.RegionHeld3
import Derived.BigRegion
import Derived.BigQuiet
import Derived.Outline
import Derived.Lib.Hide
import Derived.WalkMore
import Derived.Scope
import Derived.ScopeJumps
import Derived.OwnWalk
import Derived.WalkSpells
import Derived.WalkLawsBesides
namespace Go.Proofs.YtgaojfebmcmpaaaGreatDoor
open Go.RowKit

theorem plainB_9 : plainB 9 = true := rfl
theorem plainB_lo (c : Nat) (h : c < 32) (h9 : c ≠ 9) : plainB c = false := by
  unfold plainB; simp; omega
theorem plainB_ge (c : Nat) (h : 32 ≤ c) : plainB c = decide ((c : Int) ≤ 126) := by
  unfold plainB
  have h9 : (c == 9) = false := by simp; omega
  rw [h9, decide_eq_true h, Bool.false_or, Bool.true_and]
  by_cases h2 : c ≤ 126
  · rw [decide_eq_true h2, decide_eq_true (by omega)]
  · rw [decide_eq_false h2, decide_eq_false (by omega)]

theorem ret_bool {a b : Bool} (h : a = b) : Ending.returned (.bool a) = .returned (.bool b) := by rw [h]

theorem lines_plain (c : Nat) (w : World) (h : c < 256) :
    Calls Tryz.prog 115 #[.int .u8 c] w fun e w' => e = .returned (.bool (plainB c)) ∧ w' = w := by
  by_cases h9 : c = 9
  · subst h9
    go_enter Tryz.func115, Tryz.ntmps115
    go_wp2
    go_ret
    exact ⟨ret_bool rfl, rfl⟩
  · have k9 : ((c : Int) == 9) = false := by rw [beq_eq_false_iff_ne]; omega
    by_cases hlo : c < 32
    · have H := Lib.hid (plainB_lo c hlo h9)
      go_enter Tryz.func115, Tryz.ntmps115
      go_wp2
      go_ret
      exact ⟨ret_bool H.out.symm, rfl⟩
    · have H := Lib.hid (plainB_ge c (by omega))
      go_enter Tryz.func115, Tryz.ntmps115
      go_wp2
      go_ret
      exact ⟨ret_bool H.out.symm, rfl⟩

theorem ref_plain (c : Nat) (w : World) (h : c < 256) :
    Calls Tryz.prog 145 #[.int .u8 c] w fun e w' => e = .returned (.bool (plainB c)) ∧ w' = w := by
  by_cases h9 : c = 9
  · subst h9
    go_enter Tryz.func145, Tryz.ntmps145
    go_wp2
    go_ret
    exact ⟨ret_bool rfl, rfl⟩
  · have k9 : ((c : Int) == 9) = false := by rw [beq_eq_false_iff_ne]; omega
    by_cases hlo : c < 32
    · have H := Lib.hid (plainB_lo c hlo h9)
      go_enter Tryz.func145, Tryz.ntmps145
      go_wp2
      go_ret
      exact ⟨ret_bool H.out.symm, rfl⟩
    · have H := Lib.hid (plainB_ge c (by omega))
      go_enter Tryz.func145, Tryz.ntmps145
      go_wp2
      go_ret
      exact ⟨ret_bool H.out.symm, rfl⟩

/-- what holds at each jump of a scope with several labels. -/
def Exit.jumps (J : Nat → Act → World → Prop) (Q : Exit → Act → World → Prop) : Exit → Act → World → Prop
  | .goto l, a, w => J l a w
  | e, a, w => Q e a w
theorem wp_scope_many {P : Program} {a : Act} {w : World} {Q : Exit → Act → World → Prop} {c : Code} (J : Nat → Act → World → Prop) (μ : Nat → Act → World → Nat)
    (pass : ∀ l a w, J l a w → ∃ y, findLabel c l = some (.seq .skip y) ∧ y.wp P (Exit.jumps (fun l' a' w' => J l' a' w' ∧ μ l' a' w' < μ l a w) Q) a w)
    (first : (∀ l a w y, J l a w → findLabel c l = some (.seq .skip y) → y.wp P (Exit.jumps J Q) a w) → c.wp P (Exit.jumps J Q) a w) : (Code.scope c).wp P Q a w := by
  intro b k cs
  have first' := first fun l a w y hJ hf => by
    obtain ⟨y', hf', hp⟩ := pass l a w hJ
    obtain rfl : y' = y := by have := hf'.symm.trans hf; simpa using this
    refine wp_mono hp ?_
    intro e a' w' h
    cases e <;> first | exact h | exact h.1
  have hg : ∀ l rest, findLabel c l = some rest → gotoIn l (.inScope c :: k) = some (.code rest :: .inScope c :: k) := fun l rest hf => by simp [gotoIn, hf]
  have key : ∀ n l a w, μ l a w = n → J l a w → ∀ rest, findLabel c l = some rest → ∃ e a' w', Q e a' w' ∧ Arrives P (lone (b.at a (.code rest :: .inScope c :: k)) cs w) b k cs e a' w' := by
    intro n
    induction n using Nat.strongRecOn with
    | _ n ih =>
      intro l a w hn hJ rest hf
      obtain ⟨y', hf', hp'⟩ := pass l a w hJ
      obtain rfl : (Code.seq .skip y') = rest := Option.some.inj (hf'.symm.trans hf)
      have hp := wp_seq (x := .skip) (y := y') (wp_skip (Q := Exit.then (y'.wp P _) _) hp')
      obtain ⟨e, a₁, w₁, hq, harr⟩ := hp b (.inScope c :: k) cs
      cases e with
      | normal => exact ⟨.normal, a₁, w₁, hq, Steps.trans harr (.one step_inScope)⟩
      | exit id => exact ⟨.exit id, a₁, w₁, hq, fun k' hk => harr k' (by simp [exitTo, hk])⟩
      | goto l' =>
        obtain ⟨hJ', hlt⟩ := hq
        obtain ⟨r2, hf2, _⟩ := pass l' a₁ w₁ hJ'
        obtain ⟨e₂, a₂, w₂, hq₂, harr₂⟩ := ih _ (by omega) l' a₁ w₁ rfl hJ' _ hf2
        exact ⟨e₂, a₂, w₂, hq₂, .of_steps (harr _ (hg l' _ hf2)) harr₂⟩
      | ret => exact ⟨_, a₁, w₁, hq, harr⟩
      | panic ch => exact ⟨_, a₁, w₁, hq, harr⟩
      | outgrown => exact ⟨_, a₁, w₁, hq, harr⟩
  obtain ⟨e, a₁, w₁, hq, harr⟩ := first' b (.inScope c :: k) cs
  cases e with
  | normal => exact ⟨.normal, a₁, w₁, hq, .head step_scope (Steps.trans harr (.one step_inScope))⟩
  | exit id => exact ⟨.exit id, a₁, w₁, hq, fun k' hk => .head step_scope (harr k' (by simp [exitTo, hk]))⟩
  | goto l' =>
    obtain ⟨r2, hf2, _⟩ := pass l' a₁ w₁ hq
    obtain ⟨e₂, a₂, w₂, hq₂, harr₂⟩ := key _ l' a₁ w₁ rfl hq _ hf2
    exact ⟨e₂, a₂, w₂, hq₂, .of_steps (.head step_scope (harr _ (hg l' _ hf2))) harr₂⟩
  | ret => exact ⟨_, a₁, w₁, hq, .of_steps (.one step_scope) harr⟩
  | panic ch => exact ⟨_, a₁, w₁, hq, .of_steps (.one step_scope) harr⟩
  | outgrown => exact ⟨_, a₁, w₁, hq, .of_steps (.one step_scope) harr⟩

theorem ne_u8 (x y : UInt8) (h : x ≠ y) : ((x.toNat : Int) == (y.toNat : Int)) = false := by
  rw [beq_eq_false_iff_ne]; intro h'; exact h (UInt8.toNat_inj.1 (by omega))

theorem take_fail (s : ByteArray) (i E : Nat) (hi : i ≤ s.size) (h0 : E ≠ 0) (h : E = (scanAt s.data.toList i 0).2) :
    Value.tuple #[.string ⟨#[]⟩, .int .i64 i, .int .i64 E] = Value.tuple #[.string (takeLine s i), .int .i64 (takeNext s i), .int .i64 (takeErr s i)] := by
  have e := takeErr_in s i hi
  rw [← h] at e
  unfold takeLine takeNext
  rw [e, if_neg h0, if_neg h0]
theorem take_out (s : ByteArray) (i : Int) (h : i < 0 ∨ (s.size : Int) < i) :
    Value.tuple #[.string ⟨#[]⟩, .int .i64 i, .int .i64 2] = Value.tuple #[.string (takeLine s i), .int .i64 (takeNext s i), .int .i64 (takeErr s i)] := by
  unfold takeLine takeNext
  rw [takeErr_out s i h, if_neg (by decide), if_neg (by decide)]; rfl
theorem take_ok (s : ByteArray) (i k : Nat) (hi : i ≤ s.size) (h : scanAt s.data.toList i 0 = (k, 0)) :
    Value.tuple #[.string (s.extract i (i + k)), .int .i64 (i + k + 2), .int .i64 0] = Value.tuple #[.string (takeLine s i), .int .i64 (takeNext s i), .int .i64 (takeErr s i)] := by
  have e := takeErr_in s i hi
  rw [h] at e
  unfold takeLine takeNext
  rw [e, if_pos rfl, if_pos rfl]
  show _ = Value.tuple #[.string (s.extract i (i + (scanAt s.data.toList i 0).1)), .int .i64 ((i : Int) + (scanAt s.data.toList i 0).1 + 2), .int .i64 ((0 : Nat) : Int)]
  rw [h]; rfl

def takeJ (s : ByteArray) (i : Nat) (w : World) (l : Nat) (a' : Act) (w' : World) : Prop :=
  w' = w ∧ ((l = 1 ∧ ∃ (k : Nat) (u8 u9 u10 u11 u12 u13 u14 u15 u16 u17 u18 u19 u20 u21 u22 u23 u24 u25 u26 u27 u28 u29 u30 u31 u32 u33 u34 u35 u36 u37 u38 u39 u40 u41 u42 u43 u44 u45 u46 u47 u48 u49 u50 u51 u52 u53 u54 u55 u56 u57 u58 u59 u60 u61 u62 u63 u64 : Value), a' = { tmps := #[.string s, .int .i64 i, undef, undef, .string ⟨#[]⟩, .int .i64 0, .int .i64 3, .int .i64 ((i + k : Nat) : Int), u8, u9, u10, u11, u12, u13, u14, u15, u16, u17, u18, u19, u20, u21, u22, u23, u24, u25, u26, u27, u28, u29, u30, u31, u32, u33, u34, u35, u36, u37, u38, u39, u40, u41, u42, u43, u44, u45, u46, u47, u48, u49, u50, u51, u52, u53, u54, u55, u56, u57, u58, u59, u60, u61, u62, u63, u64], defers := [] } ∧ k ≤ 256 ∧ i + k ≤ s.size ∧ scanAt s.data.toList (i + k) k = scanAt s.data.toList i 0) ∨ (l = 0 ∧ ∃ (E : Nat) (u7 u8 u9 u10 u11 u12 u13 u14 u15 u16 u17 u18 u19 u20 u21 u22 u23 u24 u25 u26 u27 u28 u29 u30 u31 u32 u33 u34 u35 u36 u37 u38 u39 u40 u41 u42 u43 u44 u45 u46 u47 u48 u49 u50 u51 u52 u53 u54 u55 u56 u57 u58 u59 u60 u61 u62 u63 u64 : Value), a' = { tmps := #[.string s, .int .i64 i, undef, undef, .string ⟨#[]⟩, .int .i64 0, .int .i64 (E : Int), u7, u8, u9, u10, u11, u12, u13, u14, u15, u16, u17, u18, u19, u20, u21, u22, u23, u24, u25, u26, u27, u28, u29, u30, u31, u32, u33, u34, u35, u36, u37, u38, u39, u40, u41, u42, u43, u44, u45, u46, u47, u48, u49, u50, u51, u52, u53, u54, u55, u56, u57, u58, u59, u60, u61, u62, u63, u64], defers := [] } ∧ E ≠ 0 ∧ E = (scanAt s.data.toList i 0).2))
def takeM (s : ByteArray) (l : Nat) (a' : Act) (_ : World) : Nat := if l = 0 then 0 else 1 + (s.size - (intOf (a'.tmps.getD 7 undef)).toNat)

set_option maxRecDepth 100000 in
set_option maxHeartbeats 2000000 in
theorem lines_take (s : ByteArray) (at_ : Int) (w : World) (hs : s.size ≤ 9223372036854775807) :
    Calls Tryz.prog 110 #[.string s, .int .i64 at_] w fun e w' => e = .returned (.tuple #[.string (takeLine s at_), .int .i64 (takeNext s at_), .int .i64 (takeErr s at_)]) ∧ w' = w := by
  by_cases ho : at_ < 0 ∨ (s.size : Int) < at_
  · have Ho := Lib.hid (take_out s at_ ho)
    rcases ho with ho | ho
    all_goals
      go_enter Tryz.func110, Tryz.ntmps110
      go_wp2_with fail
      go_step3
      go_wp2_with fail
      try rw [Exit.noGoto_ret]
      go_ret3
      exact ⟨congrArg Ending.returned Ho.out, rfl⟩
  · obtain ⟨i, rfl⟩ := Int.eq_ofNat_of_zero_le (show 0 ≤ at_ by omega)
    have hi : i ≤ s.size := by omega
    clear ho
    go_enter Tryz.func110, Tryz.ntmps110
    go_wp2_with fail
    refine wp_scope_many (takeJ s i w) (takeM s) ?_ ?_
    · rintro l a' w' ⟨rfl, ⟨rfl, k, u8, u9, u10, u11, u12, u13, u14, u15, u16, u17, u18, u19, u20, u21, u22, u23, u24, u25, u26, u27, u28, u29, u30, u31, u32, u33, u34, u35, u36, u37, u38, u39, u40, u41, u42, u43, u44, u45, u46, u47, u48, u49, u50, u51, u52, u53, u54, u55, u56, u57, u58, u59, u60, u61, u62, u63, u64, rfl, hk, hik, hsc⟩ | ⟨rfl, E, u7, u8, u9, u10, u11, u12, u13, u14, u15, u16, u17, u18, u19, u20, u21, u22, u23, u24, u25, u26, u27, u28, u29, u30, u31, u32, u33, u34, u35, u36, u37, u38, u39, u40, u41, u42, u43, u44, u45, u46, u47, u48, u49, u50, u51, u52, u53, u54, u55, u56, u57, u58, u59, u60, u61, u62, u63, u64, rfl, hE0, hE⟩⟩
      · refine ⟨_, rfl, ?_⟩
        by_cases hend : i + k = s.size
        · have hE := scanAt_end s.data.toList (i + k) k (by simp; omega)
          have H := Lib.hid (hsc.symm.trans hE)
          clear hE hsc
          have ht : ((i : Int) + (k : Int) == (s.size : Int)) = true := by rw [beq_iff_eq]; omega
          clear hend
          go_wp2_with fail
          go_step3
          refine And.intro (And.intro rfl (.inr (And.intro rfl ?_))) ?_
          · refine ⟨3, ?_⟩
            (repeat apply Exists.intro)
            exact ⟨rfl, by decide, by rw [H.out]⟩
          · simp [takeM]; omega
        · have hlt : i + k < s.size := by omega
          have ht : ((i : Int) + (k : Int) == (s.size : Int)) = false := by rw [beq_eq_false_iff_ne]; omega
          have hstep := scanAt_step s.data.toList (i + k) k (by simpa using hlt)
          have hc : s.data.toList[i + k]'(by simpa using hlt) = s[i + k] := rfl
          rw [hc] at hstep
          clear hc hend
          have hcb : s[i + k].toNat < 256 := s[i + k].toNat_lt
          by_cases h13 : s[i + k] = 13
          · have h13' : s[i + k].toNat = 13 := by rw [h13]; rfl
            by_cases hl2 : i + k + 1 = s.size
            · rw [if_pos ⟨h13, by simpa using hl2⟩] at hstep
              have H := Lib.hid (hsc.symm.trans hstep)
              clear hstep hsc h13
              have ht2 : ((i : Int) + (k : Int) + 1 == (s.size : Int)) = true := by rw [beq_iff_eq]; omega
              clear hl2
              go_wp2_with fail
              go_step3
              refine And.intro (And.intro rfl (.inr (And.intro rfl ?_))) ?_
              · refine ⟨3, ?_⟩
                (repeat apply Exists.intro)
                exact ⟨rfl, by decide, by rw [H.out]⟩
              · simp [takeM]; omega
            · have hl3 : i + k + 1 < s.size := by omega
              have ht2 : ((i : Int) + (k : Int) + 1 == (s.size : Int)) = false := by rw [beq_eq_false_iff_ne]; omega
              rw [if_neg (by simp; omega)] at hstep
              have h10e : s.data.toList[i + k + 1]? = some s[i + k + 1] := by rw [List.getElem?_eq_getElem (by simpa using hl3)]; rfl
              rw [h10e] at hstep
              clear h10e hl2
              by_cases h10 : s[i + k + 1] = 10
              · rw [if_pos ⟨h13, by rw [h10]⟩] at hstep
                have h10' : s[i + k + 1].toNat = 10 := by rw [h10]; rfl
                have H := Lib.hid (hsc.symm.trans hstep)
                clear hstep hsc h13 h10
                go_wp2_with fail
                simp only [Exit.jumps]
                go_ret3
                exact ⟨congrArg Ending.returned (take_ok s i k hi H.out), rfl⟩
              · have h10' : ((s[i + k + 1].toNat : Int) == 10) = false := by
                  exact ne_u8 _ _ h10
                rw [if_neg (by rintro ⟨_, h⟩; exact h10 (by simpa using h)), h13, if_pos (by decide)] at hstep
                have hpl : plainB 13 = false := by decide
                have H := Lib.hid (hsc.symm.trans hstep)
                clear hstep hsc h13 h10
                go_wp2_with (go_at_call 115; refine (lines_plain _ _ (by decide)).mono ?_; rintro e w' ⟨rfl, rfl⟩)
                go_step3
                refine And.intro (And.intro rfl (.inr (And.intro rfl ?_))) ?_
                · refine ⟨4, ?_⟩
                  (repeat apply Exists.intro)
                  exact ⟨rfl, by decide, by rw [H.out]⟩
                · simp [takeM]; omega
          · have h13' : ((s[i + k].toNat : Int) == 13) = false := by
              exact ne_u8 _ _ h13
            rw [if_neg (by simp [h13]), if_neg (by simp [h13])] at hstep
            by_cases hpl : plainB s[i + k].toNat = false
            · rw [if_pos hpl] at hstep
              have H := Lib.hid (hsc.symm.trans hstep)
              clear hstep hsc h13
              go_wp2_with (go_at_call 115; refine (lines_plain _ _ hcb).mono ?_; rintro e w' ⟨rfl, rfl⟩)
              go_step3
              refine And.intro (And.intro rfl (.inr (And.intro rfl ?_))) ?_
              · refine ⟨4, ?_⟩
                (repeat apply Exists.intro)
                exact ⟨rfl, by decide, by rw [H.out]⟩
              · simp [takeM]; omega
            · rw [if_neg hpl] at hstep
              have hpl' : plainB s[i + k].toNat = true := by simpa using hpl
              clear hpl
              by_cases h256 : k = 256
              · rw [if_pos h256] at hstep
                have H := Lib.hid (hsc.symm.trans hstep)
                clear hstep hsc h13
                subst h256
                go_wp2_with (go_at_call 115; refine (lines_plain _ _ hcb).mono ?_; rintro e w' ⟨rfl, rfl⟩)
                go_step3
                refine And.intro (And.intro rfl (.inr (And.intro rfl ?_))) ?_
                · refine ⟨5, ?_⟩
                  (repeat apply Exists.intro)
                  exact ⟨rfl, by decide, by rw [H.out]⟩
                · simp [takeM]; omega
              · rw [if_neg h256] at hstep
                have H := Lib.hid (hstep.symm.trans hsc)
                clear hstep hsc h13
                have hk2 : k < 256 := by omega
                have ht3 : ((k : Int) == 256) = false := by rw [beq_eq_false_iff_ne]; omega
                clear h256
                go_wp2_with (go_at_call 115; refine (lines_plain _ _ hcb).mono ?_; rintro e w' ⟨rfl, rfl⟩)
                go_step3
                refine And.intro (And.intro rfl (.inl (And.intro rfl ?_))) ?_
                · refine ⟨k + 1, ?_⟩
                  (repeat apply Exists.intro)
                  exact ⟨rfl, by omega, by omega, by rw [← Nat.add_assoc]; exact H.out⟩
                · simp [takeM, intOf]; omega
      · refine ⟨_, rfl, ?_⟩
        have He := Lib.hid hE
        clear hE
        go_wp2_with fail
        simp only [Exit.jumps]
        go_ret3
        exact ⟨congrArg Ending.returned (take_fail s i E hi hE0 He.out), rfl⟩
    · intro H
      go_wp2_with fail
      go_step3
      rename_i K hK
      refine hK _ _ (H 1 _ _ _ ?_ rfl)
      refine ⟨rfl, .inl ⟨rfl, 0, ?_⟩⟩
      (repeat apply Exists.intro)
      exact ⟨rfl, by omega, by omega, rfl⟩

set_option maxRecDepth 100000 in
set_option maxHeartbeats 2000000 in
theorem ref_take (s : ByteArray) (at_ : Int) (w : World) (hs : s.size ≤ 9223372036854775807) :
    Calls Tryz.prog 119 #[.string s, .int .i64 at_] w fun e w' => e = .returned (.tuple #[.string (takeLine s at_), .int .i64 (takeNext s at_), .int .i64 (takeErr s at_)]) ∧ w' = w := by
  by_cases ho : at_ < 0 ∨ (s.size : Int) < at_
  · have Ho := Lib.hid (take_out s at_ ho)
    rcases ho with ho | ho
    all_goals
      go_enter Tryz.func119, Tryz.ntmps119
      go_wp2_with fail
      go_ret3
      exact ⟨congrArg Ending.returned Ho.out, rfl⟩
  · obtain ⟨i, rfl⟩ := Int.eq_ofNat_of_zero_le (show 0 ≤ at_ by omega)
    have hi : i ≤ s.size := by omega
    clear ho
    have hd1 : decide (s.size < i) = false := by simp; omega
    have hd2 : decide ((i : Int) < 0) = false := by simp
    go_enter Tryz.func119, Tryz.ntmps119
    go_wp2_with fail
    go_loop [7] (fun j => ∃ k : Nat, k ≤ 256 ∧ i + k ≤ s.size ∧ j = .int .i64 ((i + k : Nat) : Int) ∧ scanAt s.data.toList (i + k) k = scanAt s.data.toList i 0) (fun j => s.size - (intOf j).toNat)
    case atStart => exact ⟨0, by omega, by omega, rfl, rfl⟩
    case round =>
      obtain ⟨k, hk, hik, rfl, hsc⟩ := hrel
      by_cases hend : i + k = s.size
      · have hE := scanAt_end s.data.toList (i + k) k (by simp; omega)
        have H := Lib.hid (hsc.symm.trans hE)
        clear hE hsc
        have ht : s.size ≤ i + k := by omega
        clear hend
        go_wp2_with fail
        go_ret3
        exact ⟨congrArg Ending.returned (take_fail s i 3 hi (by decide) (by rw [H.out])), rfl⟩
      · have hlt : i + k < s.size := by omega
        have hstep := scanAt_step s.data.toList (i + k) k (by simpa using hlt)
        have hc : s.data.toList[i + k]'(by simpa using hlt) = s[i + k] := rfl
        rw [hc] at hstep
        clear hc hend
        have hcb : s[i + k].toNat < 256 := s[i + k].toNat_lt
        by_cases h13 : s[i + k] = 13
        · have h13' : s[i + k].toNat = 13 := by rw [h13]; rfl
          by_cases hl2 : i + k + 1 = s.size
          · rw [if_pos ⟨h13, by simpa using hl2⟩] at hstep
            have H := Lib.hid (hsc.symm.trans hstep)
            clear hstep hsc h13
            have ht2 : ((i : Int) + (k : Int) + 1 == (s.size : Int)) = true := by rw [beq_iff_eq]; omega
            clear hl2
            go_wp2_with fail
            go_ret3
            exact ⟨congrArg Ending.returned (take_fail s i 3 hi (by decide) (by rw [H.out])), rfl⟩
          · have hl3 : i + k + 1 < s.size := by omega
            have ht2 : ((i : Int) + (k : Int) + 1 == (s.size : Int)) = false := by rw [beq_eq_false_iff_ne]; omega
            rw [if_neg (by simp; omega)] at hstep
            have h10e : s.data.toList[i + k + 1]? = some s[i + k + 1] := by rw [List.getElem?_eq_getElem (by simpa using hl3)]; rfl
            rw [h10e] at hstep
            clear h10e hl2
            by_cases h10 : s[i + k + 1] = 10
            · rw [if_pos ⟨h13, by rw [h10]⟩] at hstep
              have h10' : s[i + k + 1].toNat = 10 := by rw [h10]; rfl
              have H := Lib.hid (hsc.symm.trans hstep)
              clear hstep hsc h13 h10
              go_wp2_with fail
              go_ret3
              exact ⟨congrArg Ending.returned (take_ok s i k hi H.out), rfl⟩
            · have h10' : ((s[i + k + 1].toNat : Int) == 10) = false := by
                exact ne_u8 _ _ h10
              rw [if_neg (by rintro ⟨_, h⟩; exact h10 (by simpa using h)), h13, if_pos (by decide)] at hstep
              have hpl : plainB 13 = false := by decide
              have H := Lib.hid (hsc.symm.trans hstep)
              clear hstep hsc h13 h10
              go_wp2_with (go_at_call 145; refine (ref_plain _ _ (by decide)).mono ?_; rintro e w' ⟨rfl, rfl⟩)
              go_ret3
              exact ⟨congrArg Ending.returned (take_fail s i 4 hi (by decide) (by rw [H.out])), rfl⟩
        · have h13' : ((s[i + k].toNat : Int) == 13) = false := by
            exact ne_u8 _ _ h13
          rw [if_neg (by simp [h13]), if_neg (by simp [h13])] at hstep
          by_cases hpl : plainB s[i + k].toNat = false
          · rw [if_pos hpl] at hstep
            have H := Lib.hid (hsc.symm.trans hstep)
            clear hstep hsc h13
            go_wp2_with (go_at_call 145; refine (ref_plain _ _ hcb).mono ?_; rintro e w' ⟨rfl, rfl⟩)
            go_ret3
            exact ⟨congrArg Ending.returned (take_fail s i 4 hi (by decide) (by rw [H.out])), rfl⟩
          · rw [if_neg hpl] at hstep
            have hpl' : plainB s[i + k].toNat = true := by simpa using hpl
            clear hpl
            by_cases h256 : k = 256
            · rw [if_pos h256] at hstep
              have H := Lib.hid (hsc.symm.trans hstep)
              clear hstep hsc h13
              subst h256
              go_wp2_with (go_at_call 145; refine (ref_plain _ _ hcb).mono ?_; rintro e w' ⟨rfl, rfl⟩)
              go_ret3
              exact ⟨congrArg Ending.returned (take_fail s i 5 hi (by decide) (by rw [H.out])), rfl⟩
            · rw [if_neg h256] at hstep
              have H := Lib.hid (hstep.symm.trans hsc)
              clear hstep hsc h13
              have hk2 : k < 256 := by omega
              clear h256
              go_wp2_with (go_at_call 145; refine (ref_plain _ _ hcb).mono ?_; rintro e w' ⟨rfl, rfl⟩)
              go_round
              case rel => exact ⟨k + 1, by omega, by omega, by go_num, by rw [← Nat.add_assoc]; exact H.out⟩
              case measure => simp [intOf]; omega

theorem putErr_4 (l : List UInt8) (k : Nat) (c : UInt8) (h : l[k]? = some c) (hp : plainB c.toNat = false) : putErr l = 4 := by
  unfold putErr
  rw [if_pos]
  rw [List.all_eq_false]
  exact ⟨c, List.mem_of_getElem? h, by simp [hp]⟩
theorem putErr_ok (l : List UInt8) (h : ∀ k (hk : k < l.length), plainB l[k].toNat = true) : putErr l = if 256 < l.length then 5 else 0 := by
  unfold putErr
  rw [if_neg]
  simp only [Bool.not_eq_false, List.all_eq_true]
  intro c hc
  obtain ⟨k, hk, rfl⟩ := List.getElem_of_mem hc
  exact h k hk
/-- the line laid: with its end, or nothing. -/
def putLine (s : ByteArray) : ByteArray := if putErr s.data.toList = 0 then s ++ ⟨#[13, 10]⟩ else ⟨#[]⟩
theorem put_fail (s : ByteArray) (E : Nat) (h0 : E ≠ 0) (h : putErr s.data.toList = E) : Value.tuple #[.string ⟨#[]⟩, .int .i64 E] = Value.tuple #[.string (putLine s), .int .i64 (putErr s.data.toList)] := by
  unfold putLine; rw [h, if_neg h0]
theorem put_ok (s : ByteArray) (h : putErr s.data.toList = 0) : Value.tuple #[.string (s ++ ⟨#[13, 10]⟩), .int .i64 0] = Value.tuple #[.string (putLine s), .int .i64 (putErr s.data.toList)] := by
  unfold putLine; rw [h, if_pos rfl]; rfl
theorem plain_all_step (s : ByteArray) (k : Nat) (h : ∀ j, j < k → ∀ hj : j < s.size, plainB (s[j]'hj).toNat = true) (hk : k < s.size) (hp : plainB s[k].toNat = true) : ∀ j, j < k + 1 → ∀ hj : j < s.size, plainB (s[j]'hj).toNat = true := by
  intro j hj hjs
  by_cases e : j = k
  · subst e; exact hp
  · exact h j (by omega) hjs

set_option maxRecDepth 100000 in
set_option maxHeartbeats 2000000 in
theorem lines_put (s : ByteArray) (w : World) (hs : s.size ≤ 9223372036854775807) :
    Calls Tryz.prog 57 #[.string s] w fun e w' => e = .returned (.tuple #[.string (putLine s), .int .i64 (putErr s.data.toList)]) ∧ w' = w := by
  go_enter Tryz.func57, Tryz.ntmps57
  go_wp2_with fail
  go_loop [7] (fun j => ∃ k : Nat, k ≤ s.size ∧ j = .int .i64 k ∧ ∀ j, j < k → ∀ hj : j < s.size, plainB (s[j]'hj).toNat = true) (fun j => s.size - (intOf j).toNat)
  case atStart => exact ⟨0, by omega, rfl, fun j hj => by omega⟩
  case round =>
    obtain ⟨k, hk, rfl, hall⟩ := hrel
    have Hall := Lib.hid hall
    clear hall
    by_cases hlt : k < s.size
    · have hcb : s[k].toNat < 256 := s[k].toNat_lt
      by_cases hpl : plainB s[k].toNat = false
      · have H := Lib.hid (putErr_4 s.data.toList k s[k] (by rw [List.getElem?_eq_getElem (by simpa using hlt)]; rfl) hpl)
        go_wp2_with (go_at_call 115; refine (lines_plain _ _ hcb).mono ?_; rintro e w' ⟨rfl, rfl⟩)
        go_ret2
        exact ⟨congrArg Ending.returned (put_fail s 4 (by decide) H.out), rfl⟩
      · have hpl' : plainB s[k].toNat = true := by simpa using hpl
        clear hpl
        have H := Lib.hid (plain_all_step s k Hall.out hlt hpl')
        go_wp2_with (go_at_call 115; refine (lines_plain _ _ hcb).mono ?_; rintro e w' ⟨rfl, rfl⟩)
        go_round
        case rel => exact ⟨k + 1, by omega, by go_num, H.out⟩
        case measure => simp [intOf]; omega
    · have h := putErr_ok s.data.toList (fun j hj => Hall.out j (by simp at hj; omega) (by simpa using hj))
      have hsz : s.data.toList.length = s.size := by simp
      by_cases h256 : 256 < s.size
      · rw [hsz, if_pos h256] at h
        have H := Lib.hid h
        clear h hsz
        go_wp2_with fail
        go_ret2
        exact ⟨congrArg Ending.returned (put_fail s 5 (by decide) H.out), rfl⟩
      · rw [hsz, if_neg h256] at h
        have H := Lib.hid h
        clear h hsz
        go_wp2_with fail
        go_ret2
        exact ⟨congrArg Ending.returned (put_ok s H.out), rfl⟩

end Go.Proofs.YtgaojfebmcmpaaaGreatDoor
