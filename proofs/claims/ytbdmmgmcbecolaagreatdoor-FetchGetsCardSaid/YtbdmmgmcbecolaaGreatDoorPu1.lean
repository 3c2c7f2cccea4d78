/- Plain functions for the lines of an HTTP head (no program in sight). What the functions Take and Put of package lines and of its reference return. sync.Once at a lock that is free and not done: its parts. Lists of texts in memory: what a slice of strings reads as; texts as lists of bytes. strings.NewReplacer of two bytes that become nothing: what it lays. (*strings.Replacer).build of two bytes that become nothing: what it lays. sync.Once.Do of (*strings.Replacer).buildOnce, the first time. A text cut at its blanks: the words (no program in sight). The words of a line: what lines.Words and the reference's Words return; ref.Same. -/
import Derived.Deep.Draws
import Derived.Test.YtbdmmgmcbecolaaGreatDoorProg
import Derived.WalkKit
import Derived.Below
import Derived.Deep.RegionHeld3
import Derived.BigRegion
import Derived.BigQuiet
import Derived.Outline
import Derived.Lib.Hide
import Derived.WalkMore
import Derived.Scope
import Derived.ScopeJumps
import Derived.OwnWalk
import Derived.WalkSpells
import Derived.WalkLawsBesides
import Derived.Tactics
import Derived.Tactics2
import Derived.Defers
import Derived.Laws.Pointers
import Derived.Laws.LoneSync
import Derived.RegionTactic
import Derived.RegionCalls
import Derived.ChangeAlike
import Derived.Deep.OwnRows
import Derived.Lib.Split
import Derived.Laws.AppendOwn
import Derived.Maps.AppendAt
import Derived.LoopN
import Derived.Laws.Tables
import Derived.Deep.WholeRow
import Derived.Lib.LazyBuf
set_option linter.unusedVariables false
set_option linter.unusedSimpArgs false
namespace Go.Proofs.YtbdmmgmcbecolaaGreatDoor

/-- may a byte stand in a line? -/
def plainB (c : Nat) : Bool := c == 9 || (decide (32 ≤ c) && decide (c ≤ 126))

/-- the scan of one line, from what is left of the text; n bytes have been passed: how many bytes the line has, and the error (0, 3, 4, 5). -/
def scan : List UInt8 → Nat → Nat × Nat
  | [], n => (n, 3)
  | c :: r, n => if c = 13 ∧ r = [] then (n, 3) else if c = 13 ∧ r.head? = some 10 then (n, 0)
      else if plainB c.toNat = false then (n, 4) else if n = 256 then (n, 5) else scan r (n + 1)

/-- what taking a line at a place tells: how many bytes the line has and the error; an error at a place beyond the text is 2. -/
def scanAt (l : List UInt8) (i : Nat) (n : Nat) : Nat × Nat := scan (l.drop i) n

theorem scanAt_end (l : List UInt8) (i n : Nat) (h : l.length ≤ i) : scanAt l i n = (n, 3) := by
  unfold scanAt; rw [List.drop_eq_nil_of_le h]; rfl

theorem scanAt_step (l : List UInt8) (i n : Nat) (h : i < l.length) : scanAt l i n =
    if l[i] = 13 ∧ i + 1 = l.length then (n, 3) else if l[i] = 13 ∧ l[i + 1]? = some 10 then (n, 0)
      else if plainB l[i].toNat = false then (n, 4) else if n = 256 then (n, 5) else scanAt l (i + 1) (n + 1) := by
  unfold scanAt
  rw [List.drop_eq_getElem_cons h, scan]
  have e1 : (l.drop (i + 1) = []) ↔ i + 1 = l.length := by rw [List.drop_eq_nil_iff]; omega
  have e2 : (l.drop (i + 1)).head? = l[i + 1]? := by rw [List.head?_drop]
  rw [e2]
  simp only [e1]

theorem scan_n (l : List UInt8) : ∀ n, n ≤ 256 → n ≤ (scan l n).1 ∧ (scan l n).1 ≤ n + l.length ∧ (scan l n).1 ≤ 256 ∧ (scan l n).2 ≤ 5 := by
  induction l with
  | nil => intro n h; simp [scan]; omega
  | cons c r ih =>
    intro n h
    rw [scan]
    split
    · simp; omega
    · split
      · simp; omega
      · split
        · simp; omega
        · split
          · simp; omega
          · have := ih (n + 1) (by omega)
            simp only [List.length_cons]
            omega

theorem scan_zero (l : List UInt8) : ∀ n, (scan l n).2 = 0 → (scan l n).1 + 2 ≤ n + l.length := by
  induction l with
  | nil => intro n h; simp [scan] at h
  | cons c r ih =>
    intro n
    rw [scan]
    split
    · simp
    · split
      · rename_i h
        cases r with
        | nil => simp at h
        | cons d t => simp
      · split
        · simp
        · split
          · simp
          · intro h
            have := ih (n + 1) h
            simp only [List.length_cons]
            omega

def takeErr (s : ByteArray) (at_ : Int) : Nat := if at_ < 0 ∨ (s.size : Int) < at_ then 2 else (scanAt s.data.toList at_.toNat 0).2
def takeLine (s : ByteArray) (at_ : Int) : ByteArray := if takeErr s at_ = 0 then s.extract at_.toNat (at_.toNat + (scanAt s.data.toList at_.toNat 0).1) else ⟨#[]⟩
def takeNext (s : ByteArray) (at_ : Int) : Int := if takeErr s at_ = 0 then at_ + (scanAt s.data.toList at_.toNat 0).1 + 2 else at_

theorem takeErr_out (s : ByteArray) (at_ : Int) (h : at_ < 0 ∨ (s.size : Int) < at_) : takeErr s at_ = 2 := if_pos h
theorem takeErr_in (s : ByteArray) (i : Nat) (h : i ≤ s.size) : takeErr s (i : Int) = (scanAt s.data.toList i 0).2 := by
  unfold takeErr; rw [if_neg (by omega)]; rfl

/-- laying a line: the error (0, 4, 5). -/
def putErr (l : List UInt8) : Nat := if l.all (fun c => plainB c.toNat) = false then 4 else if 256 < l.length then 5 else 0

end Go.Proofs.YtbdmmgmcbecolaaGreatDoor
namespace Go.Proofs.YtbdmmgmcbecolaaGreatDoor
open Go.RowKit

theorem plainB_lo (c : Nat) (h : c < 32) (h9 : c ≠ 9) : plainB c = false := by
  unfold plainB; simp; omega
theorem plainB_ge (c : Nat) (h : 32 ≤ c) : plainB c = decide ((c : Int) ≤ 126) := by
  unfold plainB
  have h9 : (c == 9) = false := by simp; omega
  rw [h9, decide_eq_true h, Bool.false_or, Bool.true_and]
  by_cases h2 : c ≤ 126
  · rw [decide_eq_true h2, decide_eq_true (by omega)]
  · rw [decide_eq_false h2, decide_eq_false (by omega)]

theorem ret_bool {a b : Bool} (h : a = b) : Ending.returned (.bool a) = .returned (.bool b) := by rw [h]

theorem lines_plain (c : Nat) (w : World) (h : c < 256) :
    Calls Tryz.prog 91 #[.int .u8 c] w fun e w' => e = .returned (.bool (plainB c)) ∧ w' = w := by
  by_cases h9 : c = 9
  · subst h9
    go_enter Tryz.func91, Tryz.ntmps91
    go_wp2
    go_ret
    exact ⟨ret_bool rfl, rfl⟩
  · have k9 : ((c : Int) == 9) = false := by rw [beq_eq_false_iff_ne]; omega
    by_cases hlo : c < 32
    · have H := Lib.hid (plainB_lo c hlo h9)
      go_enter Tryz.func91, Tryz.ntmps91
      go_wp2
      go_ret
      exact ⟨ret_bool H.out.symm, rfl⟩
    · have H := Lib.hid (plainB_ge c (by omega))
      go_enter Tryz.func91, Tryz.ntmps91
      go_wp2
      go_ret
      exact ⟨ret_bool H.out.symm, rfl⟩

theorem ref_plain (c : Nat) (w : World) (h : c < 256) :
    Calls Tryz.prog 84 #[.int .u8 c] w fun e w' => e = .returned (.bool (plainB c)) ∧ w' = w := by
  by_cases h9 : c = 9
  · subst h9
    go_enter Tryz.func84, Tryz.ntmps84
    go_wp2
    go_ret
    exact ⟨ret_bool rfl, rfl⟩
  · have k9 : ((c : Int) == 9) = false := by rw [beq_eq_false_iff_ne]; omega
    by_cases hlo : c < 32
    · have H := Lib.hid (plainB_lo c hlo h9)
      go_enter Tryz.func84, Tryz.ntmps84
      go_wp2
      go_ret
      exact ⟨ret_bool H.out.symm, rfl⟩
    · have H := Lib.hid (plainB_ge c (by omega))
      go_enter Tryz.func84, Tryz.ntmps84
      go_wp2
      go_ret
      exact ⟨ret_bool H.out.symm, rfl⟩

/-- what holds at each jump of a scope with several labels. -/
def Exit.jumps (J : Nat → Act → World → Prop) (Q : Exit → Act → World → Prop) : Exit → Act → World → Prop
  | .goto l, a, w => J l a w
  | e, a, w => Q e a w
theorem wp_scope_many {P : Program} {a : Act} {w : World} {Q : Exit → Act → World → Prop} {c : Code} (J : Nat → Act → World → Prop) (μ : Nat → Act → World → Nat)
    (pass : ∀ l a w, J l a w → ∃ y, findLabel c l = some (.seq .skip y) ∧ y.wp P (Exit.jumps (fun l' a' w' => J l' a' w' ∧ μ l' a' w' < μ l a w) Q) a w)
    (first : (∀ l a w y, J l a w → findLabel c l = some (.seq .skip y) → y.wp P (Exit.jumps J Q) a w) → c.wp P (Exit.jumps J Q) a w) : (Code.scope c).wp P Q a w := by
  intro b k cs
  have first' := first fun l a w y hJ hf => by
    obtain ⟨y', hf', hp⟩ := pass l a w hJ
    obtain rfl : y' = y := by have := hf'.symm.trans hf; simpa using this
    refine wp_mono hp ?_
    intro e a' w' h
    cases e <;> first | exact h | exact h.1
  have hg : ∀ l rest, findLabel c l = some rest → gotoIn l (.inScope c :: k) = some (.code rest :: .inScope c :: k) := fun l rest hf => by simp [gotoIn, hf]
  have key : ∀ n l a w, μ l a w = n → J l a w → ∀ rest, findLabel c l = some rest → ∃ e a' w', Q e a' w' ∧ Arrives P (lone (b.at a (.code rest :: .inScope c :: k)) cs w) b k cs e a' w' := by
    intro n
    induction n using Nat.strongRecOn with
    | _ n ih =>
      intro l a w hn hJ rest hf
      obtain ⟨y', hf', hp'⟩ := pass l a w hJ
      obtain rfl : (Code.seq .skip y') = rest := Option.some.inj (hf'.symm.trans hf)
      have hp := wp_seq (x := .skip) (y := y') (wp_skip (Q := Exit.then (y'.wp P _) _) hp')
      obtain ⟨e, a₁, w₁, hq, harr⟩ := hp b (.inScope c :: k) cs
      cases e with
      | normal => exact ⟨.normal, a₁, w₁, hq, Steps.trans harr (.one step_inScope)⟩
      | exit id => exact ⟨.exit id, a₁, w₁, hq, fun k' hk => harr k' (by simp [exitTo, hk])⟩
      | goto l' =>
        obtain ⟨hJ', hlt⟩ := hq
        obtain ⟨r2, hf2, _⟩ := pass l' a₁ w₁ hJ'
        obtain ⟨e₂, a₂, w₂, hq₂, harr₂⟩ := ih _ (by omega) l' a₁ w₁ rfl hJ' _ hf2
        exact ⟨e₂, a₂, w₂, hq₂, .of_steps (harr _ (hg l' _ hf2)) harr₂⟩
      | ret => exact ⟨_, a₁, w₁, hq, harr⟩
      | panic ch => exact ⟨_, a₁, w₁, hq, harr⟩
      | outgrown => exact ⟨_, a₁, w₁, hq, harr⟩
  obtain ⟨e, a₁, w₁, hq, harr⟩ := first' b (.inScope c :: k) cs
  cases e with
  | normal => exact ⟨.normal, a₁, w₁, hq, .head step_scope (Steps.trans harr (.one step_inScope))⟩
  | exit id => exact ⟨.exit id, a₁, w₁, hq, fun k' hk => .head step_scope (harr k' (by simp [exitTo, hk]))⟩
  | goto l' =>
    obtain ⟨r2, hf2, _⟩ := pass l' a₁ w₁ hq
    obtain ⟨e₂, a₂, w₂, hq₂, harr₂⟩ := key _ l' a₁ w₁ rfl hq _ hf2
    exact ⟨e₂, a₂, w₂, hq₂, .of_steps (.head step_scope (harr _ (hg l' _ hf2))) harr₂⟩
  | ret => exact ⟨_, a₁, w₁, hq, .of_steps (.one step_scope) harr⟩
  | panic ch => exact ⟨_, a₁, w₁, hq, .of_steps (.one step_scope) harr⟩
  | outgrown => exact ⟨_, a₁, w₁, hq, .of_steps (.one step_scope) harr⟩

theorem ne_u8 (x y : UInt8) (h : x ≠ y) : ((x.toNat : Int) == (y.toNat : Int)) = false := by
  rw [beq_eq_false_iff_ne]; intro h'; exact h (UInt8.toNat_inj.1 (by omega))

theorem take_fail (s : ByteArray) (i E : Nat) (hi : i ≤ s.size) (h0 : E ≠ 0) (h : E = (scanAt s.data.toList i 0).2) :
    Value.tuple #[.string ⟨#[]⟩, .int .i64 i, .int .i64 E] = Value.tuple #[.string (takeLine s i), .int .i64 (takeNext s i), .int .i64 (takeErr s i)] := by
  have e := takeErr_in s i hi
  rw [← h] at e
  unfold takeLine takeNext
  rw [e, if_neg h0, if_neg h0]
theorem take_out (s : ByteArray) (i : Int) (h : i < 0 ∨ (s.size : Int) < i) :
    Value.tuple #[.string ⟨#[]⟩, .int .i64 i, .int .i64 2] = Value.tuple #[.string (takeLine s i), .int .i64 (takeNext s i), .int .i64 (takeErr s i)] := by
  unfold takeLine takeNext
  rw [takeErr_out s i h, if_neg (by decide), if_neg (by decide)]; rfl
theorem take_ok (s : ByteArray) (i k : Nat) (hi : i ≤ s.size) (h : scanAt s.data.toList i 0 = (k, 0)) :
    Value.tuple #[.string (s.extract i (i + k)), .int .i64 (i + k + 2), .int .i64 0] = Value.tuple #[.string (takeLine s i), .int .i64 (takeNext s i), .int .i64 (takeErr s i)] := by
  have e := takeErr_in s i hi
  rw [h] at e
  unfold takeLine takeNext
  rw [e, if_pos rfl, if_pos rfl]
  show _ = Value.tuple #[.string (s.extract i (i + (scanAt s.data.toList i 0).1)), .int .i64 ((i : Int) + (scanAt s.data.toList i 0).1 + 2), .int .i64 ((0 : Nat) : Int)]
  rw [h]; rfl

def takeJ (s : ByteArray) (i : Nat) (w : World) (l : Nat) (a' : Act) (w' : World) : Prop :=
  w' = w ∧ ((l = 1 ∧ ∃ (k : Nat) (u8 u9 u10 u11 u12 u13 u14 u15 u16 u17 u18 u19 u20 u21 u22 u23 u24 u25 u26 u27 u28 u29 u30 u31 u32 u33 u34 u35 u36 u37 u38 u39 u40 u41 u42 u43 u44 u45 u46 u47 u48 u49 u50 u51 u52 u53 u54 u55 u56 u57 u58 u59 u60 u61 u62 u63 u64 : Value), a' = { tmps := #[.string s, .int .i64 i, undef, undef, .string ⟨#[]⟩, .int .i64 0, .int .i64 3, .int .i64 ((i + k : Nat) : Int), u8, u9, u10, u11, u12, u13, u14, u15, u16, u17, u18, u19, u20, u21, u22, u23, u24, u25, u26, u27, u28, u29, u30, u31, u32, u33, u34, u35, u36, u37, u38, u39, u40, u41, u42, u43, u44, u45, u46, u47, u48, u49, u50, u51, u52, u53, u54, u55, u56, u57, u58, u59, u60, u61, u62, u63, u64], defers := [] } ∧ k ≤ 256 ∧ i + k ≤ s.size ∧ scanAt s.data.toList (i + k) k = scanAt s.data.toList i 0) ∨ (l = 0 ∧ ∃ (E : Nat) (u7 u8 u9 u10 u11 u12 u13 u14 u15 u16 u17 u18 u19 u20 u21 u22 u23 u24 u25 u26 u27 u28 u29 u30 u31 u32 u33 u34 u35 u36 u37 u38 u39 u40 u41 u42 u43 u44 u45 u46 u47 u48 u49 u50 u51 u52 u53 u54 u55 u56 u57 u58 u59 u60 u61 u62 u63 u64 : Value), a' = { tmps := #[.string s, .int .i64 i, undef, undef, .string ⟨#[]⟩, .int .i64 0, .int .i64 (E : Int), u7, u8, u9, u10, u11, u12, u13, u14, u15, u16, u17, u18, u19, u20, u21, u22, u23, u24, u25, u26, u27, u28, u29, u30, u31, u32, u33, u34, u35, u36, u37, u38, u39, u40, u41, u42, u43, u44, u45, u46, u47, u48, u49, u50, u51, u52, u53, u54, u55, u56, u57, u58, u59, u60, u61, u62, u63, u64], defers := [] } ∧ E ≠ 0 ∧ E = (scanAt s.data.toList i 0).2))
def takeM (s : ByteArray) (l : Nat) (a' : Act) (_ : World) : Nat := if l = 0 then 0 else 1 + (s.size - (intOf (a'.tmps.getD 7 undef)).toNat)

set_option maxRecDepth 100000 in
set_option maxHeartbeats 2000000 in
theorem lines_take (s : ByteArray) (at_ : Int) (w : World) (hs : s.size ≤ 9223372036854775807) :
    Calls Tryz.prog 105 #[.string s, .int .i64 at_] w fun e w' => e = .returned (.tuple #[.string (takeLine s at_), .int .i64 (takeNext s at_), .int .i64 (takeErr s at_)]) ∧ w' = w := by
  by_cases ho : at_ < 0 ∨ (s.size : Int) < at_
  · have Ho := Lib.hid (take_out s at_ ho)
    rcases ho with ho | ho
    all_goals
      go_enter Tryz.func105, Tryz.ntmps105
      go_wp2_with fail
      go_step3
      go_wp2_with fail
      try rw [Exit.noGoto_ret]
      go_ret3
      exact ⟨congrArg Ending.returned Ho.out, rfl⟩
  · obtain ⟨i, rfl⟩ := Int.eq_ofNat_of_zero_le (show 0 ≤ at_ by omega)
    have hi : i ≤ s.size := by omega
    clear ho
    go_enter Tryz.func105, Tryz.ntmps105
    go_wp2_with fail
    refine wp_scope_many (takeJ s i w) (takeM s) ?_ ?_
    · rintro l a' w' ⟨rfl, ⟨rfl, k, u8, u9, u10, u11, u12, u13, u14, u15, u16, u17, u18, u19, u20, u21, u22, u23, u24, u25, u26, u27, u28, u29, u30, u31, u32, u33, u34, u35, u36, u37, u38, u39, u40, u41, u42, u43, u44, u45, u46, u47, u48, u49, u50, u51, u52, u53, u54, u55, u56, u57, u58, u59, u60, u61, u62, u63, u64, rfl, hk, hik, hsc⟩ | ⟨rfl, E, u7, u8, u9, u10, u11, u12, u13, u14, u15, u16, u17, u18, u19, u20, u21, u22, u23, u24, u25, u26, u27, u28, u29, u30, u31, u32, u33, u34, u35, u36, u37, u38, u39, u40, u41, u42, u43, u44, u45, u46, u47, u48, u49, u50, u51, u52, u53, u54, u55, u56, u57, u58, u59, u60, u61, u62, u63, u64, rfl, hE0, hE⟩⟩
      · refine ⟨_, rfl, ?_⟩
        by_cases hend : i + k = s.size
        · have hE := scanAt_end s.data.toList (i + k) k (by simp; omega)
          have H := Lib.hid (hsc.symm.trans hE)
          clear hE hsc
          have ht : ((i : Int) + (k : Int) == (s.size : Int)) = true := by rw [beq_iff_eq]; omega
          clear hend
          go_wp2_with fail
          go_step3
          refine And.intro (And.intro rfl (.inr (And.intro rfl ?_))) ?_
          · refine ⟨3, ?_⟩
            (repeat apply Exists.intro)
            exact ⟨rfl, by decide, by rw [H.out]⟩
          · simp [takeM]; omega
        · have hlt : i + k < s.size := by omega
          have ht : ((i : Int) + (k : Int) == (s.size : Int)) = false := by rw [beq_eq_false_iff_ne]; omega
          have hstep := scanAt_step s.data.toList (i + k) k (by simpa using hlt)
          have hc : s.data.toList[i + k]'(by simpa using hlt) = s[i + k] := rfl
          rw [hc] at hstep
          clear hc hend
          have hcb : s[i + k].toNat < 256 := s[i + k].toNat_lt
          by_cases h13 : s[i + k] = 13
          · have h13' : s[i + k].toNat = 13 := by rw [h13]; rfl
            by_cases hl2 : i + k + 1 = s.size
            · rw [if_pos ⟨h13, by simpa using hl2⟩] at hstep
              have H := Lib.hid (hsc.symm.trans hstep)
              clear hstep hsc h13
              have ht2 : ((i : Int) + (k : Int) + 1 == (s.size : Int)) = true := by rw [beq_iff_eq]; omega
              clear hl2
              go_wp2_with fail
              go_step3
              refine And.intro (And.intro rfl (.inr (And.intro rfl ?_))) ?_
              · refine ⟨3, ?_⟩
                (repeat apply Exists.intro)
                exact ⟨rfl, by decide, by rw [H.out]⟩
              · simp [takeM]; omega
            · have hl3 : i + k + 1 < s.size := by omega
              have ht2 : ((i : Int) + (k : Int) + 1 == (s.size : Int)) = false := by rw [beq_eq_false_iff_ne]; omega
              rw [if_neg (by simp; omega)] at hstep
              have h10e : s.data.toList[i + k + 1]? = some s[i + k + 1] := by rw [List.getElem?_eq_getElem (by simpa using hl3)]; rfl
              rw [h10e] at hstep
              clear h10e hl2
              by_cases h10 : s[i + k + 1] = 10
              · rw [if_pos ⟨h13, by rw [h10]⟩] at hstep
                have h10' : s[i + k + 1].toNat = 10 := by rw [h10]; rfl
                have H := Lib.hid (hsc.symm.trans hstep)
                clear hstep hsc h13 h10
                go_wp2_with fail
                simp only [Exit.jumps]
                go_ret3
                exact ⟨congrArg Ending.returned (take_ok s i k hi H.out), rfl⟩
              · have h10' : ((s[i + k + 1].toNat : Int) == 10) = false := by
                  exact ne_u8 _ _ h10
                rw [if_neg (by rintro ⟨_, h⟩; exact h10 (by simpa using h)), h13, if_pos (by decide)] at hstep
                have hpl : plainB 13 = false := by decide
                have H := Lib.hid (hsc.symm.trans hstep)
                clear hstep hsc h13 h10
                go_wp2_with (go_at_call 91; refine (lines_plain _ _ (by decide)).mono ?_; rintro e w' ⟨rfl, rfl⟩)
                go_step3
                refine And.intro (And.intro rfl (.inr (And.intro rfl ?_))) ?_
                · refine ⟨4, ?_⟩
                  (repeat apply Exists.intro)
                  exact ⟨rfl, by decide, by rw [H.out]⟩
                · simp [takeM]; omega
          · have h13' : ((s[i + k].toNat : Int) == 13) = false := by
              exact ne_u8 _ _ h13
            rw [if_neg (by simp [h13]), if_neg (by simp [h13])] at hstep
            by_cases hpl : plainB s[i + k].toNat = false
            · rw [if_pos hpl] at hstep
              have H := Lib.hid (hsc.symm.trans hstep)
              clear hstep hsc h13
              go_wp2_with (go_at_call 91; refine (lines_plain _ _ hcb).mono ?_; rintro e w' ⟨rfl, rfl⟩)
              go_step3
              refine And.intro (And.intro rfl (.inr (And.intro rfl ?_))) ?_
              · refine ⟨4, ?_⟩
                (repeat apply Exists.intro)
                exact ⟨rfl, by decide, by rw [H.out]⟩
              · simp [takeM]; omega
            · rw [if_neg hpl] at hstep
              have hpl' : plainB s[i + k].toNat = true := by simpa using hpl
              clear hpl
              by_cases h256 : k = 256
              · rw [if_pos h256] at hstep
                have H := Lib.hid (hsc.symm.trans hstep)
                clear hstep hsc h13
                subst h256
                go_wp2_with (go_at_call 91; refine (lines_plain _ _ hcb).mono ?_; rintro e w' ⟨rfl, rfl⟩)
                go_step3
                refine And.intro (And.intro rfl (.inr (And.intro rfl ?_))) ?_
                · refine ⟨5, ?_⟩
                  (repeat apply Exists.intro)
                  exact ⟨rfl, by decide, by rw [H.out]⟩
                · simp [takeM]; omega
              · rw [if_neg h256] at hstep
                have H := Lib.hid (hstep.symm.trans hsc)
                clear hstep hsc h13
                have hk2 : k < 256 := by omega
                have ht3 : ((k : Int) == 256) = false := by rw [beq_eq_false_iff_ne]; omega
                clear h256
                go_wp2_with (go_at_call 91; refine (lines_plain _ _ hcb).mono ?_; rintro e w' ⟨rfl, rfl⟩)
                go_step3
                refine And.intro (And.intro rfl (.inl (And.intro rfl ?_))) ?_
                · refine ⟨k + 1, ?_⟩
                  (repeat apply Exists.intro)
                  exact ⟨rfl, by omega, by omega, by rw [← Nat.add_assoc]; exact H.out⟩
                · simp [takeM, intOf]; omega
      · refine ⟨_, rfl, ?_⟩
        have He := Lib.hid hE
        clear hE
        go_wp2_with fail
        simp only [Exit.jumps]
        go_ret3
        exact ⟨congrArg Ending.returned (take_fail s i E hi hE0 He.out), rfl⟩
    · intro H
      go_wp2_with fail
      go_step3
      rename_i K hK
      refine hK _ _ (H 1 _ _ _ ?_ rfl)
      refine ⟨rfl, .inl ⟨rfl, 0, ?_⟩⟩
      (repeat apply Exists.intro)
      exact ⟨rfl, by omega, by omega, rfl⟩

set_option maxRecDepth 100000 in
set_option maxHeartbeats 2000000 in
theorem ref_take (s : ByteArray) (at_ : Int) (w : World) (hs : s.size ≤ 9223372036854775807) :
    Calls Tryz.prog 83 #[.string s, .int .i64 at_] w fun e w' => e = .returned (.tuple #[.string (takeLine s at_), .int .i64 (takeNext s at_), .int .i64 (takeErr s at_)]) ∧ w' = w := by
  by_cases ho : at_ < 0 ∨ (s.size : Int) < at_
  · have Ho := Lib.hid (take_out s at_ ho)
    rcases ho with ho | ho
    all_goals
      go_enter Tryz.func83, Tryz.ntmps83
      go_wp2_with fail
      go_ret3
      exact ⟨congrArg Ending.returned Ho.out, rfl⟩
  · obtain ⟨i, rfl⟩ := Int.eq_ofNat_of_zero_le (show 0 ≤ at_ by omega)
    have hi : i ≤ s.size := by omega
    clear ho
    have hd1 : decide (s.size < i) = false := by simp; omega
    have hd2 : decide ((i : Int) < 0) = false := by simp
    go_enter Tryz.func83, Tryz.ntmps83
    go_wp2_with fail
    go_loop [7] (fun j => ∃ k : Nat, k ≤ 256 ∧ i + k ≤ s.size ∧ j = .int .i64 ((i + k : Nat) : Int) ∧ scanAt s.data.toList (i + k) k = scanAt s.data.toList i 0) (fun j => s.size - (intOf j).toNat)
    case atStart => exact ⟨0, by omega, by omega, rfl, rfl⟩
    case round =>
      obtain ⟨k, hk, hik, rfl, hsc⟩ := hrel
      by_cases hend : i + k = s.size
      · have hE := scanAt_end s.data.toList (i + k) k (by simp; omega)
        have H := Lib.hid (hsc.symm.trans hE)
        clear hE hsc
        have ht : s.size ≤ i + k := by omega
        clear hend
        go_wp2_with fail
        go_ret3
        exact ⟨congrArg Ending.returned (take_fail s i 3 hi (by decide) (by rw [H.out])), rfl⟩
      · have hlt : i + k < s.size := by omega
        have hstep := scanAt_step s.data.toList (i + k) k (by simpa using hlt)
        have hc : s.data.toList[i + k]'(by simpa using hlt) = s[i + k] := rfl
        rw [hc] at hstep
        clear hc hend
        have hcb : s[i + k].toNat < 256 := s[i + k].toNat_lt
        by_cases h13 : s[i + k] = 13
        · have h13' : s[i + k].toNat = 13 := by rw [h13]; rfl
          by_cases hl2 : i + k + 1 = s.size
          · rw [if_pos ⟨h13, by simpa using hl2⟩] at hstep
            have H := Lib.hid (hsc.symm.trans hstep)
            clear hstep hsc h13
            have ht2 : ((i : Int) + (k : Int) + 1 == (s.size : Int)) = true := by rw [beq_iff_eq]; omega
            clear hl2
            go_wp2_with fail
            go_ret3
            exact ⟨congrArg Ending.returned (take_fail s i 3 hi (by decide) (by rw [H.out])), rfl⟩
          · have hl3 : i + k + 1 < s.size := by omega
            have ht2 : ((i : Int) + (k : Int) + 1 == (s.size : Int)) = false := by rw [beq_eq_false_iff_ne]; omega
            rw [if_neg (by simp; omega)] at hstep
            have h10e : s.data.toList[i + k + 1]? = some s[i + k + 1] := by rw [List.getElem?_eq_getElem (by simpa using hl3)]; rfl
            rw [h10e] at hstep
            clear h10e hl2
            by_cases h10 : s[i + k + 1] = 10
            · rw [if_pos ⟨h13, by rw [h10]⟩] at hstep
              have h10' : s[i + k + 1].toNat = 10 := by rw [h10]; rfl
              have H := Lib.hid (hsc.symm.trans hstep)
              clear hstep hsc h13 h10
              go_wp2_with fail
              go_ret3
              exact ⟨congrArg Ending.returned (take_ok s i k hi H.out), rfl⟩
            · have h10' : ((s[i + k + 1].toNat : Int) == 10) = false := by
                exact ne_u8 _ _ h10
              rw [if_neg (by rintro ⟨_, h⟩; exact h10 (by simpa using h)), h13, if_pos (by decide)] at hstep
              have hpl : plainB 13 = false := by decide
              have H := Lib.hid (hsc.symm.trans hstep)
              clear hstep hsc h13 h10
              go_wp2_with (go_at_call 84; refine (ref_plain _ _ (by decide)).mono ?_; rintro e w' ⟨rfl, rfl⟩)
              go_ret3
              exact ⟨congrArg Ending.returned (take_fail s i 4 hi (by decide) (by rw [H.out])), rfl⟩
        · have h13' : ((s[i + k].toNat : Int) == 13) = false := by
            exact ne_u8 _ _ h13
          rw [if_neg (by simp [h13]), if_neg (by simp [h13])] at hstep
          by_cases hpl : plainB s[i + k].toNat = false
          · rw [if_pos hpl] at hstep
            have H := Lib.hid (hsc.symm.trans hstep)
            clear hstep hsc h13
            go_wp2_with (go_at_call 84; refine (ref_plain _ _ hcb).mono ?_; rintro e w' ⟨rfl, rfl⟩)
            go_ret3
            exact ⟨congrArg Ending.returned (take_fail s i 4 hi (by decide) (by rw [H.out])), rfl⟩
          · rw [if_neg hpl] at hstep
            have hpl' : plainB s[i + k].toNat = true := by simpa using hpl
            clear hpl
            by_cases h256 : k = 256
            · rw [if_pos h256] at hstep
              have H := Lib.hid (hsc.symm.trans hstep)
              clear hstep hsc h13
              subst h256
              go_wp2_with (go_at_call 84; refine (ref_plain _ _ hcb).mono ?_; rintro e w' ⟨rfl, rfl⟩)
              go_ret3
              exact ⟨congrArg Ending.returned (take_fail s i 5 hi (by decide) (by rw [H.out])), rfl⟩
            · rw [if_neg h256] at hstep
              have H := Lib.hid (hstep.symm.trans hsc)
              clear hstep hsc h13
              have hk2 : k < 256 := by omega
              clear h256
              go_wp2_with (go_at_call 84; refine (ref_plain _ _ hcb).mono ?_; rintro e w' ⟨rfl, rfl⟩)
              go_round
              case rel => exact ⟨k + 1, by omega, by omega, by go_num, by rw [← Nat.add_assoc]; exact H.out⟩
              case measure => simp [intOf]; omega

theorem putErr_4 (l : List UInt8) (k : Nat) (c : UInt8) (h : l[k]? = some c) (hp : plainB c.toNat = false) : putErr l = 4 := by
  unfold putErr
  rw [if_pos]
  rw [List.all_eq_false]
  exact ⟨c, List.mem_of_getElem? h, by simp [hp]⟩
theorem putErr_ok (l : List UInt8) (h : ∀ k (hk : k < l.length), plainB l[k].toNat = true) : putErr l = if 256 < l.length then 5 else 0 := by
  unfold putErr
  rw [if_neg]
  simp only [Bool.not_eq_false, List.all_eq_true]
  intro c hc
  obtain ⟨k, hk, rfl⟩ := List.getElem_of_mem hc
  exact h k hk
/-- the line laid: with its end, or nothing. -/
def putLine (s : ByteArray) : ByteArray := if putErr s.data.toList = 0 then s ++ ⟨#[13, 10]⟩ else ⟨#[]⟩
theorem put_fail (s : ByteArray) (E : Nat) (h0 : E ≠ 0) (h : putErr s.data.toList = E) : Value.tuple #[.string ⟨#[]⟩, .int .i64 E] = Value.tuple #[.string (putLine s), .int .i64 (putErr s.data.toList)] := by
  unfold putLine; rw [h, if_neg h0]
theorem put_ok (s : ByteArray) (h : putErr s.data.toList = 0) : Value.tuple #[.string (s ++ ⟨#[13, 10]⟩), .int .i64 0] = Value.tuple #[.string (putLine s), .int .i64 (putErr s.data.toList)] := by
  unfold putLine; rw [h, if_pos rfl]; rfl
theorem plain_all_step (s : ByteArray) (k : Nat) (h : ∀ j, j < k → ∀ hj : j < s.size, plainB (s[j]'hj).toNat = true) (hk : k < s.size) (hp : plainB s[k].toNat = true) : ∀ j, j < k + 1 → ∀ hj : j < s.size, plainB (s[j]'hj).toNat = true := by
  intro j hj hjs
  by_cases e : j = k
  · subst e; exact hp
  · exact h j (by omega) hjs

set_option maxRecDepth 100000 in
set_option maxHeartbeats 2000000 in
theorem lines_put (s : ByteArray) (w : World) (hs : s.size ≤ 9223372036854775807) :
    Calls Tryz.prog 61 #[.string s] w fun e w' => e = .returned (.tuple #[.string (putLine s), .int .i64 (putErr s.data.toList)]) ∧ w' = w := by
  go_enter Tryz.func61, Tryz.ntmps61
  go_wp2_with fail
  go_loop [7] (fun j => ∃ k : Nat, k ≤ s.size ∧ j = .int .i64 k ∧ ∀ j, j < k → ∀ hj : j < s.size, plainB (s[j]'hj).toNat = true) (fun j => s.size - (intOf j).toNat)
  case atStart => exact ⟨0, by omega, rfl, fun j hj => by omega⟩
  case round =>
    obtain ⟨k, hk, rfl, hall⟩ := hrel
    have Hall := Lib.hid hall
    clear hall
    by_cases hlt : k < s.size
    · have hcb : s[k].toNat < 256 := s[k].toNat_lt
      by_cases hpl : plainB s[k].toNat = false
      · have H := Lib.hid (putErr_4 s.data.toList k s[k] (by rw [List.getElem?_eq_getElem (by simpa using hlt)]; rfl) hpl)
        go_wp2_with (go_at_call 91; refine (lines_plain _ _ hcb).mono ?_; rintro e w' ⟨rfl, rfl⟩)
        go_ret2
        exact ⟨congrArg Ending.returned (put_fail s 4 (by decide) H.out), rfl⟩
      · have hpl' : plainB s[k].toNat = true := by simpa using hpl
        clear hpl
        have H := Lib.hid (plain_all_step s k Hall.out hlt hpl')
        go_wp2_with (go_at_call 91; refine (lines_plain _ _ hcb).mono ?_; rintro e w' ⟨rfl, rfl⟩)
        go_round
        case rel => exact ⟨k + 1, by omega, by go_num, H.out⟩
        case measure => simp [intOf]; omega
    · have h := putErr_ok s.data.toList (fun j hj => Hall.out j (by simp at hj; omega) (by simpa using hj))
      have hsz : s.data.toList.length = s.size := by simp
      by_cases h256 : 256 < s.size
      · rw [hsz, if_pos h256] at h
        have H := Lib.hid h
        clear h hsz
        go_wp2_with fail
        go_ret2
        exact ⟨congrArg Ending.returned (put_fail s 5 (by decide) H.out), rfl⟩
      · rw [hsz, if_neg h256] at h
        have H := Lib.hid h
        clear h hsz
        go_wp2_with fail
        go_ret2
        exact ⟨congrArg Ending.returned (put_ok s H.out), rfl⟩

end Go.Proofs.YtbdmmgmcbecolaaGreatDoor
namespace Go.Proofs.YtbdmmgmcbecolaaGreatDoor
open Go.RowKit
theorem o_disable (w : World) : (callFunc 256 #[]).run Tryz.prog w = .ok (.value (.tuple #[])) w := run_call_mark0 Tryz.func256 (by kernel_rfl) (by kernel_rfl) (by kernel_rfl) .disable (by kernel_rfl) w
theorem o_enable (w : World) : (callFunc 258 #[]).run Tryz.prog w = .ok (.value (.tuple #[])) w := run_call_mark0 Tryz.func258 (by kernel_rfl) (by kernel_rfl) (by kernel_rfl) .enable (by kernel_rfl) w
theorem o_acquire (a : Addr) (w : World) : (callFunc 259 #[.pointer (some a)]).run Tryz.prog w = .ok (.value (.tuple #[])) w := run_call_marked Tryz.func259 (by kernel_rfl) (by kernel_rfl) (by kernel_rfl) .acquire (by kernel_rfl) a w
theorem o_release (a : Addr) (w : World) : (callFunc 261 #[.pointer (some a)]).run Tryz.prog w = .ok (.value (.tuple #[])) w := run_call_marked Tryz.func261 (by kernel_rfl) (by kernel_rfl) (by kernel_rfl) .releaseMerge (by kernel_rfl) a w
set_option maxRecDepth 100000 in
set_option maxHeartbeats 1600000 in
/-- '(*sync/atomic.Bool).Store(true)', entered as a deferred call -/
theorem o_store (a : Addr) (x : Value) (u : FrameMode) (w : World) (hc : w.cell? a = some x) (hz : w.frozen? a = false) :
    CallsD Tryz.prog 243 #[.pointer (some a), .bool true] u w fun e u' w' => u' = u ∧ (e = .returned (.tuple #[]) ∧ w' = w.drew.setCell a (.int .u32 1)) := by
  have hc' : w.drew.cell? a = some x := by go_simp
  have hz' : w.drew.frozen? a = false := by go_simp
  have hst := run_call_store (P := Tryz.prog) Tryz.func252 (by kernel_rfl) (by kernel_rfl) (by kernel_rfl) (by kernel_rfl) (k := .u32) (y := 1) hc' hz'
  go_enter_d Tryz.func243, Tryz.ntmps243
  go_wp2
  go_region_calls
  all_goals (go_end0; exact ⟨rfl, rfl⟩)
set_option maxRecDepth 100000 in
set_option maxHeartbeats 1600000 in
/-- '(*sync.Mutex).Unlock', entered as a deferred call, the lock held and nobody waiting (state 1): state 0 -/
theorem o_unlock (a : Addr) (u : FrameMode) (w : World) (hc : w.cell? a = some (.int .i32 1)) (hz : w.frozen? a = false) :
    CallsD Tryz.prog 242 #[.pointer (some a)] u w fun e u' w' => u' = u ∧ (e = .returned (.tuple #[]) ∧ w' = w.setCell a (.int .i32 0)) := by
  have hd := o_disable
  have he := o_enable
  have hr := o_release
  have hadd := run_call_add (P := Tryz.prog) Tryz.func262 (by kernel_rfl) (by kernel_rfl) (by kernel_rfl) .i32 (by kernel_rfl) (y := -1) (s := 0) hc hz (by simp [go_sem]; rfl)
  have hcv := run_convert_to_unsafe (P := Tryz.prog) (src := 375) (dst := 119) Tryz.underlying375 Tryz.underlying119 (by kernel_rfl) hc
  go_enter_d Tryz.func242, Tryz.ntmps242
  go_wp2
  go_end0
  go_wp2
  go_end0
  exact ⟨rfl, rfl⟩
set_option maxRecDepth 100000 in
set_option maxHeartbeats 1600000 in
/-- '(*sync.Mutex).Lock', the lock free (state 0): state 1 -/
theorem o_lock (a : Addr) (w : World) (hc : w.cell? a = some (.int .i32 0)) (hz : w.frozen? a = false) :
    Calls Tryz.prog 241 #[.pointer (some a)] w fun e w' => e = .returned (.tuple #[]) ∧ w' = w.setCell a (.int .i32 1) := by
  have hd := o_disable
  have he := o_enable
  have ha := o_acquire
  have hcas := run_call_cas_hit (P := Tryz.prog) Tryz.func257 (by kernel_rfl) (by kernel_rfl) (by kernel_rfl) .i32 (by kernel_rfl) (y := 1) hc hz
  have hc' : (w.setCell a (.int .i32 1)).cell? a = some (.int .i32 1) := World.cell?_setCell_same w a _ hc
  have hcv := run_convert_to_unsafe (P := Tryz.prog) (src := 375) (dst := 119) Tryz.underlying375 Tryz.underlying119 (by kernel_rfl) hc'
  go_enter Tryz.func241, Tryz.ntmps241
  go_wp2
  first | go_end0 | (simp only [Exit.inBlock, Exit.then]; refine bodyPost_ret (results_none rfl _ _ _) rfl ?_) | refine bodyPost_ret (results_none rfl _ _ _) rfl ?_
  go_wp2
  go_end0
  exact ⟨rfl, rfl⟩
/-- '(*sync/atomic.Bool).Load' -/
theorem o_load (a : Addr) (x : Int) (w : World) (hc : w.cell? a = some (.int .u32 x)) :
    Calls Tryz.prog 225 #[.pointer (some a)] w fun e w' => e = .returned (.bool (x != 0)) ∧ w' = w := by
  have hl := run_call_load (P := Tryz.prog) Tryz.func240 (by kernel_rfl) (by kernel_rfl) (by kernel_rfl) .u32 (by kernel_rfl) hc
  go_enter Tryz.func225, Tryz.ntmps225
  go_wp2
  go_ret
  exact ⟨rfl, rfl⟩
/-- the cells of a strings.Replacer -/
def rcF (d st : Int) (r o : Value) : Nat → Value := fun i => if i = 0 then .int .u32 d else if i = 1 then .int .i32 st else if i = 2 then .int .u32 0 else if i = 3 then r else o
def Rp (w : World) (b : Nat) (d st : Int) (r o : Value) : Prop := w.rowIs b 313 5 (rcF d st r o)
theorem Rp.cells {w : World} {b : Nat} {d st : Int} {r o : Value} (h : Rp w b d st r o) : w.cell? ⟨b, 0, none⟩ = some (.int .u32 d) ∧ w.cell? ⟨b, 1, none⟩ = some (.int .i32 st) ∧ w.cell? ⟨b, 3, none⟩ = some r ∧ w.cell? ⟨b, 4, none⟩ = some o :=
  ⟨h.cell (i := 0) (by decide), h.cell (i := 1) (by decide), h.cell (i := 3) (by decide), h.cell (i := 4) (by decide)⟩
theorem Rp.lt {w : World} {b : Nat} {d st : Int} {r o : Value} (h : Rp w b d st r o) : b < w.heap.size := World.rowIs.lt h
theorem Rp.ice {w : World} {b : Nat} {d st : Int} {r o : Value} (h : Rp w b d st r o) (i : Nat) : w.frozen? ⟨b, i, none⟩ = false := World.rowIs.frozen h i
theorem rc_cases {P : Nat → Prop} (h0 : P 0) (h1 : P 1) (h2 : P 2) (h3 : P 3) (h4 : P 4) : ∀ i, i < 5 → P i := by
  intro i hi
  match i, hi with
  | 0, _ => exact h0
  | 1, _ => exact h1
  | 2, _ => exact h2
  | 3, _ => exact h3
  | 4, _ => exact h4
theorem Rp.done {w : World} {b : Nat} {d st : Int} {r o : Value} (h : Rp w b d st r o) (x : Int) : Rp (w.setCell ⟨b, 0, none⟩ (.int .u32 x)) b x st r o :=
  World.rowIs.congr (World.rowIs.set h 0 _) (rc_cases rfl rfl rfl rfl rfl)
theorem Rp.state {w : World} {b : Nat} {d st : Int} {r o : Value} (h : Rp w b d st r o) (x : Int) : Rp (w.setCell ⟨b, 1, none⟩ (.int .i32 x)) b d x r o :=
  World.rowIs.congr (World.rowIs.set h 1 _) (rc_cases rfl rfl rfl rfl rfl)
theorem Rp.with {w : World} {b : Nat} {d st : Int} {r o : Value} (h : Rp w b d st r o) (x : Value) : Rp (w.setCell ⟨b, 3, none⟩ x) b d st x o :=
  World.rowIs.congr (World.rowIs.set h 3 _) (rc_cases rfl rfl rfl rfl rfl)
theorem Rp.olds {w : World} {b : Nat} {d st : Int} {r o : Value} (h : Rp w b d st r o) (x : Value) : Rp (w.setCell ⟨b, 4, none⟩ x) b d st r x :=
  World.rowIs.congr (World.rowIs.set h 4 _) (rc_cases rfl rfl rfl rfl rfl)
end Go.Proofs.YtbdmmgmcbecolaaGreatDoor
namespace Go.Proofs.YtbdmmgmcbecolaaGreatDoor
open Go.RowKit

/-- a text of a list of bytes -/
def bs (l : List UInt8) : ByteArray := ⟨l.toArray⟩
theorem bs_data (l : List UInt8) : (bs l).data.toList = l := by simp [bs]
theorem bs_size (l : List UInt8) : (bs l).size = l.length := by simp [bs, ByteArray.size]
theorem bs_self (s : ByteArray) : bs s.data.toList = s := by cases s; simp [bs]
theorem size_len (s : ByteArray) : s.data.toList.length = s.size := by simp

/-- the values of some texts -/
def strs (xs : List (List UInt8)) : List Value := xs.map fun l => .string (bs l)
theorem strs_length (xs : List (List UInt8)) : (strs xs).length = xs.length := by simp [strs]
theorem strs_get (xs : List (List UInt8)) (j : Nat) (hj : j < xs.length) : (strs xs)[j]? = some (.string (bs xs[j])) := by
  unfold strs; rw [List.getElem?_map, List.getElem?_eq_getElem hj]; rfl
theorem strs_append (xs ys : List (List UInt8)) : strs (xs ++ ys) = strs xs ++ strs ys := by simp [strs]
theorem strs_one (l : List UInt8) : strs [l] = [.string (bs l)] := rfl

/-- the slice v reads, in the world w, as the texts xs. -/
def HoldsS (w : World) (v : Value) (xs : List (List UInt8)) : Prop :=
  ∃ a c, v = .slice a xs.length c ∧ xs.length ≤ c ∧ (xs ≠ [] → ∃ b o, a = some ⟨b, o, none⟩ ∧ b < w.heap.size ∧ ∀ j (hj : j < xs.length), w.cell? ⟨b, o + j, none⟩ = some (.string (bs xs[j])))

theorem HoldsS.below {w w' : World} {v : Value} {xs : List (List UInt8)} (h : HoldsS w v xs) (hb : Below w.heap.size w w') : HoldsS w' v xs := by
  obtain ⟨a, c, hv, hc, hx⟩ := h
  refine ⟨a, c, hv, hc, fun hne => ?_⟩
  obtain ⟨b, o, ha, hlt, hcell⟩ := hx hne
  exact ⟨b, o, ha, Nat.lt_of_lt_of_le hlt hb.size, fun j hj => (hb.cell (p := ⟨b, o + j, none⟩) hlt).trans (hcell j hj)⟩

theorem HoldsS.empty (w : World) (a : Option Addr) (c : Nat) : HoldsS w (.slice a 0 c) [] := ⟨a, c, rfl, Nat.zero_le _, fun h => absurd rfl h⟩

theorem HoldsS.of_own {w : World} {base n : Nat} {e : TypeId} {v : Value} {xs : List (List UInt8)} (h : w.ownsRow base e 1 v n (strs xs)) : HoldsS w v xs := by
  have hn : xs.length = n := by have := h.1; rw [strs_length, Nat.mul_one] at this; exact this
  subst hn
  rcases h.2 with ⟨rfl, h0⟩ | ⟨g, cap, cur, rfl, hb, hg, hle, hm, hs, ht⟩
  · have : xs = [] := List.eq_nil_of_length_eq_zero h0
    subst this
    exact HoldsS.empty w none 0
  · refine ⟨_, cap, rfl, hle, fun _ => ⟨g, 0, rfl, (Array.getElem?_eq_some_iff.1 hg).1, fun j hj => ?_⟩⟩
    have := h.cells (g := g) rfl j _ (strs_get xs j hj)
    have e0 : (⟨g, 0, none⟩ : Addr).add j = ⟨g, 0 + j, none⟩ := by unfold Addr.add; split <;> simp_all
    rwa [e0] at this

theorem HoldsS.of_block {w : World} {b : Nat} {C : Array Value} {t : TypeId} {xs : List (List UInt8)} {n : Nat} (hb : w.heap[b]? = some (.cells C t (0, 0))) (hC : C.toList = strs xs) (hn : n = xs.length) : HoldsS w (.slice (some ⟨b, 0, none⟩) n n) xs := by
  subst hn
  refine ⟨_, _, rfl, Nat.le_refl _, fun _ => ⟨b, 0, rfl, (Array.getElem?_eq_some_iff.1 hb).1, fun j hj => ?_⟩⟩
  rw [cell_of_row w b (0 + j) C t (0, 0) hb]
  rw [← Array.getElem?_toList, hC, Nat.zero_add]
  exact strs_get xs j hj

/-- one block, whole. -/
theorem block_alloc (w : World) (o : Obj) : (w.alloc o).heap[w.heap.size]? = some o := by
  show (w.heap.push o)[w.heap.size]? = _
  simp

theorem bstep {w0 w w' : World} (h : Below w0.heap.size w0 w) (k : Below w.heap.size w w') : Below w0.heap.size w0 w' := h.trans (k.mono h.size)
theorem ret_int {k : IntKind} {a b : Int} (h : a = b) : Ending.returned (.int k a) = .returned (.int k b) := by rw [h]
theorem ret_str {a b : ByteArray} (h : a = b) : Ending.returned (.string a) = .returned (.string b) := by rw [h]

theorem extract_bs (s : ByteArray) (a b : Nat) : s.extract a b = bs ((s.data.toList.take b).drop a) := by
  have h : (s.extract a b).data.toList = (s.data.toList.take b).drop a := by
    rw [Go.Lib.extract_data, List.drop_take]
  rw [← h, bs_self]

theorem info_str : (Tryz.prog.info? 9).map (fun i => (i.zero, i.size, i.bytes)) = some (some (.string ByteArray.empty), 1, 16) := by kernel_rfl

/-- append of one text to a slice of the call's own. -/
theorem append_str {ops : Array Oper} {rest : List Oper} {o : Oper} {a : Act} {Q : Exit → Act → World → Prop} (w0 : World) (hgd : o.guard = none) (s x : Operand)
    (ho : o.op = .call { callee := .builtin .append, args := #[s, x], argTypes := #[131, 131] })
    (base : Nat) (v : Value) (xs : List (List UInt8)) (hs : a.eval s = v) (hown : w0.ownsRow base 9 1 v xs.length (strs xs))
    (b : ByteArray) (l : List UInt8) (hbl : b = bs l) (hx : a.eval x = .slice (some ⟨w0.heap.size, 0, none⟩) 1 1) (hn : xs.length < 2147483648) (hbase : base ≤ w0.heap.size)
    (h : ∀ v' w', w'.ownsRow base 9 1 v' (xs ++ [l]).length (strs (xs ++ [l])) → w0.grownBy w' v.ownBlock → v' ≠ .slice none 0 0 → wpList Tryz.prog ops Q rest (a.put o.dst v') w') :
    wpList Tryz.prog ops Q (o :: rest) a (w0.alloc (.cells #[.string b] 9)) := by
  obtain ⟨i0, hi, hz0, hz1, hz2⟩ := info_parts info_str
  subst hbl
  refine wpList_append_own _ hgd s x 131 ho base 9 i0 _ 1 16 Tryz.underlying131 hi hz0 hz1 hz2 rfl (by decide) v xs.length (strs xs) hs (hown.alloc _) ⟨w0.heap.size, 0, none⟩ 1 1 [.string (bs l)] hx rfl (cell_one_new w0 _ _) (by simp [Value.oneCell']) (by unfold maxLen; omega) (by omega) (by simp; omega) ?_
  intro v' w' h2 h3 h4
  refine h v' w' ?_ ?_ (fun e => by have := (h4.1 e).2; omega)
  · rw [List.length_append, strs_append, strs_one]; exact h2
  · exact ⟨h3.os, h3.tape, h3.output, Nat.le_trans (by simp) h3.size, fun k hk hne => (h3.block k (by simp; omega) hne).trans (heap_alloc_old w0 _ hk)⟩

theorem below_own {B : Nat} {w wr w' : World} {base : Nat} {e : TypeId} {size : Nat} {v : Value} {n : Nat} {xs : List Value} (hb : Below B w wr) (hg : wr.grownBy w' v.ownBlock) (hown : wr.ownsRow base e size v n xs) (hB : B ≤ base) (hB2 : B ≤ wr.heap.size) : Below B w w' :=
  hb.grown hg hB2 fun k hk => Nat.le_trans hB (hown.lt k hk).1

theorem own_alloc (w : World) (xs : List (List UInt8)) (n : Nat) (hn : n = xs.length) (hm : xs.length ≤ maxLen) :
    (w.alloc (.cells (strs xs).toArray 9)).ownsRow w.heap.size 9 1 (.slice (some ⟨w.heap.size, 0, none⟩) n n) xs.length (strs xs) := by
  subst hn
  refine ⟨by rw [strs_length, Nat.mul_one], .inr ⟨w.heap.size, _, _, rfl, Nat.le_refl _, block_alloc w _, Nat.le_refl _, hm, ?_, ?_⟩⟩
  · rw [List.size_toArray, strs_length, Nat.mul_one]
  · rw [Nat.mul_one]; exact List.take_of_length_le (by rw [strs_length]; exact Nat.le_refl _)
theorem below_drewN {B : Nat} {a w : World} (h : Below B a w) (n : Nat) : Below B a (w.drewN n) := ⟨h.os, h.tape, h.output, h.size, h.block⟩
theorem bs_beq (x y : List UInt8) : ((bs x).toList == (bs y).toList) = decide (x = y) := by
  rw [ByteArray.toList_eq, ByteArray.toList_eq, bs_data, bs_data]
  by_cases h : x = y
  · subst h; simp
  · simp [h]

end Go.Proofs.YtbdmmgmcbecolaaGreatDoor
namespace Go.Proofs.YtbdmmgmcbecolaaGreatDoor
open Go.RowKit
def newsV : List Value := [.string ⟨#[13]⟩, .string ⟨#[]⟩, .string ⟨#[10]⟩, .string ⟨#[]⟩]
theorem news_lies (w : World) : ∀ (j : Nat) (u : Value), newsV[j]? = some u → (w.alloc (.cells #[.string ⟨#[13]⟩, .string ⟨#[]⟩, .string ⟨#[10]⟩, .string ⟨#[]⟩] 9)).cell? ((⟨w.heap.size, 0, none⟩ : Addr).add j) = some u := by
  intro j u h
  match j with
  | 0 => rw [← h]; simp [newsV, Addr.add]
  | 1 => rw [← h]; simp [newsV, Addr.add]
  | 2 => rw [← h]; simp [newsV, Addr.add]
  | 3 => rw [← h]; simp [newsV, Addr.add]
  | j + 4 => simp [newsV] at h
theorem row_form {w : World} {base size n : Nat} {e : TypeId} {v : Value} {xs : List Value} (h : w.ownsRow base e size v n xs) (hn : 0 < n) : ∃ g cap, v = .slice (some ⟨g, 0, none⟩) n cap := by
  obtain ⟨-, ⟨h1, h2⟩ | ⟨g, cap, fz, h1, h2⟩⟩ := h
  · omega
  · exact ⟨g, _, h1⟩
set_option maxRecDepth 100000 in
set_option maxHeartbeats 2000000 in
theorem new_replacer (w : World) :
    Calls Tryz.prog 195 #[.slice (some ⟨w.heap.size, 0, none⟩) 4 4] (w.alloc (.cells #[.string ⟨#[13]⟩, .string ⟨#[]⟩, .string ⟨#[10]⟩, .string ⟨#[]⟩] 9)) fun e w' =>
      ∃ b g c, e = .returned (.pointer (some ⟨b, 0, none⟩)) ∧ g < b ∧ w.heap.size ≤ b ∧ Rp w' b 0 0 .nilIface (.slice (some ⟨g, 0, none⟩) 4 c) ∧ w'.ownsRow w.heap.size 9 1 (.slice (some ⟨g, 0, none⟩) 4 c) 4 newsV ∧ Below w.heap.size w w' := by
  have HN := Lib.hid (news_lies w)
  have HB : Hid (Below w.heap.size w (w.alloc (.cells #[.string ⟨#[13]⟩, .string ⟨#[]⟩, .string ⟨#[10]⟩, .string ⟨#[]⟩] 9))) := Lib.hid ((Below.refl _ _).alloc (Nat.le_refl _) _)
  obtain ⟨i0, hi, hz0, hz1, hz2⟩ := info_parts info_str
  have hsz : (w.alloc (.cells #[.string ⟨#[13]⟩, .string ⟨#[]⟩, .string ⟨#[10]⟩, .string ⟨#[]⟩] 9)).heap.size = w.heap.size + 1 := by simp
  go_enter Tryz.func195, Tryz.ntmps195
  generalize w.alloc (.cells #[.string ⟨#[13]⟩, .string ⟨#[]⟩, .string ⟨#[10]⟩, .string ⟨#[]⟩] 9) = W at HN HB hsz ⊢
  go_wp2_with (at_builtin; refine wpList_append_own _ (by rfl) _ _ 131 (by rfl) w.heap.size 9 i0 _ 1 16 Tryz.underlying131 hi hz0 hz1 hz2 rfl (by decide) _ 0 [] (by rfl) (World.ownsRow_nil _ _ _ _) ⟨w.heap.size, 0, none⟩ 4 4 newsV (by rfl) rfl HN.out (by decide) (by decide) (by decide) (by omega) ?_; intro v' w1 hown1 hg1 hne1; obtain ⟨g, c, rfl⟩ := row_form hown1 (by decide); clear hne1)
  go_ret
  have hg : g < w1.heap.size := (hown1.lt g rfl).2
  have hgb : Below W.heap.size W w1 := Below.grown (Below.refl _ _) hg1 (Nat.le_refl _) (fun k hk => by cases hk)
  refine ⟨w1.heap.size, g, c, rfl, hg, Nat.le_trans (by omega) hgb.size, ?_, hown1.alloc _, bstep HB.out (hgb.alloc hgb.size _)⟩
  exact (World.rowIs_alloc w1 #[.int .u32 0, .int .i32 0, .int .u32 0, .nilIface, .slice (some ⟨g, 0, none⟩) 4 c] 313 (rcF 0 0 .nilIface (.slice (some ⟨g, 0, none⟩) 4 c)) (rc_cases rfl rfl rfl rfl rfl))
end Go.Proofs.YtbdmmgmcbecolaaGreatDoor
namespace Go.Proofs.YtbdmmgmcbecolaaGreatDoor
open Go.RowKit
/-- the cells of a strings.byteStringReplacer with no replacement yet -/
def bsC (v : Value) : Array Value := (Array.replicate 256 (.slice none 0 0)).push v
theorem bsC_size (v : Value) : (bsC v).size = 257 := by unfold bsC; simp
theorem bsC_built (a : Option Addr) (n c : Nat) (w : World) : (Instr.build 355 #[(1, .slice a n c)]).run Tryz.prog w = .ok (.agg (bsC (.slice a n c))) w := run_build w _ _ _ (by kernel_rfl)
theorem bsC_info : (Tryz.prog.info? 355).map (fun i => (i.zero, i.size)) = some (some (.agg (bsC (.slice none 0 0))), 257) := by kernel_rfl
def bsF (x y v : Value) : Nat → Value := fun i => if i = 256 then v else if i = 10 then x else if i = 13 then y else .slice none 0 0
def BsR (w : World) (G : Nat) (x y v : Value) : Prop := w.rowIs G 355 257 (bsF x y v)
theorem bsC_get (v : Value) : ∀ i, i < 257 → (bsC v)[i]? = some (bsF (.slice none 0 0) (.slice none 0 0) v i) := by
  intro i hi
  unfold bsC bsF
  rw [Array.getElem?_push]
  by_cases h : i = 256
  · subst h; simp
  · rw [if_neg (by simpa using h), if_neg h, Array.getElem?_replicate, if_pos (by omega)]
    split
    · rfl
    · split <;> rfl
theorem news_cells {w : World} {B g c : Nat} (h : w.ownsRow B 9 1 (.slice (some ⟨g, 0, none⟩) 4 c) 4 newsV) :
    w.cell? ⟨g, 0, none⟩ = some (.string ⟨#[13]⟩) ∧ w.cell? ⟨g, 1, none⟩ = some (.string ⟨#[]⟩) ∧ w.cell? ⟨g, 2, none⟩ = some (.string ⟨#[10]⟩) ∧ w.cell? ⟨g, 3, none⟩ = some (.string ⟨#[]⟩) :=
  ⟨h.cellAt 0 (by decide), h.cellAt 1 (by decide), h.cellAt 2 (by decide), h.cellAt 3 (by decide)⟩
theorem push_set {α : Type} (n : Nat) (x y v : α) : ((Array.replicate n x).push y).toList.set n v = ((Array.replicate n x).push v).toList := by
  rw [Array.toList_push, Array.toList_push, List.set_append_right n v (by simp)]
  simp
theorem push_all {α : Type} (n : Nat) (x v : α) (p : α → Bool) (hx : p x = true) (hv : p v = true) : ((Array.replicate n x).push v).all p = true := by
  rw [← Array.all_toList, Array.toList_push, List.all_append]
  simp [hx, hv]
theorem bsC_set (v : Value) : (bsC (.slice none 0 0)).toList.set 256 v = (bsC v).toList := push_set 256 _ _ v
theorem bsC_store (w : World) (A : Obj) (a : Option Addr) (n c : Nat) : (storeCells ⟨w.heap.size + 1, 0, none⟩ ((bsC (.slice none 0 0)).toList.set 256 (.slice a n c)) 0).run Tryz.prog ((w.alloc A).alloc (.cells (bsC (.slice none 0 0)) 355)) = .ok () ((w.alloc A).alloc (.cells (bsC (.slice a n c)) 355)) := by
  have h := run_storeCells_new (P := Tryz.prog) (w.alloc A) 355 (bsC (.slice none 0 0)) (bsC (.slice a n c)) (by rw [bsC_size]; exact (zero_of_info bsC_info).2) (by rw [bsC_size, bsC_size]) (push_all 256 _ _ _ rfl rfl)
  rw [bsC_set]
  simpa using h
theorem cell_kept {w w' : World} {a : Addr} (h : w'.heap[a.block]? = w.heap[a.block]?) : w'.cell? a = w.cell? a := by unfold World.cell?; rw [h]
theorem str_ten (w : World) : (convert 192 9 (.slice (some ⟨w.heap.size, 0, none⟩) 1 1)).run Tryz.prog (w.alloc (.cells #[.int .u8 10] 5)) = .ok (.string ⟨#[10]⟩) (w.alloc (.cells #[.int .u8 10] 5)) :=
  run_convert_bytes_arg (P := Tryz.prog) (w.alloc (.cells #[.int .u8 10] 5)) 192 5 Tryz.underlying192 Tryz.underlying5 w.heap.size 0 1 1 [10] rfl (fun i hi => by
    obtain rfl : i = 0 := by omega
    simp) 9 Tryz.underlying9
theorem str_thirteen (w : World) : (convert 192 9 (.slice (some ⟨w.heap.size, 0, none⟩) 1 1)).run Tryz.prog (w.alloc (.cells #[.int .u8 13] 5)) = .ok (.string ⟨#[13]⟩) (w.alloc (.cells #[.int .u8 13] 5)) :=
  run_convert_bytes_arg (P := Tryz.prog) (w.alloc (.cells #[.int .u8 13] 5)) 192 5 Tryz.underlying192 Tryz.underlying5 w.heap.size 0 1 1 [13] rfl (fun i hi => by
    obtain rfl : i = 0 := by omega
    simp) 9 Tryz.underlying9
def emptyRow (w : World) : Obj := .cells (bytesRow ⟨#[]⟩ (grownCap w 0 0 5)) 5 ((bytesRow ⟨#[]⟩ (grownCap w 0 0 5)).size, (bytesRow ⟨#[]⟩ (grownCap w 0 0 5)).size + 1)
def emptyCap (w : World) : Nat := grownCap w 0 0 5
theorem bytes_none (w : World) : (convert 9 192 (.string ⟨#[]⟩)).run Tryz.prog w = .ok (.slice (some ⟨w.heap.size, 0, none⟩) 0 (emptyCap w)) (w.drew.alloc (emptyRow w)) :=
  run_bytes_of_string (P := Tryz.prog) w 9 192 5 ⟨#[]⟩ Tryz.underlying9 Tryz.underlying192 Tryz.underlying5
theorem make_two (w : World) : (Instr.makeSlice 131 (.int .i64 0) (.int .i64 2)).run Tryz.prog w = .ok (.slice (some ⟨w.heap.size, 0, none⟩) 0 2) (w.alloc (.cells #[.string ⟨#[]⟩, .string ⟨#[]⟩] 9)) := by
  obtain ⟨i0, hi, hz0, hz1, hz2⟩ := info_parts info_str
  have := run_make (P := Tryz.prog) w 131 9 i0 _ Tryz.underlying131 hi hz0 .i64 .i64 0 2 (by decide) (by decide) (by rw [hz2]; decide) (by decide)
  rw [this, hz1]
  have e : madeCells (Value.string ByteArray.empty).cells (Int.toNat 2 * 1) = #[.string ⟨#[]⟩, .string ⟨#[]⟩] := by kernel_rfl
  rw [e]
  rfl
/-- what build's second loop holds -/
structure RS (w W : World) (g G H : Nat) (x y : Value) (k : Nat) (u v : ByteArray) : Prop where
  reps : BsR W G x y (.slice (some ⟨H, 0, none⟩) k 2)
  olds : W.rowIs H 9 2 (fun i => if i = 0 then .string u else .string v)
  news : W.heap[g]? = w.heap[g]?
  bel : Below w.heap.size w W
  lg : g < w.heap.size
  lG : w.heap.size ≤ G
  lH : w.heap.size ≤ H
  ne : G ≠ H
variable {w W : World} {g G H k : Nat} {x y : Value} {u v : ByteArray}
theorem RS.ltG (h : RS w W g G H x y k u v) : G < W.heap.size := World.rowIs.lt h.reps
theorem RS.ltH (h : RS w W g G H x y k u v) : H < W.heap.size := World.rowIs.lt h.olds
theorem RS.alloc (h : RS w W g G H x y k u v) (A : Obj) : RS w (W.alloc A) g G H x y k u v where
  reps := World.rowIs.alloc h.reps A
  olds := World.rowIs.alloc h.olds A
  news := (heap_alloc_old W A (Nat.lt_of_lt_of_le h.lg h.bel.size)).trans h.news
  bel := h.bel.alloc h.bel.size A
  lg := h.lg
  lG := h.lG
  lH := h.lH
  ne := h.ne
theorem RS.push (h : RS w W g G H x y 0 u v) (s : ByteArray) : RS w ((W.setCell ⟨H, 0, none⟩ (.string s)).setCell ⟨G, 256, none⟩ (.slice (some ⟨H, 0, none⟩) 1 2)) g G H x y 1 s v where
  reps := World.rowIs.congr (World.rowIs.set (World.rowIs.setOther h.reps (a := ⟨H, 0, none⟩) h.ne _) 256 _) (fun i _ => by
    by_cases e : i = 256
    · rw [if_pos e, e]; rfl
    · rw [if_neg e]; unfold bsF; rw [if_neg e, if_neg e])
  olds := World.rowIs.setOther (World.rowIs.congr (World.rowIs.set h.olds 0 _) (fun i _ => by
    by_cases e : i = 0
    · rw [if_pos e, if_pos e]
    · rw [if_neg e, if_neg e, if_neg e])) (a := ⟨G, 256, none⟩) (fun e => h.ne e.symm) _
  news := by
    have := h.lg; have := h.lG; have := h.lH
    rw [Deep.blk_setCell_other _ _ _ _ (show g ≠ G by omega), Deep.blk_setCell_other _ _ _ _ (show g ≠ H by omega)]
    exact h.news
  bel := (h.bel.setCell h.lH _).setCell h.lG _
  lg := h.lg
  lG := h.lG
  lH := h.lH
  ne := h.ne
theorem RS.push2 (h : RS w W g G H x y 1 u v) (s : ByteArray) : RS w ((W.setCell ⟨H, 1, none⟩ (.string s)).setCell ⟨G, 256, none⟩ (.slice (some ⟨H, 0, none⟩) 2 2)) g G H x y 2 u s where
  reps := World.rowIs.congr (World.rowIs.set (World.rowIs.setOther h.reps (a := ⟨H, 1, none⟩) h.ne _) 256 _) (fun i _ => by
    by_cases e : i = 256
    · rw [if_pos e, e]; rfl
    · rw [if_neg e]; unfold bsF; rw [if_neg e, if_neg e])
  olds := World.rowIs.setOther (World.rowIs.congr (World.rowIs.set h.olds 1 _) (fun i hi => by
    by_cases e : i = 1
    · subst e; rfl
    · obtain rfl : i = 0 := by omega
      rfl)) (a := ⟨G, 256, none⟩) (fun e => h.ne e.symm) _
  news := by
    have := h.lg; have := h.lG; have := h.lH
    rw [Deep.blk_setCell_other _ _ _ _ (show g ≠ G by omega), Deep.blk_setCell_other _ _ _ _ (show g ≠ H by omega)]
    exact h.news
  bel := (h.bel.setCell h.lH _).setCell h.lG _
  lg := h.lg
  lG := h.lG
  lH := h.lH
  ne := h.ne
theorem RS.fill (h : RS w W g G H x y k u v) (i : Nat) (hi : i < 256) (z x' y' : Value) (hx : x' = if i = 10 then z else x) (hy : y' = if i = 13 then z else y) (hi2 : i = 10 ∨ i = 13) : RS w (W.setCell ⟨G, i, none⟩ z) g G H x' y' k u v where
  reps := World.rowIs.congr (World.rowIs.set h.reps i _) (fun j _ => by
    subst hx; subst hy
    unfold bsF
    rcases hi2 with rfl | rfl
    · by_cases e : j = 10
      · subst e; rfl
      · simp only [if_neg e]; rfl
    · by_cases e : j = 13
      · subst e; rfl
      · simp only [if_neg e]; rfl)
  olds := World.rowIs.setOther h.olds (a := ⟨G, i, none⟩) (fun e => h.ne e.symm) _
  news := by
    have := h.lg; have := h.lG
    rw [Deep.blk_setCell_other _ _ _ _ (show g ≠ G by omega)]
    exact h.news
  bel := h.bel.setCell h.lG _
  lg := h.lg
  lG := h.lG
  lH := h.lH
  ne := h.ne
theorem RS.conv (h : RS w W g G H x y k u v) : ∃ N C W', (convert 9 192 (.string ⟨#[]⟩)).run Tryz.prog W = .ok (.slice (some N) 0 C) W' ∧ RS w W' g G H x y k u v := by
  refine ⟨_, _, _, bytes_none W, ?_⟩
  have hd : RS w W.drew g G H x y k u v := ⟨World.rowIs.drew h.reps, World.rowIs.drew h.olds, h.news, h.bel.drew, h.lg, h.lG, h.lH, h.ne⟩
  exact hd.alloc _
theorem RS.facts (h : RS w W g G H x y k u v) : W.cell? ⟨G, 10, none⟩ = some x ∧ W.cell? ⟨G, 13, none⟩ = some y ∧ W.cell? ⟨G, 256, none⟩ = some (.slice (some ⟨H, 0, none⟩) k 2) ∧ W.cell? ⟨H, 0, none⟩ = some (.string u) ∧ W.cell? ⟨H, 1, none⟩ = some (.string v) :=
  ⟨World.rowIs.cell h.reps (i := 10) (by decide), World.rowIs.cell h.reps (i := 13) (by decide), World.rowIs.cell h.reps (i := 256) (by decide), World.rowIs.cell h.olds (i := 0) (by decide), World.rowIs.cell h.olds (i := 1) (by decide)⟩
theorem RS.ice (h : RS w W g G H x y k u v) : W.frozen? ⟨G, 10, none⟩ = false ∧ W.frozen? ⟨G, 13, none⟩ = false ∧ W.frozen? ⟨G, 256, none⟩ = false ∧ W.frozen? ⟨H, 0, none⟩ = false ∧ W.frozen? ⟨H, 1, none⟩ = false :=
  ⟨World.rowIs.frozen h.reps 10, World.rowIs.frozen h.reps 13, World.rowIs.frozen h.reps 256, World.rowIs.frozen h.olds 0, World.rowIs.frozen h.olds 1⟩
theorem RS.lies (h : RS w W g G H x y k u v) (c0 : w.cell? ⟨g, 0, none⟩ = some (.string ⟨#[13]⟩) ∧ w.cell? ⟨g, 1, none⟩ = some (.string ⟨#[]⟩) ∧ w.cell? ⟨g, 2, none⟩ = some (.string ⟨#[10]⟩) ∧ w.cell? ⟨g, 3, none⟩ = some (.string ⟨#[]⟩)) :
    W.cell? ⟨g, 0, none⟩ = some (.string ⟨#[13]⟩) ∧ W.cell? ⟨g, 1, none⟩ = some (.string ⟨#[]⟩) ∧ W.cell? ⟨g, 2, none⟩ = some (.string ⟨#[10]⟩) ∧ W.cell? ⟨g, 3, none⟩ = some (.string ⟨#[]⟩) :=
  ⟨(cell_kept h.news).trans c0.1, (cell_kept h.news).trans c0.2.1, (cell_kept h.news).trans c0.2.2.1, (cell_kept h.news).trans c0.2.2.2⟩
theorem RS.apart (h : RS w W g G H x y k u v) : g ≠ H ∧ g ≠ G ∧ g ≠ W.heap.size ∧ H ≠ G ∧ H ≠ W.heap.size ∧ G ≠ W.heap.size ∧ G ≠ H ∧ g < W.heap.size ∧ H < W.heap.size ∧ G < W.heap.size := by
  have h1 := h.lg; have h2 := h.lG; have h3 := h.lH; have h4 := h.ltG; have h5 := h.ltH; have h6 := h.ne
  refine ⟨?_, ?_, ?_, ?_, ?_, ?_, ?_, ?_, ?_, ?_⟩ <;> omega
set_option maxRecDepth 100000 in
set_option maxHeartbeats 4000000 in
theorem repl_build (b g c : Nat) (d st : Int) (r : Value) (w : World) (hR : Rp w b d st r (.slice (some ⟨g, 0, none⟩) 4 c)) (B : Nat) (hO : w.ownsRow B 9 1 (.slice (some ⟨g, 0, none⟩) 4 c) 4 newsV) :
    Calls Tryz.prog 227 #[.pointer (some ⟨b, 0, none⟩)] w fun e w' => ∃ G x cx y cy H c, e = .returned (.iface 356 (.pointer (some ⟨G, 0, none⟩))) ∧ w.heap.size ≤ G ∧ w.heap.size ≤ H ∧
      BsR w' G (.slice (some x) 0 cx) (.slice (some y) 0 cy) (.slice (some ⟨H, 0, none⟩) 2 c) ∧ w'.cell? ⟨H, 0, none⟩ = some (.string ⟨#[10]⟩) ∧ w'.cell? ⟨H, 1, none⟩ = some (.string ⟨#[13]⟩) ∧ Below w.heap.size w w' := by
  obtain ⟨c0, c1, c2, c3⟩ := news_cells hO
  obtain ⟨-, -, -, q4⟩ := hR.cells
  have hbd := bsC_built
  have hmk := make_two
  have hzv := (zero_of_info bsC_info).1
  have hst := bsC_store w
  have HR := Lib.hid hR
  have HO := Lib.hid hO
  clear hR hO
  go_enter Tryz.func227, Tryz.ntmps227
  go_wp2_with fail
  refine wp_loop_rounds 3 ?_
  rw [rounds_succ]
  go_wp2_with fail
  rw [rounds_succ]
  go_wp2_with fail
  rw [rounds_succ]
  go_wp2_with fail
  clear hst hmk hzv hbd
  have hB2 : Below w.heap.size w ((w.alloc (.cells #[.string ⟨#[]⟩, .string ⟨#[]⟩] 9)).alloc (.cells (bsC (.slice (some ⟨w.heap.size, 0, none⟩) 0 2)) 355)) := ((Below.refl _ _).alloc (Nat.le_refl _) _).alloc (by simp) _
  have hG2 : BsR ((w.alloc (.cells #[.string ⟨#[]⟩, .string ⟨#[]⟩] 9)).alloc (.cells (bsC (.slice (some ⟨w.heap.size, 0, none⟩) 0 2)) 355)) (w.heap.size + 1) (.slice none 0 0) (.slice none 0 0) (.slice (some ⟨w.heap.size, 0, none⟩) 0 2) := by
    have := World.rowIs_alloc (w.alloc (.cells #[.string ⟨#[]⟩, .string ⟨#[]⟩] 9)) (bsC (.slice (some ⟨w.heap.size, 0, none⟩) 0 2)) 355 (bsF (.slice none 0 0) (.slice none 0 0) (.slice (some ⟨w.heap.size, 0, none⟩) 0 2)) (by rw [bsC_size]; exact bsC_get _)
    rw [bsC_size] at this
    unfold BsR
    simpa using this
  have hH2 : ((w.alloc (.cells #[.string ⟨#[]⟩, .string ⟨#[]⟩] 9)).alloc (.cells (bsC (.slice (some ⟨w.heap.size, 0, none⟩) 0 2)) 355)).rowIs w.heap.size 9 2 (fun _ => .string ⟨#[]⟩) := (World.rowIs_alloc w #[.string ⟨#[]⟩, .string ⟨#[]⟩] 9 (fun _ => .string ⟨#[]⟩) (fun i hi => by
    match i, hi with
    | 0, _ => rfl
    | 1, _ => rfl)).alloc _
  have hO2 := (HO.out.alloc (.cells #[.string ⟨#[]⟩, .string ⟨#[]⟩] 9)).alloc (.cells (bsC (.slice (some ⟨w.heap.size, 0, none⟩) 0 2)) 355)
  clear c0 c1 c2 c3
  generalize (w.alloc (.cells #[.string ⟨#[]⟩, .string ⟨#[]⟩] 9)).alloc (.cells (bsC (.slice (some ⟨w.heap.size, 0, none⟩) 0 2)) 355) = W at hB2 hG2 hH2 hO2 ⊢
  obtain ⟨c0, c1, c2, c3⟩ := news_cells hO2
  have hgl : g < w.heap.size := (HO.out.lt g rfl).2
  have HC := Lib.hid (news_cells HO.out)
  have HS : Hid (RS w W g (w.heap.size + 1) w.heap.size (.slice none 0 0) (.slice none 0 0) 0 ⟨#[]⟩ ⟨#[]⟩) := Lib.hid ⟨hG2, World.rowIs.congr hH2 (fun i _ => by split <;> rfl), hB2.block g hgl, hB2, hgl, Nat.le_succ _, Nat.le_refl _, by omega⟩
  clear hO2 hB2 HR HO q4 hG2 hH2 hgl c0 c1 c2 c3
  generalize w.heap.size + 1 = G at HS ⊢
  generalize hH : w.heap.size = H at HS ⊢
  have HHH := Lib.hid hH
  clear hH
  have hnil : ∀ (w : World) (a : Option Addr) (l c : Nat), (binOp .eql 192 (.slice a l c) (.slice none 0 0)).run Tryz.prog w = .ok (.bool a.isNone) w := fun w a l c => run_eql_slice_nil w _ _ a l c Tryz.underlying192
  have b10 : ((⟨#[10]⟩ : ByteArray)[0]'(by decide)).toNat = 10 := rfl
  have b13 : ((⟨#[13]⟩ : ByteArray)[0]'(by decide)).toNat = 13 := rfl
  have hc10 := str_ten
  have hc13 := str_thirteen
  obtain ⟨g0, g1, g2, k0, k1⟩ := HS.out.facts
  obtain ⟨z0, z1, z2, y0, y1⟩ := HS.out.ice
  obtain ⟨c0, c1, c2, c3⟩ := HS.out.lies HC.out
  obtain ⟨n1, n2, n3, n4, n5, n6, n7, n8, n9, n10⟩ := HS.out.apart
  refine wp_loop_rounds 3 ?_
  rw [rounds_succ]
  go_wp2_with fail
  have HS1 := Lib.hid (((HS.out.push ⟨#[10]⟩).alloc (.cells #[.int .u8 10] 5)).alloc (.cells #[.string ⟨#[10]⟩] 9))
  clear g0 g1 g2 k0 k1 z0 z1 z2 y0 y1 c0 c1 c2 c3 n1 n2 n3 n4 n5 n6 n7 n8 n9 n10
  generalize (((W.setCell ⟨H, 0, none⟩ (.string ⟨#[10]⟩)).setCell ⟨G, 256, none⟩ (.slice (some ⟨H, 0, none⟩) 1 2)).alloc (.cells #[.int .u8 10] 5)).alloc (.cells #[.string ⟨#[10]⟩] 9) = W1 at HS1 ⊢
  obtain ⟨N1, C1, W2, hb, hS2⟩ := HS1.out.conv
  have HS2 := Lib.hid hS2
  clear hS2 HS HS1
  obtain ⟨g0, g1, g2, k0, k1⟩ := HS2.out.facts
  obtain ⟨z0, z1, z2, y0, y1⟩ := HS2.out.ice
  obtain ⟨n1, n2, n3, n4, n5, n6, n7, n8, n9, n10⟩ := HS2.out.apart
  rw [hb]
  simp only [Result.andThen]
  rw [Oper.upon_value]
  go_wp2_with fail
  have HS3 := Lib.hid (HS2.out.fill 10 (by decide) (.slice (some N1) 0 C1) (.slice (some N1) 0 C1) (.slice none 0 0) rfl rfl (.inl rfl))
  clear g0 g1 g2 k0 k1 z0 z1 z2 y0 y1 n1 n2 n3 n4 n5 n6 n7 n8 n9 n10 hb HS2
  generalize W2.setCell ⟨G, 10, none⟩ (.slice (some N1) 0 C1) = W3 at HS3 ⊢
  obtain ⟨g0, g1, g2, k0, k1⟩ := HS3.out.facts
  obtain ⟨z0, z1, z2, y0, y1⟩ := HS3.out.ice
  obtain ⟨c0, c1, c2, c3⟩ := HS3.out.lies HC.out
  obtain ⟨n1, n2, n3, n4, n5, n6, n7, n8, n9, n10⟩ := HS3.out.apart
  rw [rounds_succ]
  go_wp2_with fail
  have HS4 := Lib.hid (((HS3.out.push2 ⟨#[13]⟩).alloc (.cells #[.int .u8 13] 5)).alloc (.cells #[.string ⟨#[13]⟩] 9))
  clear g0 g1 g2 k0 k1 z0 z1 z2 y0 y1 c0 c1 c2 c3 n1 n2 n3 n4 n5 n6 n7 n8 n9 n10
  generalize (((W3.setCell ⟨H, 1, none⟩ (.string ⟨#[13]⟩)).setCell ⟨G, 256, none⟩ (.slice (some ⟨H, 0, none⟩) 2 2)).alloc (.cells #[.int .u8 13] 5)).alloc (.cells #[.string ⟨#[13]⟩] 9) = W4 at HS4 ⊢
  obtain ⟨N2, C2, W5, hb, hS5⟩ := HS4.out.conv
  have HS5 := Lib.hid hS5
  clear hS5 HS3 HS4
  obtain ⟨g0, g1, g2, k0, k1⟩ := HS5.out.facts
  obtain ⟨z0, z1, z2, y0, y1⟩ := HS5.out.ice
  obtain ⟨n1, n2, n3, n4, n5, n6, n7, n8, n9, n10⟩ := HS5.out.apart
  rw [hb]
  simp only [Result.andThen]
  rw [Oper.upon_value]
  go_wp2_with fail
  have HS6 := Lib.hid (HS5.out.fill 13 (by decide) (.slice (some N2) 0 C2) (.slice (some N1) 0 C1) (.slice (some N2) 0 C2) rfl rfl (.inr rfl))
  clear g0 g1 g2 k0 k1 z0 z1 z2 y0 y1 n1 n2 n3 n4 n5 n6 n7 n8 n9 n10 hb HS5
  rw [rounds_succ]
  go_wp2_with fail
  go_ret
  obtain rfl := HHH.out
  obtain ⟨-, -, -, k0, k1⟩ := HS6.out.facts
  exact ⟨G, N1, C1, N2, C2, _, _, rfl, HS6.out.lG, HS6.out.lH, HS6.out.reps, k0, k1, HS6.out.bel⟩
end Go.Proofs.YtbdmmgmcbecolaaGreatDoor
namespace Go.Proofs.YtbdmmgmcbecolaaGreatDoor
open Go.RowKit
/-- a replacer that stands built: two bytes become nothing -/
def Built (w : World) (b : Nat) (d st : Int) : Prop := ∃ G x cx y cy H c, Rp w b d st (.iface 356 (.pointer (some ⟨G, 0, none⟩))) (.slice none 0 0) ∧ b < G ∧
  BsR w G (.slice (some x) 0 cx) (.slice (some y) 0 cy) (.slice (some ⟨H, 0, none⟩) 2 c) ∧ w.cell? ⟨H, 0, none⟩ = some (.string ⟨#[10]⟩) ∧ w.cell? ⟨H, 1, none⟩ = some (.string ⟨#[13]⟩) ∧ H ≠ b
theorem Built.done {w : World} {b : Nat} {d st : Int} (h : Built w b d st) (z : Int) : Built (w.setCell ⟨b, 0, none⟩ (.int .u32 z)) b z st := by
  obtain ⟨G, x, cx, y, cy, H, c, h1, h2, h3, h4, h5, h6⟩ := h
  exact ⟨G, x, cx, y, cy, H, c, h1.done z, h2, World.rowIs.setOther h3 (a := ⟨b, 0, none⟩) (by simp only; omega) _, by rw [World.cell?_setCell_other _ _ _ _ (by simp [h6])]; exact h4, by rw [World.cell?_setCell_other _ _ _ _ (by simp [h6])]; exact h5, h6⟩
theorem Built.state {w : World} {b : Nat} {d st : Int} (h : Built w b d st) (z : Int) : Built (w.setCell ⟨b, 1, none⟩ (.int .i32 z)) b d z := by
  obtain ⟨G, x, cx, y, cy, H, c, h1, h2, h3, h4, h5, h6⟩ := h
  exact ⟨G, x, cx, y, cy, H, c, h1.state z, h2, World.rowIs.setOther h3 (a := ⟨b, 1, none⟩) (by simp only; omega) _, by rw [World.cell?_setCell_other _ _ _ _ (by simp [h6])]; exact h4, by rw [World.cell?_setCell_other _ _ _ _ (by simp [h6])]; exact h5, h6⟩
theorem Built.drew {w : World} {b : Nat} {d st : Int} (h : Built w b d st) : Built w.drew b d st := by
  obtain ⟨G, x, cx, y, cy, H, c, h1, h2, h3, h4, h5, h6⟩ := h
  exact ⟨G, x, cx, y, cy, H, c, World.rowIs.drew h1, h2, World.rowIs.drew h3, h4, h5, h6⟩
theorem Built.cells {w : World} {b : Nat} {d st : Int} (h : Built w b d st) : w.cell? ⟨b, 0, none⟩ = some (.int .u32 d) ∧ w.cell? ⟨b, 1, none⟩ = some (.int .i32 st) := by
  obtain ⟨G, x, cx, y, cy, H, c, h1, -⟩ := h
  exact ⟨h1.cells.1, h1.cells.2.1⟩
theorem Built.ice {w : World} {b : Nat} {d st : Int} (h : Built w b d st) (i : Nat) : w.frozen? ⟨b, i, none⟩ = false := by
  obtain ⟨G, x, cx, y, cy, H, c, h1, -⟩ := h
  exact h1.ice i
set_option maxRecDepth 100000 in
set_option maxHeartbeats 2000000 in
theorem repl_once (b g c : Nat) (d st : Int) (w : World) (hR : Rp w b d st .nilIface (.slice (some ⟨g, 0, none⟩) 4 c)) (B : Nat) (hO : w.ownsRow B 9 1 (.slice (some ⟨g, 0, none⟩) 4 c) 4 newsV) :
    Calls Tryz.prog 213 #[.pointer (some ⟨b, 0, none⟩)] w fun e w' => e = .returned (.tuple #[]) ∧ Built w' b d st ∧ Below b w w' := by
  have HB := Lib.hid (repl_build b g c d st .nilIface w hR B hO)
  have HR := Lib.hid hR
  have hbl := hR.lt
  clear hR hO
  go_enter Tryz.func213, Tryz.ntmps213
  go_wp2_with (go_at_call 227; refine HB.out.mono ?_; rintro e w1 ⟨G, x, cx, y, cy, H, ch, rfl, hG, hHl, hBs, k0, k1, hb1⟩; have HR1 : Hid (Rp w1 b d st .nilIface (.slice (some ⟨g, 0, none⟩) 4 c)) := Lib.hid (World.rowIs.of_block HR.out (hb1.block b hbl)); obtain ⟨q0, q1, q3, q4⟩ := HR1.out.cells; have z3 := HR1.out.ice 3; have z4 := HR1.out.ice 4; have HBs := Lib.hid hBs; have HK := Lib.hid (And.intro k0 k1); have HB1 := Lib.hid hb1; clear hBs k0 k1 hb1)
  go_end0
  have hw3 : Rp (w1.setCell ⟨b, 3, none⟩ (.iface 356 (.pointer (some ⟨G, 0, none⟩)))) b d st (.iface 356 (.pointer (some ⟨G, 0, none⟩))) (.slice (some ⟨g, 0, none⟩) 4 c) := HR1.out.with _
  have hHb : H ≠ b := by omega
  have hGb : G ≠ b := by omega
  refine ⟨rfl, ⟨G, x, cx, y, cy, H, ch, hw3.olds _, by omega, World.rowIs.setOther (World.rowIs.setOther HBs.out (a := ⟨b, 3, none⟩) hGb _) (a := ⟨b, 4, none⟩) hGb _, ?_, ?_, hHb⟩, ((HB1.out.mono (Nat.le_of_lt hbl)).setCell (Nat.le_refl _) _).setCell (Nat.le_refl _) _⟩
  · rw [World.cell?_setCell_other _ _ _ _ (by simp [hHb]), World.cell?_setCell_other _ _ _ _ (by simp [hHb])]; exact HK.out.1
  · rw [World.cell?_setCell_other _ _ _ _ (by simp [hHb]), World.cell?_setCell_other _ _ _ _ (by simp [hHb])]; exact HK.out.2
theorem Rp.own {w w' : World} {B g c b : Nat} (h : w.ownsRow B 9 1 (.slice (some ⟨g, 0, none⟩) 4 c) 4 newsV) (hb : g < b) (hB : Below b w w') : w'.ownsRow B 9 1 (.slice (some ⟨g, 0, none⟩) 4 c) 4 newsV := by
  obtain ⟨h1, h2 | ⟨g', cap, cur, h2, h3, h4, h5⟩⟩ := h
  · exact absurd h2.2 (by decide)
  · refine ⟨h1, .inr ⟨g', cap, cur, h2, h3, ?_, h5⟩⟩
    obtain rfl : g = g' := by
      simp only [Value.slice.injEq, Option.some.injEq, Addr.mk.injEq] at h2
      exact h2.1.1
    rw [hB.block g hb]; exact h4
set_option maxRecDepth 100000 in
set_option maxHeartbeats 2000000 in
theorem once_slow (b g c : Nat) (w : World) (hR : Rp w b 0 0 .nilIface (.slice (some ⟨g, 0, none⟩) 4 c)) (B : Nat) (hgb : g < b) (hO : w.ownsRow B 9 1 (.slice (some ⟨g, 0, none⟩) 4 c) 4 newsV) :
    Calls Tryz.prog 226 #[.pointer (some ⟨b, 0, none⟩), .func (.func 213) #[.pointer (some ⟨b, 0, none⟩)] #[]] w fun e w' => e = .returned (.tuple #[]) ∧ Built w' b 1 0 ∧ Below b w w' := by
  obtain ⟨h0, h1, -, -⟩ := hR.cells
  have z0 := hR.ice 0
  have z1 := hR.ice 1
  have hR1 : Rp (w.setCell ⟨b, 1, none⟩ (.int .i32 1)) b 0 1 .nilIface (.slice (some ⟨g, 0, none⟩) 4 c) := hR.state 1
  have hB1 : Below b w (w.setCell ⟨b, 1, none⟩ (.int .i32 1)) := Below.setCell (Below.refl b w) (p := ⟨b, 1, none⟩) (Nat.le_refl b) _
  have HC := Lib.hid (repl_once b g c 0 1 _ hR1 B (Rp.own hO hgb hB1))
  have HL := Lib.hid (o_load ⟨b, 0, none⟩ 0 (w.setCell ⟨b, 1, none⟩ (.int .i32 1)) ((World.cell?_setCell_other _ ⟨b, 1, none⟩ ⟨b, 0, none⟩ _ (by simp)).trans h0))
  have hnot : ∀ (x : Bool) (w : World), (Op.unary .not (.bool x)).run Tryz.prog w = .ok (.bool (!x)) w := fun _ _ => rfl
  have HB1 := Lib.hid hB1
  clear hR hR1 hB1 hO
  go_enter_defers Tryz.func226, Tryz.ntmps226
  go_wp2_with (first
    | (go_at_call 241; refine (o_lock ⟨b, 1, none⟩ _ (by go_simp) (by go_simp)).mono ?_; rintro e w' ⟨rfl, rfl⟩)
    | (go_at_call 225; refine HL.out.mono ?_; rintro e w' ⟨rfl, rfl⟩)
    | (go_at_call 213; refine HC.out.mono ?_; rintro e w1 ⟨rfl, hb1, hw1⟩; have HBT := Lib.hid hb1; have HBW := Lib.hid hw1; clear hb1 hw1))
  unfold bodyPostD
  refine leaves_cons (f := 243) (args := #[.pointer (some ⟨b, 0, none⟩), .bool true]) (by simp) (by simp [go_sem]) ?_
  refine (o_store ⟨b, 0, none⟩ (.int .u32 0) .returning _ HBT.out.cells.1 (HBT.out.ice 0)).mono ?_
  rintro e u' w'' ⟨rfl, rfl, rfl⟩
  have hT2 := HBT.out.drew.done 1
  refine leaves_cons (f := 242) (args := #[.pointer (some ⟨b, 1, none⟩)]) (by simp [settle]) (by simp [go_sem]) ?_
  refine (o_unlock ⟨b, 1, none⟩ _ _ hT2.cells.2 (hT2.ice 1)).mono ?_
  rintro e u' w'' ⟨rfl, rfl, rfl⟩
  have hT3 := hT2.state 0
  have hB3 : Below b w (((w1.drew).setCell ⟨b, 0, none⟩ (.int .u32 1)).setCell ⟨b, 1, none⟩ (.int .i32 0)) := Below.setCell (Below.setCell ((HB1.out.trans HBW.out).drew) (p := ⟨b, 0, none⟩) (Nat.le_refl b) _) (p := ⟨b, 1, none⟩) (Nat.le_refl b) _
  simp [Leaves, settle, results, Tryz.results226]
  exact ⟨hT3, hB3⟩
set_option maxRecDepth 100000 in
set_option maxHeartbeats 2000000 in
theorem once_do (b g c : Nat) (w : World) (hR : Rp w b 0 0 .nilIface (.slice (some ⟨g, 0, none⟩) 4 c)) (B : Nat) (hgb : g < b) (hO : w.ownsRow B 9 1 (.slice (some ⟨g, 0, none⟩) 4 c) 4 newsV) :
    Calls Tryz.prog 212 #[.pointer (some ⟨b, 0, none⟩), .func (.func 213) #[.pointer (some ⟨b, 0, none⟩)] #[]] w fun e w' => e = .returned (.tuple #[]) ∧ Built w' b 1 0 ∧ Below b w w' := by
  have HL := Lib.hid (o_load ⟨b, 0, none⟩ 0 w hR.cells.1)
  have HS := Lib.hid (once_slow b g c w hR B hgb hO)
  have hnot : ∀ (x : Bool) (w : World), (Op.unary .not (.bool x)).run Tryz.prog w = .ok (.bool (!x)) w := fun _ _ => rfl
  clear hR hO
  go_enter Tryz.func212, Tryz.ntmps212
  go_wp2_with (first
    | (go_at_call 225; refine HL.out.mono ?_; rintro e w' ⟨rfl, rfl⟩)
    | (go_at_call 226; refine HS.out.mono ?_; rintro e w1 ⟨rfl, hb1, hw1⟩; have HBT := Lib.hid hb1; have HBW := Lib.hid hw1; clear hb1 hw1))
  go_end0
  exact ⟨rfl, HBT.out, HBW.out⟩
end Go.Proofs.YtbdmmgmcbecolaaGreatDoor
namespace Go.Proofs.YtbdmmgmcbecolaaGreatDoor

def words : List UInt8 → List (List UInt8)
  | [] => [[]]
  | c :: r => if c = 32 then [] :: words r else match words r with
    | w :: ws => (c :: w) :: ws
    | [] => [[c]]

theorem words_ne (l : List UInt8) : words l ≠ [] := by
  cases l with
  | nil => simp [words]
  | cons c r =>
    unfold words
    split
    · simp
    · split <;> simp

/-- bytes put ahead of the first word -/
def addPre (p : List UInt8) : List (List UInt8) → List (List UInt8)
  | [] => [p]
  | w :: t => (p ++ w) :: t

theorem addPre_nil (l : List UInt8) : addPre [] (words l) = words l := by
  cases h : words l with
  | nil => exact absurd h (words_ne l)
  | cons w t => rfl

theorem addPre_blank (p r : List UInt8) : addPre p (words (32 :: r)) = p :: words r := by
  rw [words, if_pos rfl]; simp [addPre]

theorem addPre_other (p r : List UInt8) (c : UInt8) (hc : c ≠ 32) : addPre p (words (c :: r)) = addPre (p ++ [c]) (words r) := by
  rw [words, if_neg hc]
  cases h : words r with
  | nil => exact absurd h (words_ne r)
  | cons w t => simp [addPre]

open Go.Lib in
theorem index_cons (c : UInt8) (r : List UInt8) : index (c :: r) [32] = if c = 32 then 0 else if index r [32] == -1 then -1 else index r [32] + 1 := by
  by_cases h : c = 32
  · subst h
    unfold index
    simp
  · rw [if_neg h]
    have h0 : [(32 : UInt8)].isPrefixOf (c :: r) = false := by simp [List.isPrefixOf]; exact fun e => h e.symm
    rw [index.eq_def]
    simp only [h0]
    rfl

open Go.Lib in
theorem split_words (l : List UInt8) : split l [32] = words l := by
  induction l with
  | nil => rfl
  | cons c r ih =>
    by_cases hc : c = 32
    · have hi : index (c :: r) [32] = (0 : Nat) := by rw [index_cons, if_pos hc]; rfl
      unfold split
      rw [count_hit (by simp) hi, Nat.add_comm, splitK, if_neg (by rw [hi]; decide), hi, words, if_pos hc, ← ih]
      rfl
    · rw [words, if_neg hc]
      rcases index_spec r [32] with ⟨hm, _⟩ | ⟨i, hi, _⟩
      · have h1 : index (c :: r) [32] = -1 := by rw [index_cons, if_neg hc, hm]; rfl
        have e1 : split (c :: r) [32] = [c :: r] := by unfold split; rw [count_miss h1]; rfl
        have e2 : split r [32] = [r] := by unfold split; rw [count_miss hm]; rfl
        rw [e1, ← ih, e2]
      · have h1 : index (c :: r) [32] = ((i + 1 : Nat) : Int) := by
          rw [index_cons, if_neg hc, hi, if_neg (by simp <;> omega)]; rfl
        have e1 : split (c :: r) [32] = (c :: r.take i) :: splitK [32] 0 (count (r.drop (i + 1)) [32]) (r.drop (i + 1)) := by
          unfold split
          rw [count_hit (by simp) h1, Nat.add_comm, splitK, if_neg (by rw [h1]; simp <;> omega), h1]
          rfl
        have e2 : split r [32] = (r.take i) :: splitK [32] 0 (count (r.drop (i + 1)) [32]) (r.drop (i + 1)) := by
          unfold split
          rw [count_hit (by simp) hi, Nat.add_comm, splitK, if_neg (by rw [hi]; simp <;> omega), hi]
          rfl
        rw [e1, ← ih, e2]

open Go.Lib in
/-- what strings.Split lays, cut at a blank. -/
theorem splitB_words (s : ByteArray) : (splitB ⟨#[32]⟩ 0 (countB s ⟨#[32]⟩) s).map Value.string = strs (words s.data.toList) := by
  have h := splitB_data ⟨#[32]⟩ 0 (countB s ⟨#[32]⟩) s
  have h2 : splitK (⟨#[32]⟩ : ByteArray).data.toList 0 (countB s ⟨#[32]⟩) s.data.toList = words s.data.toList := split_words s.data.toList
  rw [h2] at h
  unfold strs
  rw [← h, List.map_map]
  apply List.map_congr_left
  intro x _
  simp only [Function.comp_apply, bs_self]

open Go.Lib in
theorem countB_words (s : ByteArray) : countB s ⟨#[32]⟩ + 1 = (words s.data.toList).length := by
  have h := splitB_words s
  have h2 := congrArg List.length h
  rw [strs_length, List.length_map] at h2
  rw [← h2]
  have h3 := splitB_data ⟨#[32]⟩ 0 (countB s ⟨#[32]⟩) s
  have key : ∀ l : List UInt8, (split l [32]).length = count l [32] + 1 := by
    intro l
    induction l with
    | nil => rfl
    | cons c r ih =>
      rcases index_spec (c :: r) [32] with ⟨hm, _⟩ | ⟨i, hi, _⟩
      · have e1 : split (c :: r) [32] = [c :: r] := by unfold split; rw [count_miss hm]; rfl
        rw [e1, count_miss hm]; rfl
      · by_cases hc : c = 32
        · have hi0 : index (c :: r) [32] = (0 : Nat) := by rw [index_cons, if_pos hc]; rfl
          have e2 : split (c :: r) [32] = [] :: split r [32] := by
            unfold split
            rw [count_hit (by simp) hi0, Nat.add_comm, splitK, if_neg (by rw [hi0]; decide), hi0]; rfl
          rw [e2, count_hit (by simp) hi0, List.length_cons, ih]
          show _ = 1 + count r [32] + 1
          omega
        · rcases index_spec r [32] with ⟨hm, _⟩ | ⟨j, hj, _⟩
          · have h1 : index (c :: r) [32] = -1 := by rw [index_cons, if_neg hc, hm]; rfl
            rw [h1] at hi; omega
          · have h1 : index (c :: r) [32] = ((j + 1 : Nat) : Int) := by
              rw [index_cons, if_neg hc, hj, if_neg (by simp <;> omega)]; rfl
            have e1 : split (c :: r) [32] = (c :: r.take j) :: splitK [32] 0 (count (r.drop (j + 1)) [32]) (r.drop (j + 1)) := by
              unfold split
              rw [count_hit (by simp) h1, Nat.add_comm, splitK, if_neg (by rw [h1]; simp <;> omega), h1]
              rfl
            have e2 : split r [32] = (r.take j) :: splitK [32] 0 (count (r.drop (j + 1)) [32]) (r.drop (j + 1)) := by
              unfold split
              rw [count_hit (by simp) hj, Nat.add_comm, splitK, if_neg (by rw [hj]; simp <;> omega), hj]
              rfl
            have e3 : count (c :: r) [32] = count r [32] := by
              rw [count_hit (by simp) h1, count_hit (by simp) hj]; rfl
            rw [e1, e3, ← ih, e2]; rfl
  have h4 := key s.data.toList
  have h5 := congrArg List.length h3
  rw [List.length_map] at h5
  rw [h5]
  exact h4.symm
end Go.Proofs.YtbdmmgmcbecolaaGreatDoor
namespace Go.Proofs.YtbdmmgmcbecolaaGreatDoor
open Go.RowKit

theorem words_blank (l : List UInt8) (a i : Nat) (hi : i < l.length) (h : l[i] = 32) (xs : List (List UInt8)) (hw : words l = xs ++ addPre ((l.take i).drop a) (words (l.drop i))) :
    words l = (xs ++ [(l.take i).drop a]) ++ addPre ((l.take (i + 1)).drop (i + 1)) (words (l.drop (i + 1))) := by
  rw [List.drop_eq_getElem_cons hi, h, addPre_blank] at hw
  rw [hw, show (l.take (i + 1)).drop (i + 1) = [] from List.drop_of_length_le (List.length_take_le _ _), addPre_nil]
  simp
theorem words_other (l : List UInt8) (a i : Nat) (ha : a ≤ i) (hi : i < l.length) (h : l[i] ≠ 32) (xs : List (List UInt8)) (hw : words l = xs ++ addPre ((l.take i).drop a) (words (l.drop i))) :
    words l = xs ++ addPre ((l.take (i + 1)).drop a) (words (l.drop (i + 1))) := by
  rw [List.drop_eq_getElem_cons hi, addPre_other _ _ _ h] at hw
  rw [hw, List.take_succ_eq_append_getElem hi, List.drop_append_of_le_length (by simp; omega)]
theorem words_end (l : List UInt8) (a : Nat) (xs : List (List UInt8)) (hw : words l = xs ++ addPre ((l.take l.length).drop a) (words (l.drop l.length))) : words l = xs ++ [l.drop a] := by
  rw [List.drop_length, List.take_length] at hw
  rw [hw]; simp [words, addPre]

set_option maxRecDepth 100000 in
set_option maxHeartbeats 2000000 in
theorem ref_words (s : ByteArray) (w : World) (hs : s.size < 1073741824) :
    Calls Tryz.prog 166 #[.string s] w fun e w' => ∃ v, e = .returned v ∧ w'.ownsRow w.heap.size 9 1 v (words s.data.toList).length (strs (words s.data.toList)) ∧ Below w.heap.size w w' := by
  obtain ⟨l, hl⟩ : ∃ l, l = s.data.toList := ⟨_, rfl⟩
  have hlen : l.length = s.size := by rw [hl]; simp
  rw [← hl]
  go_enter Tryz.func166, Tryz.ntmps166
  go_wp2_with fail
  go_loopw [3, 4, 5] (fun v f j wr => ∃ (i a : Nat) (xs : List (List UInt8)), a ≤ i ∧ i ≤ s.size ∧ xs.length ≤ i ∧ f = .int .i64 a ∧ j = .int .i64 i ∧ wr.ownsRow w.heap.size 9 1 v xs.length (strs xs) ∧ Below w.heap.size w wr ∧ Hid (words l = xs ++ addPre ((l.take i).drop a) (words (l.drop i)))) (fun _ _ j _ => s.size - (intOf j).toNat)
  case atStart =>
    exact ⟨0, 0, [], by omega, by omega, by simp, rfl, rfl, World.ownsRow_nil _ _ _ _, Below.refl _ _, Lib.hid (by simp [addPre_nil])⟩
  case round =>
    obtain ⟨i, a, xs, ha, hi, hx, rfl, rfl, hown, hb, Hw⟩ := hrel
    by_cases hlt : i < s.size
    · by_cases h32 : s[i] = 32
      · have h32' : s[i].toNat = 32 := by rw [h32]; rfl
        have hli : l[i]'(by omega) = 32 := by subst hl; exact h32
        have H := Lib.hid (words_blank l a i (by omega) hli xs Hw.out)
        have he := extract_bs s a i
        rw [← hl] at he
        have He := Lib.hid he
        clear he hli h32
        go_wp2_with (at_builtin; go_loud (refine append_str wr (by rfl) _ _ (by rfl) w.heap.size _ xs (by rfl) hown (s.extract a i) ((l.take i).drop a) He.out (by rfl) (by omega) hb.size ?_); intro v' w1 hown1 hg1 hne1)
        have hb1 := below_own hb hg1 hown (Nat.le_refl _) hb.size
        go_roundw
        case rel => exact ⟨i + 1, i + 1, xs ++ [(l.take i).drop a], by omega, by omega, by simp; omega, by go_num, by go_num, hown1, hb1, H⟩
        case measure => simp [intOf]; omega
      · have h32' : ((s[i].toNat : Int) == 32) = false := by
          rw [beq_eq_false_iff_ne]; intro h; exact h32 (UInt8.toNat_inj.1 (by show _ = 32; omega))
        have hli : l[i]'(by omega) ≠ 32 := by subst hl; exact h32
        have H := Lib.hid (words_other l a i ha (by omega) hli xs Hw.out)
        clear hli h32
        go_wp2_with fail
        go_roundw
        case rel => exact ⟨i + 1, a, xs, by omega, by omega, by omega, rfl, by go_num, hown, hb, H⟩
        case measure => simp [intOf]; omega
    · obtain rfl : i = s.size := by omega
      have hw2 := Hw.out
      rw [← hlen] at hw2
      have H := Lib.hid (words_end l a xs hw2)
      clear hw2
      have he := extract_bs s a s.size
      rw [← hl, ← hlen, List.take_length, hlen] at he
      have He := Lib.hid he
      clear he
      go_wp2_with (at_builtin; refine append_str wr (by rfl) _ _ (by rfl) w.heap.size _ xs (by rfl) hown (s.extract a s.size) (l.drop a) He.out (by rfl) (by omega) hb.size ?_; intro v' w1 hown1 hg1 hne1)
      have hb1 := below_own hb hg1 hown (Nat.le_refl _) hb.size
      go_ret
      refine ⟨_, rfl, ?_, hb1⟩
      rw [H.out]
      exact hown1
end Go.Proofs.YtbdmmgmcbecolaaGreatDoor
