/- Plain functions for the lines of an HTTP head (no program in sight). What the functions Take and Put of package lines and of its reference return. Lists of texts in memory: what a slice of strings reads as; texts as lists of bytes. Texts as lists of bytes: joined. Plain functions for the fields of a head (no program in sight). -/
import Derived.Deep.Draws
import Derived.Test.YtgnkmfjleecmfaaGreatDoorProg
import Derived.WalkKit
import Derived.Below
import Derived.Deep.RegionHeld3
import Derived.BigRegion
import Derived.BigQuiet
import Derived.Outline
import Derived.Lib.Hide
import Derived.WalkMore
import Derived.Scope
import Derived.ScopeJumps
import Derived.OwnWalk
import Derived.WalkSpells
import Derived.WalkLawsBesides
import Derived.Lib.Split
import Derived.Laws.AppendOwn
import Derived.Maps.AppendAt
import Derived.Lib.TrimUEq
import Derived.Shelf.GgClosure.StringsIndexFunc
set_option linter.unusedVariables false
namespace Go.Proofs.YtgnkmfjleecmfaaGreatDoor

/-- may a byte stand in a line? -/
def plainB (c : Nat) : Bool := c == 9 || (decide (32 ≤ c) && decide (c ≤ 126))

/-- the scan of one line, from what is left of the text; n bytes have been passed: how many bytes the line has, and the error (0, 3, 4, 5). -/
def scan : List UInt8 → Nat → Nat × Nat
  | [], n => (n, 3)
  | c :: r, n => if c = 13 ∧ r = [] then (n, 3) else if c = 13 ∧ r.head? = some 10 then (n, 0)
      else if plainB c.toNat = false then (n, 4) else if n = 256 then (n, 5) else scan r (n + 1)

/-- what taking a line at a place tells: how many bytes the line has and the error; an error at a place beyond the text is 2. -/
def scanAt (l : List UInt8) (i : Nat) (n : Nat) : Nat × Nat := scan (l.drop i) n

theorem scanAt_end (l : List UInt8) (i n : Nat) (h : l.length ≤ i) : scanAt l i n = (n, 3) := by
  unfold scanAt; rw [List.drop_eq_nil_of_le h]; rfl

theorem scanAt_step (l : List UInt8) (i n : Nat) (h : i < l.length) : scanAt l i n =
    if l[i] = 13 ∧ i + 1 = l.length then (n, 3) else if l[i] = 13 ∧ l[i + 1]? = some 10 then (n, 0)
      else if plainB l[i].toNat = false then (n, 4) else if n = 256 then (n, 5) else scanAt l (i + 1) (n + 1) := by
  unfold scanAt
  rw [List.drop_eq_getElem_cons h, scan]
  have e1 : (l.drop (i + 1) = []) ↔ i + 1 = l.length := by rw [List.drop_eq_nil_iff]; omega
  have e2 : (l.drop (i + 1)).head? = l[i + 1]? := by rw [List.head?_drop]
  rw [e2]
  simp only [e1]

theorem scan_n (l : List UInt8) : ∀ n, n ≤ 256 → n ≤ (scan l n).1 ∧ (scan l n).1 ≤ n + l.length ∧ (scan l n).1 ≤ 256 ∧ (scan l n).2 ≤ 5 := by
  induction l with
  | nil => intro n h; simp [scan]; omega
  | cons c r ih =>
    intro n h
    rw [scan]
    split
    · simp; omega
    · split
      · simp; omega
      · split
        · simp; omega
        · split
          · simp; omega
          · have := ih (n + 1) (by omega)
            simp only [List.length_cons]
            omega

theorem scan_zero (l : List UInt8) : ∀ n, (scan l n).2 = 0 → (scan l n).1 + 2 ≤ n + l.length := by
  induction l with
  | nil => intro n h; simp [scan] at h
  | cons c r ih =>
    intro n
    rw [scan]
    split
    · simp
    · split
      · rename_i h
        cases r with
        | nil => simp at h
        | cons d t => simp
      · split
        · simp
        · split
          · simp
          · intro h
            have := ih (n + 1) h
            simp only [List.length_cons]
            omega

def takeErr (s : ByteArray) (at_ : Int) : Nat := if at_ < 0 ∨ (s.size : Int) < at_ then 2 else (scanAt s.data.toList at_.toNat 0).2
def takeLine (s : ByteArray) (at_ : Int) : ByteArray := if takeErr s at_ = 0 then s.extract at_.toNat (at_.toNat + (scanAt s.data.toList at_.toNat 0).1) else ⟨#[]⟩
def takeNext (s : ByteArray) (at_ : Int) : Int := if takeErr s at_ = 0 then at_ + (scanAt s.data.toList at_.toNat 0).1 + 2 else at_

theorem takeErr_out (s : ByteArray) (at_ : Int) (h : at_ < 0 ∨ (s.size : Int) < at_) : takeErr s at_ = 2 := if_pos h
theorem takeErr_in (s : ByteArray) (i : Nat) (h : i ≤ s.size) : takeErr s (i : Int) = (scanAt s.data.toList i 0).2 := by
  unfold takeErr; rw [if_neg (by omega)]; rfl

/-- laying a line: the error (0, 4, 5). -/
def putErr (l : List UInt8) : Nat := if l.all (fun c => plainB c.toNat) = false then 4 else if 256 < l.length then 5 else 0

end Go.Proofs.YtgnkmfjleecmfaaGreatDoor
namespace Go.Proofs.YtgnkmfjleecmfaaGreatDoor
open Go.RowKit

theorem plainB_9 : plainB 9 = true := rfl
theorem plainB_lo (c : Nat) (h : c < 32) (h9 : c ≠ 9) : plainB c = false := by
  unfold plainB; simp; omega
theorem plainB_ge (c : Nat) (h : 32 ≤ c) : plainB c = decide ((c : Int) ≤ 126) := by
  unfold plainB
  have h9 : (c == 9) = false := by simp; omega
  rw [h9, decide_eq_true h, Bool.false_or, Bool.true_and]
  by_cases h2 : c ≤ 126
  · rw [decide_eq_true h2, decide_eq_true (by omega)]
  · rw [decide_eq_false h2, decide_eq_false (by omega)]

theorem ret_bool {a b : Bool} (h : a = b) : Ending.returned (.bool a) = .returned (.bool b) := by rw [h]

theorem lines_plain (c : Nat) (w : World) (h : c < 256) :
    Calls Tryz.prog 100 #[.int .u8 c] w fun e w' => e = .returned (.bool (plainB c)) ∧ w' = w := by
  by_cases h9 : c = 9
  · subst h9
    go_enter Tryz.func100, Tryz.ntmps100
    go_wp2
    go_ret
    exact ⟨ret_bool rfl, rfl⟩
  · have k9 : ((c : Int) == 9) = false := by rw [beq_eq_false_iff_ne]; omega
    by_cases hlo : c < 32
    · have H := Lib.hid (plainB_lo c hlo h9)
      go_enter Tryz.func100, Tryz.ntmps100
      go_wp2
      go_ret
      exact ⟨ret_bool H.out.symm, rfl⟩
    · have H := Lib.hid (plainB_ge c (by omega))
      go_enter Tryz.func100, Tryz.ntmps100
      go_wp2
      go_ret
      exact ⟨ret_bool H.out.symm, rfl⟩

theorem ref_plain (c : Nat) (w : World) (h : c < 256) :
    Calls Tryz.prog 101 #[.int .u8 c] w fun e w' => e = .returned (.bool (plainB c)) ∧ w' = w := by
  by_cases h9 : c = 9
  · subst h9
    go_enter Tryz.func101, Tryz.ntmps101
    go_wp2
    go_ret
    exact ⟨ret_bool rfl, rfl⟩
  · have k9 : ((c : Int) == 9) = false := by rw [beq_eq_false_iff_ne]; omega
    by_cases hlo : c < 32
    · have H := Lib.hid (plainB_lo c hlo h9)
      go_enter Tryz.func101, Tryz.ntmps101
      go_wp2
      go_ret
      exact ⟨ret_bool H.out.symm, rfl⟩
    · have H := Lib.hid (plainB_ge c (by omega))
      go_enter Tryz.func101, Tryz.ntmps101
      go_wp2
      go_ret
      exact ⟨ret_bool H.out.symm, rfl⟩

/-- what holds at each jump of a scope with several labels. -/
def Exit.jumps (J : Nat → Act → World → Prop) (Q : Exit → Act → World → Prop) : Exit → Act → World → Prop
  | .goto l, a, w => J l a w
  | e, a, w => Q e a w
theorem wp_scope_many {P : Program} {a : Act} {w : World} {Q : Exit → Act → World → Prop} {c : Code} (J : Nat → Act → World → Prop) (μ : Nat → Act → World → Nat)
    (pass : ∀ l a w, J l a w → ∃ y, findLabel c l = some (.seq .skip y) ∧ y.wp P (Exit.jumps (fun l' a' w' => J l' a' w' ∧ μ l' a' w' < μ l a w) Q) a w)
    (first : (∀ l a w y, J l a w → findLabel c l = some (.seq .skip y) → y.wp P (Exit.jumps J Q) a w) → c.wp P (Exit.jumps J Q) a w) : (Code.scope c).wp P Q a w := by
  intro b k cs
  have first' := first fun l a w y hJ hf => by
    obtain ⟨y', hf', hp⟩ := pass l a w hJ
    obtain rfl : y' = y := by have := hf'.symm.trans hf; simpa using this
    refine wp_mono hp ?_
    intro e a' w' h
    cases e <;> first | exact h | exact h.1
  have hg : ∀ l rest, findLabel c l = some rest → gotoIn l (.inScope c :: k) = some (.code rest :: .inScope c :: k) := fun l rest hf => by simp [gotoIn, hf]
  have key : ∀ n l a w, μ l a w = n → J l a w → ∀ rest, findLabel c l = some rest → ∃ e a' w', Q e a' w' ∧ Arrives P (lone (b.at a (.code rest :: .inScope c :: k)) cs w) b k cs e a' w' := by
    intro n
    induction n using Nat.strongRecOn with
    | _ n ih =>
      intro l a w hn hJ rest hf
      obtain ⟨y', hf', hp'⟩ := pass l a w hJ
      obtain rfl : (Code.seq .skip y') = rest := Option.some.inj (hf'.symm.trans hf)
      have hp := wp_seq (x := .skip) (y := y') (wp_skip (Q := Exit.then (y'.wp P _) _) hp')
      obtain ⟨e, a₁, w₁, hq, harr⟩ := hp b (.inScope c :: k) cs
      cases e with
      | normal => exact ⟨.normal, a₁, w₁, hq, Steps.trans harr (.one step_inScope)⟩
      | exit id => exact ⟨.exit id, a₁, w₁, hq, fun k' hk => harr k' (by simp [exitTo, hk])⟩
      | goto l' =>
        obtain ⟨hJ', hlt⟩ := hq
        obtain ⟨r2, hf2, _⟩ := pass l' a₁ w₁ hJ'
        obtain ⟨e₂, a₂, w₂, hq₂, harr₂⟩ := ih _ (by omega) l' a₁ w₁ rfl hJ' _ hf2
        exact ⟨e₂, a₂, w₂, hq₂, .of_steps (harr _ (hg l' _ hf2)) harr₂⟩
      | ret => exact ⟨_, a₁, w₁, hq, harr⟩
      | panic ch => exact ⟨_, a₁, w₁, hq, harr⟩
      | outgrown => exact ⟨_, a₁, w₁, hq, harr⟩
  obtain ⟨e, a₁, w₁, hq, harr⟩ := first' b (.inScope c :: k) cs
  cases e with
  | normal => exact ⟨.normal, a₁, w₁, hq, .head step_scope (Steps.trans harr (.one step_inScope))⟩
  | exit id => exact ⟨.exit id, a₁, w₁, hq, fun k' hk => .head step_scope (harr k' (by simp [exitTo, hk]))⟩
  | goto l' =>
    obtain ⟨r2, hf2, _⟩ := pass l' a₁ w₁ hq
    obtain ⟨e₂, a₂, w₂, hq₂, harr₂⟩ := key _ l' a₁ w₁ rfl hq _ hf2
    exact ⟨e₂, a₂, w₂, hq₂, .of_steps (.head step_scope (harr _ (hg l' _ hf2))) harr₂⟩
  | ret => exact ⟨_, a₁, w₁, hq, .of_steps (.one step_scope) harr⟩
  | panic ch => exact ⟨_, a₁, w₁, hq, .of_steps (.one step_scope) harr⟩
  | outgrown => exact ⟨_, a₁, w₁, hq, .of_steps (.one step_scope) harr⟩

theorem ne_u8 (x y : UInt8) (h : x ≠ y) : ((x.toNat : Int) == (y.toNat : Int)) = false := by
  rw [beq_eq_false_iff_ne]; intro h'; exact h (UInt8.toNat_inj.1 (by omega))

theorem take_fail (s : ByteArray) (i E : Nat) (hi : i ≤ s.size) (h0 : E ≠ 0) (h : E = (scanAt s.data.toList i 0).2) :
    Value.tuple #[.string ⟨#[]⟩, .int .i64 i, .int .i64 E] = Value.tuple #[.string (takeLine s i), .int .i64 (takeNext s i), .int .i64 (takeErr s i)] := by
  have e := takeErr_in s i hi
  rw [← h] at e
  unfold takeLine takeNext
  rw [e, if_neg h0, if_neg h0]
theorem take_out (s : ByteArray) (i : Int) (h : i < 0 ∨ (s.size : Int) < i) :
    Value.tuple #[.string ⟨#[]⟩, .int .i64 i, .int .i64 2] = Value.tuple #[.string (takeLine s i), .int .i64 (takeNext s i), .int .i64 (takeErr s i)] := by
  unfold takeLine takeNext
  rw [takeErr_out s i h, if_neg (by decide), if_neg (by decide)]; rfl
theorem take_ok (s : ByteArray) (i k : Nat) (hi : i ≤ s.size) (h : scanAt s.data.toList i 0 = (k, 0)) :
    Value.tuple #[.string (s.extract i (i + k)), .int .i64 (i + k + 2), .int .i64 0] = Value.tuple #[.string (takeLine s i), .int .i64 (takeNext s i), .int .i64 (takeErr s i)] := by
  have e := takeErr_in s i hi
  rw [h] at e
  unfold takeLine takeNext
  rw [e, if_pos rfl, if_pos rfl]
  show _ = Value.tuple #[.string (s.extract i (i + (scanAt s.data.toList i 0).1)), .int .i64 ((i : Int) + (scanAt s.data.toList i 0).1 + 2), .int .i64 ((0 : Nat) : Int)]
  rw [h]; rfl

def takeJ (s : ByteArray) (i : Nat) (w : World) (l : Nat) (a' : Act) (w' : World) : Prop :=
  w' = w ∧ ((l = 1 ∧ ∃ (k : Nat) (u8 u9 u10 u11 u12 u13 u14 u15 u16 u17 u18 u19 u20 u21 u22 u23 u24 u25 u26 u27 u28 u29 u30 u31 u32 u33 u34 u35 u36 u37 u38 u39 u40 u41 u42 u43 u44 u45 u46 u47 u48 u49 u50 u51 u52 u53 u54 u55 u56 u57 u58 u59 u60 u61 u62 u63 u64 : Value), a' = { tmps := #[.string s, .int .i64 i, undef, undef, .string ⟨#[]⟩, .int .i64 0, .int .i64 3, .int .i64 ((i + k : Nat) : Int), u8, u9, u10, u11, u12, u13, u14, u15, u16, u17, u18, u19, u20, u21, u22, u23, u24, u25, u26, u27, u28, u29, u30, u31, u32, u33, u34, u35, u36, u37, u38, u39, u40, u41, u42, u43, u44, u45, u46, u47, u48, u49, u50, u51, u52, u53, u54, u55, u56, u57, u58, u59, u60, u61, u62, u63, u64], defers := [] } ∧ k ≤ 256 ∧ i + k ≤ s.size ∧ scanAt s.data.toList (i + k) k = scanAt s.data.toList i 0) ∨ (l = 0 ∧ ∃ (E : Nat) (u7 u8 u9 u10 u11 u12 u13 u14 u15 u16 u17 u18 u19 u20 u21 u22 u23 u24 u25 u26 u27 u28 u29 u30 u31 u32 u33 u34 u35 u36 u37 u38 u39 u40 u41 u42 u43 u44 u45 u46 u47 u48 u49 u50 u51 u52 u53 u54 u55 u56 u57 u58 u59 u60 u61 u62 u63 u64 : Value), a' = { tmps := #[.string s, .int .i64 i, undef, undef, .string ⟨#[]⟩, .int .i64 0, .int .i64 (E : Int), u7, u8, u9, u10, u11, u12, u13, u14, u15, u16, u17, u18, u19, u20, u21, u22, u23, u24, u25, u26, u27, u28, u29, u30, u31, u32, u33, u34, u35, u36, u37, u38, u39, u40, u41, u42, u43, u44, u45, u46, u47, u48, u49, u50, u51, u52, u53, u54, u55, u56, u57, u58, u59, u60, u61, u62, u63, u64], defers := [] } ∧ E ≠ 0 ∧ E = (scanAt s.data.toList i 0).2))
def takeM (s : ByteArray) (l : Nat) (a' : Act) (_ : World) : Nat := if l = 0 then 0 else 1 + (s.size - (intOf (a'.tmps.getD 7 undef)).toNat)

set_option maxRecDepth 100000 in
set_option maxHeartbeats 2000000 in
theorem lines_take (s : ByteArray) (at_ : Int) (w : World) (hs : s.size ≤ 9223372036854775807) :
    Calls Tryz.prog 58 #[.string s, .int .i64 at_] w fun e w' => e = .returned (.tuple #[.string (takeLine s at_), .int .i64 (takeNext s at_), .int .i64 (takeErr s at_)]) ∧ w' = w := by
  by_cases ho : at_ < 0 ∨ (s.size : Int) < at_
  · have Ho := Lib.hid (take_out s at_ ho)
    rcases ho with ho | ho
    all_goals
      go_enter Tryz.func58, Tryz.ntmps58
      go_wp2_with fail
      go_step3
      go_wp2_with fail
      try rw [Exit.noGoto_ret]
      go_ret3
      exact ⟨congrArg Ending.returned Ho.out, rfl⟩
  · obtain ⟨i, rfl⟩ := Int.eq_ofNat_of_zero_le (show 0 ≤ at_ by omega)
    have hi : i ≤ s.size := by omega
    clear ho
    go_enter Tryz.func58, Tryz.ntmps58
    go_wp2_with fail
    refine wp_scope_many (takeJ s i w) (takeM s) ?_ ?_
    · rintro l a' w' ⟨rfl, ⟨rfl, k, u8, u9, u10, u11, u12, u13, u14, u15, u16, u17, u18, u19, u20, u21, u22, u23, u24, u25, u26, u27, u28, u29, u30, u31, u32, u33, u34, u35, u36, u37, u38, u39, u40, u41, u42, u43, u44, u45, u46, u47, u48, u49, u50, u51, u52, u53, u54, u55, u56, u57, u58, u59, u60, u61, u62, u63, u64, rfl, hk, hik, hsc⟩ | ⟨rfl, E, u7, u8, u9, u10, u11, u12, u13, u14, u15, u16, u17, u18, u19, u20, u21, u22, u23, u24, u25, u26, u27, u28, u29, u30, u31, u32, u33, u34, u35, u36, u37, u38, u39, u40, u41, u42, u43, u44, u45, u46, u47, u48, u49, u50, u51, u52, u53, u54, u55, u56, u57, u58, u59, u60, u61, u62, u63, u64, rfl, hE0, hE⟩⟩
      · refine ⟨_, rfl, ?_⟩
        by_cases hend : i + k = s.size
        · have hE := scanAt_end s.data.toList (i + k) k (by simp; omega)
          have H := Lib.hid (hsc.symm.trans hE)
          clear hE hsc
          have ht : ((i : Int) + (k : Int) == (s.size : Int)) = true := by rw [beq_iff_eq]; omega
          clear hend
          go_wp2_with fail
          go_step3
          refine And.intro (And.intro rfl (.inr (And.intro rfl ?_))) ?_
          · refine ⟨3, ?_⟩
            (repeat apply Exists.intro)
            exact ⟨rfl, by decide, by rw [H.out]⟩
          · simp [takeM]; omega
        · have hlt : i + k < s.size := by omega
          have ht : ((i : Int) + (k : Int) == (s.size : Int)) = false := by rw [beq_eq_false_iff_ne]; omega
          have hstep := scanAt_step s.data.toList (i + k) k (by simpa using hlt)
          have hc : s.data.toList[i + k]'(by simpa using hlt) = s[i + k] := rfl
          rw [hc] at hstep
          clear hc hend
          have hcb : s[i + k].toNat < 256 := s[i + k].toNat_lt
          by_cases h13 : s[i + k] = 13
          · have h13' : s[i + k].toNat = 13 := by rw [h13]; rfl
            by_cases hl2 : i + k + 1 = s.size
            · rw [if_pos ⟨h13, by simpa using hl2⟩] at hstep
              have H := Lib.hid (hsc.symm.trans hstep)
              clear hstep hsc h13
              have ht2 : ((i : Int) + (k : Int) + 1 == (s.size : Int)) = true := by rw [beq_iff_eq]; omega
              clear hl2
              go_wp2_with fail
              go_step3
              refine And.intro (And.intro rfl (.inr (And.intro rfl ?_))) ?_
              · refine ⟨3, ?_⟩
                (repeat apply Exists.intro)
                exact ⟨rfl, by decide, by rw [H.out]⟩
              · simp [takeM]; omega
            · have hl3 : i + k + 1 < s.size := by omega
              have ht2 : ((i : Int) + (k : Int) + 1 == (s.size : Int)) = false := by rw [beq_eq_false_iff_ne]; omega
              rw [if_neg (by simp; omega)] at hstep
              have h10e : s.data.toList[i + k + 1]? = some s[i + k + 1] := by rw [List.getElem?_eq_getElem (by simpa using hl3)]; rfl
              rw [h10e] at hstep
              clear h10e hl2
              by_cases h10 : s[i + k + 1] = 10
              · rw [if_pos ⟨h13, by rw [h10]⟩] at hstep
                have h10' : s[i + k + 1].toNat = 10 := by rw [h10]; rfl
                have H := Lib.hid (hsc.symm.trans hstep)
                clear hstep hsc h13 h10
                go_wp2_with fail
                simp only [Exit.jumps]
                go_ret3
                exact ⟨congrArg Ending.returned (take_ok s i k hi H.out), rfl⟩
              · have h10' : ((s[i + k + 1].toNat : Int) == 10) = false := by
                  exact ne_u8 _ _ h10
                rw [if_neg (by rintro ⟨_, h⟩; exact h10 (by simpa using h)), h13, if_pos (by decide)] at hstep
                have hpl : plainB 13 = false := by decide
                have H := Lib.hid (hsc.symm.trans hstep)
                clear hstep hsc h13 h10
                go_wp2_with (go_at_call 100; refine (lines_plain _ _ (by decide)).mono ?_; rintro e w' ⟨rfl, rfl⟩)
                go_step3
                refine And.intro (And.intro rfl (.inr (And.intro rfl ?_))) ?_
                · refine ⟨4, ?_⟩
                  (repeat apply Exists.intro)
                  exact ⟨rfl, by decide, by rw [H.out]⟩
                · simp [takeM]; omega
          · have h13' : ((s[i + k].toNat : Int) == 13) = false := by
              exact ne_u8 _ _ h13
            rw [if_neg (by simp [h13]), if_neg (by simp [h13])] at hstep
            by_cases hpl : plainB s[i + k].toNat = false
            · rw [if_pos hpl] at hstep
              have H := Lib.hid (hsc.symm.trans hstep)
              clear hstep hsc h13
              go_wp2_with (go_at_call 100; refine (lines_plain _ _ hcb).mono ?_; rintro e w' ⟨rfl, rfl⟩)
              go_step3
              refine And.intro (And.intro rfl (.inr (And.intro rfl ?_))) ?_
              · refine ⟨4, ?_⟩
                (repeat apply Exists.intro)
                exact ⟨rfl, by decide, by rw [H.out]⟩
              · simp [takeM]; omega
            · rw [if_neg hpl] at hstep
              have hpl' : plainB s[i + k].toNat = true := by simpa using hpl
              clear hpl
              by_cases h256 : k = 256
              · rw [if_pos h256] at hstep
                have H := Lib.hid (hsc.symm.trans hstep)
                clear hstep hsc h13
                subst h256
                go_wp2_with (go_at_call 100; refine (lines_plain _ _ hcb).mono ?_; rintro e w' ⟨rfl, rfl⟩)
                go_step3
                refine And.intro (And.intro rfl (.inr (And.intro rfl ?_))) ?_
                · refine ⟨5, ?_⟩
                  (repeat apply Exists.intro)
                  exact ⟨rfl, by decide, by rw [H.out]⟩
                · simp [takeM]; omega
              · rw [if_neg h256] at hstep
                have H := Lib.hid (hstep.symm.trans hsc)
                clear hstep hsc h13
                have hk2 : k < 256 := by omega
                have ht3 : ((k : Int) == 256) = false := by rw [beq_eq_false_iff_ne]; omega
                clear h256
                go_wp2_with (go_at_call 100; refine (lines_plain _ _ hcb).mono ?_; rintro e w' ⟨rfl, rfl⟩)
                go_step3
                refine And.intro (And.intro rfl (.inl (And.intro rfl ?_))) ?_
                · refine ⟨k + 1, ?_⟩
                  (repeat apply Exists.intro)
                  exact ⟨rfl, by omega, by omega, by rw [← Nat.add_assoc]; exact H.out⟩
                · simp [takeM, intOf]; omega
      · refine ⟨_, rfl, ?_⟩
        have He := Lib.hid hE
        clear hE
        go_wp2_with fail
        simp only [Exit.jumps]
        go_ret3
        exact ⟨congrArg Ending.returned (take_fail s i E hi hE0 He.out), rfl⟩
    · intro H
      go_wp2_with fail
      go_step3
      rename_i K hK
      refine hK _ _ (H 1 _ _ _ ?_ rfl)
      refine ⟨rfl, .inl ⟨rfl, 0, ?_⟩⟩
      (repeat apply Exists.intro)
      exact ⟨rfl, by omega, by omega, rfl⟩

set_option maxRecDepth 100000 in
set_option maxHeartbeats 2000000 in
theorem ref_take (s : ByteArray) (at_ : Int) (w : World) (hs : s.size ≤ 9223372036854775807) :
    Calls Tryz.prog 59 #[.string s, .int .i64 at_] w fun e w' => e = .returned (.tuple #[.string (takeLine s at_), .int .i64 (takeNext s at_), .int .i64 (takeErr s at_)]) ∧ w' = w := by
  by_cases ho : at_ < 0 ∨ (s.size : Int) < at_
  · have Ho := Lib.hid (take_out s at_ ho)
    rcases ho with ho | ho
    all_goals
      go_enter Tryz.func59, Tryz.ntmps59
      go_wp2_with fail
      go_ret3
      exact ⟨congrArg Ending.returned Ho.out, rfl⟩
  · obtain ⟨i, rfl⟩ := Int.eq_ofNat_of_zero_le (show 0 ≤ at_ by omega)
    have hi : i ≤ s.size := by omega
    clear ho
    have hd1 : decide (s.size < i) = false := by simp; omega
    have hd2 : decide ((i : Int) < 0) = false := by simp
    go_enter Tryz.func59, Tryz.ntmps59
    go_wp2_with fail
    go_loop [7] (fun j => ∃ k : Nat, k ≤ 256 ∧ i + k ≤ s.size ∧ j = .int .i64 ((i + k : Nat) : Int) ∧ scanAt s.data.toList (i + k) k = scanAt s.data.toList i 0) (fun j => s.size - (intOf j).toNat)
    case atStart => exact ⟨0, by omega, by omega, rfl, rfl⟩
    case round =>
      obtain ⟨k, hk, hik, rfl, hsc⟩ := hrel
      by_cases hend : i + k = s.size
      · have hE := scanAt_end s.data.toList (i + k) k (by simp; omega)
        have H := Lib.hid (hsc.symm.trans hE)
        clear hE hsc
        have ht : s.size ≤ i + k := by omega
        clear hend
        go_wp2_with fail
        go_ret3
        exact ⟨congrArg Ending.returned (take_fail s i 3 hi (by decide) (by rw [H.out])), rfl⟩
      · have hlt : i + k < s.size := by omega
        have hstep := scanAt_step s.data.toList (i + k) k (by simpa using hlt)
        have hc : s.data.toList[i + k]'(by simpa using hlt) = s[i + k] := rfl
        rw [hc] at hstep
        clear hc hend
        have hcb : s[i + k].toNat < 256 := s[i + k].toNat_lt
        by_cases h13 : s[i + k] = 13
        · have h13' : s[i + k].toNat = 13 := by rw [h13]; rfl
          by_cases hl2 : i + k + 1 = s.size
          · rw [if_pos ⟨h13, by simpa using hl2⟩] at hstep
            have H := Lib.hid (hsc.symm.trans hstep)
            clear hstep hsc h13
            have ht2 : ((i : Int) + (k : Int) + 1 == (s.size : Int)) = true := by rw [beq_iff_eq]; omega
            clear hl2
            go_wp2_with fail
            go_ret3
            exact ⟨congrArg Ending.returned (take_fail s i 3 hi (by decide) (by rw [H.out])), rfl⟩
          · have hl3 : i + k + 1 < s.size := by omega
            have ht2 : ((i : Int) + (k : Int) + 1 == (s.size : Int)) = false := by rw [beq_eq_false_iff_ne]; omega
            rw [if_neg (by simp; omega)] at hstep
            have h10e : s.data.toList[i + k + 1]? = some s[i + k + 1] := by rw [List.getElem?_eq_getElem (by simpa using hl3)]; rfl
            rw [h10e] at hstep
            clear h10e hl2
            by_cases h10 : s[i + k + 1] = 10
            · rw [if_pos ⟨h13, by rw [h10]⟩] at hstep
              have h10' : s[i + k + 1].toNat = 10 := by rw [h10]; rfl
              have H := Lib.hid (hsc.symm.trans hstep)
              clear hstep hsc h13 h10
              go_wp2_with fail
              go_ret3
              exact ⟨congrArg Ending.returned (take_ok s i k hi H.out), rfl⟩
            · have h10' : ((s[i + k + 1].toNat : Int) == 10) = false := by
                exact ne_u8 _ _ h10
              rw [if_neg (by rintro ⟨_, h⟩; exact h10 (by simpa using h)), h13, if_pos (by decide)] at hstep
              have hpl : plainB 13 = false := by decide
              have H := Lib.hid (hsc.symm.trans hstep)
              clear hstep hsc h13 h10
              go_wp2_with (go_at_call 101; refine (ref_plain _ _ (by decide)).mono ?_; rintro e w' ⟨rfl, rfl⟩)
              go_ret3
              exact ⟨congrArg Ending.returned (take_fail s i 4 hi (by decide) (by rw [H.out])), rfl⟩
        · have h13' : ((s[i + k].toNat : Int) == 13) = false := by
            exact ne_u8 _ _ h13
          rw [if_neg (by simp [h13]), if_neg (by simp [h13])] at hstep
          by_cases hpl : plainB s[i + k].toNat = false
          · rw [if_pos hpl] at hstep
            have H := Lib.hid (hsc.symm.trans hstep)
            clear hstep hsc h13
            go_wp2_with (go_at_call 101; refine (ref_plain _ _ hcb).mono ?_; rintro e w' ⟨rfl, rfl⟩)
            go_ret3
            exact ⟨congrArg Ending.returned (take_fail s i 4 hi (by decide) (by rw [H.out])), rfl⟩
          · rw [if_neg hpl] at hstep
            have hpl' : plainB s[i + k].toNat = true := by simpa using hpl
            clear hpl
            by_cases h256 : k = 256
            · rw [if_pos h256] at hstep
              have H := Lib.hid (hsc.symm.trans hstep)
              clear hstep hsc h13
              subst h256
              go_wp2_with (go_at_call 101; refine (ref_plain _ _ hcb).mono ?_; rintro e w' ⟨rfl, rfl⟩)
              go_ret3
              exact ⟨congrArg Ending.returned (take_fail s i 5 hi (by decide) (by rw [H.out])), rfl⟩
            · rw [if_neg h256] at hstep
              have H := Lib.hid (hstep.symm.trans hsc)
              clear hstep hsc h13
              have hk2 : k < 256 := by omega
              clear h256
              go_wp2_with (go_at_call 101; refine (ref_plain _ _ hcb).mono ?_; rintro e w' ⟨rfl, rfl⟩)
              go_round
              case rel => exact ⟨k + 1, by omega, by omega, by go_num, by rw [← Nat.add_assoc]; exact H.out⟩
              case measure => simp [intOf]; omega

theorem putErr_4 (l : List UInt8) (k : Nat) (c : UInt8) (h : l[k]? = some c) (hp : plainB c.toNat = false) : putErr l = 4 := by
  unfold putErr
  rw [if_pos]
  rw [List.all_eq_false]
  exact ⟨c, List.mem_of_getElem? h, by simp [hp]⟩
theorem putErr_ok (l : List UInt8) (h : ∀ k (hk : k < l.length), plainB l[k].toNat = true) : putErr l = if 256 < l.length then 5 else 0 := by
  unfold putErr
  rw [if_neg]
  simp only [Bool.not_eq_false, List.all_eq_true]
  intro c hc
  obtain ⟨k, hk, rfl⟩ := List.getElem_of_mem hc
  exact h k hk
/-- the line laid: with its end, or nothing. -/
def putLine (s : ByteArray) : ByteArray := if putErr s.data.toList = 0 then s ++ ⟨#[13, 10]⟩ else ⟨#[]⟩
theorem put_fail (s : ByteArray) (E : Nat) (h0 : E ≠ 0) (h : putErr s.data.toList = E) : Value.tuple #[.string ⟨#[]⟩, .int .i64 E] = Value.tuple #[.string (putLine s), .int .i64 (putErr s.data.toList)] := by
  unfold putLine; rw [h, if_neg h0]
theorem put_ok (s : ByteArray) (h : putErr s.data.toList = 0) : Value.tuple #[.string (s ++ ⟨#[13, 10]⟩), .int .i64 0] = Value.tuple #[.string (putLine s), .int .i64 (putErr s.data.toList)] := by
  unfold putLine; rw [h, if_pos rfl]; rfl
theorem plain_all_step (s : ByteArray) (k : Nat) (h : ∀ j, j < k → ∀ hj : j < s.size, plainB (s[j]'hj).toNat = true) (hk : k < s.size) (hp : plainB s[k].toNat = true) : ∀ j, j < k + 1 → ∀ hj : j < s.size, plainB (s[j]'hj).toNat = true := by
  intro j hj hjs
  by_cases e : j = k
  · subst e; exact hp
  · exact h j (by omega) hjs

set_option maxRecDepth 100000 in
set_option maxHeartbeats 2000000 in
theorem lines_put (s : ByteArray) (w : World) (hs : s.size ≤ 9223372036854775807) :
    Calls Tryz.prog 86 #[.string s] w fun e w' => e = .returned (.tuple #[.string (putLine s), .int .i64 (putErr s.data.toList)]) ∧ w' = w := by
  go_enter Tryz.func86, Tryz.ntmps86
  go_wp2_with fail
  go_loop [7] (fun j => ∃ k : Nat, k ≤ s.size ∧ j = .int .i64 k ∧ ∀ j, j < k → ∀ hj : j < s.size, plainB (s[j]'hj).toNat = true) (fun j => s.size - (intOf j).toNat)
  case atStart => exact ⟨0, by omega, rfl, fun j hj => by omega⟩
  case round =>
    obtain ⟨k, hk, rfl, hall⟩ := hrel
    have Hall := Lib.hid hall
    clear hall
    by_cases hlt : k < s.size
    · have hcb : s[k].toNat < 256 := s[k].toNat_lt
      by_cases hpl : plainB s[k].toNat = false
      · have H := Lib.hid (putErr_4 s.data.toList k s[k] (by rw [List.getElem?_eq_getElem (by simpa using hlt)]; rfl) hpl)
        go_wp2_with (go_at_call 100; refine (lines_plain _ _ hcb).mono ?_; rintro e w' ⟨rfl, rfl⟩)
        go_ret2
        exact ⟨congrArg Ending.returned (put_fail s 4 (by decide) H.out), rfl⟩
      · have hpl' : plainB s[k].toNat = true := by simpa using hpl
        clear hpl
        have H := Lib.hid (plain_all_step s k Hall.out hlt hpl')
        go_wp2_with (go_at_call 100; refine (lines_plain _ _ hcb).mono ?_; rintro e w' ⟨rfl, rfl⟩)
        go_round
        case rel => exact ⟨k + 1, by omega, by go_num, H.out⟩
        case measure => simp [intOf]; omega
    · have h := putErr_ok s.data.toList (fun j hj => Hall.out j (by simp at hj; omega) (by simpa using hj))
      have hsz : s.data.toList.length = s.size := by simp
      by_cases h256 : 256 < s.size
      · rw [hsz, if_pos h256] at h
        have H := Lib.hid h
        clear h hsz
        go_wp2_with fail
        go_ret2
        exact ⟨congrArg Ending.returned (put_fail s 5 (by decide) H.out), rfl⟩
      · rw [hsz, if_neg h256] at h
        have H := Lib.hid h
        clear h hsz
        go_wp2_with fail
        go_ret2
        exact ⟨congrArg Ending.returned (put_ok s H.out), rfl⟩

end Go.Proofs.YtgnkmfjleecmfaaGreatDoor
namespace Go.Proofs.YtgnkmfjleecmfaaGreatDoor
open Go.RowKit

/-- a text of a list of bytes -/
def bs (l : List UInt8) : ByteArray := ⟨l.toArray⟩
theorem bs_data (l : List UInt8) : (bs l).data.toList = l := by simp [bs]
theorem bs_size (l : List UInt8) : (bs l).size = l.length := by simp [bs, ByteArray.size]
theorem bs_self (s : ByteArray) : bs s.data.toList = s := by cases s; simp [bs]
theorem bs_inj {a b : List UInt8} (h : bs a = bs b) : a = b := by have := congrArg (fun s : ByteArray => s.data.toList) h; simpa [bs] using this
theorem size_len (s : ByteArray) : s.data.toList.length = s.size := by simp

/-- the values of some texts -/
def strs (xs : List (List UInt8)) : List Value := xs.map fun l => .string (bs l)
theorem strs_length (xs : List (List UInt8)) : (strs xs).length = xs.length := by simp [strs]
theorem strs_get (xs : List (List UInt8)) (j : Nat) (hj : j < xs.length) : (strs xs)[j]? = some (.string (bs xs[j])) := by
  unfold strs; rw [List.getElem?_map, List.getElem?_eq_getElem hj]; rfl
theorem strs_append (xs ys : List (List UInt8)) : strs (xs ++ ys) = strs xs ++ strs ys := by simp [strs]
theorem strs_one (l : List UInt8) : strs [l] = [.string (bs l)] := rfl

/-- the slice v reads, in the world w, as the texts xs. -/
def HoldsS (w : World) (v : Value) (xs : List (List UInt8)) : Prop :=
  ∃ a c, v = .slice a xs.length c ∧ xs.length ≤ c ∧ (xs ≠ [] → ∃ b o, a = some ⟨b, o, none⟩ ∧ b < w.heap.size ∧ ∀ j (hj : j < xs.length), w.cell? ⟨b, o + j, none⟩ = some (.string (bs xs[j])))

theorem HoldsS.below {w w' : World} {v : Value} {xs : List (List UInt8)} (h : HoldsS w v xs) (hb : Below w.heap.size w w') : HoldsS w' v xs := by
  obtain ⟨a, c, hv, hc, hx⟩ := h
  refine ⟨a, c, hv, hc, fun hne => ?_⟩
  obtain ⟨b, o, ha, hlt, hcell⟩ := hx hne
  exact ⟨b, o, ha, Nat.lt_of_lt_of_le hlt hb.size, fun j hj => (hb.cell (p := ⟨b, o + j, none⟩) hlt).trans (hcell j hj)⟩

theorem HoldsS.empty (w : World) (a : Option Addr) (c : Nat) : HoldsS w (.slice a 0 c) [] := ⟨a, c, rfl, Nat.zero_le _, fun h => absurd rfl h⟩

theorem HoldsS.of_own {w : World} {base n : Nat} {e : TypeId} {v : Value} {xs : List (List UInt8)} (h : w.ownsRow base e 1 v n (strs xs)) : HoldsS w v xs := by
  have hn : xs.length = n := by have := h.1; rw [strs_length, Nat.mul_one] at this; exact this
  subst hn
  rcases h.2 with ⟨rfl, h0⟩ | ⟨g, cap, cur, rfl, hb, hg, hle, hm, hs, ht⟩
  · have : xs = [] := List.eq_nil_of_length_eq_zero h0
    subst this
    exact HoldsS.empty w none 0
  · refine ⟨_, cap, rfl, hle, fun _ => ⟨g, 0, rfl, (Array.getElem?_eq_some_iff.1 hg).1, fun j hj => ?_⟩⟩
    have := h.cells (g := g) rfl j _ (strs_get xs j hj)
    have e0 : (⟨g, 0, none⟩ : Addr).add j = ⟨g, 0 + j, none⟩ := by unfold Addr.add; split <;> simp_all
    rwa [e0] at this

theorem HoldsS.of_block {w : World} {b : Nat} {C : Array Value} {t : TypeId} {xs : List (List UInt8)} {n : Nat} (hb : w.heap[b]? = some (.cells C t (0, 0))) (hC : C.toList = strs xs) (hn : n = xs.length) : HoldsS w (.slice (some ⟨b, 0, none⟩) n n) xs := by
  subst hn
  refine ⟨_, _, rfl, Nat.le_refl _, fun _ => ⟨b, 0, rfl, (Array.getElem?_eq_some_iff.1 hb).1, fun j hj => ?_⟩⟩
  rw [cell_of_row w b (0 + j) C t (0, 0) hb]
  rw [← Array.getElem?_toList, hC, Nat.zero_add]
  exact strs_get xs j hj

/-- one block, whole. -/
theorem block_alloc (w : World) (o : Obj) : (w.alloc o).heap[w.heap.size]? = some o := by
  show (w.heap.push o)[w.heap.size]? = _
  simp

theorem bstep {w0 w w' : World} (h : Below w0.heap.size w0 w) (k : Below w.heap.size w w') : Below w0.heap.size w0 w' := h.trans (k.mono h.size)
theorem ret_int {k : IntKind} {a b : Int} (h : a = b) : Ending.returned (.int k a) = .returned (.int k b) := by rw [h]
theorem ret_str {a b : ByteArray} (h : a = b) : Ending.returned (.string a) = .returned (.string b) := by rw [h]

theorem extract_bs (s : ByteArray) (a b : Nat) : s.extract a b = bs ((s.data.toList.take b).drop a) := by
  have h : (s.extract a b).data.toList = (s.data.toList.take b).drop a := by
    rw [Go.Lib.extract_data, List.drop_take]
  rw [← h, bs_self]

theorem info_str : (Tryz.prog.info? 9).map (fun i => (i.zero, i.size, i.bytes)) = some (some (.string ByteArray.empty), 1, 16) := by kernel_rfl

/-- append of one text to a slice of the call's own. -/
theorem append_str {ops : Array Oper} {rest : List Oper} {o : Oper} {a : Act} {Q : Exit → Act → World → Prop} (w0 : World) (hgd : o.guard = none) (s x : Operand)
    (ho : o.op = .call { callee := .builtin .append, args := #[s, x], argTypes := #[41, 41] })
    (base : Nat) (v : Value) (xs : List (List UInt8)) (hs : a.eval s = v) (hown : w0.ownsRow base 9 1 v xs.length (strs xs))
    (b : ByteArray) (l : List UInt8) (hbl : b = bs l) (hx : a.eval x = .slice (some ⟨w0.heap.size, 0, none⟩) 1 1) (hn : xs.length < 2147483648) (hbase : base ≤ w0.heap.size)
    (h : ∀ v' w', w'.ownsRow base 9 1 v' (xs ++ [l]).length (strs (xs ++ [l])) → w0.grownBy w' v.ownBlock → v' ≠ .slice none 0 0 → wpList Tryz.prog ops Q rest (a.put o.dst v') w') :
    wpList Tryz.prog ops Q (o :: rest) a (w0.alloc (.cells #[.string b] 9)) := by
  obtain ⟨i0, hi, hz0, hz1, hz2⟩ := info_parts info_str
  subst hbl
  refine wpList_append_own _ hgd s x 41 ho base 9 i0 _ 1 16 Tryz.underlying41 hi hz0 hz1 hz2 rfl (by decide) v xs.length (strs xs) hs (hown.alloc _) ⟨w0.heap.size, 0, none⟩ 1 1 [.string (bs l)] hx rfl (cell_one_new w0 _ _) (by simp [Value.oneCell']) (by unfold maxLen; omega) (by omega) (by simp; omega) ?_
  intro v' w' h2 h3 h4
  refine h v' w' ?_ ?_ (fun e => by have := (h4.1 e).2; omega)
  · rw [List.length_append, strs_append, strs_one]; exact h2
  · exact ⟨h3.os, h3.tape, h3.output, Nat.le_trans (by simp) h3.size, fun k hk hne => (h3.block k (by simp; omega) hne).trans (heap_alloc_old w0 _ hk)⟩

theorem below_own {B : Nat} {w wr w' : World} {base : Nat} {e : TypeId} {size : Nat} {v : Value} {n : Nat} {xs : List Value} (hb : Below B w wr) (hg : wr.grownBy w' v.ownBlock) (hown : wr.ownsRow base e size v n xs) (hB : B ≤ base) (hB2 : B ≤ wr.heap.size) : Below B w w' :=
  hb.grown hg hB2 fun k hk => Nat.le_trans hB (hown.lt k hk).1

theorem own_alloc (w : World) (xs : List (List UInt8)) (n : Nat) (hn : n = xs.length) (hm : xs.length ≤ maxLen) :
    (w.alloc (.cells (strs xs).toArray 9)).ownsRow w.heap.size 9 1 (.slice (some ⟨w.heap.size, 0, none⟩) n n) xs.length (strs xs) := by
  subst hn
  refine ⟨by rw [strs_length, Nat.mul_one], .inr ⟨w.heap.size, _, _, rfl, Nat.le_refl _, block_alloc w _, Nat.le_refl _, hm, ?_, ?_⟩⟩
  · rw [List.size_toArray, strs_length, Nat.mul_one]
  · rw [Nat.mul_one]; exact List.take_of_length_le (by rw [strs_length]; exact Nat.le_refl _)
theorem below_drewN {B : Nat} {a w : World} (h : Below B a w) (n : Nat) : Below B a (w.drewN n) := ⟨h.os, h.tape, h.output, h.size, h.block⟩
theorem bs_beq (x y : List UInt8) : ((bs x).toList == (bs y).toList) = decide (x = y) := by
  rw [ByteArray.toList_eq, ByteArray.toList_eq, bs_data, bs_data]
  by_cases h : x = y
  · subst h; simp
  · simp [h]

/-- what an argument of type []string reads as. -/
def StrArg (W : World) (v : Value) (ls : List (List UInt8)) : Prop := HoldsS W v ls ∧ (∀ x ∈ ls, x.length ≤ maxLen) ∧ ls.length ≤ maxLen
theorem strArg_nil (W : World) : StrArg W (.slice none 0 0) [] := ⟨HoldsS.empty W none 0, fun x h => by simp at h, by unfold maxLen; simp⟩
theorem strArg_some (W : World) (a : Addr) (len cap : Nat) (ss : List ByteArray) (hl : len ≤ cap) (hm : cap ≤ maxLen) (hz : ss.length = cap)
    (hcell : ∀ i, i < ss.length → W.cell? (a.add i) = some (.string (ss.getD i ByteArray.empty))) (hws : ∀ s ∈ ss, s.size ≤ maxLen) :
    StrArg W (.slice (some a) len cap) ((ss.take len).map fun s => s.data.toList) := by
  have hlen : ((ss.take len).map fun s => s.data.toList).length = len := by simp; omega
  refine ⟨⟨some a, cap, by rw [hlen], by rw [hlen]; exact hl, fun hne => ?_⟩, ?_, by rw [hlen]; omega⟩
  · have hpos : 0 < len := by
      rcases Nat.eq_zero_or_pos len with h | h
      · subst h; simp at hne
      · exact h
    have h0 := hcell 0 (by omega)
    obtain ⟨b, o, sp⟩ := a
    have hsp : sp = none := by simpa [Addr.add] using World.cell?_spot h0
    subst hsp
    refine ⟨b, o, rfl, by have := World.block_lt_of_cell? _ _ h0; simpa [Addr.add] using this, fun j hj => ?_⟩
    rw [hlen] at hj
    have hj2 := hcell j (by omega)
    have ea : (⟨b, o, none⟩ : Addr).add j = ⟨b, o + j, none⟩ := by unfold Addr.add; split <;> simp_all
    rw [ea] at hj2
    rw [hj2, List.getElem_map, List.getElem_take, bs_self]
    rw [List.getD_eq_getElem?_getD, List.getElem?_eq_getElem (by omega), Option.getD_some]
  · intro x hx
    obtain ⟨s, hs, rfl⟩ := List.mem_map.1 hx
    have := hws s (List.mem_of_mem_take hs)
    rw [size_len]; exact this
end Go.Proofs.YtgnkmfjleecmfaaGreatDoor
namespace Go.Proofs.YtgnkmfjleecmfaaGreatDoor
open Go.RowKit
theorem bs_cat (a b : List UInt8) : bs a ++ bs b = bs (a ++ b) := by
  have : (bs a ++ bs b).data.toList = a ++ b := by simp [bs]
  rw [← this, bs_self]
theorem data_cat (a b : ByteArray) : (a ++ b).data.toList = a.data.toList ++ b.data.toList := by simp
end Go.Proofs.YtgnkmfjleecmfaaGreatDoor
namespace Go.Proofs.YtgnkmfjleecmfaaGreatDoor
open Go.RowKit

def digN (n : Nat) : Bool := decide (48 ≤ n) && decide (n ≤ 57)
def letN (n : Nat) : Bool := decide (97 ≤ n) && decide (n ≤ 122)
def namedN (n : Nat) : Bool := letN n || digN n || n == 45
def nameL (l : List UInt8) : Bool := !l.isEmpty && decide (l.length ≤ 32) && l.all (fun c => namedN c.toNat)
theorem digN_ge (n : Nat) (h : 128 ≤ n) : digN n = false := by unfold digN; simp; omega
theorem namedN_ge (n : Nat) (h : 128 ≤ n) : namedN n = false := by
  unfold namedN letN digN
  have : (n == 45) = false := by rw [beq_eq_false_iff_ne]; omega
  rw [this]; simp; omega

theorem decode_low (s : ByteArray) (pos : Nat) (h : pos < s.size) (h2 : s[pos].toNat < 128) : Utf8.decode s pos = (s[pos].toNat, 1) := by
  rw [Go.Lib.decode_N]
  have : s.data.toList.getD pos 0 = s[pos] := by
    rw [List.getD_eq_getElem?_getD, List.getElem?_eq_getElem (by rw [size_len]; exact h)]; rfl
  rw [this]
  exact Go.Lib.decodeN_ascii _ _ _ _ _ h2
theorem decodeN_high (n b0 b1 b2 b3 : Nat) (h : 128 ≤ b0) : 128 ≤ (Go.Lib.decodeN n b0 b1 b2 b3).1 := by
  unfold Go.Lib.decodeN
  rw [if_neg (by omega)]
  split
  · split
    · assumption
    · decide
  · split
    · split
      · rename_i h; show 128 ≤ _; omega
      · decide
    · split
      · split
        · rename_i h; show 128 ≤ _; omega
        · decide
      · decide
theorem decode_high (s : ByteArray) (pos : Nat) (h : pos < s.size) (h2 : 128 ≤ s[pos].toNat) : 128 ≤ (Utf8.decode s pos).1 := by
  rw [Go.Lib.decode_N]
  have : s.data.toList.getD pos 0 = s[pos] := by
    rw [List.getD_eq_getElem?_getD, List.getElem?_eq_getElem (by rw [size_len]; exact h)]; rfl
  rw [this]
  exact decodeN_high _ _ _ _ _ h2

theorem idx_all_from (p : Nat → Bool) (hp : ∀ x, 128 ≤ x → p x = true) (s : ByteArray) : ∀ (f pos : Nat), s.size ≤ pos + f →
    decide (Go.Lib.idxFuncFrom p true s f pos < 0) = (s.data.toList.drop pos).all (fun c => !p c.toNat) := by
  intro f
  induction f with
  | zero =>
    intro pos h
    rw [List.drop_eq_nil_of_le (by rw [size_len]; omega)]
    rfl
  | succ f ih =>
    intro pos h
    by_cases hlt : pos < s.size
    · have hd : s.data.toList.drop pos = s[pos] :: s.data.toList.drop (pos + 1) := List.drop_eq_getElem_cons (by rw [size_len]; exact hlt)
      unfold Go.Lib.idxFuncFrom
      rw [if_pos hlt, hd, List.all_cons]
      by_cases hb : s[pos].toNat < 128
      · rw [decode_low s pos hlt hb]
        by_cases hc : p s[pos].toNat = true
        · rw [if_pos hc, hc]
          have hn : ¬ ((pos : Int) < 0) := by omega
          rw [decide_eq_false hn]; rfl
        · rw [if_neg hc, ih (pos + 1) (by omega)]
          simp [hc]
      · have hn : ¬ ((pos : Int) < 0) := by omega
        rw [if_pos (hp _ (decode_high s pos hlt (by omega))), hp _ (show 128 ≤ s[pos].toNat by omega), decide_eq_false hn]; rfl
    · rw [List.drop_eq_nil_of_le (by rw [size_len]; omega), Go.Lib.idxFuncFrom_end _ _ _ _ _ hlt]
      rfl
theorem idx_all (p : Nat → Bool) (hp : ∀ x, 128 ≤ x → p x = true) (s : ByteArray) :
    decide (Go.Lib.idxFunc p true s < 0) = s.data.toList.all (fun c => !p c.toNat) :=
  idx_all_from p hp s s.size 0 (by omega)
end Go.Proofs.YtgnkmfjleecmfaaGreatDoor
