/- What lines.Put and the bytes of a line are. -/
import Derived.Test.YtnfadmdndefanaaGreatDoorProg
import Derived.Test.YtnfadmdndefanaaGreatDoorLinesPlain
import Derived.WalkKit
import Derived.Below
import Derived.Deep.RegionHeld3
import Derived.BigRegion
import Derived.BigQuiet
import Derived.Outline
import Derived.Lib.Hide
import Derived.WalkMore
import Derived.Scope
import Derived.ScopeJumps
import Derived.OwnWalk
import Derived.WalkSpells
import Derived.WalkLawsBesides
namespace Go.Proofs.YtnfadmdndefanaaGreatDoor
open Go.RowKit

theorem plainB_9 : plainB 9 = true := rfl
theorem plainB_lo (c : Nat) (h : c < 32) (h9 : c ≠ 9) : plainB c = false := by
  unfold plainB; simp; omega
theorem plainB_ge (c : Nat) (h : 32 ≤ c) : plainB c = decide ((c : Int) ≤ 126) := by
  unfold plainB
  have h9 : (c == 9) = false := by simp; omega
  rw [h9, decide_eq_true h, Bool.false_or, Bool.true_and]
  by_cases h2 : c ≤ 126
  · rw [decide_eq_true h2, decide_eq_true (by omega)]
  · rw [decide_eq_false h2, decide_eq_false (by omega)]

theorem ret_bool {a b : Bool} (h : a = b) : Ending.returned (.bool a) = .returned (.bool b) := by rw [h]

theorem lines_plain (c : Nat) (w : World) (h : c < 256) :
    Calls Tryz.prog 45 #[.int .u8 c] w fun e w' => e = .returned (.bool (plainB c)) ∧ w' = w := by
  by_cases h9 : c = 9
  · subst h9
    go_enter Tryz.func45, Tryz.ntmps45
    go_wp2
    go_ret
    exact ⟨ret_bool rfl, rfl⟩
  · have k9 : ((c : Int) == 9) = false := by rw [beq_eq_false_iff_ne]; omega
    by_cases hlo : c < 32
    · have H := Lib.hid (plainB_lo c hlo h9)
      go_enter Tryz.func45, Tryz.ntmps45
      go_wp2
      go_ret
      exact ⟨ret_bool H.out.symm, rfl⟩
    · have H := Lib.hid (plainB_ge c (by omega))
      go_enter Tryz.func45, Tryz.ntmps45
      go_wp2
      go_ret
      exact ⟨ret_bool H.out.symm, rfl⟩

theorem ref_plain (c : Nat) (w : World) (h : c < 256) :
    Calls Tryz.prog 60 #[.int .u8 c] w fun e w' => e = .returned (.bool (plainB c)) ∧ w' = w := by
  by_cases h9 : c = 9
  · subst h9
    go_enter Tryz.func60, Tryz.ntmps60
    go_wp2
    go_ret
    exact ⟨ret_bool rfl, rfl⟩
  · have k9 : ((c : Int) == 9) = false := by rw [beq_eq_false_iff_ne]; omega
    by_cases hlo : c < 32
    · have H := Lib.hid (plainB_lo c hlo h9)
      go_enter Tryz.func60, Tryz.ntmps60
      go_wp2
      go_ret
      exact ⟨ret_bool H.out.symm, rfl⟩
    · have H := Lib.hid (plainB_ge c (by omega))
      go_enter Tryz.func60, Tryz.ntmps60
      go_wp2
      go_ret
      exact ⟨ret_bool H.out.symm, rfl⟩

theorem putErr_4 (l : List UInt8) (k : Nat) (c : UInt8) (h : l[k]? = some c) (hp : plainB c.toNat = false) : putErr l = 4 := by
  unfold putErr
  rw [if_pos]
  rw [List.all_eq_false]
  exact ⟨c, List.mem_of_getElem? h, by simp [hp]⟩
theorem putErr_ok (l : List UInt8) (h : ∀ k (hk : k < l.length), plainB l[k].toNat = true) : putErr l = if 256 < l.length then 5 else 0 := by
  unfold putErr
  rw [if_neg]
  simp only [Bool.not_eq_false, List.all_eq_true]
  intro c hc
  obtain ⟨k, hk, rfl⟩ := List.getElem_of_mem hc
  exact h k hk
/-- the line laid: with its end, or nothing. -/
def putLine (s : ByteArray) : ByteArray := if putErr s.data.toList = 0 then s ++ ⟨#[13, 10]⟩ else ⟨#[]⟩
theorem put_fail (s : ByteArray) (E : Nat) (h0 : E ≠ 0) (h : putErr s.data.toList = E) : Value.tuple #[.string ⟨#[]⟩, .int .i64 E] = Value.tuple #[.string (putLine s), .int .i64 (putErr s.data.toList)] := by
  unfold putLine; rw [h, if_neg h0]
theorem put_ok (s : ByteArray) (h : putErr s.data.toList = 0) : Value.tuple #[.string (s ++ ⟨#[13, 10]⟩), .int .i64 0] = Value.tuple #[.string (putLine s), .int .i64 (putErr s.data.toList)] := by
  unfold putLine; rw [h, if_pos rfl]; rfl
theorem plain_all_step (s : ByteArray) (k : Nat) (h : ∀ j, j < k → ∀ hj : j < s.size, plainB (s[j]'hj).toNat = true) (hk : k < s.size) (hp : plainB s[k].toNat = true) : ∀ j, j < k + 1 → ∀ hj : j < s.size, plainB (s[j]'hj).toNat = true := by
  intro j hj hjs
  by_cases e : j = k
  · subst e; exact hp
  · exact h j (by omega) hjs

set_option maxRecDepth 100000 in
set_option maxHeartbeats 2000000 in
theorem lines_put (s : ByteArray) (w : World) (hs : s.size ≤ 9223372036854775807) :
    Calls Tryz.prog 15 #[.string s] w fun e w' => e = .returned (.tuple #[.string (putLine s), .int .i64 (putErr s.data.toList)]) ∧ w' = w := by
  go_enter Tryz.func15, Tryz.ntmps15
  go_wp2_with fail
  go_loop [7] (fun j => ∃ k : Nat, k ≤ s.size ∧ j = .int .i64 k ∧ ∀ j, j < k → ∀ hj : j < s.size, plainB (s[j]'hj).toNat = true) (fun j => s.size - (intOf j).toNat)
  case atStart => exact ⟨0, by omega, rfl, fun j hj => by omega⟩
  case round =>
    obtain ⟨k, hk, rfl, hall⟩ := hrel
    have Hall := Lib.hid hall
    clear hall
    by_cases hlt : k < s.size
    · have hcb : s[k].toNat < 256 := s[k].toNat_lt
      by_cases hpl : plainB s[k].toNat = false
      · have H := Lib.hid (putErr_4 s.data.toList k s[k] (by rw [List.getElem?_eq_getElem (by simpa using hlt)]; rfl) hpl)
        go_wp2_with (go_at_call 45; refine (lines_plain _ _ hcb).mono ?_; rintro e w' ⟨rfl, rfl⟩)
        go_ret2
        exact ⟨congrArg Ending.returned (put_fail s 4 (by decide) H.out), rfl⟩
      · have hpl' : plainB s[k].toNat = true := by simpa using hpl
        clear hpl
        have H := Lib.hid (plain_all_step s k Hall.out hlt hpl')
        go_wp2_with (go_at_call 45; refine (lines_plain _ _ hcb).mono ?_; rintro e w' ⟨rfl, rfl⟩)
        go_round
        case rel => exact ⟨k + 1, by omega, by go_num, H.out⟩
        case measure => simp [intOf]; omega
    · have h := putErr_ok s.data.toList (fun j hj => Hall.out j (by simp at hj; omega) (by simpa using hj))
      have hsz : s.data.toList.length = s.size := by simp
      by_cases h256 : 256 < s.size
      · rw [hsz, if_pos h256] at h
        have H := Lib.hid h
        clear h hsz
        go_wp2_with fail
        go_ret2
        exact ⟨congrArg Ending.returned (put_fail s 5 (by decide) H.out), rfl⟩
      · rw [hsz, if_neg h256] at h
        have H := Lib.hid h
        clear h hsz
        go_wp2_with fail
        go_ret2
        exact ⟨congrArg Ending.returned (put_ok s H.out), rfl⟩

end Go.Proofs.YtnfadmdndefanaaGreatDoor
