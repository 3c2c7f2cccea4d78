/- Plain functions: what a field's line is parsed as (no program in sight). -/
import Derived.Test.YtgaojfebmcmpaaaGreatDoorFieldsRefPl
import Derived.Lib.IndexMore
import Derived.Lib.SlTrimSet
import Derived.Lib.MapLaws
import Derived.Lib.TrimAscii
namespace Go.Proofs.YtgaojfebmcmpaaaGreatDoor
open Go.RowKit

def smallB (c : UInt8) : UInt8 := UInt8.ofNat (smallN c.toNat)
/-- what stands ahead of the first colon -/
def ahead (l : List UInt8) : List UInt8 := l.takeWhile (fun c => c != 58)
def gapL : List UInt8 := [32, 9]
def parseName (l : List UInt8) : List UInt8 := (ahead l).map smallB
def parseVal (l : List UInt8) : List UInt8 := Go.Lib.trimS (l.drop ((ahead l).length + 1)) gapL
def plainAll (l : List UInt8) : Bool := l.all (fun c => plainB c.toNat)
def parseOk (l : List UInt8) : Bool := plainAll l && decide ((ahead l).length < l.length) && nameL (parseName l)
def parseN (l : List UInt8) : List UInt8 := if parseOk l = true then parseName l else []
def parseV (l : List UInt8) : List UInt8 := if parseOk l = true then parseVal l else []
def parseE (l : List UInt8) : Nat := if parseOk l = true then 0 else 4

theorem ahead_le (l : List UInt8) : (ahead l).length ≤ l.length := (List.takeWhile_prefix _).length_le
theorem ahead_take (l : List UInt8) : l.take (ahead l).length = ahead l := (List.prefix_iff_eq_take.1 (List.takeWhile_prefix _)).symm
theorem index58 (l : List UInt8) : Go.Lib.index l [58] = if (ahead l).length < l.length then ((ahead l).length : Int) else -1 := by
  induction l with
  | nil => rfl
  | cons c t ih =>
    unfold Go.Lib.index
    by_cases hc : c = 58
    · subst hc
      have : ahead (58 :: t) = [] := by unfold ahead; rw [List.takeWhile_cons_of_neg (by decide)]
      rw [this, if_pos (by simp [List.isPrefixOf]), if_pos (by simp)]; rfl
    · have ha : ahead (c :: t) = c :: ahead t := by unfold ahead; rw [List.takeWhile_cons_of_pos (by simpa using hc)]
      rw [if_neg (by simp [List.isPrefixOf]; exact fun h => hc h.symm), ih, ha]
      by_cases hlt : (ahead t).length < t.length
      · rw [if_pos hlt, if_neg (by rw [beq_iff_eq]; omega), if_pos (by simp; omega)]; simp
      · rw [if_neg hlt, if_pos (by decide), if_neg (by simp; omega)]
theorem cut58 (l : List UInt8) : Go.Lib.cut l [58] = if (ahead l).length < l.length then (ahead l, l.drop ((ahead l).length + 1), true) else (l, [], false) := by
  unfold Go.Lib.cut
  rw [index58]
  by_cases hlt : (ahead l).length < l.length
  · rw [if_pos hlt, if_pos (by omega), if_pos hlt, Int.toNat_natCast, ahead_take]; rfl
  · rw [if_neg hlt, if_neg (by decide), if_neg hlt]

theorem smallN_lt (c : Nat) (h : c < 128) : smallN c < 128 := by
  unfold smallN; split <;> omega
theorem mapD_small (l : List UInt8) (f : Int → Int) (hf : ∀ x : Nat, x < 128 → f x = (smallN x : Nat)) : ∀ h : (∀ c ∈ l, c.toNat < 128), Go.Lib.mapD f l = l.map smallB := by
  induction l with
  | nil => intro _; rfl
  | cons c t ih =>
    intro h
    have hc : c.toNat < 128 := h c (List.mem_cons_self ..)
    have hs := smallN_lt _ hc
    rw [Go.Lib.mapD_step f _ (by simp), Go.Lib.decodeL_ascii c t hc, hf _ hc, if_pos (by omega)]
    have e : Go.Lib.encodeRune ((smallN c.toNat : Nat) : Int) = [smallB c] := by
      unfold Go.Lib.encodeRune
      rw [Go.Lib.encodeRuneZ_one (by omega) (by omega)]
      rfl
    rw [e]
    show smallB c :: Go.Lib.mapD f t = _
    rw [ih (fun d hd => h d (List.mem_cons_of_mem _ hd))]; rfl
theorem plainB_lt (n : Nat) (h : plainB n = true) : n < 128 := by
  unfold plainB at h
  simp only [Bool.or_eq_true, beq_iff_eq, Bool.and_eq_true, decide_eq_true_eq] at h
  omega
theorem plainAll_lt (l : List UInt8) (h : plainAll l = true) : ∀ c ∈ l, c.toNat < 128 := fun c hc => plainB_lt _ (List.all_eq_true.1 h c hc)
theorem ahead_sub (l : List UInt8) (c : UInt8) (h : c ∈ ahead l) : c ∈ l := (List.takeWhile_subset _) h
end Go.Proofs.YtgaojfebmcmpaaaGreatDoor
