/- Plain functions: ranges of bytes (no program in sight). -/
import Derived.Test.YtgaojfebmcmpaaaGreatDoorNumWalk
import Derived.Lib.IndexMore
namespace Go.Proofs.YtgaojfebmcmpaaaGreatDoor
open Go.RowKit

def mostR : Int := 9007199254740990
/-- may a range be? 8: it may not -/
def rErr (a b : Int) : Nat := if a < 0 ∨ b < a ∨ 9007199254740990 < b then 8 else 0
def rLen (a b : Int) : Int := if rErr a b = 0 then b - a + 1 else 0
theorem rErr_ok (a b : Int) (h : rErr a b = 0) : 0 ≤ a ∧ a ≤ b ∧ b ≤ 9007199254740990 := by
  unfold rErr at h; split at h
  · exact absurd h (by decide)
  · omega
theorem rErr_no (a b : Int) (h : rErr a b ≠ 0) : rErr a b = 8 ∧ (a < 0 ∨ b < a ∨ 9007199254740990 < b) := by
  unfold rErr at h ⊢; split at h
  · rename_i hc; exact ⟨if_pos hc, hc⟩
  · exact absurd rfl h
def asksL : List UInt8 := [98, 121, 116, 101, 115, 61]
def tellsL : List UInt8 := [98, 121, 116, 101, 115, 32]
def textR (a b : Int) : List UInt8 := digL a ++ 45 :: digL b
def askL (a b : Int) : List UInt8 := if rErr a b = 0 then asksL ++ textR a b else []
/-- what stands ahead of a byte -/
def upTo (c : UInt8) (l : List UInt8) : List UInt8 := l.takeWhile (fun x => x != c)
def hasB (c : UInt8) (l : List UInt8) : Bool := decide ((upTo c l).length < l.length)
def behind (c : UInt8) (l : List UInt8) : List UInt8 := l.drop ((upTo c l).length + 1)
theorem upTo_le (c : UInt8) (l : List UInt8) : (upTo c l).length ≤ l.length := (List.takeWhile_prefix _).length_le
theorem upTo_take (c : UInt8) (l : List UInt8) : l.take (upTo c l).length = upTo c l := (List.prefix_iff_eq_take.1 (List.takeWhile_prefix _)).symm
theorem index_one (c : UInt8) (l : List UInt8) : Go.Lib.index l [c] = if (upTo c l).length < l.length then ((upTo c l).length : Int) else -1 := by
  induction l with
  | nil => rfl
  | cons d t ih =>
    unfold Go.Lib.index
    by_cases hc : d = c
    · subst hc
      have : upTo d (d :: t) = [] := by unfold upTo; rw [List.takeWhile_cons_of_neg (by simp)]
      rw [this, if_pos (by simp [List.isPrefixOf]), if_pos (by simp)]; rfl
    · have ha : upTo c (d :: t) = d :: upTo c t := by unfold upTo; rw [List.takeWhile_cons_of_pos (by simpa using hc)]
      rw [if_neg (by simp [List.isPrefixOf]; exact fun h => hc h.symm), ih, ha]
      by_cases hlt : (upTo c t).length < t.length
      · rw [if_pos hlt, if_neg (by rw [beq_iff_eq]; omega), if_pos (by simp; omega)]; simp
      · rw [if_neg hlt, if_pos (by decide), if_neg (by simp; omega)]
theorem cut_one (c : UInt8) (l : List UInt8) : Go.Lib.cut l [c] = if hasB c l = true then (upTo c l, behind c l, true) else (l, [], false) := by
  unfold Go.Lib.cut hasB behind
  rw [index_one]
  by_cases hlt : (upTo c l).length < l.length
  · rw [if_pos hlt, if_pos (by omega), decide_eq_true hlt, if_pos rfl, Int.toNat_natCast, upTo_take]; rfl
  · rw [if_neg hlt, if_neg (by decide), decide_eq_false hlt, if_neg (by decide)]
/-- two numbers: the error of the first that is none -/
def twoE (a b : List UInt8) : Nat := if numE a ≠ 0 then numE a else numE b
/-- what is asked for: from, to, the error -/
def askedOk (l : List UInt8) : Bool := asksL.isPrefixOf l && hasB 45 (l.drop 6)
def askedF (l : List UInt8) : Nat := numV (upTo 45 (l.drop 6))
def askedT (l : List UInt8) : Nat := numV (behind 45 (l.drop 6))
def askedE (l : List UInt8) : Nat := if askedOk l = false then 4 else if twoE (upTo 45 (l.drop 6)) (behind 45 (l.drop 6)) ≠ 0 then twoE (upTo 45 (l.drop 6)) (behind 45 (l.drop 6)) else rErr (askedF l) (askedT l)
def askedA (l : List UInt8) : Int := if askedE l = 0 then (askedF l : Int) else 0
def askedB (l : List UInt8) : Int := if askedE l = 0 then (askedT l : Int) else 0
/-- what is told of so many bytes -/
def toldE (a b t : Int) : Nat := if rErr a b ≠ 0 then rErr a b else if t ≤ b ∨ 9007199254740991 < t then 8 else 0
def toldL (a b t : Int) : List UInt8 := if toldE a b t = 0 then tellsL ++ textR a b ++ 47 :: digL t else []
def tellOk (l : List UInt8) : Bool := tellsL.isPrefixOf l && hasB 45 (l.drop 6) && hasB 47 (behind 45 (l.drop 6))
def tellF (l : List UInt8) : Nat := numV (upTo 45 (l.drop 6))
def tellT (l : List UInt8) : Nat := numV (upTo 47 (behind 45 (l.drop 6)))
def tellN (l : List UInt8) : Nat := numV (behind 47 (behind 45 (l.drop 6)))
def threeE (a b c : List UInt8) : Nat := if numE a ≠ 0 then numE a else if numE b ≠ 0 then numE b else numE c
def tellE (l : List UInt8) : Nat := if tellOk l = false then 4 else if threeE (upTo 45 (l.drop 6)) (upTo 47 (behind 45 (l.drop 6))) (behind 47 (behind 45 (l.drop 6))) ≠ 0 then threeE (upTo 45 (l.drop 6)) (upTo 47 (behind 45 (l.drop 6))) (behind 47 (behind 45 (l.drop 6)))
  else toldE (tellF l) (tellT l) (tellN l)
def tellA (l : List UInt8) : Int := if tellE l = 0 then (tellF l : Int) else 0
def tellB (l : List UInt8) : Int := if tellE l = 0 then (tellT l : Int) else 0
def tellC (l : List UInt8) : Int := if tellE l = 0 then (tellN l : Int) else 0
/-- a range cut to what there is -/
def clipE (a b t : Int) : Nat := if rErr a b ≠ 0 then rErr a b else if t ≤ a then 8 else 0
def clipA (a b t : Int) : Int := if clipE a b t = 0 then a else 0
def clipB (a b t : Int) : Int := if clipE a b t = 0 then (if b < t - 1 then b else t - 1) else 0
end Go.Proofs.YtgaojfebmcmpaaaGreatDoor
