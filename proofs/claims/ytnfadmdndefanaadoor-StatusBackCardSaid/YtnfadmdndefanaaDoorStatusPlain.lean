/- Plain functions for the first line of an answer (no program in sight). -/
import Derived.Test.YtnfadmdndefanaaDoorLinesBackPlain
import Derived.Lib.ItoaNum
namespace Go.Proofs.YtnfadmdndefanaaDoor
open Go.RowKit

def reasonOf (code : Int) : ByteArray :=
  if code = 200 then ⟨#[79, 75]⟩ else if code = 206 then ⟨#[80, 97, 114, 116, 105, 97, 108, 32, 67, 111, 110, 116, 101, 110, 116]⟩
  else if code = 400 then ⟨#[66, 97, 100, 32, 82, 101, 113, 117, 101, 115, 116]⟩ else if code = 404 then ⟨#[78, 111, 116, 32, 70, 111, 117, 110, 100]⟩
  else if code = 416 then ⟨#[82, 97, 110, 103, 101, 32, 78, 111, 116, 32, 83, 97, 116, 105, 115, 102, 105, 97, 98, 108, 101]⟩
  else if code = 502 then ⟨#[66, 97, 100, 32, 71, 97, 116, 101, 119, 97, 121]⟩ else ⟨#[79, 116, 104, 101, 114]⟩
def classOf (code : Int) : Int := if code < 100 ∨ 599 < code then 0 else code / 100
def isDigitB (c : UInt8) : Bool := decide (48 ≤ c.toNat) && decide (c.toNat ≤ 57)
def versionL : List UInt8 := [72, 84, 84, 80, 47, 49, 46, 49, 32]
/-- the code of a status line, from what stands behind the version. -/
def codeOf (r : List UInt8) : Int × Nat := match r with
  | a :: b :: c :: t => if t ≠ [] ∧ t.head? ≠ some 32 then (0, 4) else if (isDigitB a && isDigitB b && isDigitB c) = false then (0, 4)
      else if classOf (100 * ((a.toNat : Int) - 48) + 10 * ((b.toNat : Int) - 48) + ((c.toNat : Int) - 48)) = 0 then (0, 4)
      else (100 * ((a.toNat : Int) - 48) + 10 * ((b.toNat : Int) - 48) + ((c.toNat : Int) - 48), 0)
  | _ => (0, 4)
def statusOf (l : List UInt8) : Int × Nat := if putErr l = 4 then (0, 4) else if versionL.isPrefixOf l = false then (0, 13) else codeOf (l.drop 9)
theorem reason_size (code : Int) : (reasonOf code).size ≤ 21 := by
  unfold reasonOf
  repeat' split
  all_goals decide
theorem class_out (code : Int) (h : code < 100 ∨ 599 < code) : classOf code = 0 := if_pos h
theorem class_in (code : Int) (h1 : 100 ≤ code) (h2 : code ≤ 599) : classOf code = code / 100 := if_neg (by omega)
theorem class_pos (code : Int) (h1 : 100 ≤ code) (h2 : code ≤ 599) : 1 ≤ classOf code ∧ classOf code ≤ 5 := by rw [class_in code h1 h2]; omega
theorem class_iff (code : Int) : classOf code = 0 ↔ (code < 100 ∨ 599 < code) := by
  constructor
  · intro h
    rcases Classical.em (code < 100 ∨ 599 < code) with h' | h'
    · exact h'
    · have := class_pos code (by omega) (by omega); omega
  · exact class_out code
/-- the first line of a code, laid. -/
def statusLine (code : Int) : ByteArray := (⟨versionL.toArray⟩ ++ ⟨(Go.Lib.itoa code).toArray⟩ ++ ⟨#[32]⟩) ++ reasonOf code
def printOf (code : Int) : ByteArray := if classOf code = 0 then ⟨#[]⟩ else statusLine code
def printErr (code : Int) : Nat := if classOf code = 0 then 8 else 0
end Go.Proofs.YtnfadmdndefanaaDoor
