/- Texts as lists of bytes: joined. -/
import Derived.Test.YtgaojfebmcmpaaaGreatDoorLinesWalk
import Derived.Test.YtgaojfebmcmpaaaGreatDoorStrs
namespace Go.Proofs.YtgaojfebmcmpaaaGreatDoor
open Go.RowKit
theorem bs_cat (a b : List UInt8) : bs a ++ bs b = bs (a ++ b) := by
  have : (bs a ++ bs b).data.toList = a ++ b := by simp [bs]
  rw [← this, bs_self]
theorem data_cat (a b : ByteArray) : (a ++ b).data.toList = a.data.toList ++ b.data.toList := by simp
end Go.Proofs.YtgaojfebmcmpaaaGreatDoor
