/- The number of the table of powers. -/
import Derived.Test.YtgaojfebmcmpaaaGreatDoorProg
import GoSem.Claims
import Derived.KernelRfl
namespace Go.Proofs.YtgaojfebmcmpaaaGreatDoor
theorem g_pow10 : Tryz.prog.globalNamed "internal/strconv.uint64pow10" = some 3 := by kernel_rfl
end Go.Proofs.YtgaojfebmcmpaaaGreatDoor
