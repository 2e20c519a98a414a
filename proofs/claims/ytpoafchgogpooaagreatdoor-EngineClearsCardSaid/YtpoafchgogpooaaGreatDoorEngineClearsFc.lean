/-
  A computed fact of EngineClears: functions on the law's road call each other. By an AI agent. No conditions.
-/
import Derived.Test.YtpoafchgogpooaaGreatDoorRows
import Derived.Test.YtpoafchgogpooaaGreatDoorProg
import Derived.JoinedOf
import Derived.SevenTiedAt
import Derived.KernelRfl
namespace Go.Proofs.YtpoafchgogpooaaGreatDoor
open Go
set_option maxRecDepth 1000000
theorem engineClears_fc : Tryz.prog.recurses 6 = true := by kernel_rfl
end Go.Proofs.YtpoafchgogpooaaGreatDoor
