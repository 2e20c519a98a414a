/-
  A computed fact of EngineClears: the functions of the law that have no body or are answered in place. By an AI agent. No conditions.
-/
import Derived.Test.YtpoafchgogpooaaGreatDoorRows
import Derived.Test.YtpoafchgogpooaaGreatDoorProg
import Derived.JoinedOf
import Derived.SevenTiedAt
import Derived.KernelRfl
namespace Go.Proofs.YtpoafchgogpooaaGreatDoor
open Go
set_option maxRecDepth 1000000
theorem engineClears_fa : Tryz.prog.inPlace 6 = Rows.engineClearsRow.inPlace := by kernel_rfl
end Go.Proofs.YtpoafchgogpooaaGreatDoor
