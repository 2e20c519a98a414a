/-
  A computed fact of EngineClears: the package variables that the law's road names. By an AI agent. No conditions.
-/
import Derived.Test.YtpoafchgogpooaaGreatDoorRows
import Derived.Test.YtpoafchgogpooaaGreatDoorProg
import Derived.JoinedOf
import Derived.SevenTiedAt
import Derived.KernelRfl
namespace Go.Proofs.YtpoafchgogpooaaGreatDoor
open Go
set_option maxRecDepth 1000000
theorem engineClears_fd : Tryz.prog.varsNamed 6 = Rows.engineClearsRow.named := by kernel_rfl
end Go.Proofs.YtpoafchgogpooaaGreatDoor
