/-
  Runs of EngineClears for one number or one range of them as its second argument, one for each way that it takes. By an AI agent. No conditions.
-/
import Derived.Test.YtpoafchgogpooaaGreatDoorKit
namespace Go.Proofs.YtpoafchgogpooaaGreatDoor
open Go Go.AV
set_option maxRecDepth 1000000
theorem clears_k3_4 : cutB 6 8 36 6 4 [wideInt, .int .i64 3] = true := by decide +kernel
theorem clears_k3_5 : cutB 6 8 36 6 5 [wideInt, .int .i64 3] = true := by decide +kernel
theorem clears_k3_6 : cutB 6 8 36 6 6 [wideInt, .int .i64 3] = true := by decide +kernel
end Go.Proofs.YtpoafchgogpooaaGreatDoor
