/-
  Runs of EngineClears for one number or one range of them as its second argument, one for each way that it takes. By an AI agent. No conditions.
-/
import Derived.Test.YtpoafchgogpooaaGreatDoorKit
namespace Go.Proofs.YtpoafchgogpooaaGreatDoor
open Go Go.AV
set_option maxRecDepth 1000000
theorem clears_k1_0 : cutB 6 8 36 6 0 [wideInt, .int .i64 1] = true := by decide +kernel
theorem clears_k1_1 : cutB 6 8 36 6 1 [wideInt, .int .i64 1] = true := by decide +kernel
theorem clears_k1_2 : cutB 6 8 36 6 2 [wideInt, .int .i64 1] = true := by decide +kernel
theorem clears_k1_3 : cutB 6 8 36 6 3 [wideInt, .int .i64 1] = true := by decide +kernel
theorem clears_k1_4 : cutB 6 8 36 6 4 [wideInt, .int .i64 1] = true := by decide +kernel
theorem clears_k1_5 : cutB 6 8 36 6 5 [wideInt, .int .i64 1] = true := by decide +kernel
theorem clears_k1_6 : cutB 6 8 36 6 6 [wideInt, .int .i64 1] = true := by decide +kernel
theorem clears_k1 : ∀ r, r ≤ 6 → cutB 6 8 36 6 r [wideInt, .int .i64 1] = true
  | 0, _ => clears_k1_0
  | 1, _ => clears_k1_1
  | 2, _ => clears_k1_2
  | 3, _ => clears_k1_3
  | 4, _ => clears_k1_4
  | 5, _ => clears_k1_5
  | 6, _ => clears_k1_6
  | n + 7, h => absurd h (by omega)
end Go.Proofs.YtpoafchgogpooaaGreatDoor
