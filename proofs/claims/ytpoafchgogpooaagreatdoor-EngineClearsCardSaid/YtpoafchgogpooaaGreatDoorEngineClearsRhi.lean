/-
  Runs of EngineClears for one number or one range of them as its second argument, one for each way that it takes. By an AI agent. No conditions.
-/
import Derived.Test.YtpoafchgogpooaaGreatDoorKit
namespace Go.Proofs.YtpoafchgogpooaaGreatDoor
open Go Go.AV
set_option maxRecDepth 1000000
theorem clears_hi_0 : cutB 6 8 36 6 0 [wideInt, .rng .i64 1001 9223372036854775807] = true := by decide +kernel
theorem clears_hi_1 : cutB 6 8 36 6 1 [wideInt, .rng .i64 1001 9223372036854775807] = true := by decide +kernel
theorem clears_hi_2 : cutB 6 8 36 6 2 [wideInt, .rng .i64 1001 9223372036854775807] = true := by decide +kernel
theorem clears_hi_3 : cutB 6 8 36 6 3 [wideInt, .rng .i64 1001 9223372036854775807] = true := by decide +kernel
theorem clears_hi_4 : cutB 6 8 36 6 4 [wideInt, .rng .i64 1001 9223372036854775807] = true := by decide +kernel
theorem clears_hi_5 : cutB 6 8 36 6 5 [wideInt, .rng .i64 1001 9223372036854775807] = true := by decide +kernel
theorem clears_hi_6 : cutB 6 8 36 6 6 [wideInt, .rng .i64 1001 9223372036854775807] = true := by decide +kernel
theorem clears_hi : ∀ r, r ≤ 6 → cutB 6 8 36 6 r [wideInt, .rng .i64 1001 9223372036854775807] = true
  | 0, _ => clears_hi_0
  | 1, _ => clears_hi_1
  | 2, _ => clears_hi_2
  | 3, _ => clears_hi_3
  | 4, _ => clears_hi_4
  | 5, _ => clears_hi_5
  | 6, _ => clears_hi_6
  | n + 7, h => absurd h (by omega)
end Go.Proofs.YtpoafchgogpooaaGreatDoor
