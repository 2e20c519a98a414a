/-
  Runs of EngineOrder, each for given arguments or a whole range of them. By an AI agent. No conditions.
-/
import Derived.Test.YtpoafchgogpooaaGreatDoorKit
namespace Go.Proofs.YtpoafchgogpooaaGreatDoor
open Go Go.AV
set_option maxRecDepth 1000000
theorem order_k1_true : isTrue (run 3 [.bool true, .int .i64 1, .bool true]) = true := by decide +kernel
theorem order_k5_true : isTrue (run 3 [.bool true, .int .i64 5, .bool true]) = true := by decide +kernel
theorem order_hi_false : isTrue (run 3 [.bool true, .rng .i64 7 9223372036854775807, .bool false]) = true := by decide +kernel
theorem order_k4_false : isTrue (run 3 [.bool true, .int .i64 4, .bool false]) = true := by decide +kernel
end Go.Proofs.YtpoafchgogpooaaGreatDoor
