/-
  Runs of EngineOrder, each for given arguments or a whole range of them. By an AI agent. No conditions.
-/
import Derived.Test.YtpoafchgogpooaaGreatDoorKit
namespace Go.Proofs.YtpoafchgogpooaaGreatDoor
open Go Go.AV
set_option maxRecDepth 1000000
theorem order_hi_true : isTrue (run 3 [.bool true, .rng .i64 7 9223372036854775807, .bool true]) = true := by decide +kernel
theorem order_k4_true : isTrue (run 3 [.bool true, .int .i64 4, .bool true]) = true := by decide +kernel
theorem order_lo_false : isTrue (run 3 [.bool true, .rng .i64 (-9223372036854775808) 0, .bool false]) = true := by decide +kernel
theorem order_k3_false : isTrue (run 3 [.bool true, .int .i64 3, .bool false]) = true := by decide +kernel
end Go.Proofs.YtpoafchgogpooaaGreatDoor
