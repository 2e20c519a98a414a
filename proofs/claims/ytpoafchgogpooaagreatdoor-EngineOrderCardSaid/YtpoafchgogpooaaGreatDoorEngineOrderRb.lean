/-
  Runs of EngineOrder, each for given arguments or a whole range of them. By an AI agent. No conditions.
-/
import Derived.Test.YtpoafchgogpooaaGreatDoorKit
namespace Go.Proofs.YtpoafchgogpooaaGreatDoor
open Go Go.AV
set_option maxRecDepth 1000000
theorem order_lo_true : isTrue (run 3 [.bool true, .rng .i64 (-9223372036854775808) 0, .bool true]) = true := by decide +kernel
theorem order_k3_true : isTrue (run 3 [.bool true, .int .i64 3, .bool true]) = true := by decide +kernel
theorem order_f_false : isTrue (run 3 [.bool false, wideInt, .bool false]) = true := by decide +kernel
theorem order_k2_false : isTrue (run 3 [.bool true, .int .i64 2, .bool false]) = true := by decide +kernel
theorem order_k6_false : isTrue (run 3 [.bool true, .int .i64 6, .bool false]) = true := by decide +kernel
end Go.Proofs.YtpoafchgogpooaaGreatDoor
