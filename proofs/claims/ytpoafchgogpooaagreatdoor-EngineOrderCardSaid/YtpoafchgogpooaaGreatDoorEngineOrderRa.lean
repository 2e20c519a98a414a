/-
  Runs of EngineOrder, each for given arguments or a whole range of them. By an AI agent. No conditions.
-/
import Derived.Test.YtpoafchgogpooaaGreatDoorKit
namespace Go.Proofs.YtpoafchgogpooaaGreatDoor
open Go Go.AV
set_option maxRecDepth 1000000
theorem order_f_true : isTrue (run 3 [.bool false, wideInt, .bool true]) = true := by decide +kernel
theorem order_k2_true : isTrue (run 3 [.bool true, .int .i64 2, .bool true]) = true := by decide +kernel
theorem order_k6_true : isTrue (run 3 [.bool true, .int .i64 6, .bool true]) = true := by decide +kernel
theorem order_k1_false : isTrue (run 3 [.bool true, .int .i64 1, .bool false]) = true := by decide +kernel
theorem order_k5_false : isTrue (run 3 [.bool true, .int .i64 5, .bool false]) = true := by decide +kernel
end Go.Proofs.YtpoafchgogpooaaGreatDoor
