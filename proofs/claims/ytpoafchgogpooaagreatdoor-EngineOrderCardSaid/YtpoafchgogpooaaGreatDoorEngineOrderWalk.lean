/-
  A call of EngineOrder, with any arguments, in any memory, returns true and leaves what was there as it was. By an AI agent. The number fits an int.
-/
import Derived.Test.YtpoafchgogpooaaGreatDoorEngineOrderRa
import Derived.Test.YtpoafchgogpooaaGreatDoorEngineOrderRb
import Derived.Test.YtpoafchgogpooaaGreatDoorEngineOrderRc
import Derived.Test.YtpoafchgogpooaaGreatDoorEngineOrderRd
namespace Go.Proofs.YtpoafchgogpooaaGreatDoor
open Go Go.RowKit Go.AV
set_option maxRecDepth 1000000
theorem args3 {W : World} {r t : Bool} {v : V} {c : Value} {ι : Nat → Option Pl} {F : Nat → Prop} (h : VR ι F W v c) : AR ι F W [.bool r, v, .bool t] #[.bool r, c, .bool t] :=
  args_more (.bool r) (args_more h (args_one (.bool t)))
theorem engineOrder_walk (r : Bool) (n : Int) (h1 : -9223372036854775808 ≤ n) (h2 : n ≤ 9223372036854775807) (t : Bool) (W : World) :
    Calls Tryz.prog 3 #[.bool r, .int .i64 n, .bool t] W fun e w' => e = .returned (.bool true) ∧ Below W.heap.size W w' := by
  cases r <;> cases t
  · exact run_ok 3 Tryz.call3 (args3 (.rng .i64 _ _ h1 h2)) order_f_false
  · exact run_ok 3 Tryz.call3 (args3 (.rng .i64 _ _ h1 h2)) order_f_true
  ·
    rcases Int.lt_or_le n 1 with h0 | h0
    · exact run_ok 3 Tryz.call3 (args3 (.rng .i64 _ _ h1 (by omega))) order_lo_false
    rcases Int.lt_or_le 6 n with h6 | h6
    · exact run_ok 3 Tryz.call3 (args3 (.rng .i64 _ _ (by omega) h2)) order_hi_false
    have hn : n = 1 ∨ n = 2 ∨ n = 3 ∨ n = 4 ∨ n = 5 ∨ n = 6 := by omega
    rcases hn with rfl | rfl | rfl | rfl | rfl | rfl
    · exact run_ok 3 Tryz.call3 (args3 (.int .i64 1)) order_k1_false
    · exact run_ok 3 Tryz.call3 (args3 (.int .i64 2)) order_k2_false
    · exact run_ok 3 Tryz.call3 (args3 (.int .i64 3)) order_k3_false
    · exact run_ok 3 Tryz.call3 (args3 (.int .i64 4)) order_k4_false
    · exact run_ok 3 Tryz.call3 (args3 (.int .i64 5)) order_k5_false
    · exact run_ok 3 Tryz.call3 (args3 (.int .i64 6)) order_k6_false
  ·
    rcases Int.lt_or_le n 1 with h0 | h0
    · exact run_ok 3 Tryz.call3 (args3 (.rng .i64 _ _ h1 (by omega))) order_lo_true
    rcases Int.lt_or_le 6 n with h6 | h6
    · exact run_ok 3 Tryz.call3 (args3 (.rng .i64 _ _ (by omega) h2)) order_hi_true
    have hn : n = 1 ∨ n = 2 ∨ n = 3 ∨ n = 4 ∨ n = 5 ∨ n = 6 := by omega
    rcases hn with rfl | rfl | rfl | rfl | rfl | rfl
    · exact run_ok 3 Tryz.call3 (args3 (.int .i64 1)) order_k1_true
    · exact run_ok 3 Tryz.call3 (args3 (.int .i64 2)) order_k2_true
    · exact run_ok 3 Tryz.call3 (args3 (.int .i64 3)) order_k3_true
    · exact run_ok 3 Tryz.call3 (args3 (.int .i64 4)) order_k4_true
    · exact run_ok 3 Tryz.call3 (args3 (.int .i64 5)) order_k5_true
    · exact run_ok 3 Tryz.call3 (args3 (.int .i64 6)) order_k6_true
end Go.Proofs.YtpoafchgogpooaaGreatDoor
