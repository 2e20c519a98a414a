/-
  A call of EngineNothing, with any number, in any memory, returns true and leaves what was there as it was. By an AI agent. The number fits an int.
-/
import Derived.Test.YtpoafchgogpooaaGreatDoorKit
namespace Go.Proofs.YtpoafchgogpooaaGreatDoor
open Go Go.RowKit Go.AV
set_option maxRecDepth 1000000
theorem nothing_run : isTrue (run 5 [wideInt]) = true := by decide +kernel
theorem nothing_walk (n : Int) (h1 : -9223372036854775808 ≤ n) (h2 : n ≤ 9223372036854775807) (W : World) :
    Calls Tryz.prog 5 #[.int .i64 n] W fun e w' => e = .returned (.bool true) ∧ Below W.heap.size W w' := by
  obtain ⟨h', hr⟩ := isTrue_ex nothing_run
  exact run_ok 5 Tryz.call5 (args_one (.rng .i64 _ _ h1 h2)) hr
end Go.Proofs.YtpoafchgogpooaaGreatDoor
