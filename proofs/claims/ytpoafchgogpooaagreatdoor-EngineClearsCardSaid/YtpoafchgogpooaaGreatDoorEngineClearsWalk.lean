/-
  A call of EngineClears, with any arguments, in any memory, returns true and leaves what was there as it was. By an AI agent. The numbers fit an int.
-/
import Derived.Test.YtpoafchgogpooaaGreatDoorEngineClearsRlo
import Derived.Test.YtpoafchgogpooaaGreatDoorEngineClearsRk1
import Derived.Test.YtpoafchgogpooaaGreatDoorEngineClearsRk2a
import Derived.Test.YtpoafchgogpooaaGreatDoorEngineClearsRk2b
import Derived.Test.YtpoafchgogpooaaGreatDoorEngineClearsRk3a
import Derived.Test.YtpoafchgogpooaaGreatDoorEngineClearsRk3b
import Derived.Test.YtpoafchgogpooaaGreatDoorEngineClearsRmid
import Derived.Test.YtpoafchgogpooaaGreatDoorEngineClearsRhi
namespace Go.Proofs.YtpoafchgogpooaaGreatDoor
open Go Go.RowKit Go.AV
set_option maxRecDepth 1000000
theorem clears_k2 : ∀ r, r ≤ 6 → cutB 6 8 36 6 r [wideInt, .int .i64 2] = true
  | 0, _ => clears_k2_0
  | 1, _ => clears_k2_1
  | 2, _ => clears_k2_2
  | 3, _ => clears_k2_3
  | 4, _ => clears_k2_4
  | 5, _ => clears_k2_5
  | 6, _ => clears_k2_6
  | n + 7, h => absurd h (by omega)
theorem clears_k3 : ∀ r, r ≤ 6 → cutB 6 8 36 6 r [wideInt, .int .i64 3] = true
  | 0, _ => clears_k3_0
  | 1, _ => clears_k3_1
  | 2, _ => clears_k3_2
  | 3, _ => clears_k3_3
  | 4, _ => clears_k3_4
  | 5, _ => clears_k3_5
  | 6, _ => clears_k3_6
  | n + 7, h => absurd h (by omega)
theorem args2 {W : World} {v u : V} {c d : Value} {ι : Nat → Option Pl} {F : Nat → Prop} (h : VR ι F W v c) (k : VR ι F W u d) : AR ι F W [v, u] #[c, d] :=
  args_more h (args_one k)
theorem engineClears_walk (n : Int) (h1 : -9223372036854775808 ≤ n) (h2 : n ≤ 9223372036854775807) (m : Int) (g1 : -9223372036854775808 ≤ m) (g2 : m ≤ 9223372036854775807) (W : World) :
    Calls Tryz.prog 6 #[.int .i64 n, .int .i64 m] W fun e w' => e = .returned (.bool true) ∧ Below W.heap.size W w' := by
  rcases Int.lt_or_le m 1 with h0 | h0
  · exact cutB_ok 6 8 36 6 (args2 (.rng .i64 _ _ h1 h2) (.rng .i64 _ _ g1 (by omega))) clears_lo
  rcases Int.lt_or_le 1000 m with h6 | h6
  · exact cutB_ok 6 8 36 6 (args2 (.rng .i64 _ _ h1 h2) (.rng .i64 _ _ (by omega) g2)) clears_hi
  rcases Int.lt_or_le 3 m with h7 | h7
  · exact cutB_ok 6 8 36 6 (args2 (.rng .i64 _ _ h1 h2) (.rng .i64 _ _ (by omega) (by omega))) clears_mid
  have hn : m = 1 ∨ m = 2 ∨ m = 3 := by omega
  rcases hn with rfl | rfl | rfl
  · exact cutB_ok 6 8 36 6 (args2 (.rng .i64 _ _ h1 h2) (.int .i64 1)) clears_k1
  · exact cutB_ok 6 8 36 6 (args2 (.rng .i64 _ _ h1 h2) (.int .i64 2)) clears_k2
  · exact cutB_ok 6 8 36 6 (args2 (.rng .i64 _ _ h1 h2) (.int .i64 3)) clears_k3
end Go.Proofs.YtpoafchgogpooaaGreatDoor
