/-
  EngineClears's tied card: for every argument the call returns true, and the arguments read afterwards as before; what the row lists of package variables is tied to the program's text. By an AI agent. Conditions: those of the given card.
-/
import Derived.Test.YtpoafchgogpooaaGreatDoorEngineClearsRow
import Derived.Test.YtpoafchgogpooaaGreatDoorCalm
import Derived.Test.YtpoafchgogpooaaGreatDoorTie
import Derived.Test.YtpoafchgogpooaaGreatDoorCards
import Derived.SevenTiedAt
namespace Go.Proofs.YtpoafchgogpooaaGreatDoor
open Go
set_option maxRecDepth 1000000
theorem engineClears_card : Rows.EngineClearsCardSaid :=
  Claim7.holds_tied_plain_at .later [] [.data, .data, .data, .sentinel, .sentinel] true (true, "577865e93783ab19bda62d56fa10e5b56f46270cd6bb1dabb2b00c02162771e8") true
    engineClears_holds (fun _ h => by cases h) (by kernel_rfl) (fun _ h => by cases h) engineClears_row_tie rfl ⟨rfl, rfl⟩ (by kernel_rfl) rfl
    (fun f fn hf hfn => by
      obtain rfl : f = 6 := Option.some.inj ((show Tryz.prog.funcNamed "tansy/tansylaw27.EngineClears" = some 6 by kernel_rfl).symm.trans hf) |>.symm
      obtain rfl : fn = Tryz.f6 := (Option.some.inj (Tryz.func6.symm.trans hfn)).symm
      exact ⟨by kernel_rfl, fun j t ht => by
        rw [Tryz.params6] at ht
        have hm : t ∈ [3, 3] := by simpa using Array.mem_of_getElem? ht
        have hall : ([3, 3].all fun u => !Tryz.prog.wantsStandIn u) = true := by kernel_rfl
        exact (show Tryz.prog.wantsStandIn t = false by simpa using List.all_eq_true.1 hall t hm)⟩)
    (goes_not funcs_calm rfl)
#print axioms engineClears_card
end Go.Proofs.YtpoafchgogpooaaGreatDoor
