/-
  EngineNothing's tied card: for every number the call returns true, and the argument reads afterwards as before; what the row lists of package variables is tied to the program's text. By an AI agent. Conditions: those of the given card.
-/
import Derived.Test.YtpoafchgogpooaaGreatDoorEngineNothingRow
import Derived.Test.YtpoafchgogpooaaGreatDoorCalm
import Derived.Test.YtpoafchgogpooaaGreatDoorTie
import Derived.Test.YtpoafchgogpooaaGreatDoorCards
import Derived.SevenTiedAt
namespace Go.Proofs.YtpoafchgogpooaaGreatDoor
open Go
set_option maxRecDepth 1000000
theorem nothing_card : Rows.EngineNothingCardSaid :=
  Claim7.holds_tied_plain_at .later [] [.data, .data, .data, .sentinel, .sentinel] true (true, "577865e93783ab19bda62d56fa10e5b56f46270cd6bb1dabb2b00c02162771e8") true
    nothing_holds (fun _ h => by cases h) (by kernel_rfl) (fun _ h => by cases h) engineNothing_row_tie rfl ⟨rfl, rfl⟩ (by kernel_rfl) rfl
    (fun f fn hf hfn => by
      obtain rfl : f = 5 := Option.some.inj ((show Tryz.prog.funcNamed "tansy/tansylaw27.EngineNothing" = some 5 by kernel_rfl).symm.trans hf) |>.symm
      obtain rfl : fn = Tryz.f5 := (Option.some.inj (Tryz.func5.symm.trans hfn)).symm
      exact ⟨by kernel_rfl, fun j t ht => by
        rw [Tryz.params5] at ht
        have hm : t ∈ [3] := by simpa using Array.mem_of_getElem? ht
        have hall : ([3].all fun u => !Tryz.prog.wantsStandIn u) = true := by kernel_rfl
        exact (show Tryz.prog.wantsStandIn t = false by simpa using List.all_eq_true.1 hall t hm)⟩)
    (goes_not funcs_calm rfl)
#print axioms nothing_card
end Go.Proofs.YtpoafchgogpooaaGreatDoor
