/-
  No function of the program starts a goroutine, so no law's road does. By an AI agent. No conditions.
-/
import Derived.Test.YtpoafchgogpooaaGreatDoorProg
import Derived.SevenTiedAt
import Derived.KernelRfl
namespace Go.Proofs.YtpoafchgogpooaaGreatDoor
open Go
set_option maxRecDepth 1000000
theorem funcs_calm : Tryz.prog.funcs.any Func.goes = false := by kernel_rfl
theorem goes_not {P : Program} (h : P.funcs.any Func.goes = false) {c : OpenClaim} (hs : c.start = .entering) : false = c.goesBy P := by
  have key : ∀ f, P.goes f = false := by
    intro f
    unfold Program.goes
    rw [h, Bool.and_false, Bool.or_false]
    rw [List.any_eq_false]
    intro g _
    cases hg : P.funcs[g]? with
    | none => simp
    | some fn =>
      have := Array.any_eq_false.1 h g (Array.getElem?_eq_some_iff.1 hg).1
      rw [(Array.getElem?_eq_some_iff.1 hg).2] at this
      simpa using this
  unfold OpenClaim.goesBy Program.goesAt Program.goesFrom
  rw [hs]
  cases P.funcNamed c.func with
  | none => rfl
  | some f => simp [key f]
end Go.Proofs.YtpoafchgogpooaaGreatDoor
