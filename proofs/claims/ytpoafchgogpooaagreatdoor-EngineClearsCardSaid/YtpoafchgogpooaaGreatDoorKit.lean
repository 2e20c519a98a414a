/-
  Small things that every law's proof uses: lists of arguments as the machine has them; the door's own world. By an AI agent. No conditions.
-/
import Derived.Test.YtpoafchgogpooaaGreatDoorRun
import Derived.Test.YtpoafchgogpooaaGreatDoorRows
import Derived.ProofKit
import Derived.LaidMore
import Derived.OpenShut
import Derived.Stop.Joined
import Derived.ChangeVars
namespace Go.Proofs.YtpoafchgogpooaaGreatDoor
open Go Go.AV
set_option maxRecDepth 1000000
theorem ownK : ownKnob Tryz.prog.godebug = none := by kernel_rfl
theorem args_one {W : World} {v : V} {c : Value} {ι : Nat → Option Pl} {F : Nat → Prop} (h : VR ι F W v c) : AR ι F W [v] #[c] := ⟨rfl, fun j u x hu hx => by
  cases j with
  | zero => simp at hu hx; subst hu; subst hx; exact h
  | succ j => simp at hu⟩
theorem args_more {W : World} {v : V} {c : Value} {vs : List V} {cs : List Value} {ι : Nat → Option Pl} {F : Nat → Prop} (h : VR ι F W v c) (hs : AR ι F W vs cs.toArray) : AR ι F W (v :: vs) (c :: cs).toArray := ⟨by have := hs.size; simp at this ⊢; exact this, fun j u x hu hx => by
  cases j with
  | zero => simp at hu hx; subst hu; subst hx; exact h
  | succ j => exact hs.at_ j u x (by simpa using hu) (by simpa using hx)⟩
theorem door_met (os : Os) (args : Array Value) : laidMetH Tryz.prog Rows.engineNothingRow.laid ((World.doorLaid Tryz.prog 4000 os).forCall (fun _ _ => 0) ⟨#[], args, []⟩).memory :=
  laidMetH_of_parts3 (fuel := 8) (laidMet_of_run' 8 (by kernel_rfl) (by kernel_rfl)) (by kernel_rfl) (by kernel_rfl)
end Go.Proofs.YtpoafchgogpooaaGreatDoor
