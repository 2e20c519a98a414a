/-
  The row of EngineOrder: for every argument the call returns true, and the arguments read afterwards as before. By an AI agent. Conditions: the listed package variables start as the program's text lays them.
-/
import Derived.Test.YtpoafchgogpooaaGreatDoorEngineOrderWalk
import Derived.Test.YtpoafchgogpooaaGreatDoorEngineOrderFa
import Derived.Test.YtpoafchgogpooaaGreatDoorEngineOrderFb
import Derived.Test.YtpoafchgogpooaaGreatDoorEngineOrderFc
import Derived.Test.YtpoafchgogpooaaGreatDoorEngineOrderFd
import Derived.Test.YtpoafchgogpooaaGreatDoorChecked
namespace Go.Proofs.YtpoafchgogpooaaGreatDoor
open Go Go.ChangeShapes Go.WideShapes Go.ChangeAt Go.WideMaps Go.WideElems Go.RowKit Go.AV
set_option maxRecDepth 1000000
theorem engineOrder_met (os : Os) (args : Array Value) : laidMetH Tryz.prog Rows.engineOrderRow.laid ((World.doorLaid Tryz.prog 4000 os).forCall (fun _ _ => 0) ⟨#[], args, []⟩).memory :=
  laidMetH_of_parts3 (fuel := 8) (laidMet_of_run' 8 (by kernel_rfl) (by kernel_rfl)) (by kernel_rfl) (by kernel_rfl)
theorem engineOrder_lifted (os : Os) (started : os.Started) (H : Type) (enc : TypeId × Value → H) :
    ReturnsInHanded {} Tryz.checked os 3 .any (fun w args => (Rows.engineOrderSpec.pre enc Tryz.prog Tryz.f3 [] false w args ∧ laidMetH Tryz.prog Rows.engineOrderRow.laid w) ∧ sizedMet enc Tryz.prog Tryz.f3 (OpenSpec.ofChange Rows.engineOrderSpec) false w args)
      (Rows.engineOrderSpec.post enc Tryz.prog Tryz.f3 false true false false) := by
  refine returnsInHanded_of_change_and (C := Tryz.checked) (X := fun w _ => laidMetH Tryz.prog Rows.engineOrderRow.laid w) (fun _ _ _ hh h => h.of_heap hh) ownK started (by kernel_rfl) Tryz.func3
    (ChangeSpec.witness_shaped (enc := enc) (C := Tryz.checked) (os := os) (X := fun w _ => laidMetH Tryz.prog Rows.engineOrderRow.laid w) false (World.doorLaid Tryz.prog 4000 os) #[.bool false, .int .i64 0, .bool false] 8 rfl (World.shaped_of_RefB (by kernel_rfl) (by kernel_rfl)) (by kernel_rfl) (by kernel_rfl) (by kernel_rfl) (engineOrder_met os _)) ?_
  intro W base args ds gs before hval0 hW _ _ _ _
  have hval : ∀ (j : Nat) t v, Tryz.f3.params[j]? = some t → args[j]? = some v → Value.okWide Tryz.prog W .any base t v := hval0
  have hW' := hW
  obtain ⟨p, q, hA0, hV, rfl, hfz, hnd⟩ := hW
  have hA : DataW.TrodAll enc Tryz.prog W 0 (fun _ => true) true Tryz.f3.params.toList args.toList ds p := hA0
  rw [Tryz.params3] at hA hval
  obtain ⟨v0, v1, v2, d0, d1, d2, p0, p1, p2, rfl, rfl, rfl, h0, h1, h2⟩ := trodAll_three hA
  obtain ⟨rfl, rfl⟩ := trodVars_none hV
  obtain ⟨n0, rfl, rfl, rfl⟩ := open_bool Tryz.underlying4 (hval 0 4 v0 rfl rfl) h0
  obtain ⟨n1, rfl, rfl, rfl, hw1⟩ := open_int Tryz.underlying3 (hval 1 3 v1 rfl rfl) h1
  have hb1 := hw1
  simp only [Lit.wf, Bool.and_eq_true, decide_eq_true_eq] at hb1
  obtain ⟨n2, rfl, rfl, rfl⟩ := open_bool Tryz.underlying4 (hval 2 4 v2 rfl rfl) h2
  have e1 : Rows.engineOrderSpec.fn H ([.lit (.bool n0), .lit (.int .i64 n1), .lit (.bool n2)] ++ []) = { results := [.lit (.bool true)], args := [.lit (.bool n0), .lit (.int .i64 n1), .lit (.bool n2)] } := by simp [Rows.engineOrderSpec]
  refine (engineOrder_walk n0 n1 hb1.1 hb1.2 n2 W).mono fun e W' ⟨he, hw⟩ => ?_
  subst he
  refine ⟨_, rfl, _, _, _, [], [], [], hW', ?_, ?_, ?_, hw.frame _, fun h => by cases h⟩
  · rw [e1]; exact trodAll_mk1 (shut_bool Tryz.underlying4 true)
  · rw [e1]; exact trodAll_mk3 (shut_bool Tryz.underlying4 n0) (shut_int Tryz.underlying3 hw1) (shut_bool Tryz.underlying4 n2)
  · rw [e1]; rfl
theorem engineOrder_facts : joinedFacts Tryz.prog 3 Tryz.f3 Rows.engineOrderSpec Rows.engineOrderRow = true := by
  unfold joinedFacts
  rw [engineOrder_fa, engineOrder_fb, engineOrder_fc, engineOrder_fd]
  kernel_rfl
theorem engineOrder_holds : Rows.EngineOrderSaid :=
  OpenClaim.holds_of_wide 3 Tryz.f3 rfl rfl rfl rfl rfl rfl rfl ⟨rfl, rfl, rfl, rfl, rfl⟩ rfl rfl rfl rfl rfl (by kernel_rfl) Tryz.func3 engineOrder_facts
    (of_decide_eq_true (by kernel_rfl)) (by unfold Func.isWrapper; first | (rw [if_pos (by decide +kernel)]; kernel_rfl) | (rw [if_neg (by decide +kernel)]; exact ⟨rfl, rfl⟩))
    (fun os started H enc _ => engineOrder_lifted os started H enc)
end Go.Proofs.YtpoafchgogpooaaGreatDoor
