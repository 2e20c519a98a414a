/-
  The row of EngineClears: for every argument the call returns true, and the arguments read afterwards as before. By an AI agent. Conditions: the listed package variables start as the program's text lays them.
-/
import Derived.Test.YtpoafchgogpooaaGreatDoorEngineClearsWalk
import Derived.Test.YtpoafchgogpooaaGreatDoorEngineClearsFa
import Derived.Test.YtpoafchgogpooaaGreatDoorEngineClearsFb
import Derived.Test.YtpoafchgogpooaaGreatDoorEngineClearsFc
import Derived.Test.YtpoafchgogpooaaGreatDoorEngineClearsFd
import Derived.Test.YtpoafchgogpooaaGreatDoorChecked
namespace Go.Proofs.YtpoafchgogpooaaGreatDoor
open Go Go.ChangeShapes Go.WideShapes Go.ChangeAt Go.WideMaps Go.WideElems Go.RowKit Go.AV
set_option maxRecDepth 1000000
theorem engineClears_met (os : Os) (args : Array Value) : laidMetH Tryz.prog Rows.engineClearsRow.laid ((World.doorLaid Tryz.prog 4000 os).forCall (fun _ _ => 0) ⟨#[], args, []⟩).memory :=
  laidMetH_of_parts3 (fuel := 8) (laidMet_of_run' 8 (by kernel_rfl) (by kernel_rfl)) (by kernel_rfl) (by kernel_rfl)
theorem engineClears_lifted (os : Os) (started : os.Started) (H : Type) (enc : TypeId × Value → H) :
    ReturnsInHanded {} Tryz.checked os 6 .any (fun w args => (Rows.engineClearsSpec.pre enc Tryz.prog Tryz.f6 [] false w args ∧ laidMetH Tryz.prog Rows.engineClearsRow.laid w) ∧ sizedMet enc Tryz.prog Tryz.f6 (OpenSpec.ofChange Rows.engineClearsSpec) false w args)
      (Rows.engineClearsSpec.post enc Tryz.prog Tryz.f6 false true false false) := by
  refine returnsInHanded_of_change_and (C := Tryz.checked) (X := fun w _ => laidMetH Tryz.prog Rows.engineClearsRow.laid w) (fun _ _ _ hh h => h.of_heap hh) ownK started (by kernel_rfl) Tryz.func6
    (ChangeSpec.witness_shaped (enc := enc) (C := Tryz.checked) (os := os) (X := fun w _ => laidMetH Tryz.prog Rows.engineClearsRow.laid w) false (World.doorLaid Tryz.prog 4000 os) #[.int .i64 0, .int .i64 0] 8 rfl (World.shaped_of_RefB (by kernel_rfl) (by kernel_rfl)) (by kernel_rfl) (by kernel_rfl) (by kernel_rfl) (engineClears_met os _)) ?_
  intro W base args ds gs before hval0 hW _ _ _ _
  have hval : ∀ (j : Nat) t v, Tryz.f6.params[j]? = some t → args[j]? = some v → Value.okWide Tryz.prog W .any base t v := hval0
  have hW' := hW
  obtain ⟨p, q, hA0, hV, rfl, hfz, hnd⟩ := hW
  have hA : DataW.TrodAll enc Tryz.prog W 0 (fun _ => true) true Tryz.f6.params.toList args.toList ds p := hA0
  rw [Tryz.params6] at hA hval
  obtain ⟨v0, v1, d0, d1, p0, p1, rfl, rfl, rfl, h0, h1⟩ := trodAll_two hA
  obtain ⟨rfl, rfl⟩ := trodVars_none hV
  obtain ⟨n0, rfl, rfl, rfl, hw0⟩ := open_int Tryz.underlying3 (hval 0 3 v0 rfl rfl) h0
  have hb0 := hw0
  simp only [Lit.wf, Bool.and_eq_true, decide_eq_true_eq] at hb0
  obtain ⟨n1, rfl, rfl, rfl, hw1⟩ := open_int Tryz.underlying3 (hval 1 3 v1 rfl rfl) h1
  have hb1 := hw1
  simp only [Lit.wf, Bool.and_eq_true, decide_eq_true_eq] at hb1
  have e1 : Rows.engineClearsSpec.fn H ([.lit (.int .i64 n0), .lit (.int .i64 n1)] ++ []) = { results := [.lit (.bool true)], args := [.lit (.int .i64 n0), .lit (.int .i64 n1)] } := by simp [Rows.engineClearsSpec]
  refine (engineClears_walk n0 hb0.1 hb0.2 n1 hb1.1 hb1.2 W).mono fun e W' ⟨he, hw⟩ => ?_
  subst he
  refine ⟨_, rfl, _, _, _, [], [], [], hW', ?_, ?_, ?_, hw.frame _, fun h => by cases h⟩
  · rw [e1]; exact trodAll_mk1 (shut_bool Tryz.underlying4 true)
  · rw [e1]; exact trodAll_mk2 (shut_int Tryz.underlying3 hw0) (shut_int Tryz.underlying3 hw1)
  · rw [e1]; rfl
theorem engineClears_facts : joinedFacts Tryz.prog 6 Tryz.f6 Rows.engineClearsSpec Rows.engineClearsRow = true := by
  unfold joinedFacts
  rw [engineClears_fa, engineClears_fb, engineClears_fc, engineClears_fd]
  kernel_rfl
theorem engineClears_holds : Rows.EngineClearsSaid :=
  OpenClaim.holds_of_wide 6 Tryz.f6 rfl rfl rfl rfl rfl rfl rfl ⟨rfl, rfl, rfl, rfl, rfl⟩ rfl rfl rfl rfl rfl (by kernel_rfl) Tryz.func6 engineClears_facts
    (of_decide_eq_true (by kernel_rfl)) (by unfold Func.isWrapper; first | (rw [if_pos (by decide +kernel)]; kernel_rfl) | (rw [if_neg (by decide +kernel)]; exact ⟨rfl, rfl⟩))
    (fun os started H enc _ => engineClears_lifted os started H enc)
end Go.Proofs.YtpoafchgogpooaaGreatDoor
