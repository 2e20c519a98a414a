/-
  A run of the machine that answers true is a run of the program that answers true and leaves memory as it was. By an AI agent. Conditions: none beyond what each theorem states.
-/
import Derived.Test.YtpoafchgogpooaaGreatDoorOk
import Derived.Test.YtpoafchgogpooaaGreatDoorAvF
import Derived.KernelRfl
set_option linter.unusedVariables false
set_option linter.unusedSimpArgs false
namespace Go.Proofs
open Go.Shelf
def Tryz.ren : Ren where
  f := fun x => match x with
    | 156 => 107
    | 165 => 201
    | 166 => 202
    | 169 => 203
    | 240 => 267
    | 241 => 268
    | 276 => 308
    | 277 => 309
    | n => n
  t := fun x => match x with
    | 31 => 80
    | 9 => 9
    | 3 => 3
    | 4 => 4
    | 0 => 0
    | 20 => 20
    | 72 => 277
    | 76 => 280
    | 70 => 275
    | 37 => 114
    | 75 => 279
    | 127 => 329
    | 164 => 364
    | 5 => 5
    | 80 => 61
    | n => n
  g := fun x => x
theorem Tryz.laysJoin : Lays.n156 Tryz.prog Tryz.ren :=
{ mixed := by kernel_rfl, f156 := Eq.trans Tryz.func107 (congrArg some (by kernel_rfl)),
  f165 := Eq.trans Tryz.func201 (congrArg some (by kernel_rfl)),
  f166 := Eq.trans Tryz.func202 (congrArg some (by kernel_rfl)),
  f169 := Eq.trans Tryz.func203 (congrArg some (by kernel_rfl)),
  f240 := Eq.trans Tryz.func267 (congrArg some (by kernel_rfl)),
  f241 := Eq.trans Tryz.func268 (congrArg some (by kernel_rfl)),
  f276 := Eq.trans Tryz.func308 (congrArg some (by kernel_rfl)),
  f277 := Eq.trans Tryz.func309 (congrArg some (by kernel_rfl)), t0 := Tryz.underlying0,
  a0 := Tryz.isAgg0, z0 := Tryz.sizeOf0, v0 := Tryz.zeroValue0, t3 := Tryz.underlying3, a3 := Tryz.isAgg3,
  z3 := Tryz.sizeOf3, v3 := Tryz.zeroValue3, t4 := Tryz.underlying4, a4 := Tryz.isAgg4, z4 := Tryz.sizeOf4,
  v4 := Tryz.zeroValue4, t9 := Tryz.underlying9, a9 := Tryz.isAgg9, z9 := Tryz.sizeOf9, v9 := Tryz.zeroValue9,
  t20 := Tryz.underlying20, a20 := Tryz.isAgg20, z20 := Tryz.sizeOf20, v20 := Tryz.zeroValue20,
  t31 := Tryz.underlying80, a31 := Tryz.isAgg80, z31 := Tryz.sizeOf80, v31 := Tryz.zeroValue80,
  t37 := Tryz.underlying114, a37 := Tryz.isAgg114, z37 := Tryz.sizeOf114, v37 := Tryz.zeroValue114,
  t70 := Tryz.underlying275, a70 := Tryz.isAgg275, z70 := Tryz.sizeOf275, v70 := Tryz.zeroValue275,
  t72 := Tryz.underlying277, a72 := Tryz.isAgg277, z72 := Tryz.sizeOf277, v72 := Tryz.zeroValue277,
  t75 := Tryz.underlying279, a75 := Tryz.isAgg279, z75 := Tryz.sizeOf279, v75 := Tryz.zeroValue279,
  t76 := Tryz.underlying280, a76 := Tryz.isAgg280, z76 := Tryz.sizeOf280, v76 := Tryz.zeroValue280,
  t127 := Tryz.underlying329, a127 := Tryz.isAgg329, z127 := Tryz.sizeOf329, v127 := Tryz.zeroValue329,
  t164 := Tryz.underlying364, a164 := Tryz.isAgg364, z164 := Tryz.sizeOf364, v164 := Tryz.zeroValue364 }
theorem Tryz.extraJoin : Builder.Extra Tryz.prog Tryz.ren where
  sizeBuilder := by kernel_rfl
  liesBuilder := by kernel_rfl
  t5 := Tryz.underlying5
  a5 := Tryz.isAgg5
  z5 := Tryz.sizeOf5
  v5 := Tryz.zeroValue5
  infoByte := by kernel_rfl
  cellsByte := by kernel_rfl
  sizeByte := by kernel_rfl
  neB5 := by decide
end Go.Proofs
namespace Go.AV
open Go Go.Proofs
set_option maxRecDepth 1000000
/-- The functions that are told. -/
noncomputable def seatX : XT := fun call f => match Nat.beq f 107 with
  | true => some (fun xs h => joinRun TTf fnOf 400 call f xs h)
  | false => none
noncomputable def run (f : FuncId) (xs : List V) : RR := mach TTf fnOf [68] seatX 400 60 f xs ⟨0, .leaf⟩
theorem seatX_sim : XSim seatX := by
  intro call hc f g hg M xs h h' s
  unfold seatX at hg
  split at hg
  · cases hg
    exact joinRun_sim hc f xs s
  · cases hg
theorem seatX_ok : XOk Tryz.prog TTf seatX := by
  intro call hc hs hD f g hg xs h ι F w args hw ha hok
  unfold seatX at hg
  split at hg
  · rename_i hf
    cases hg
    have := Nat.eq_of_beq_eq_true hf
    subst this
    exact joinRun_ok (fun bk o c ts sep w h1 h2 h3 h4 h5 h6 h7 => Any.strings_Join_many_big Tryz.laysJoin Tryz.extraJoin bk o c ts sep w h1 h2 h3 h4 h5 h6 h7) TT_ok hc hD fn_ok (fun args w => Tryz.call107 args w) hw ha hok
  · cases hg
theorem run_ok (f : FuncId) (hf : ∀ args w, (callFunc f args).run Tryz.prog w = .ok (.enter f args) w) {xs : List V} {args : Array Value} {W : World} (ha : AR (fun _ => none) (fun b => b < W.heap.size) W xs args) {h' : Hp}
    (hr : run f xs = .val (.bool true) h') : Calls Tryz.prog f args W fun e w' => e = .returned (.bool true) ∧ RowKit.Below W.heap.size W w' := by
  have hw : WR (fun _ => none) (fun b => b < W.heap.size) ⟨0, .leaf⟩ W :=
    ⟨fun _ _ => rfl, fun o p h => (by cases h), fun o h _ => absurd rfl h, fun o o' p p' _ h => (by cases h), fun b hb => hb⟩
  have hm := mach_ok (P := Tryz.prog) (T := TTf) (fnOf := fnOf) (G := [68]) (X := seatX) (N := 400) (by kernel_rfl) TT_ok fn_ok (fun f hf => by
    have : f = 68 := by simpa [memN_iff] using hf
    subst this
    decide +kernel) seatX_ok seatX_sim 60
  unfold run at hr
  have := hm f xs ⟨0, .leaf⟩ _ _ W args hw ha (by rw [hr]; trivial)
  rw [hr] at this
  rcases this with ⟨_, hc⟩ | ⟨c, w', he, _⟩
  · refine Calls.mono hc (fun e w' hR => ?_)
    obtain ⟨c, ι', rfl, e1, _, hv⟩ := hR
    cases hv
    exact ⟨rfl, e1.os, e1.tape, e1.out, e1.size, fun k hk => e1.same k hk⟩
  · rw [hf] at he; cases he
end Go.AV
namespace Go.AV
def isTrue : RR → Bool
  | .val (.bool true) _ => true
  | _ => false
theorem isTrue_ex {r : RR} (h : isTrue r = true) : ∃ h', r = .val (.bool true) h' := by
  unfold isTrue at h
  split at h
  · exact ⟨_, rfl⟩
  · cases h
def wideInt : V := .rng .i64 (-9223372036854775808) 9223372036854775807
end Go.AV
