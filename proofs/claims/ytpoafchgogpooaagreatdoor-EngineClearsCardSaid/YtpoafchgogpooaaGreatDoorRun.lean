/-
  A run of the machine that answers true is a run of the program that answers true and leaves memory as it was. By an AI agent. Conditions: none beyond what each theorem states.
-/
import Derived.Test.YtpoafchgogpooaaGreatDoorOk
import Derived.Test.YtpoafchgogpooaaGreatDoorAvF
import Derived.KernelRfl
import Derived.Lib.Walk
import Derived.Laws.Externs
import Derived.Test.YtpoafchgogpooaaGreatDoorAvD
set_option linter.unusedVariables false
set_option linter.unusedSimpArgs false
namespace Go.Proofs
open Go.Shelf
def Tryz.ren : Ren where
  f := fun x => match x with
    | 156 => 107
    | 165 => 201
    | 166 => 202
    | 169 => 203
    | 240 => 267
    | 241 => 268
    | 276 => 308
    | 277 => 309
    | n => n
  t := fun x => match x with
    | 31 => 80
    | 9 => 9
    | 3 => 3
    | 4 => 4
    | 0 => 0
    | 20 => 20
    | 72 => 277
    | 76 => 280
    | 70 => 275
    | 37 => 114
    | 75 => 279
    | 127 => 329
    | 164 => 364
    | 5 => 5
    | 80 => 61
    | n => n
  g := fun x => x
theorem Tryz.laysJoin : Lays.n156 Tryz.prog Tryz.ren :=
{ mixed := by kernel_rfl, f156 := Eq.trans Tryz.func107 (congrArg some (by kernel_rfl)),
  f165 := Eq.trans Tryz.func201 (congrArg some (by kernel_rfl)),
  f166 := Eq.trans Tryz.func202 (congrArg some (by kernel_rfl)),
  f169 := Eq.trans Tryz.func203 (congrArg some (by kernel_rfl)),
  f240 := Eq.trans Tryz.func267 (congrArg some (by kernel_rfl)),
  f241 := Eq.trans Tryz.func268 (congrArg some (by kernel_rfl)),
  f276 := Eq.trans Tryz.func308 (congrArg some (by kernel_rfl)),
  f277 := Eq.trans Tryz.func309 (congrArg some (by kernel_rfl)), t0 := Tryz.underlying0,
  a0 := Tryz.isAgg0, z0 := Tryz.sizeOf0, v0 := Tryz.zeroValue0, t3 := Tryz.underlying3, a3 := Tryz.isAgg3,
  z3 := Tryz.sizeOf3, v3 := Tryz.zeroValue3, t4 := Tryz.underlying4, a4 := Tryz.isAgg4, z4 := Tryz.sizeOf4,
  v4 := Tryz.zeroValue4, t9 := Tryz.underlying9, a9 := Tryz.isAgg9, z9 := Tryz.sizeOf9, v9 := Tryz.zeroValue9,
  t20 := Tryz.underlying20, a20 := Tryz.isAgg20, z20 := Tryz.sizeOf20, v20 := Tryz.zeroValue20,
  t31 := Tryz.underlying80, a31 := Tryz.isAgg80, z31 := Tryz.sizeOf80, v31 := Tryz.zeroValue80,
  t37 := Tryz.underlying114, a37 := Tryz.isAgg114, z37 := Tryz.sizeOf114, v37 := Tryz.zeroValue114,
  t70 := Tryz.underlying275, a70 := Tryz.isAgg275, z70 := Tryz.sizeOf275, v70 := Tryz.zeroValue275,
  t72 := Tryz.underlying277, a72 := Tryz.isAgg277, z72 := Tryz.sizeOf277, v72 := Tryz.zeroValue277,
  t75 := Tryz.underlying279, a75 := Tryz.isAgg279, z75 := Tryz.sizeOf279, v75 := Tryz.zeroValue279,
  t76 := Tryz.underlying280, a76 := Tryz.isAgg280, z76 := Tryz.sizeOf280, v76 := Tryz.zeroValue280,
  t127 := Tryz.underlying329, a127 := Tryz.isAgg329, z127 := Tryz.sizeOf329, v127 := Tryz.zeroValue329,
  t164 := Tryz.underlying364, a164 := Tryz.isAgg364, z164 := Tryz.sizeOf364, v164 := Tryz.zeroValue364 }
theorem Tryz.extraJoin : Builder.Extra Tryz.prog Tryz.ren where
  sizeBuilder := by kernel_rfl
  liesBuilder := by kernel_rfl
  t5 := Tryz.underlying5
  a5 := Tryz.isAgg5
  z5 := Tryz.sizeOf5
  v5 := Tryz.zeroValue5
  infoByte := by kernel_rfl
  cellsByte := by kernel_rfl
  sizeByte := by kernel_rfl
  neB5 := by decide
end Go.Proofs
namespace Go.AV
open Go Go.Proofs
set_option maxRecDepth 1000000
end Go.AV
namespace Go.Proofs
open Go
set_option maxRecDepth 1000000
theorem Tryz.isNaN_walk (x : Int) (w : World) : Calls Tryz.prog 254 #[.int .i64 x] w fun e w' => e = .returned (.bool false) ∧ w' = w := by
  go_enter Tryz.func254, Tryz.ntmps254
  go_wp2
  go_ret
  exact ⟨by simp, rfl⟩
theorem Tryz.round_walk (x : Int) (w : World) : Calls Tryz.prog 14 #[.int .i64 x, .int .i64 7] w fun e w' => (∃ r, 0 ≤ r ∧ r ≤ 6 ∧ e = .returned (.int .i64 r)) ∧ w' = w := by
  go_enter Tryz.func14, Tryz.ntmps14
  go_wp2
  all_goals
    have h1 := Int.tmod_lt_of_pos x (show (0 : Int) < 7 by decide)
    have h2 := Int.lt_tmod_of_pos x (show (0 : Int) < 7 by decide)
    go_ret
    refine ⟨⟨_, ?_, ?_, rfl⟩, rfl⟩ <;> first | omega | (unfold RowKit.wrap64; omega)
theorem Tryz.frombits_run (args : Array Value) (w : World) : (callFunc 245 args).run Tryz.prog w = ((Extern.MathFloatBits.float64frombits args).run Tryz.prog w).andThen fun v w' => .ok (.value v) w' :=
  run_callFunc_extern Tryz.func245 (by kernel_rfl) (by kernel_rfl) (by kernel_rfl) (by kernel_rfl) args w
theorem Tryz.bits_run (args : Array Value) (w : World) : (callFunc 259 args).run Tryz.prog w = ((Extern.MathFloatBits.float64bits args).run Tryz.prog w).andThen fun v w' => .ok (.value v) w' :=
  run_callFunc_extern Tryz.func259 (by kernel_rfl) (by kernel_rfl) (by kernel_rfl) (by kernel_rfl) args w
end Go.Proofs
namespace Go.AV
open Go Go.Proofs
set_option maxRecDepth 1000000
/-- Plain contracts: cmp.isNaN of a number, Round to seven, a float's bits. -/
noncomputable def isNaNRun (xs : List V) (h : Hp) : RR := match xs with
  | [.rng .i64 _ _] => .val (.bool false) h
  | [.int .i64 _] => .val (.bool false) h
  | _ => .bad 131
noncomputable def roundRun (xs : List V) (h : Hp) : RR := match xs with
  | [.rng .i64 _ _, .int .i64 7] => .val (.rng .i64 0 6) h
  | _ => .bad 132
noncomputable def frombitsRun (xs : List V) (h : Hp) : RR := match xs with
  | [.int .u64 n] => .val (.flt (Int.toNat n)) h
  | _ => .bad 133
noncomputable def bitsRun (xs : List V) (h : Hp) : RR := match xs with
  | [.flt n] => .val (.int .u64 (Int.ofNat n)) h
  | _ => .bad 134
theorem args1 {ι F w x args} (ha : AR ι F w [x] args) : ∃ c, args = #[c] ∧ VR ι F w x c := by
  have hs := ha.size
  match args, hs with
  | ⟨[c]⟩, _ => exact ⟨c, rfl, ha.at_ 0 x c rfl rfl⟩
theorem args2 {ι F w x y args} (ha : AR ι F w [x, y] args) : ∃ c d, args = #[c, d] ∧ VR ι F w x c ∧ VR ι F w y d := by
  have hs := ha.size
  match args, hs with
  | ⟨[c, d]⟩, _ => exact ⟨c, d, rfl, ha.at_ 0 x c rfl rfl, ha.at_ 1 y d rfl rfl⟩
theorem isNaN_okx {ι F h w xs args} (hw : WR ι F h w) (ha : AR ι F w xs args) (hok : (isNaNRun xs h).ok) : Does Tryz.prog 254 args w (RetR ι F w (isNaNRun xs h)) := by
  unfold isNaNRun at hok ⊢
  split
  · obtain ⟨c, rfl, hc⟩ := args1 ha
    cases hc
    exact .inl ⟨Tryz.call254 _ w, (Tryz.isNaN_walk _ w).mono fun e w' ⟨he, hb⟩ => ⟨_, ι, he, by rw [hb]; exact Ext.refl .., by rw [hb]; exact hw, .bool _⟩⟩
  · obtain ⟨c, rfl, hc⟩ := args1 ha
    cases hc
    exact .inl ⟨Tryz.call254 _ w, (Tryz.isNaN_walk _ w).mono fun e w' ⟨he, hb⟩ => ⟨_, ι, he, by rw [hb]; exact Ext.refl .., by rw [hb]; exact hw, .bool _⟩⟩
  · rename_i h1 h2
    split at hok
    · exact absurd rfl (h1 _ _)
    · exact absurd rfl (h2 _)
    · exact hok.elim
theorem round_okx {ι F h w xs args} (hw : WR ι F h w) (ha : AR ι F w xs args) (hok : (roundRun xs h).ok) : Does Tryz.prog 14 args w (RetR ι F w (roundRun xs h)) := by
  unfold roundRun at hok ⊢
  split
  · obtain ⟨c, d, rfl, hc, hd⟩ := args2 ha
    cases hc
    cases hd
    exact .inl ⟨Tryz.call14 _ w, (Tryz.round_walk _ w).mono fun e w' ⟨⟨r, h1, h2, he⟩, hb⟩ => ⟨_, ι, he, by rw [hb]; exact Ext.refl .., by rw [hb]; exact hw, .rng _ _ _ h1 h2⟩⟩
  · rename_i h1
    split at hok
    · exact absurd rfl (h1 _ _)
    · exact hok.elim
theorem frombits_okx {ι F h w xs args} (hw : WR ι F h w) (ha : AR ι F w xs args) (hok : (frombitsRun xs h).ok) : Does Tryz.prog 245 args w (RetR ι F w (frombitsRun xs h)) := by
  unfold frombitsRun at hok ⊢
  split
  · obtain ⟨c, rfl, hc⟩ := args1 ha
    cases hc
    exact .inr ⟨_, w, by rw [Tryz.frombits_run]; rfl, _, ι, rfl, Ext.refl .., hw, .flt _⟩
  · rename_i h1
    split at hok
    · exact absurd rfl (h1 _)
    · exact hok.elim
theorem bits_okx {ι F h w xs args} (hw : WR ι F h w) (ha : AR ι F w xs args) (hok : (bitsRun xs h).ok) : Does Tryz.prog 259 args w (RetR ι F w (bitsRun xs h)) := by
  unfold bitsRun at hok ⊢
  split
  · obtain ⟨c, rfl, hc⟩ := args1 ha
    cases hc
    exact .inr ⟨_, w, by rw [Tryz.bits_run]; rfl, _, ι, rfl, Ext.refl .., hw, .int _ _⟩
  · rename_i h1
    split at hok
    · exact absurd rfl (h1 _)
    · exact hok.elim
/-- The functions that are told; awake or not. -/
noncomputable def seatX (b : Bool) : XT := fun call f => match Nat.beq f 107 with
  | true => some (fun xs h => joinRun TTf fnOf 400 call f xs h)
  | false => match Nat.beq f 246 with
    | true => some (fun xs h => rangeRun TTf call 354 (fnOf f) xs h)
    | false => match Nat.beq f 254 with
      | true => some isNaNRun
      | false => match Nat.beq f 14 with
        | true => some roundRun
        | false => match Nat.beq f 245 with
          | true => some frombitsRun
          | false => match Nat.beq f 259 with
            | true => some bitsRun
            | false => match b, Nat.beq f 13 with
              | true, true => some (fun xs h => match xs with | [] => .val (.bool true) h | _ => .bad 130)
              | _, _ => none
theorem plain_sim {M : Nat → Prop} {h h' : Hp} (s : Sim M h h') (xs : List V) : RRS M h' (isNaNRun xs h) (isNaNRun xs h') ∧ RRS M h' (roundRun xs h) (roundRun xs h') ∧ RRS M h' (frombitsRun xs h) (frombitsRun xs h') ∧ RRS M h' (bitsRun xs h) (bitsRun xs h') := by
  refine ⟨?_, ?_, ?_, ?_⟩
  · unfold isNaNRun; split <;> first | exact ⟨h', rfl, s, Keeps.refl⟩ | trivial
  · unfold roundRun; split <;> first | exact ⟨h', rfl, s, Keeps.refl⟩ | trivial
  · unfold frombitsRun; split <;> first | exact ⟨h', rfl, s, Keeps.refl⟩ | trivial
  · unfold bitsRun; split <;> first | exact ⟨h', rfl, s, Keeps.refl⟩ | trivial
noncomputable def runB (b : Bool) (f : FuncId) (xs : List V) : RR := mach TTf fnOf [68] (seatX b) 400 60 f xs ⟨0, .leaf⟩
theorem seatX_sim (b : Bool) : XSim (seatX b) := by
  intro call hc f g hg M xs h h' s
  unfold seatX at hg
  split at hg
  · cases hg
    exact joinRun_sim hc f xs s
  · split at hg
    · cases hg
      exact rangeRun_sim hc (fnOf f) xs s
    · split at hg
      · cases hg; exact (plain_sim s xs).1
      · split at hg
        · cases hg; exact (plain_sim s xs).2.1
        · split at hg
          · cases hg; exact (plain_sim s xs).2.2.1
          · split at hg
            · cases hg; exact (plain_sim s xs).2.2.2
            · split at hg
              · cases hg
                simp only
                split
                · exact ⟨h', rfl, s, Keeps.refl⟩
                · trivial
              · cases hg
def Awake : Prop := ∀ W : World, Calls Tryz.prog 13 #[] W fun e w' => e = .returned (.bool true) ∧ RowKit.Below W.heap.size W w'
theorem seatX_ok (b : Bool) (hA : b = true → Awake) : XOk Tryz.prog TTf (seatX b) := by
  intro call hc hs hD f g hg xs h ι F w args hw ha hok
  unfold seatX at hg
  split at hg
  · rename_i hf
    cases hg
    have := Nat.eq_of_beq_eq_true hf
    subst this
    exact joinRun_ok (fun bk o c ts sep w h1 h2 h3 h4 h5 h6 h7 => Any.strings_Join_many_big Tryz.laysJoin Tryz.extraJoin bk o c ts sep w h1 h2 h3 h4 h5 h6 h7) TT_ok hc hD fn_ok (fun args w => Tryz.call107 args w) hw ha hok
  · split at hg
    · rename_i hf
      cases hg
      have := Nat.eq_of_beq_eq_true hf
      subst this
      exact .inl ⟨Tryz.call246 args w, rangeRun_ok TT_ok hc hs (fun c hc => fn_ok 246 c hc) (fun args w => Tryz.call354 args w) hw ha hok⟩
    · split at hg
      · rename_i hf
        cases hg
        have := Nat.eq_of_beq_eq_true hf
        subst this
        exact isNaN_okx hw ha hok
      · split at hg
        · rename_i hf
          cases hg
          have := Nat.eq_of_beq_eq_true hf
          subst this
          exact round_okx hw ha hok
        · split at hg
          · rename_i hf
            cases hg
            have := Nat.eq_of_beq_eq_true hf
            subst this
            exact frombits_okx hw ha hok
          · split at hg
            · rename_i hf
              cases hg
              have := Nat.eq_of_beq_eq_true hf
              subst this
              exact bits_okx hw ha hok
            · split at hg
              · rename_i hf
                cases hg
                have := Nat.eq_of_beq_eq_true hf
                subst this
                simp only at hok ⊢
                split at hok
                · have hs := ha.size
                  have : args = #[] := by cases args with | mk l => simp at hs; simp [hs]
                  subst this
                  refine .inl ⟨Tryz.call13 _ w, Calls.mono (hA rfl w) (fun e w' ⟨he, hb⟩ => ?_)⟩
                  obtain ⟨x1, x2⟩ := below_ext hw hb
                  exact ⟨_, ι, he, x1, x2, .bool true⟩
                · exact hok.elim
              · cases hg
theorem machB_ok (b : Bool) (hA : b = true → Awake) (n : Nat) : CallOk Tryz.prog (mach TTf fnOf [68] (seatX b) 400 n) :=
  mach_ok (by kernel_rfl) TT_ok fn_ok (fun f hf => by
    have : f = 68 := by simpa [memN_iff] using hf
    subst this
    decide +kernel) (seatX_ok b hA) (seatX_sim b) n
theorem empty_wr (W : World) : WR (fun _ => none) (fun b => b < W.heap.size) ⟨0, .leaf⟩ W :=
  ⟨fun _ _ => rfl, fun o p h => (by cases h), fun o h _ => absurd rfl h, fun o o' p p' _ h => (by cases h), fun b hb => hb⟩
theorem runB_ok (b : Bool) (hA : b = true → Awake) (f : FuncId) (hf : ∀ args w, (callFunc f args).run Tryz.prog w = .ok (.enter f args) w) {xs : List V} {args : Array Value} {W : World} (ha : AR (fun _ => none) (fun b => b < W.heap.size) W xs args) {h' : Hp}
    (hr : runB b f xs = .val (.bool true) h') : Calls Tryz.prog f args W fun e w' => e = .returned (.bool true) ∧ RowKit.Below W.heap.size W w' := by
  have hm := machB_ok b hA 60
  unfold runB at hr
  have := hm f xs ⟨0, .leaf⟩ _ _ W args (empty_wr W) ha (by rw [hr]; trivial)
  rw [hr] at this
  rcases this with ⟨_, hc⟩ | ⟨c, w', he, _⟩
  · refine Calls.mono hc (fun e w' hR => ?_)
    obtain ⟨c, ι', rfl, e1, _, hv⟩ := hR
    cases hv
    exact ⟨rfl, e1.os, e1.tape, e1.out, e1.size, fun k hk => e1.same k hk⟩
  · rw [hf] at he; cases he
def isTrue : RR → Bool
  | .val (.bool true) _ => true
  | _ => false
theorem isTrue_ex {r : RR} (h : isTrue r = true) : ∃ h', r = .val (.bool true) h' := by
  unfold isTrue at h
  split at h
  · exact ⟨_, rfl⟩
  · cases h
def wideInt : V := .rng .i64 (-9223372036854775808) 9223372036854775807
theorem awake_run : isTrue (runB false 13 []) = true := by decide +kernel
theorem awake_ok : Awake := fun W => by
  obtain ⟨h', hr⟩ := isTrue_ex awake_run
  exact runB_ok false (by intro h; cases h) 13 Tryz.call13 ⟨rfl, fun j v x hv => by simp at hv⟩ hr
noncomputable def run (f : FuncId) (xs : List V) : RR := runB true f xs
theorem run_ok (f : FuncId) (hf : ∀ args w, (callFunc f args).run Tryz.prog w = .ok (.enter f args) w) {xs : List V} {args : Array Value} {W : World} (ha : AR (fun _ => none) (fun b => b < W.heap.size) W xs args)
    (hr : isTrue (run f xs) = true) : Calls Tryz.prog f args W fun e w' => e = .returned (.bool true) ∧ RowKit.Below W.heap.size W w' := by
  obtain ⟨h', hr⟩ := isTrue_ex hr
  exact runB_ok true (fun _ => awake_ok) f hf ha hr
/-- A body run with a split at a region on the way. -/
noncomputable def cutB (f : FuncId) (cut slot m r : Nat) (xs : List V) : Bool := match (fnOf f).body with
  | none => false
  | some c => match okCode (fnOf f).ntmps c, Nat.ble (lenV xs) (fnOf f).ntmps with
    | true, true => cutRun TTf (mach TTf fnOf [68] (seatX true) 400 59) (drawn TTf (mach TTf fnOf [68] (seatX true) 400 59)) 400 cut slot m (fnOf f).results.toList r c
        (fun _ fr h => endTrue TTf (fnOf f).results.toList fr h) false (frame 0 .leaf xs) ⟨0, .leaf⟩
    | _, _ => false
theorem drawnB_ok (b : Bool) (hA : b = true → Awake) (n : Nat) : DOk Tryz.prog (drawn TTf (mach TTf fnOf [68] (seatX b) 400 n)) :=
  drawn_ok (by kernel_rfl) TT_ok (machB_ok b hA n) (mach_sim (seatX_sim b) n)
theorem cutB_ok (f : FuncId) (cut slot m : Nat) {xs : List V} {args : Array Value} {W : World} (ha : AR (fun _ => none) (fun b => b < W.heap.size) W xs args)
    (hr : ∀ r, r ≤ m → cutB f cut slot m r xs = true) : Calls Tryz.prog f args W fun e w' => e = .returned (.bool true) ∧ RowKit.Below W.heap.size W w' := by
  have h0 := hr 0 (Nat.zero_le _)
  unfold cutB at hr h0
  cases hb : (fnOf f).body with
  | none => rw [hb] at h0; cases h0
  | some c =>
    simp only [hb] at hr h0
    cases hk : okCode (fnOf f).ntmps c with
    | false => rw [hk] at h0; cases h0
    | true =>
      cases hl : Nat.ble (lenV xs) (fnOf f).ntmps with
      | false => rw [hk, hl] at h0; cases h0
      | true =>
        simp only [hk, hl] at hr
        refine Calls.mono (cut_calls TT_ok (machB_ok true (fun _ => awake_ok) 59) (drawnB_ok true (fun _ => awake_ok) 59) (fn_ok f c hb) hb (empty_wr W) ha hk (by rw [← lenV_eq]; exact Nat.le_of_ble_eq_true hl) hr) (fun e w' ⟨he, ι', e1⟩ => ?_)
        exact ⟨he, e1.os, e1.tape, e1.out, e1.size, fun k hk => e1.same k hk⟩
end Go.AV
