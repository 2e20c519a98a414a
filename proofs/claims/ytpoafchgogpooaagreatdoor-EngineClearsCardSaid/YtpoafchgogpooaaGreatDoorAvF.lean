/-
  The abstract machine: functions that recover; told functions; strings.Join; the whole. By an AI agent. Conditions: none beyond what each theorem states.
-/
import Derived.Test.YtpoafchgogpooaaGreatDoorAvD
import Derived.Test.YtpoafchgogpooaaGreatDoorAvE
import Derived.Recover
import Derived.Room.Shelf.Join48
import Derived.RangeFuncRecord
set_option linter.unusedVariables false
set_option linter.unusedSimpArgs false
namespace Go.AV
open Go

inductive CF where
  | nx (fr : Fr) (h : Hp)
  | pan (v : V) (fr : Fr) (h : Hp)
  | bad (n : Nat)
section
variable (T : TypeId → TI) (call : CallT) (D : Nat → List Oper → Fr → Hp → CO) (N : Nat)
noncomputable def opsF (all : List Oper) : List Oper → Fr → Hp → CF
  | [], fr, h => .nx fr h
  | o :: os, fr, h => match one T call (lenOb h) all o fr h with
    | .nx fr h => opsF all os fr h
    | .pan v h => .pan v fr h
    | .bad n => .bad n
/-- The last operation defers a closure. -/
def deferOf : List Oper → Option (List Oper × Operand)
  | [] => none
  | o :: os => match os with
    | [] => match o.op, o.guard, o.dst with
      | .defer { callee := .value f, args := ars, .. }, none, none => match ars.toList with
        | [] => some ([], f)
        | _ => none
      | _, _, _ => none
    | _ => match deferOf os with
      | some (l, f) => some (o :: l, f)
      | none => none
/-- A deferred closure that recovers first. -/
noncomputable def closing (gf : Func) (caps : List V) (rv : V) (h : Hp) : RR := match gf.body with
  | some (.seq (.region _ ops false) rest) => match ops.toList with
    | [o] => match o.op, o.guard, o.dst with
      | .call { callee := .builtin .recover, args := ars, .. }, none, some d => match ars.toList, gf.results.toList with
        | [], [] => match okDst gf.ntmps (some d), okCode gf.ntmps rest, Nat.ble (lenV caps) gf.ntmps with
          | true, true, true => match codeRun T call D N rest (putD (frame 0 .leaf caps) (some d) rv) h with
            | .nx _ h => .val (.tup []) h
            | .rt _ h => .val (.tup []) h
            | .pan v h => .pan v h
            | .ex _ _ _ => .bad 100
            | .bad n => .bad n
          | _, _, _ => .bad 100
        | _, _ => .bad 100
      | _, _, _ => .bad 100
    | _ => .bad 100
  | _ => .bad 100
noncomputable def ending (fn gf : Func) (caps : List V) (rv : V) (fr : Fr) (h : Hp) : RR := match closing T call D N gf caps rv h with
  | .val _ h => finish T fn.results.toList fr h
  | .pan v h => .pan v h
  | .bad n => .bad n
/-- A function that defers such a closure, and calls behind it. -/
noncomputable def guardRun (fnOf : Nat → Func) (fn : Func) (xs : List V) (h : Hp) : RR := match fn.body with
  | some (.seq (.region _ o0 false) (.seq (.region _ o1 false) (.seq (.region _ o2 false) rest))) =>
    match okOps fn.ntmps o0.toList, okOps fn.ntmps o1.toList, okOps fn.ntmps o2.toList with
    | true, true, true => match okCode fn.ntmps rest, Nat.ble (lenV xs) fn.ntmps with
      | true, true => match opsF T call o0.toList o0.toList (frame 0 .leaf xs) h with
        | .nx fr h => match deferOf o1.toList with
          | some (os, f) => match opsF T call o1.toList os fr h with
            | .nx fr h => match arg fr f with
              | .fn g caps => match (fnOf g).name == "runtime.NumGoroutine" with
                | true => .bad 101
                | false => match opsF T call o2.toList o2.toList fr h with
                  | .nx fr h => match codeRun T call D N rest fr h with
                    | .nx fr h => ending T call D N fn (fnOf g) caps .nili fr h
                    | .rt fr h => ending T call D N fn (fnOf g) caps .nili fr h
                    | _ => .bad 102
                  | .pan v fr h => ending T call D N fn (fnOf g) caps v fr h
                  | .bad n => .bad n
              | _ => .bad 103
            | _ => .bad 104
          | none => .bad 105
        | _ => .bad 106
      | _, _ => .bad 107
    | _, _, _ => .bad 107
  | _ => .bad 108
end
end Go.AV
namespace Go.AV
open Go
section
variable {P : Program} {T : TypeId → TI} {call : CallT} {D : Nat → List Oper → Fr → Hp → CO} {N : Nat}

/-- Where a row of operations ends. -/
def CF.ok : CF → Prop
  | .bad _ => False
  | _ => True

theorem opsF_ok (hT : TOk P T) (hc : CallOk P call) {ops : Array Oper} {n : Nat} (hk : okOps n ops.toList = true) (tail : List Nat) (Q : Exit → Act → World → Prop) :
    ∀ (os : List Oper) (i : Nat), (∀ k o, os[k]? = some o → ops[i + k]? = some o) → ∀ (ι : Nat → Option Pl) (F : Nat → Prop) (h : Hp) (w : World) (a : Act) (fr : Fr), WR ι F h w → FR ι F w fr a.tmps → a.tmps.size = n →
      (opsF T call ops.toList os fr h).ok →
      (∀ fr' h', opsF T call ops.toList os fr h = .nx fr' h' → ∀ a' w', St ι F w a fr' h' a' w' → wpOps P ops Q tail a' w') →
      (∀ v fr' h', opsF T call ops.toList os fr h = .pan v fr' h' → ∀ c (ch : Ch) ι' a' w', Ext ι F w ι' F w' → WR ι' F h' w' → VR ι' F w' v c → FR ι' F w' fr' a'.tmps → a'.tmps.size = a.tmps.size → a'.defers = a.defers →
        Q (.panic ({ v := c, recovered := false } :: ch.1)) a' w') → wpOps P ops Q (List.range' i os.length ++ tail) a w
  | [], i, hat, ι, F, h, w, a, fr, hw, hf, hn, hok, hnx, hpan => by
    simp only [List.length_nil, List.range'_zero, List.nil_append]
    exact hnx fr h rfl a w ⟨ι, Ext.refl _ _ _, hw, hf, rfl, rfl⟩
  | o :: os, i, hat, ι, F, h, w, a, fr, hw, hf, hn, hok, hnx, hpan => by
    have hoi : ops[i]? = some o := by simpa using hat 0 o rfl
    have hdst : okDst a.tmps.size o.dst = true := by rw [hn]; exact okOps_at hk i o (by simpa using hoi)
    simp only [opsF] at hok hnx hpan
    rw [List.length_cons, List.range'_succ, List.cons_append, wpOps_cons]
    refine one_okP hT hc hw hf (lenOb h) hoi hdst _ _ (fun fr' h' he a' w' hs => ?_) (fun v h' he c ch ι' w' e1 hw' hv => ?_) ?_
    · rw [he] at hok hnx hpan
      obtain ⟨ι', e1, hw', hf', hs', hd'⟩ := hs
      refine opsF_ok hT hc hk tail Q os (i + 1) (fun k o' hk' => ?_) ι' F h' w' a' fr' hw' hf' (hs'.trans hn) hok (fun fr2 h2 h2e a2 w2 hst => ?_) (fun v fr2 h2 h2e c ch ι2 a2 w2 x1 x2 x3 x4 x5 x6 => ?_)
      · have := hat (k + 1) o' (by simpa using hk')
        rw [show i + (k + 1) = i + 1 + k by omega] at this
        exact this
      · obtain ⟨ι2, y1, y2, y3, y4, y5⟩ := hst
        exact hnx fr2 h2 h2e a2 w2 ⟨ι2, e1.trans y1, y2, y3, y4.trans hs', y5.trans hd'⟩
      · exact hpan v fr2 h2 h2e c ch ι2 a2 w2 (e1.trans x1) x2 x3 x4 (x5.trans hs') (x6.trans hd')
    · rw [he] at hpan
      exact hpan v fr h' rfl c ch ι' a w' e1 hw' hv (hf.mono e1) rfl rfl
    · generalize one T call (lenOb h) ops.toList o fr h = r at hok ⊢
      cases r with
      | bad n => exact hok.elim
      | _ => trivial

theorem deferOf_at : ∀ {l os : List Oper} {f : Operand}, deferOf l = some (os, f) → ∃ o t ts, l = os ++ [o] ∧ o.op = .defer { callee := .value f, args := #[], argTypes := ts } ∧ o.guard = none ∧ o.dst = none ∧ t = o.type
  | [], os, f, h => by simp [deferOf] at h
  | [o], os, f, h => by
    simp only [deferOf] at h
    split at h
    · rename_i f' ars ts h1 h2 h3
      split at h
      · rename_i has
        cases h
        have : ars = #[] := by cases ars; simp at has; rw [has]
        subst this
        exact ⟨o, _, ts, rfl, h1, h2, h3, rfl⟩
      · cases h
    · cases h
  | o :: o' :: os', os, f, h => by
    have h' : (match deferOf (o' :: os') with | some (l, f) => some (o :: l, f) | none => none) = some (os, f) := h
    split at h'
    · rename_i l f' hl
      cases h'
      obtain ⟨q, t, ts, e1, e2⟩ := deferOf_at hl
      exact ⟨q, t, ts, by rw [e1]; rfl, e2⟩
    · cases h'

/-- What the closure leaves. -/
theorem closing_ok (hT : TOk P T) (hc : CallOk P call) (hD : DOk P D) {g : FuncId} {gf : Func} (hg : ∀ c, gf.body = some c → P.funcs[g]? = some gf) {caps : List V} {cargs : Array Value} {rv : V} {rc : Value} {u u' : FrameMode}
    (hrec : ∀ (c₀ : Frame) (cs : List Frame), c₀.mode = u → (recoverD (c₀ :: cs) = some (rc, { c₀ with mode := u' } :: cs)) ∨ (recoverD (c₀ :: cs) = none ∧ rc = .nilIface ∧ u' = u))
    {ι : Nat → Option Pl} {F : Nat → Prop} {h : Hp} {w : World} (hw : WR ι F h w) (ha : AR ι F w caps cargs) (hv : VR ι F w rv rc) (hok : (closing T call D N gf caps rv h).ok) :
    CallsD P g cargs u w fun e m w' => m = u' ∧ RetR ι F w (closing T call D N gf caps rv h) e w' := by
  unfold closing at hok ⊢
  split at hok
  · rename_i id ops rest hb
    split at hok
    · rename_i o hl
      split at hok
      · rename_i ars ts d hop hgd hdst
        split at hok
        · rename_i has hres
          split at hok
          · rename_i hd hk hle
            have has' : ars = #[] := by cases ars; simp at has; rw [has]
            subst has'
            have hops : ops = #[o] := by cases ops; simp at hl; rw [hl]
            subst hops
            have hres' : gf.results = #[] := by
              generalize gf.results = r at hres
              cases r; simp at hres; rw [hres]
            refine callsD_of_wpS (hg _ hb) hb (fun c₀ cs hu => ?_)
            have hle' : cargs.size ≤ gf.ntmps := by rw [ha.size, ← lenV_eq]; exact Nat.le_of_ble_eq_true hle
            have hsz : (cargs ++ Array.replicate (gf.ntmps - cargs.size) undef).size = gf.ntmps := by simp; omega
            have hex : ∀ a : Act, (execOp a.eval o).run P w = .ok .recover w := fun a => by simp [execOp, hop, resolve, invoke, builtin]
            have hwant : ∀ y, Region.wanted o y = true := fun y => by simp [Region.wanted, hgd]
            have hco : (codeRun T call D N rest (putD (frame 0 .leaf caps) (some d) rv) h).ok := by
              generalize codeRun T call D N rest (putD (frame 0 .leaf caps) (some d) rv) h = r at hok ⊢
              cases r with
              | bad n => exact hok.elim
              | _ => trivial
            -- the rest
            have rest_ok : ∀ (cs' : List Frame), (∃ c₁ : Frame, True) → (Q : Exit → Act → List Frame → World → Prop) →
                (∀ e a' w', CPost ι F w (({ tmps := cargs ++ Array.replicate (gf.ntmps - cargs.size) undef, defers := [] } : Act).put (some d) rc) (codeRun T call D N rest (putD (frame 0 .leaf caps) (some d) rv) h) e a' w' → Q e a' cs' w') →
                rest.wpS P Q (({ tmps := cargs ++ Array.replicate (gf.ntmps - cargs.size) undef, defers := [] } : Act).put (some d) rc) cs' w := by
              intro cs' _ Q hQ
              refine wpS_of_wp (wp_mono (code_ok (n := gf.ntmps) hT hc hD rest hk ι F h w _ _ hw ?_ ?_ hco) hQ)
              · exact (frame_ok ha _).put hv (some d) (dst_lt (by rw [hsz]; exact hd))
              · rw [put_size]; exact hsz
            have fin : ∀ (e : Exit) (a' : Act) (w' : World), CPost ι F w (({ tmps := cargs ++ Array.replicate (gf.ntmps - cargs.size) undef, defers := [] } : Act).put (some d) rc) (codeRun T call D N rest (putD (frame 0 .leaf caps) (some d) rv) h) e a' w' →
                bodyPostS P gf c₀ cs (fun e m w' => m = u' ∧ RetR ι F w (match codeRun T call D N rest (putD (frame 0 .leaf caps) (some d) rv) h with
                  | .nx _ h => .val (.tup []) h
                  | .rt _ h => .val (.tup []) h
                  | .pan v h => .pan v h
                  | .ex _ _ _ => .bad 100
                  | .bad n => .bad n) e w') e a' ({ c₀ with mode := u' } :: cs) w' := by
              intro e a' w' hp
              generalize codeRun T call D N rest (putD (frame 0 .leaf caps) (some d) rv) h = r at hok hco hp ⊢
              have hr0 : ∀ t : Array Value, (results gf t).run P w' = .ok (.tuple #[]) w' := fun t => by unfold results; rw [hres']; simp
              have hv0 : ∀ ι', VR ι' F w' (.tup []) (.tuple #[]) := fun ι' => .tup rfl (fun j v x hv => by simp at hv)
              cases r with
              | nx fr' h' =>
                obtain ⟨rfl, ι', e1, hw', hf', hs', hd'⟩ := hp
                exact ⟨hd'.trans (put_defers _ _ _), u', rfl, _, hr0 _, rfl, _, ι', rfl, e1, hw', hv0 _⟩
              | rt fr' h' =>
                obtain ⟨rfl, ι', e1, hw', hf', hs', hd'⟩ := hp
                exact ⟨hd'.trans (put_defers _ _ _), u', rfl, _, hr0 _, rfl, _, ι', rfl, e1, hw', hv0 _⟩
              | pan v h' =>
                obtain ⟨c, ch, ι', rfl, e1, hw', hv', hd'⟩ := hp
                exact ⟨hd'.trans (put_defers _ _ _), u', rfl, rfl, c, ch, ι', rfl, e1, hw', hv'⟩
              | ex i fr' h' => exact hok.elim
              | bad n => exact hco.elim
            refine wpS_seq (wpS_region ?_)
            simp only [wpOpsS, List.range_succ, List.range_zero, List.nil_append, List.size_toArray, List.length_cons, List.length_nil, Nat.zero_add]
            have h0 : (#[o] : Array Oper)[0]? = some o := rfl
            simp only [h0, hwant, if_true, hex]
            rcases hrec c₀ cs hu with hr | ⟨hr, rfl, rfl⟩
            · simp only [hr, hdst]
              exact rest_ok _ ⟨c₀, trivial⟩ _ fin
            · simp only [hr, hdst]
              have hc₀ : ({ c₀ with mode := u' } : Frame) = c₀ := by subst hu; rfl
              have := rest_ok (c₀ :: cs) ⟨c₀, trivial⟩ _ (fun e a' w' hp => by have := fin e a' w' hp; rw [hc₀] at this; exact this)
              exact this
          · exact hok.elim
        · exact hok.elim
      · exact hok.elim
    · exact hok.elim
  · exact hok.elim
end
end Go.AV
namespace Go.AV
open Go
section
variable {P : Program} {T : TypeId → TI} {call : CallT} {D : Nat → List Oper → Fr → Hp → CO} {N : Nat}

theorem recoverD_run (c₀ : Frame) (cs : List Frame) (h : c₀.mode = .returning) : recoverD (c₀ :: cs) = none := by simp [recoverD, h]
theorem recoverD_pan {c₀ : Frame} {cs : List Frame} {c : Value} {ch : List PanicEntry} (h : c₀.mode = .panicking ({ v := c, recovered := false } :: ch)) :
    recoverD (c₀ :: cs) = some (c, { c₀ with mode := .panicking ({ v := c, recovered := true } :: ch) } :: cs) := by simp [recoverD, h]
theorem settle_rec (c : Value) (ch : Ch) : settle (.panicking ({ v := c, recovered := true } :: ch.1)) = .returning := by
  have key : ∀ l : List PanicEntry, (∀ x ∈ l, x.goexit = false) → l.dropWhile (fun x => !x.goexit) = [] := by
    intro l
    induction l with
    | nil => intro _; rfl
    | cons y t ih => intro hl; rw [List.dropWhile_cons, hl y (by simp)]; simpa using ih (fun x hx => hl x (by simp [hx]))
  have : ch.1.dropWhile (fun x => !x.goexit) = [] := key ch.1 ch.2
  simp [settle, this]

/-- The end of such a function. -/
theorem ending_ok (hT : TOk P T) (hc : CallOk P call) (hD : DOk P D) {fn : Func} {g : FuncId} {gf : Func} (hg : ∀ c, gf.body = some c → P.funcs[g]? = some gf) (hname : gf.name ≠ "runtime.NumGoroutine")
    {caps : List V} {cargs : Array Value} {rv : V} {u : FrameMode} {rc : Value} (hu : u = .returning ∧ rc = .nilIface ∨ ∃ ch : Ch, u = .panicking ({ v := rc, recovered := false } :: ch.1))
    {ι0 : Nat → Option Pl} {F : Nat → Prop} {w0 : World} {ι : Nat → Option Pl} {h : Hp} {w : World} {fr : Fr} {a : Act} (e0 : Ext ι0 F w0 ι F w) (hw : WR ι F h w) (hf : FR ι F w fr a.tmps)
    (ha : AR ι F w caps cargs) (hv : VR ι F w rv rc) (hds : a.defers = [{ target := .fn (.func g) cargs, args := #[] }]) (hok : (ending T call D N fn gf caps rv fr h).ok) :
    Leaves P fn a.tmps (RetR ι0 F w0 (ending T call D N fn gf caps rv fr h)) a.defers u w := by
  unfold ending at hok ⊢
  have hclo : (closing T call D N gf caps rv h).ok := by
    generalize closing T call D N gf caps rv h = r at hok ⊢
    cases r with
    | bad n => exact hok.elim
    | _ => trivial
  have hbody : ∃ c, gf.body = some c := by
    unfold closing at hclo
    split at hclo
    · rename_i hb; exact ⟨_, hb⟩
    · exact hclo.elim
  obtain ⟨bc, hbc⟩ := hbody
  have hinv : (invoke (.fn (.func g) cargs) #[]).run P w = .ok (.enter g cargs) w := by
    simp only [invoke, Array.empty_append]
    have h1 := hg bc hbc
    simp [callFunc, h1, hbc, hname]
  rw [hds]
  have hmain : ∀ (u' : FrameMode), (∀ (c₀ : Frame) (cs : List Frame), c₀.mode = u → (recoverD (c₀ :: cs) = some (rc, { c₀ with mode := u' } :: cs)) ∨ (recoverD (c₀ :: cs) = none ∧ rc = .nilIface ∧ u' = u)) →
      settle u' = .returning → (∀ (c : Value) (ch : Ch), ∃ ch' : Ch, raised u' ({ v := c, recovered := false } :: ch.1) = .panicking ({ v := c, recovered := false } :: ch'.1)) → u ≠ .run →
      Leaves P fn a.tmps (RetR ι0 F w0 (match closing T call D N gf caps rv h with
        | .val _ h => finish T fn.results.toList fr h
        | .pan v h => .pan v h
        | .bad n => .bad n)) [{ target := .fn (.func g) cargs, args := #[] }] u w := by
    intro u' hrec hset hra hur
    refine leaves_cons hur hinv ((closing_ok hT hc hD hg hrec hw ha hv hclo).mono (fun e m w' hp => ?_))
    obtain ⟨rfl, hR⟩ := hp
    generalize closing T call D N gf caps rv h = r at hok hR hclo ⊢
    cases r with
    | val v h' =>
      obtain ⟨c, ι', rfl, e1, hw', hv'⟩ := hR
      simp only at hok ⊢
      obtain ⟨c', v', h1, h2, h3⟩ := finish_ok hT hw' (fn := fn) (hf.mono e1) hok
      rw [hset, h1]
      exact ⟨c', h2, c', ι', rfl, e0.trans e1, hw', h3⟩
    | pan v h' =>
      obtain ⟨c, ch, ι', rfl, e1, hw', hv'⟩ := hR
      simp only
      obtain ⟨ch', hch⟩ := hra c ch
      rw [hch]
      exact ⟨c, ch', ι', rfl, e0.trans e1, hw', hv'⟩
    | bad n => exact hclo.elim
  rcases hu with ⟨rfl, rfl⟩ | ⟨ch, rfl⟩
  · exact hmain .returning (fun c₀ cs h => .inr ⟨recoverD_run c₀ cs h, rfl, rfl⟩) rfl (fun c ch => ⟨ch, rfl⟩) (by simp)
  · refine hmain (.panicking ({ v := rc, recovered := true } :: ch.1)) (fun c₀ cs h => .inl (recoverD_pan h)) (settle_rec rc ch) (fun c ch2 => ⟨⟨ch2.1 ++ ({ v := rc, recovered := true } :: ch.1), fun x hx => ?_⟩, rfl⟩) (by simp)
    rcases List.mem_append.1 hx with hx | hx
    · exact ch2.2 x hx
    · rcases List.mem_cons.1 hx with rfl | hx
      · rfl
      · exact ch.2 x hx

theorem range_pre (n : Nat) : List.range n = List.range' 0 n ++ [] := by rw [List.append_nil, List.range_eq_range']

/-- A function that defers a recovering closure. -/
theorem guardRun_ok (hT : TOk P T) (hc : CallOk P call) (hD : DOk P D) {fnOf : Nat → Func} (hfnOf : ∀ f c, (fnOf f).body = some c → P.funcs[f]? = some (fnOf f)) {f : FuncId} {fn : Func} (hfn : ∀ c, fn.body = some c → P.funcs[f]? = some fn)
    {ι : Nat → Option Pl} {F : Nat → Prop} {h : Hp} {w : World} {xs : List V} {args : Array Value} (hw : WR ι F h w) (ha : AR ι F w xs args) (hok : (guardRun T call D N fnOf fn xs h).ok) :
    Calls P f args w (RetR ι F w (guardRun T call D N fnOf fn xs h)) := by
  unfold guardRun at hok ⊢
  split at hok
  · rename_i i0 o0 i1 o1 i2 o2 rest hb
    split at hok
    · rename_i hk0 hk1 hk2
      split at hok
      · rename_i hk3 hle
        have hle' : args.size ≤ fn.ntmps := by rw [ha.size, ← lenV_eq]; exact Nat.le_of_ble_eq_true hle
        have hsz : (args ++ Array.replicate (fn.ntmps - args.size) undef).size = fn.ntmps := by simp; omega
        refine calls_of_wp_defers (hfn _ hb) hb (wp_seq (wp_region ?_))
        rw [range_pre]
        have hk0l : o0.size = o0.toList.length := by simp
        rw [hk0l]
        refine opsF_ok hT hc hk0 [] _ o0.toList 0 (fun k o hk => by simpa using hk) ι F h w _ (frame 0 .leaf xs) hw (frame_ok ha _) hsz ?_ (fun fr0 h0 r0 a0 w0 hst => ?_) (fun v fr0 h0 r0 => ?_)
        · generalize opsF T call o0.toList o0.toList (frame 0 .leaf xs) h = r at hok ⊢
          cases r with
          | bad n => exact hok.elim
          | _ => trivial
        · simp only [r0] at hok ⊢
          obtain ⟨ι0, e0, hw0, hf0, hs0, hd0⟩ := hst
          split at hok
          · rename_i os df hdf
            obtain ⟨o, t, ts, hl, hop, hgd, hdst, _⟩ := deferOf_at hdf
            simp only [wpOps]
            refine wp_seq (wp_region ?_)
            have hlen : o1.size = os.length + 1 := by rw [← Array.length_toList, hl]; simp
            have hrange : List.range o1.size = List.range' 0 os.length ++ [os.length] := by
              rw [hlen, List.range_succ, List.range_eq_range']
            rw [hrange]
            refine opsF_ok hT hc hk1 [os.length] _ os 0 (fun k o' hk => ?_) ι0 F h0 w0 a0 fr0 hw0 hf0 (hs0.trans hsz) ?_ (fun fr1 h1 r1 a1 w1 hst => ?_) (fun v fr1 h1 r1 => ?_)
            · have hlt : k < os.length := (List.getElem?_eq_some_iff.1 hk).1
              rw [Nat.zero_add, ← Array.getElem?_toList, hl, List.getElem?_append_left hlt]; exact hk
            · generalize opsF T call o1.toList os fr0 h0 = r at hok ⊢
              cases r with
              | bad n => exact hok.elim
              | _ => trivial
            · simp only [r1] at hok ⊢
              obtain ⟨ι1, e1, hw1, hf1, hs1, hd1⟩ := hst
              have hat : o1[os.length]? = some o := by rw [← Array.getElem?_toList, hl]; simp
              split at hok
              · rename_i g caps hcl
                split at hok
                · exact hok.elim
                · rename_i hname
                  have hname' : (fnOf g).name ≠ "runtime.NumGoroutine" := by simpa using hname
                  have hvf := VR.arg hf1 df
                  rw [hcl] at hvf
                  generalize hcf : a1.eval df = cf at hvf
                  cases hvf with
                  | @fn _ cargs _ hcs hcr =>
                    rw [wpOps_cons]
                    simp only [wpOp, hat]
                    have hwant : Region.wanted o (yielded o1 a1.tmps) = true := by simp [Region.wanted, hgd]
                    simp only [hwant, if_true]
                    refine .inl ?_
                    have hex : (execOp a1.eval o).run P w1 = .ok (.defer { target := .fn (.func g) cargs, args := #[] }) w1 := by
                      simp [execOp, hop, resolve, Deferred.ofValue, hcf]
                    unfold Oper.wp
                    rw [hex]
                    simp only [Oper.upon, hdst, Act.put, wpOps]
                    -- the act behind it
                    have hds : ({ tmps := a1.tmps, defers := { target := .fn (.func g) cargs, args := #[] } :: a1.defers } : Act).defers = [{ target := .fn (.func g) cargs, args := #[] }] := by
                      show _ :: a1.defers = _
                      rw [hd1, hd0]
                    refine wp_seq (wp_region ?_)
                    rw [range_pre]
                    have hk2l : o2.size = o2.toList.length := by simp
                    rw [hk2l]
                    have e01 : Ext ι F w ι1 F w1 := e0.trans e1
                    have hAR : ∀ {ι' w'}, Ext ι1 F w1 ι' F w' → AR ι' F w' caps cargs := fun e => ⟨hcs, fun j v x hv hx => (hcr j v x hv hx).mono e⟩
                    refine opsF_ok hT hc hk2 [] _ o2.toList 0 (fun k o' hk => by simpa using hk) ι1 F h1 w1 { tmps := a1.tmps, defers := { target := .fn (.func g) cargs, args := #[] } :: a1.defers } fr1 hw1 hf1 (hs1.trans (hs0.trans hsz)) ?_
                      (fun fr2 h2 r2 a2 w2 hst => ?_) (fun v fr2 h2 r2 c ch ι2 a2 w2 x1 x2 x3 x4 x5 x6 => ?_)
                    · generalize opsF T call o2.toList o2.toList fr1 h1 = r at hok ⊢
                      cases r with
                      | bad n => exact hok.elim
                      | _ => trivial
                    · simp only [r2] at hok ⊢
                      obtain ⟨ι2, e2, hw2, hf2, hs2, hd2⟩ := hst
                      have hco : (codeRun T call D N rest fr2 h2).ok := by
                        generalize codeRun T call D N rest fr2 h2 = r at hok ⊢
                        cases r with
                        | bad n => exact hok.elim
                        | _ => trivial
                      simp only [wpOps]
                      refine wp_mono (code_ok (n := fn.ntmps) hT hc hD rest hk3 ι2 F h2 w2 a2 fr2 hw2 hf2 (hs2.trans (hs1.trans (hs0.trans hsz))) hco) (fun e a3 w3 hp => ?_)
                      have fin3 : ∀ (fr3 : Fr) (h3 : Hp), St ι2 F w2 a2 fr3 h3 a3 w3 → (ending T call D N fn (fnOf g) caps .nili fr3 h3).ok → Leaves P fn a3.tmps (RetR ι F w (ending T call D N fn (fnOf g) caps .nili fr3 h3)) a3.defers .returning w3 := by
                        intro fr3 h3 hst hok3
                        obtain ⟨ι3, e3, hw3, hf3, hs3, hd3⟩ := hst
                        exact ending_ok hT hc hD (fun c hc' => hfnOf g c hc') hname' (.inl ⟨rfl, rfl⟩) (e01.trans (e2.trans e3)) hw3 hf3 (hAR (e2.trans e3)) .nili (hd3.trans (hd2.trans hds)) hok3
                      generalize codeRun T call D N rest fr2 h2 = r at hok hp hco ⊢
                      cases r with
                      | nx fr3 h3 => obtain ⟨rfl, hst⟩ := hp; exact fin3 fr3 h3 hst hok
                      | rt fr3 h3 => obtain ⟨rfl, hst⟩ := hp; exact fin3 fr3 h3 hst hok
                      | ex i fr3 h3 => exact hok.elim
                      | pan v h3 => exact hok.elim
                      | bad n => exact hco.elim
                    · simp only [r2] at hok ⊢
                      exact ending_ok hT hc hD (fun c hc' => hfnOf g c hc') hname' (.inr ⟨ch, rfl⟩) (e01.trans x1) x2 x4 (hAR x1) x3 (x6.trans hds) hok
              · exact hok.elim
            · simp only [r1] at hok
              exact hok.elim
          · exact hok.elim
        · simp only [r0] at hok
          exact hok.elim
      · exact hok.elim
    · exact hok.elim
  · exact hok.elim
end
end Go.AV
namespace Go.AV
open Go
section
variable {T : TypeId → TI} {M : Nat → Prop} {call : CallT} {D : Nat → List Oper → Fr → Hp → CO} {N : Nat}

def CFS (M : Nat → Prop) (h' : Hp) : CF → CF → Prop
  | .nx fr h1, r => ∃ h1', r = .nx fr h1' ∧ Sim M h1 h1' ∧ Keeps M h' h1'
  | .pan v fr h1, r => ∃ h1', r = .pan v fr h1' ∧ Sim M h1 h1' ∧ Keeps M h' h1'
  | .bad _, _ => True
theorem CFS.keeps {h h1 : Hp} (k : Keeps M h h1) {a b : CF} (x : CFS M h1 a b) : CFS M h a b := by
  cases a with
  | bad n => trivial
  | _ => obtain ⟨h2, e1, e2, e3⟩ := x; exact ⟨h2, e1, e2, k.trans e3⟩
theorem opsF_sim (hc : CallSim call) (all : List Oper) : ∀ (os : List Oper) (fr : Fr) (h h' : Hp), Sim M h h' → CFS M h' (opsF T call all os fr h) (opsF T call all os fr h')
  | [], fr, h, h', s => ⟨h', rfl, s, Keeps.refl⟩
  | o :: os, fr, h, h', s => by
    have he : lenOb h' = lenOb h := s.next
    simp only [opsF, he]
    have hs := one_sim (T := T) hc s s.fresh all o fr
    generalize one T call (lenOb h) all o fr h = r at hs ⊢
    generalize one T call (lenOb h) all o fr h' = r' at hs ⊢
    cases r with
    | nx fr' h1 =>
      obtain ⟨h2, rfl, e2, e3⟩ := hs
      exact (opsF_sim hc all os fr' h1 h2 e2).keeps e3
    | pan v h1 => obtain ⟨h2, rfl, e2, e3⟩ := hs; exact ⟨h2, rfl, e2, e3⟩
    | bad n => trivial
theorem closing_sim (hc : CallSim call) (hD : DSim D) (gf : Func) (caps : List V) (rv : V) {h h' : Hp} (s : Sim M h h') : RRS M h' (closing T call D N gf caps rv h) (closing T call D N gf caps rv h') := by
  have key : ∀ (rest : Code) (fr : Fr), RRS M h' (match codeRun T call D N rest fr h with
      | .nx _ h => .val (.tup []) h
      | .rt _ h => .val (.tup []) h
      | .pan v h => .pan v h
      | .ex _ _ _ => .bad 100
      | .bad n => .bad n) (match codeRun T call D N rest fr h' with
      | .nx _ h => .val (.tup []) h
      | .rt _ h => .val (.tup []) h
      | .pan v h => .pan v h
      | .ex _ _ _ => .bad 100
      | .bad n => .bad n) := by
    intro rest fr
    have hs := code_sim (T := T) (N := N) hc hD rest fr h h' s
    generalize codeRun T call D N rest fr h = r at hs ⊢
    generalize codeRun T call D N rest fr h' = r' at hs ⊢
    cases r with
    | nx fr' h1 => obtain ⟨h2, rfl, e2, e3⟩ := hs; exact ⟨h2, rfl, e2, e3⟩
    | rt fr' h1 => obtain ⟨h2, rfl, e2, e3⟩ := hs; exact ⟨h2, rfl, e2, e3⟩
    | pan v h1 => obtain ⟨h2, rfl, e2, e3⟩ := hs; exact ⟨h2, rfl, e2, e3⟩
    | ex i fr' h1 => trivial
    | bad n => trivial
  unfold closing
  split
  · split
    · split
      · split
        · split
          · exact key _ _
          · trivial
        · trivial
      · trivial
    · trivial
  · trivial
theorem ending_sim (hc : CallSim call) (hD : DSim D) (fn gf : Func) (caps : List V) (rv : V) (fr : Fr) {h h' : Hp} (s : Sim M h h') : RRS M h' (ending T call D N fn gf caps rv fr h) (ending T call D N fn gf caps rv fr h') := by
  unfold ending
  have hs := closing_sim (T := T) (N := N) hc hD gf caps rv s
  generalize closing T call D N gf caps rv h = r at hs ⊢
  generalize closing T call D N gf caps rv h' = r' at hs ⊢
  cases r with
  | val v h1 => obtain ⟨h2, rfl, e2, e3⟩ := hs; exact (finish_sim e2 _ _).keeps e3
  | pan v h1 => obtain ⟨h2, rfl, e2, e3⟩ := hs; exact ⟨h2, rfl, e2, e3⟩
  | bad n => trivial
theorem guardRun_sim (hc : CallSim call) (hD : DSim D) (fnOf : Nat → Func) (fn : Func) (xs : List V) {h h' : Hp} (s : Sim M h h') : RRS M h' (guardRun T call D N fnOf fn xs h) (guardRun T call D N fnOf fn xs h') := by
  unfold guardRun
  split
  · rename_i i0 o0 i1 o1 i2 o2 rest hb
    split
    · split
      · have h0 := opsF_sim (T := T) hc o0.toList o0.toList (frame 0 .leaf xs) h h' s
        generalize opsF T call o0.toList o0.toList (frame 0 .leaf xs) h = r at h0 ⊢
        generalize opsF T call o0.toList o0.toList (frame 0 .leaf xs) h' = r' at h0 ⊢
        cases r with
        | bad n => trivial
        | pan v fr h1 => trivial
        | nx fr h1 =>
          obtain ⟨h2, rfl, e2, e3⟩ := h0
          simp only
          split
          · rename_i os f _
            have h4 := opsF_sim (T := T) hc o1.toList os fr h1 h2 e2
            generalize opsF T call o1.toList os fr h1 = r at h4 ⊢
            generalize opsF T call o1.toList os fr h2 = r' at h4 ⊢
            cases r with
            | bad n => trivial
            | pan v fr h1 => trivial
            | nx fr2 h5 =>
              obtain ⟨h6, rfl, f2, f3⟩ := h4
              simp only
              split
              · rename_i g caps _
                split
                · trivial
                · have h7 := opsF_sim (T := T) hc o2.toList o2.toList fr2 h5 h6 f2
                  generalize opsF T call o2.toList o2.toList fr2 h5 = r at h7 ⊢
                  generalize opsF T call o2.toList o2.toList fr2 h6 = r' at h7 ⊢
                  cases r with
                  | bad n => trivial
                  | pan v fr3 h8 =>
                    obtain ⟨h9, rfl, g2, g3⟩ := h7
                    exact ((ending_sim hc hD fn (fnOf g) caps v fr3 g2).keeps g3).keeps (e3.trans f3)
                  | nx fr3 h8 =>
                    obtain ⟨h9, rfl, g2, g3⟩ := h7
                    simp only
                    have hs := code_sim (T := T) (N := N) hc hD rest fr3 h8 h9 g2
                    generalize codeRun T call D N rest fr3 h8 = r at hs ⊢
                    generalize codeRun T call D N rest fr3 h9 = r' at hs ⊢
                    cases r with
                    | nx fr' h1 => obtain ⟨hx, rfl, k2, k3⟩ := hs; exact ((ending_sim hc hD fn (fnOf g) caps .nili fr' k2).keeps (g3.trans k3)).keeps (e3.trans f3)
                    | rt fr' h1 => obtain ⟨hx, rfl, k2, k3⟩ := hs; exact ((ending_sim hc hD fn (fnOf g) caps .nili fr' k2).keeps (g3.trans k3)).keeps (e3.trans f3)
                    | pan v h1 => trivial
                    | ex i fr' h1 => trivial
                    | bad n => trivial
              · trivial
          · trivial
      · trivial
    · trivial
  · trivial
end

abbrev XT := CallT → FuncId → Option (List V → Hp → RR)
section
variable (T : TypeId → TI) (fnOf : Nat → Func) (G : List FuncId) (X : XT) (N : Nat)
/-- What is not walked as it stands: functions with a recovering closure; others, told by X. -/
noncomputable def specs (call : CallT) (f : FuncId) : Option (List V → Hp → RR) := match memN f G with
  | true => some (fun xs h => guardRun T call (drawn T call) N fnOf (fnOf f) xs h)
  | false => X call f
/-- The machine, so deep. -/
noncomputable def mach (n : Nat) : CallT := callF T fnOf (specs T fnOf G X N) (fun call => drawn T call) N n
end

/-- What X tells is so. -/
def XOk (P : Program) (T : TypeId → TI) (X : XT) : Prop := ∀ call, CallOk P call → CallSim call → DOk P (drawn T call) → ∀ (f : FuncId) (g : List V → Hp → RR), X call f = some g →
  ∀ (xs : List V) (h : Hp) (ι : Nat → Option Pl) (F : Nat → Prop) (w : World) (args : Array Value), WR ι F h w → AR ι F w xs args → (g xs h).ok → Does P f args w (RetR ι F w (g xs h))
def XSim (X : XT) : Prop := ∀ call, CallSim call → ∀ (f : FuncId) (g : List V → Hp → RR), X call f = some g → ∀ (M : Nat → Prop) xs h h', Sim M h h' → RRS M h' (g xs h) (g xs h')

theorem specs_sim {T : TypeId → TI} {fnOf : Nat → Func} {G : List FuncId} {X : XT} {N : Nat} (hX : XSim X) : ∀ call, CallSim call → ∀ f g, specs T fnOf G X N call f = some g → ∀ (M : Nat → Prop) xs h h', Sim M h h' → RRS M h' (g xs h) (g xs h') := by
  intro call hc f g hg M xs h h' s
  unfold specs at hg
  split at hg
  · cases hg; exact guardRun_sim hc (drawn_sim hc) fnOf (fnOf f) xs s
  · exact hX call hc f g hg M xs h h' s
theorem mach_sim {T : TypeId → TI} {fnOf : Nat → Func} {G : List FuncId} {X : XT} {N : Nat} (hX : XSim X) (n : Nat) : CallSim (mach T fnOf G X N n) :=
  callF_sim (specs_sim hX) (fun call hc => drawn_sim hc) n

theorem mach_ok {P : Program} {T : TypeId → TI} {fnOf : Nat → Func} {G : List FuncId} {X : XT} {N : Nat} (hm : P.follows .mixedOrders = true) (hT : TOk P T)
    (hfn : ∀ f c, (fnOf f).body = some c → P.funcs[f]? = some (fnOf f)) (hG : ∀ f, memN f G = true → (fnOf f).name ≠ "runtime.NumGoroutine") (hX : XOk P T X) (hXs : XSim X) : ∀ n, CallOk P (mach T fnOf G X N n)
  | 0 => fun f xs h ι F w args hw ha hok => hok.elim
  | n + 1 => fun f xs h ι F w args hw ha hok => by
    have ih := mach_ok (N := N) hm hT hfn hG hX hXs n
    have ihs : CallSim (mach T fnOf G X N n) := mach_sim hXs n
    have hD : DOk P (drawn T (mach T fnOf G X N n)) := drawn_ok hm hT ih ihs
    unfold mach at hok ih ihs hD ⊢
    simp only [callF] at hok ⊢
    split at hok
    · rename_i g hg
      unfold specs at hg
      split at hg
      · rename_i hmem
        cases hg
        refine .inl ⟨?_, guardRun_ok hT ih hD hfn (fun c hc => hfn f c hc) hw ha hok⟩
        have hb : ∃ c, (fnOf f).body = some c := by
          unfold guardRun at hok
          split at hok
          · rename_i hb; exact ⟨_, hb⟩
          · exact hok.elim
        obtain ⟨c, hb⟩ := hb
        have h1 := hfn f c hb
        simp [callFunc, h1, hb, hG f hmem]
      · exact hX _ ih ihs hD f g hg xs h ι F w args hw ha hok
    · rename_i hg
      split at hok
      · exact hok.elim
      · rename_i c hb
        split at hok
        · exact hok.elim
        · rename_i hname
          have hf := hfn f c hb
          refine .inl ⟨?_, body_ok hT ih hD hf hb hw ha hok⟩
          have h1 : (fnOf f).name ≠ "runtime.NumGoroutine" := by simpa using hname
          simp [callFunc, hf, hb, h1]

/-- A body run alike. -/
theorem bodyRun_sim {T : TypeId → TI} {call : CallT} {D : CallT → Nat → List Oper → Fr → Hp → CO} {N : Nat} (hc : CallSim call) (hD : DSim (D call)) (f : Func) (c : Code) (xs : List V) {M : Nat → Prop} {h h' : Hp} (s : Sim M h h') :
    RRS M h' (bodyRun T D N call f c xs h) (bodyRun T D N call f c xs h') := by
  unfold bodyRun
  split
  · trivial
  · split
    · trivial
    · have hs := code_sim (T := T) (N := N) hc hD c (frame 0 .leaf xs) h h' s
      generalize codeRun T call (D call) N c (frame 0 .leaf xs) h = r at hs ⊢
      generalize codeRun T call (D call) N c (frame 0 .leaf xs) h' = r' at hs ⊢
      cases r with
      | nx fr' h1 => obtain ⟨h2, rfl, e2, e3⟩ := hs; exact (finish_sim e2 _ _).keeps e3
      | rt fr' h1 => obtain ⟨h2, rfl, e2, e3⟩ := hs; exact (finish_sim e2 _ _).keeps e3
      | pan v h1 => obtain ⟨h2, rfl, e2, e3⟩ := hs; exact ⟨h2, rfl, e2, e3⟩
      | ex i fr' h1 => trivial
      | bad n => trivial
end Go.AV
namespace Go.AV
open Go

def strs : List (List V) → Option (List (List UInt8))
  | [] => some []
  | c :: r => match c with
    | [.str s] => match strs r with
      | some l => some (s :: l)
      | none => none
    | _ => none
def appB : List UInt8 → List UInt8 → List UInt8
  | [], b => b
  | v :: t, b => v :: appB t b
def joinS (sep : List UInt8) : List (List UInt8) → List UInt8
  | [] => []
  | x :: r => match r with
    | [] => x
    | _ => appB x (appB sep (joinS sep r))
/-- Texts joined: two and more. -/
noncomputable def joinX (h : Hp) : List V → Option (List UInt8)
  | [s, .str sep] => match elsOf std h 1 s with
    | some els => match strs els with
      | some l => match Nat.ble 2 l.length, Nat.ble l.length 1048576 with
        | true, true => match Nat.ble 1 (joinS sep l).length, Nat.ble (joinS sep l).length 1048576 with
          | true, true => some (joinS sep l)
          | _, _ => none
        | _, _ => none
      | none => none
    | none => none
  | _ => none
/-- Two and more? -/
def many2 : List V → Bool
  | s :: _ => match s with
    | .osl _ _ n => Nat.ble 2 n
    | .isl _ els => Nat.ble 2 els.length
    | _ => false
  | [] => false
/-- strings.Join. -/
noncomputable def joinRun (T : TypeId → TI) (fnOf : Nat → Func) (N : Nat) (call : CallT) (f : FuncId) (xs : List V) (h : Hp) : RR := match many2 xs with
  | true => match joinX h xs with
    | some s => .val (.str s) h
    | none => .bad 111
  | false => match (fnOf f).body with
    | none => .bad 85
    | some c => match (fnOf f).name == "runtime.NumGoroutine" with
      | true => .bad 86
      | false => bodyRun T (fun call => drawn T call) N call (fnOf f) c xs h

/-- The kit's contract. -/
def JoinOk (P : Program) (f : FuncId) : Prop := ∀ (bk o c : Nat) (xs : List ByteArray) (sep : ByteArray) (w : World),
  (∀ (j : Nat) x, xs[j]? = some x → w.cell? ⟨bk, o + j, none⟩ = some (.string x)) → bk < w.heap.size → 2 ≤ xs.length → xs.length ≤ 140737488355328 → xs.length ≤ c →
  (Lib.join (xs.map (·.data.toList)) sep.data.toList).length ≤ 281474976710656 → 0 < (Lib.join (xs.map (·.data.toList)) sep.data.toList).length →
  Calls P f #[.slice (some ⟨bk, o, none⟩) xs.length c, .string sep] w fun e w' => e = .returned (.string ⟨(Lib.join (xs.map (·.data.toList)) sep.data.toList).toArray⟩) ∧ RowKit.Below w.heap.size w w'

section
variable {P : Program} {T : TypeId → TI} {ι : Nat → Option Pl} {F : Nat → Prop} {h : Hp} {w : World}
theorem appB_eq (a b : List UInt8) : appB a b = a ++ b := by induction a <;> simp [appB, *]
theorem joinS_eq (sep : List UInt8) : ∀ l, joinS sep l = Lib.join l sep
  | [] => rfl
  | [x] => by simp [joinS, Lib.join_one]
  | x :: y :: r => by
    have := joinS_eq sep (y :: r)
    show appB x (appB sep (joinS sep (y :: r))) = _
    rw [appB_eq, appB_eq, this, Lib.join_cons, Lib.join_cons]
    simp [Lib.joinTail]
theorem below_ext {w' : World} (hw : WR ι F h w) (b : RowKit.Below w.heap.size w w') : Ext ι F w ι F w' ∧ WR ι F h w' := by
  have e : Ext ι F w ι F w' := ⟨fun _ _ h => h, fun _ h => h, fun k hk => b.block k (hw.old k hk), b.size, b.os, b.output, b.tape⟩
  refine ⟨e, hw.free, fun o p hi => (hw.obj o p hi).mono e (fun hr => b.block _ ?_), hw.has, hw.apart, fun k hk => Nat.lt_of_lt_of_le (hw.old k hk) b.size⟩
  have ho := hw.obj o p hi
  revert hr ho
  cases ob h o with
  | free => intro hr; exact hr.elim
  | dead => intro hr; exact hr.elim
  | box cs => exact fun _ h => h.2.1
  | arr sz els => exact fun hr h => (h.2.2.2.resolve_left hr).1
  | map es => exact fun _ h => h.1
  | raw x => exact fun _ h => h.1

/-- A row of texts in memory. -/
theorem texts_at (hw : WR ι F h w) {v : V} {c : Value} (hv : VR ι F w v c) {els : List (List V)} (he : elsOf std h 1 v = some els) {l : List (List UInt8)} (hl : strs els = some l) (h2 : 2 ≤ l.length) :
    ∃ (bk o cap : Nat) (xs : List ByteArray), c = .slice (some ⟨bk, o, none⟩) xs.length cap ∧ xs.map (·.data.toList) = l ∧ xs.length ≤ cap ∧ bk < w.heap.size ∧
      ∀ (j : Nat) x, xs[j]? = some x → w.cell? ⟨bk, o + j, none⟩ = some (.string x) := by
  have key : ∀ (els : List (List V)) (l : List (List UInt8)) (y : Nat → Value), strs els = some l → (∀ (i : Nat) (e : List V) (u : V), els[i]? = some e → e[0]? = some u → VR ι F w u (y i)) →
      ∃ xs : List ByteArray, xs.length = els.length ∧ xs.map (·.data.toList) = l ∧ ∀ (j : Nat) x, xs[j]? = some x → y j = .string x := by
    intro els
    induction els with
    | nil => intro l y hs _; simp [strs] at hs; subst hs; exact ⟨[], rfl, rfl, fun j x hx => by simp at hx⟩
    | cons c r ih =>
      intro l y hs hat
      simp only [strs] at hs
      split at hs
      · rename_i s
        split at hs
        · rename_i t ht
          cases hs
          obtain ⟨xs, e1, e2, e3⟩ := ih t (fun j => y (j + 1)) ht (fun i e u h1 h2 => hat (i + 1) e u (by simpa using h1) h2)
          have := hat 0 [.str s] (.str s) rfl rfl
          generalize hy : y 0 = y0 at this
          cases this with
          | @str b _ hb =>
            refine ⟨b :: xs, by simp [e1], by simp [e2, hb], fun j x hx => ?_⟩
            cases j with
            | zero => simp at hx; subst hx; exact hy
            | succ j => exact e3 j x (by simpa using hx)
        · cases hs
      · cases hs
  have hlen : l.length = els.length := by
    have : ∀ (els : List (List V)) (l : List (List UInt8)), strs els = some l → l.length = els.length := by
      intro els
      induction els with
      | nil => intro l hs; simp [strs] at hs; subst hs; rfl
      | cons c r ih =>
        intro l hs
        simp only [strs] at hs
        split at hs
        · split at hs
          · rename_i ht; cases hs; simp [ih _ ht]
          · cases hs
        · cases hs
    exact this els l hl
  cases hv with
  | nils => simp only [elsOf, Option.some.injEq] at he; subst he; rw [hlen] at h2; simp at h2
  | isl a cap sz b off x hc hsz ha hx hr =>
    simp only [elsOf] at he
    split at he
    · rename_i hb
      cases he
      have hs1 := Nat.eq_of_beq_eq_true hb
      subst hs1
      have hne : els ≠ [] := by rintro rfl; rw [hlen] at h2; simp at h2
      obtain ⟨xs, e1, e2, e3⟩ := key els l (fun i => x i) hl (fun i e u h1 h2 => by have := hr i 0 e u h1 h2; simpa using this)
      obtain ⟨rfl, hF⟩ := ha hne
      refine ⟨b, off, cap, xs, by rw [e1], e2, by rw [e1]; exact hc, hw.old b hF, fun j y hy => ?_⟩
      have hj : j < els.length := by have := (List.getElem?_eq_some_iff.1 hy).1; omega
      rw [(hx hne j (by simpa using hj)).1, e3 j y hy]
    · cases he
  | @osl o p off len cap a hi hle hn hc ha hs =>
    simp only [elsOf] at he
    have ho := hw.obj o p hi
    cases hob : ob h o <;> rw [hob] at he ho <;> simp only [reduceCtorEq] at he
    rename_i sz row
    split at he
    · rename_i hb
      cases he
      have hs1 := Nat.eq_of_beq_eq_true hb
      subst hs1
      obtain ⟨hsz, ⟨hpn, hpc⟩, hall, hrow⟩ := ho
      have hsl : std .sub row off (std .nadd off len) = (row.take (off + len)).drop off := rfl
      rw [hsl] at hl hlen
      have hln : ((row.take (off + len)).drop off).length = len := by simp; omega
      rw [hln] at hlen
      have hcap : ¬ cap = 0 := by omega
      have haa := ha.resolve_left hcap
      rcases hrow with h0 | ⟨hb1, _, cs, e, fr, hcs, _, hroom, hcell⟩
      · omega
      · obtain ⟨xs, e1, e2, e3⟩ := key _ l (fun i => (cs[p.off + (off + i)]?).getD undef) hl (fun i e u h1 h2 => by
          have hil : i < len := by rw [← hln]; exact (List.getElem?_eq_some_iff.1 h1).1
          have h1' : row[off + i]? = some e := by
            rw [List.getElem?_drop, List.getElem?_take_of_lt (by omega)] at h1; exact h1
          have hlt : p.off + (off + i) < cs.size := by omega
          rw [Array.getElem?_eq_getElem hlt, Option.getD_some]
          have := hcell (off + i) 0 e u cs[p.off + (off + i)] h1' h2 (by rw [Nat.mul_one, Nat.add_zero, Array.getElem?_eq_getElem hlt])
          exact this.1)
        rw [hln] at e1
        refine ⟨p.b, p.off + off, cap, xs, ?_, e2, by omega, hb1, fun j y hy => ?_⟩
        · rw [haa, e1, hsz, Nat.mul_one]
        · have hj : j < len := by have := (List.getElem?_eq_some_iff.1 hy).1; omega
          rw [cell_row hcs]
          have hlt : p.off + (off + j) < cs.size := by omega
          have := e3 j y hy
          rw [Array.getElem?_eq_getElem hlt, Option.getD_some] at this
          rw [show p.off + off + j = p.off + (off + j) by omega, Array.getElem?_eq_getElem hlt, this]
    · cases he
  | @str sb l' hs =>
    simp only [elsOf] at he
    have he' : std .bytes l' = els := by simpa using he
    subst he'
    cases l' with
    | nil => rw [hlen] at h2; simp [std] at h2
    | cons b t => simp [std, strs] at hl
  | _ => simp [elsOf] at he

theorem joinRun_ok {fnOf : Nat → Func} {N : Nat} {call : CallT} {f : FuncId} (hJ : JoinOk P f) (hT : TOk P T) (hc : CallOk P call) (hD : DOk P (drawn T call)) (hfn : ∀ f c, (fnOf f).body = some c → P.funcs[f]? = some (fnOf f))
    (hcall : ∀ args w, (callFunc f args).run P w = .ok (.enter f args) w) {xs : List V} {args : Array Value} (hw : WR ι F h w) (ha : AR ι F w xs args) (hok : (joinRun T fnOf N call f xs h).ok) :
    Does P f args w (RetR ι F w (joinRun T fnOf N call f xs h)) := by
  unfold joinRun at hok ⊢
  split at hok
  · split at hok
    case h_2 => exact hok.elim
    rename_i s hs
    refine .inl ⟨hcall args w, ?_⟩
    unfold joinX at hs
    split at hs
    · rename_i v sep _
      split at hs
      · rename_i els hels
        split at hs
        · rename_i l hl
          split at hs
          · rename_i h2 h3
            split at hs
            · rename_i h4 h5
              cases hs
              have h2' : 2 ≤ l.length := Nat.le_of_ble_eq_true h2
              have hsz := ha.size
              have e0 : ∃ a0, args[0]? = some a0 := ⟨args[0]'(by simp at hsz; omega), by simp⟩
              have e1 : ∃ a1, args[1]? = some a1 := ⟨args[1]'(by simp at hsz; omega), by simp⟩
              obtain ⟨a0, e0⟩ := e0
              obtain ⟨a1, e1⟩ := e1
              have v0 := ha.at_ 0 _ _ rfl e0
              have v1 := ha.at_ 1 _ _ rfl e1
              have hargs : args = #[a0, a1] := by
                apply Array.ext'
                have hl2 : args.toList.length = 2 := by simpa using hsz
                match hm : args.toList, hl2 with
                | [p, q], _ =>
                  have p0 : args[0]? = some p := by rw [← Array.getElem?_toList, hm]; rfl
                  have q0 : args[1]? = some q := by rw [← Array.getElem?_toList, hm]; rfl
                  rw [p0] at e0; rw [q0] at e1
                  cases e0; cases e1; rfl
              subst hargs
              cases v1 with
              | @str sb _ hsb =>
                obtain ⟨bk, o, cap, ts, rfl, t1, t2, t3, t4⟩ := texts_at hw v0 hels hl h2'
                have hjs : Lib.join (ts.map (·.data.toList)) sb.data.toList = joinS sep l := by rw [t1, hsb, joinS_eq]
                have hll : ts.length = l.length := by rw [← t1]; simp
                have h3' : l.length ≤ 1048576 := Nat.le_of_ble_eq_true h3
                have h4' : 1 ≤ (joinS sep l).length := Nat.le_of_ble_eq_true h4
                have h5' : (joinS sep l).length ≤ 1048576 := Nat.le_of_ble_eq_true h5
                refine Calls.mono (hJ bk o cap ts sb w t4 t3 (by omega) (by omega) t2 (by rw [hjs]; omega) (by rw [hjs]; omega)) (fun e w' ⟨he, hb⟩ => ?_)
                obtain ⟨x1, x2⟩ := below_ext hw hb
                exact ⟨_, ι, he, x1, x2, .str (by rw [hjs])⟩
            · cases hs
          · cases hs
        · cases hs
      · cases hs
    · cases hs
  · split at hok
    · exact hok.elim
    · rename_i c hb
      split at hok
      · exact hok.elim
      · exact .inl ⟨hcall args w, body_ok (D := fun call => drawn T call) hT hc hD (hfn f c hb) hb hw ha hok⟩

theorem joinX_sim {M : Nat → Prop} {h h' : Hp} (s : Sim M h h') {xs : List V} {r : List UInt8} (hx : joinX h xs = some r) : joinX h' xs = some r := by
  unfold joinX at hx ⊢
  split at hx
  · cases he : elsOf std h 1 _ with
    | none => rw [he] at hx; cases hx
    | some els => rw [he] at hx; rw [elsOf_sim s he]; exact hx
  · cases hx
theorem joinRun_sim {fnOf : Nat → Func} {N : Nat} {call : CallT} (hc : CallSim call) (f : FuncId) (xs : List V) {M : Nat → Prop} {h h' : Hp} (s : Sim M h h') : RRS M h' (joinRun T fnOf N call f xs h) (joinRun T fnOf N call f xs h') := by
  unfold joinRun
  split
  · cases hj : joinX h xs with
    | some r => rw [joinX_sim s hj]; exact ⟨h', rfl, s, Keeps.refl⟩
    | none => trivial
  · split
    · trivial
    · split
      · trivial
      · exact bodyRun_sim hc (drawn_sim hc) _ _ xs s
end
end Go.AV
namespace Go.AV
open Go

/-- A function that ranges over an iterator which never yields: regions; the loop; a region; ret. -/
noncomputable def rangeRun (T : TypeId → TI) (call : CallT) (it : FuncId) (fn : Func) (xs : List V) (h : Hp) : RR := match fn.body with
  | some (.seq (.region _ o0 false) (.seq (.region _ o1 false) (.seq (.seq (.region _ o2 false) (.block _ (.rangeFunc g ps asg bdy))) (.seq (.region _ o3 false) .ret)))) =>
    match okOps fn.ntmps o0.toList, okOps fn.ntmps o1.toList, okOps fn.ntmps o2.toList with
    | true, true, true => match okOps fn.ntmps o3.toList, Nat.ble (lenV xs) fn.ntmps with
      | true, true => match opsF T call o0.toList o0.toList (frame 0 .leaf xs) h with
        | .nx fr h => match opsF T call o1.toList o1.toList fr h with
          | .nx fr h => match opsF T call o2.toList o2.toList fr h with
            | .nx fr h => match arg fr g, freeAll h 2 h.next with
              | .fn f caps, true => match Nat.beq f it with
                | true => match call f (.undef :: caps) (killAll 2 h.next ⟨Nat.add h.next 2, h.t⟩) with
                  | .val _ h => match opsF T call o3.toList o3.toList fr h with
                    | .nx fr h => finish T fn.results.toList fr h
                    | _ => .bad 120
                  | _ => .bad 121
                | false => .bad 126
              | _, _ => .bad 122
            | _ => .bad 123
          | _ => .bad 123
        | _ => .bad 123
      | _, _ => .bad 124
    | _, _, _ => .bad 124
  | _ => .bad 125

section
variable {P : Program} {T : TypeId → TI} {call : CallT} {ι : Nat → Option Pl} {F : Nat → Prop} {h : Hp} {w : World}

/-- An object of the model's own is laid. -/
theorem WR.raw (hw : WR ι F h w) {k : Nat} (hk : ob h k = .free) (o : Obj) : ∃ ι', Ext ι F w ι' F (w.alloc o) ∧ WR ι' F (setOb h k (.raw o)) (w.alloc o) ∧ ι' k = some ⟨w.heap.size, 0, 0, 0, 0⟩ := by
  obtain ⟨h1, hn⟩ := new_ex (.raw o) hk
  obtain ⟨e, hw'⟩ := hw.new hn o ⟨w.heap.size, 0, 0, 0, 0⟩ rfl (fun _ => ⟨by simp, fun hF => absurd (hw.old _ hF) (by simp), by show (w.heap.push o)[w.heap.size]? = _; simp⟩) (by simp)
  refine ⟨_, e, hw'.ext (fun q => ?_), by simp [updI]⟩
  rw [ob_setOb', (ob_newOb hn).2]
/-- It turns, and is given up. -/
theorem WR.putRaw (hw : WR ι F h w) {k : Nat} {p : Pl} {x : Obj} (hi : ι k = some p) (hk : ob h k = .raw x) (y : Obj) :
    Ext ι F w ι F (w.putObj p.b y) ∧ WR ι F (setOb h k .dead) (w.putObj p.b y) := by
  have ho := hw.obj k p hi
  rw [hk] at ho
  obtain ⟨h1, h2, h3⟩ := ho
  have e : Ext ι F w ι F (w.putObj p.b y) := ⟨fun _ _ h => h, fun _ h => h, fun b hb => World.putObj_heap_other (fun e => h2 (e ▸ hb)), by simp, rfl, rfl, rfl⟩
  refine ⟨e, hw.upd k e (fun _ _ _ h => h) (fun o p' hne hio hr => World.putObj_heap_other (hw.apart o k p' p hne hio hi hr (by rw [hk]; trivial))) (fun o hne => by rw [ob_setOb', if_neg hne]) (fun p' _ => by rw [ob_setOb', if_pos rfl]; trivial)
    (fun _ => ⟨p, hi⟩) (fun hf => by rw [ob_setOb', if_pos rfl] at hf; cases hf) (fun p' _ hr => by rw [ob_setOb', if_pos rfl] at hr; exact hr.elim)⟩

theorem rangeRun_ok (hT : TOk P T) (hc : CallOk P call) (hs : CallSim call) {f : FuncId} {fn : Func} (hfn : ∀ c, fn.body = some c → P.funcs[f]? = some fn) {xs : List V} {args : Array Value}
    {it : FuncId} (hit : ∀ args w, (callFunc it args).run P w = .ok (.enter it args) w)
    (hw : WR ι F h w) (ha : AR ι F w xs args) (hok : (rangeRun T call it fn xs h).ok) : Calls P f args w (RetR ι F w (rangeRun T call it fn xs h)) := by
  unfold rangeRun at hok ⊢
  split at hok
  case h_2 => exact hok.elim
  rename_i i0 o0 i1 o1 i2 o2 bid g ps asg bdy i3 o3 hb
  split at hok
  case h_2 => exact hok.elim
  rename_i hk0 hk1 hk2
  split at hok
  case h_2 => exact hok.elim
  rename_i hk3 hle
  have hle' : args.size ≤ fn.ntmps := by rw [ha.size, ← lenV_eq]; exact Nat.le_of_ble_eq_true hle
  have hsz : (args ++ Array.replicate (fn.ntmps - args.size) undef).size = fn.ntmps := by simp; omega
  refine callsIn_wide.1 (callsIn_of_wp_marks (F := Fence.wide) (n := 0) (hfn _ hb) hb trivial (wpIn_wide.2 (wp_seq (wp_region ?_))))
  have len : ∀ o : Array Oper, o.size = o.toList.length := fun o => by simp
  rw [range_pre, len]
  refine opsF_ok hT hc hk0 [] _ o0.toList 0 (fun k o hk => by simpa using hk) ι F h w _ (frame 0 .leaf xs) hw (frame_ok ha _) hsz ?_ (fun fr0 h0 r0 a0 w0 hst0 => ?_) (fun v fr0 h0 r0 => by simp only [r0] at hok; exact hok.elim)
  · generalize opsF T call o0.toList o0.toList (frame 0 .leaf xs) h = r at hok ⊢
    cases r with
    | bad n => exact hok.elim
    | _ => trivial
  simp only [r0] at hok ⊢
  obtain ⟨ι0, e0, hw0, hf0, hs0, hd0⟩ := hst0
  simp only [wpOps]
  refine wp_seq (wp_region ?_)
  rw [range_pre, len]
  refine opsF_ok hT hc hk1 [] _ o1.toList 0 (fun k o hk => by simpa using hk) ι0 F h0 w0 a0 fr0 hw0 hf0 (hs0.trans hsz) ?_ (fun fr1 h1 r1 a1 w1 hst1 => ?_) (fun v fr1 h1 r1 => by simp only [r1] at hok; exact hok.elim)
  · generalize opsF T call o1.toList o1.toList fr0 h0 = r at hok ⊢
    cases r with
    | bad n => exact hok.elim
    | _ => trivial
  simp only [r1] at hok ⊢
  obtain ⟨ι1, e1, hw1, hf1, hs1, hd1⟩ := hst1
  simp only [wpOps]
  refine wp_seq (wp_seq (wp_region ?_))
  rw [range_pre, len]
  refine opsF_ok hT hc hk2 [] _ o2.toList 0 (fun k o hk => by simpa using hk) ι1 F h1 w1 a1 fr1 hw1 hf1 (hs1.trans (hs0.trans hsz)) ?_ (fun fr2 h2 r2 a2 w2 hst2 => ?_) (fun v fr2 h2 r2 => by simp only [r2] at hok; exact hok.elim)
  · generalize opsF T call o2.toList o2.toList fr1 h1 = r at hok ⊢
    cases r with
    | bad n => exact hok.elim
    | _ => trivial
  simp only [r2] at hok ⊢
  obtain ⟨ι2, e2, hw2, hf2, hs2, hd2⟩ := hst2
  have e02 : Ext ι F w ι2 F w2 := (e0.trans e1).trans e2
  have hd02 : a2.defers = [] := hd2.trans (hd1.trans hd0)
  simp only [wpOps]
  split at hok
  case h_2 => exact hok.elim
  rename_i gf caps hg hfree
  split at hok
  case h_2 => exact hok.elim
  rename_i hbeq
  have hgi : gf = it := Nat.eq_of_beq_eq_true hbeq
  subst hgi
  split at hok
  case h_2 => exact hok.elim
  rename_i rv h3 hcall
  split at hok
  case h_2 => exact hok.elim
  rename_i fr4 h4 r4
  -- the closure
  have hvg := VR.arg hf2 g
  rw [hg] at hvg
  generalize hcg : a2.eval g = cg at hvg
  cases hvg with
  | @fn _ cargs _ hcs hcr =>
    have hf0' : ob h2 h2.next = .free ∧ ob h2 (h2.next + 1) = .free := by
      simp only [freeAll] at hfree
      split at hfree
      · rename_i q0
        split at hfree
        · rename_i q1; exact ⟨q0, q1⟩
        · cases hfree
      · cases hfree
    have hkob : ∀ o, ob (killAll 2 h2.next ⟨Nat.add h2.next 2, h2.t⟩) o = if h2.next ≤ o ∧ o < h2.next + 2 then .dead else ob h2 o := fun o => killAll_ob 2 h2.next _ o
    -- dead they stay
    have smr : Sim (fun o => o = h2.next ∨ o = h2.next + 1) (killAll 2 h2.next ⟨Nat.add h2.next 2, h2.t⟩) (killAll 2 h2.next ⟨Nat.add h2.next 2, h2.t⟩) :=
      ⟨rfl, fun _ _ => rfl, fun o ho => ⟨.inl (by rw [hkob, if_pos (by omega)]), by rw [killAll_next]; show o < h2.next + 2; omega⟩⟩
    have dead3 : Sim (fun o => o = h2.next ∨ o = h2.next + 1) h3 h3 ∧ ∀ o, (o = h2.next ∨ o = h2.next + 1) → ob h3 o = .dead := by
      have := hs _ gf (.undef :: caps) _ _ smr
      rw [hcall] at this
      obtain ⟨hx, e1, e2, e3⟩ := this
      cases e1
      exact ⟨e2, fun o ho => by rw [e3 o ho, hkob, if_pos (by omega)]⟩
    have dead4 : ∀ o, (o = h2.next ∨ o = h2.next + 1) → ob h4 o = .dead := by
      have := opsF_sim (T := T) hs o3.toList o3.toList fr2 h3 h3 dead3.1
      rw [r4] at this
      obtain ⟨hx, e1, e2, e3⟩ := this
      cases e1
      exact fun o ho => by rw [e3 o ho]; exact dead3.2 o ho
    refine wp_block ?_
    refine (wpIn_wide (n := 1)).1 (wpIn_rangeFunc (fun fid _ => ?_))
    -- the two records
    obtain ⟨ιA, eA, hwA, iA⟩ := hw2.raw hf0'.1 (.deferred (some []))
    have hfB : ob (setOb h2 h2.next (.raw (.deferred (some [])))) (h2.next + 1) = .free := by rw [ob_setOb', if_neg (by omega)]; exact hf0'.2
    obtain ⟨ιB, eB, hwB, iB⟩ := hwA.raw hfB (.loop { state := .ready, pending := none, fn := fid, tmps := a2.tmps, params := ps, assign := asg, body := bdy, defers := w2.heap.size })
    have iAB := eB.at_ _ _ iA
    have eAB := eA.trans eB
    generalize hlo : (Obj.loop { state := .ready, pending := none, fn := fid, tmps := a2.tmps, params := ps, assign := asg, body := bdy, defers := w2.heap.size }) = lo at hwB eB eAB
    have hrob : ∀ o, ob ⟨h2.next + 2, (setOb (setOb h2 h2.next (.raw (.deferred (some [])))) (h2.next + 1) (.raw lo)).t⟩ o = if o = h2.next + 1 then .raw lo else if o = h2.next then .raw (.deferred (some [])) else ob h2 o := by
      intro o
      show ob (setOb (setOb h2 h2.next _) (h2.next + 1) _) o = _
      rw [ob_setOb', ob_setOb']
    have hwraw : WR ιB F ⟨h2.next + 2, (setOb (setOb h2 h2.next (.raw (.deferred (some [])))) (h2.next + 1) (.raw lo)).t⟩ ((w2.alloc (.deferred (some []))).alloc lo) := hwB.ext (fun o => rfl)
    generalize hraw : (⟨h2.next + 2, (setOb (setOb h2 h2.next (.raw (.deferred (some [])))) (h2.next + 1) (.raw lo)).t⟩ : Hp) = hR at hrob hwraw
    have hRn : hR.next = h2.next + 2 := by rw [← hraw]
    have sm : Sim (fun o => o = h2.next ∨ o = h2.next + 1) (killAll 2 h2.next ⟨Nat.add h2.next 2, h2.t⟩) hR := by
      refine ⟨by rw [killAll_next, hRn], fun o ho => ?_, fun o ho => ⟨.inl ?_, ?_⟩⟩
      · rw [hrob, hkob, if_neg (fun e => ho (.inr e)), if_neg (fun e => ho (.inl e)), if_neg (fun e => ho (by omega))]
      · rw [hkob, if_pos (by omega)]
      · rw [killAll_next]; show o < h2.next + 2; omega
    have hcs1 := hs _ gf (.undef :: caps) _ _ sm
    rw [hcall] at hcs1
    obtain ⟨h3', hc3, sm3, kp3⟩ := hcs1
    have hdo := hc gf (.undef :: caps) hR ιB F _ (#[.func (.yield (w2.heap.size + 1)) #[] #[]] ++ cargs) hwraw ⟨by simp [hcs]; omega, fun j v x hv hx => by
      cases j with
      | zero => simp at hv; subst hv; exact .undef x
      | succ j =>
        rw [Array.getElem?_append_right (by simp)] at hx
        exact (hcr j v x (by simpa using hv) (by simpa using hx)).mono eAB⟩ (by rw [hc3]; trivial)
    rw [hc3] at hdo
    rcases hdo with ⟨hen, hcl⟩ | ⟨v, w', hen, _⟩
    case inr => rw [hit] at hen; cases hen
    have hsA : (w2.alloc (.deferred (some []))).heap.size = w2.heap.size + 1 := by simp
    refine ⟨w2.heap.size + 1, [{ target := .collected w2.heap.size, args := #[] }], (w2.alloc (.deferred (some []))).alloc lo, { target := .fn (.func gf) cargs, args := #[.func (.yield (w2.heap.size + 1)) #[] #[]] }, (w2.alloc (.deferred (some []))).alloc lo, gf, #[.func (.yield (w2.heap.size + 1)) #[] #[]] ++ cargs, (w2.alloc (.deferred (some []))).alloc lo,
      by rw [← hlo]; exact run_enterLoop_outer fid a2.tmps ps asg bdy, ?_, fun _ _ => trivial, ?_, fun h => absurd h (by simp [Fence.wide]), ?_⟩
    · have hy : a2.eval (.const (.func (.yield (w2.heap.size + 1)) #[] #[])) = .func (.yield (w2.heap.size + 1)) #[] #[] := rfl
      simp [resolve, rangeCall, hcg, Deferred.ofValue, hy]
    · simp only [invoke]; exact hit _ _
    -- behind the iterator
    rw [callsIn_wide]
    refine Calls.mono hcl (fun e w3 hR3 => ?_)
    obtain ⟨c3, ι3, rfl, e3, hw3, _⟩ := hR3
    have i3 := e3.at_ _ _ iB
    have i30 := e3.at_ _ _ iAB
    have k31 : ob h3' (h2.next + 1) = .raw lo := by rw [kp3 _ (.inr rfl), hrob, if_pos rfl]
    have k30 : ob h3' h2.next = .raw (.deferred (some [])) := by rw [kp3 _ (.inl rfl), hrob, if_neg (by omega), if_pos rfl]
    have hblk : w3.heap[w2.heap.size + 1]? = some lo := by
      have := hw3.obj _ _ i3
      rw [k31] at this
      have := this.2.2
      simpa using this
    rw [← hlo] at hblk
    refine ⟨none, _, run_endLoop hblk (by simp), ?_⟩
    obtain ⟨e4, hw4⟩ := hw3.putRaw i3 k31 (.loop { state := .exhausted, pending := none, fn := fid, tmps := a2.tmps, params := ps, assign := asg, body := bdy, defers := w2.heap.size })
    rw [hsA] at e4 hw4
    have e24 : Ext ι F w ι3 F (w3.putObj (w2.heap.size + 1) (.loop { state := .exhausted, pending := none, fn := fid, tmps := a2.tmps, params := ps, assign := asg, body := bdy, defers := w2.heap.size })) := (e02.trans (eAB.trans e3)).trans e4
    generalize w3.putObj (w2.heap.size + 1) (.loop { state := .exhausted, pending := none, fn := fid, tmps := a2.tmps, params := ps, assign := asg, body := bdy, defers := w2.heap.size }) = w4 at e4 hw4 e24 ⊢
    have hf4 : FR ι3 F w4 fr2 a2.tmps := hf2.mono ((eAB.trans e3).trans e4)
    -- the last region
    have sm5 : Sim (fun o => o = h2.next ∨ o = h2.next + 1) h3 (setOb h3' (h2.next + 1) .dead) := by
      refine ⟨by rw [setOb_next]; exact sm3.next, fun o ho => ?_, sm3.none⟩
      rw [ob_setOb', if_neg (fun e => ho (.inr e))]; exact sm3.same o ho
    have r5 := opsF_sim (T := T) hs o3.toList o3.toList fr2 _ _ sm5
    rw [r4] at r5
    obtain ⟨h5, r5, sm6, kp5⟩ := r5
    refine wp_seq (wp_region ?_)
    rw [range_pre, len]
    refine opsF_ok hT hc hk3 [] _ o3.toList 0 (fun k o hk => by simpa using hk) ι3 F (setOb h3' (h2.next + 1) .dead) w4 { tmps := a2.tmps, defers := [{ target := .collected w2.heap.size, args := #[] }] ++ a2.defers } fr2 hw4 hf4 (hs2.trans (hs1.trans (hs0.trans hsz))) (by rw [r5]; trivial)
      (fun fr6 h6 r6 a6 w6 hst6 => ?_) (fun v fr6 h6 r6 => by rw [r5] at r6; cases r6)
    rw [r5] at r6
    cases r6
    obtain ⟨ι6, e6, hw6, hf6, hs6, hd6⟩ := hst6
    simp only [wpOps]
    refine wp_ret ?_
    have i60 := e6.at_ _ _ i30
    have k60 : ob h5 h2.next = .raw (.deferred (some [])) := by rw [kp5 _ (.inl rfl), ob_setOb', if_neg (by omega)]; exact k30
    have hblk0 : w6.heap[w2.heap.size]? = some (.deferred (some [])) := by
      have := hw6.obj _ _ i60
      rw [k60] at this
      exact this.2.2
    show LeavesInM Fence.wide 0 P fn a6.tmps _ a6.defers .returning w6
    rw [hd6]
    show LeavesInM Fence.wide 0 P fn a6.tmps _ ({ target := .collected w2.heap.size, args := #[] } :: a2.defers) .returning w6
    rw [hd02]
    refine ⟨by simp, .inl ⟨w2.heap.size, _, rfl, run_takeDeferred hblk0, ?_⟩⟩
    obtain ⟨e7, hw7⟩ := hw6.putRaw i60 k60 (.deferred none)
    have e27 : Ext ι F w ι6 F (w6.putObj w2.heap.size (.deferred none)) := (e24.trans e6).trans e7
    have hf7 := hf6.mono e7
    show LeavesIn Fence.wide 0 P fn a6.tmps _ [] .returning (w6.putObj w2.heap.size (.deferred none))
    have hw8 : WR ι6 F h4 (w6.putObj w2.heap.size (.deferred none)) := hw7.kills (fun o => by
      by_cases ho : o = h2.next ∨ o = h2.next + 1
      · exact .inl (dead4 o ho)
      · right
        rw [ob_setOb', if_neg (fun e => ho (.inl e))]
        exact (sm6.same o ho).symm)
    obtain ⟨c, v, q1, q2, q3⟩ := finish_ok hT hw8 (fn := fn) hf7 hok
    rw [q1]
    exact ⟨c, q2, c, ι6, rfl, e27, hw8, q3⟩

theorem rangeRun_sim {it : FuncId} (hs : CallSim call) (fn : Func) (xs : List V) {M : Nat → Prop} {h h' : Hp} (s : Sim M h h') : RRS M h' (rangeRun T call it fn xs h) (rangeRun T call it fn xs h') := by
  unfold rangeRun
  split
  case h_2 => trivial
  rename_i i0 o0 i1 o1 i2 o2 bid g ps asg bdy i3 o3 hb
  split
  case h_2 => trivial
  split
  case h_2 => trivial
  have a0 := opsF_sim (T := T) hs o0.toList o0.toList (frame 0 .leaf xs) h h' s
  generalize opsF T call o0.toList o0.toList (frame 0 .leaf xs) h = r at a0 ⊢
  generalize opsF T call o0.toList o0.toList (frame 0 .leaf xs) h' = r' at a0 ⊢
  cases r with
  | bad n => trivial
  | pan v fr h => trivial
  | nx fr0 h0 =>
    obtain ⟨h0', rfl, s0, k0⟩ := a0
    simp only
    have a1 := opsF_sim (T := T) hs o1.toList o1.toList fr0 h0 h0' s0
    generalize opsF T call o1.toList o1.toList fr0 h0 = r at a1 ⊢
    generalize opsF T call o1.toList o1.toList fr0 h0' = r' at a1 ⊢
    cases r with
    | bad n => trivial
    | pan v fr h => trivial
    | nx fr1 h1 =>
      obtain ⟨h1', rfl, s1, k1⟩ := a1
      simp only
      have a2 := opsF_sim (T := T) hs o2.toList o2.toList fr1 h1 h1' s1
      generalize opsF T call o2.toList o2.toList fr1 h1 = r at a2 ⊢
      generalize opsF T call o2.toList o2.toList fr1 h1' = r' at a2 ⊢
      cases r with
      | bad n => trivial
      | pan v fr h => trivial
      | nx fr2 h2 =>
        obtain ⟨h2', rfl, s2, k2⟩ := a2
        simp only
        split
        case h_2 => trivial
        rename_i gf caps hg hfree
        have hb2 : ∀ j, ¬ M (h2.next + j) := fun j hm => by have := (s2.none _ hm).2; omega
        rw [s2.next, freeAll_sim s2 _ _ hb2 hfree]
        simp only [hg]
        split
        case h_2 => trivial
        have sn : Sim M ⟨Nat.add h2.next 2, h2.t⟩ ⟨Nat.add h2.next 2, h2'.t⟩ := ⟨rfl, s2.same, fun o ho => ⟨(s2.none o ho).1, Nat.lt_of_lt_of_le (s2.none o ho).2 (Nat.le_add_right _ _)⟩⟩
        obtain ⟨sk, kk⟩ := killAll_sim sn hb2 2
        have a3 := hs M gf (.undef :: caps) _ _ sk
        generalize call gf (.undef :: caps) (killAll 2 h2.next ⟨Nat.add h2.next 2, h2.t⟩) = r at a3 ⊢
        generalize call gf (.undef :: caps) (killAll 2 h2.next ⟨Nat.add h2.next 2, h2'.t⟩) = r' at a3 ⊢
        cases r with
        | bad n => trivial
        | pan v h => trivial
        | val v h3 =>
          obtain ⟨h3', rfl, s3, k3⟩ := a3
          simp only
          have a4 := opsF_sim (T := T) hs o3.toList o3.toList fr2 h3 h3' s3
          generalize opsF T call o3.toList o3.toList fr2 h3 = r at a4 ⊢
          generalize opsF T call o3.toList o3.toList fr2 h3' = r' at a4 ⊢
          cases r with
          | bad n => trivial
          | pan v fr h => trivial
          | nx fr4 h4 =>
            obtain ⟨h4', rfl, s4, k4⟩ := a4
            have kk' : Keeps M h2' (killAll 2 h2.next ⟨Nat.add h2.next 2, h2'.t⟩) := kk
            exact ((finish_sim s4 _ _).keeps (kk'.trans (k3.trans k4))).keeps (k0.trans (k1.trans k2))
end
end Go.AV
