/-
  The abstract machine: code, loops, calls are as the model runs them; runs on heaps that are alike. By an AI agent. Conditions: none beyond what each theorem states.
-/
import Derived.Test.YtpoafchgogpooaaGreatDoorAvA
import Derived.Test.YtpoafchgogpooaaGreatDoorAvC
import Derived.Orders
import GoSem.Core.Region
set_option linter.unusedVariables false
set_option linter.unusedSimpArgs false
namespace Go.AV

inductive OR where
  | nx (fr : Fr) (h : Hp)
  | pan (v : V) (h : Hp)
  | bad (n : Nat)
inductive CO where
  | nx (fr : Fr) (h : Hp)
  | ex (i : Nat) (fr : Fr) (h : Hp)
  | rt (fr : Fr) (h : Hp)
  | pan (v : V) (h : Hp)
  | bad (n : Nat)
inductive RR where
  | val (v : V) (h : Hp)
  | pan (v : V) (h : Hp)
  | bad (n : Nat)
abbrev CallT := FuncId → List V → Hp → RR

section
variable (T : TypeId → TI) (call : CallT)

/-- What an operation leaves. -/
noncomputable def fin (fr : Fr) (dst : Option Nat) : Res → OR
  | .val v h => .nx (putD fr dst v) h
  | .non h => .nx (putD fr dst (.tup [])) h
  | .call f xs h => match call f xs h with
    | .val v h => .nx (putD fr dst v) h
    | .pan v h => .pan v h
    | .bad n => .bad n
  | .pan v h => .pan v h
  | .bad n => .bad n
/-- One operation, if it is to be done. -/
noncomputable def one (nid : Nat) (all : List Oper) (o : Oper) (fr : Fr) (h : Hp) : OR := match wantV all fr o.guard with
  | .yes => fin call fr o.dst (evOp std T nid fr h o)
  | .no => .nx (putD fr o.dst (.tup [])) h
  | .bad => .bad 70
noncomputable def opsRun (all : List Oper) : List Oper → Fr → Hp → CO
  | [], fr, h => .nx fr h
  | o :: os, fr, h => match one T call (lenOb h) all o fr h with
    | .nx fr h => opsRun all os fr h
    | .pan v h => .pan v h
    | .bad n => .bad n
def iter (f : Fr → Hp → CO) : Nat → Fr → Hp → CO
  | 0, _, _ => .bad 71
  | n + 1, fr, h => match f fr h with
    | .nx fr h => iter f n fr h
    | .ex i fr h => .ex i fr h
    | .rt fr h => .rt fr h
    | .pan v h => .pan v h
    | .bad n => .bad n
variable (D : Nat → List Oper → Fr → Hp → CO) (N : Nat)
noncomputable def codeRun : Code → Fr → Hp → CO
  | .skip, fr, h => .nx fr h
  | .region id ops d, fr, h => match d with
    | true => D id ops.toList fr h
    | false => opsRun T call ops.toList ops.toList fr h
  | .seq a b, fr, h => match codeRun a fr h with
    | .nx fr h => codeRun b fr h
    | .ex i fr h => .ex i fr h
    | .rt fr h => .rt fr h
    | .pan v h => .pan v h
    | .bad n => .bad n
  | .cond x a b, fr, h => match arg fr x with
    | .bool t => match t with
      | true => codeRun a fr h
      | false => codeRun b fr h
    | _ => .bad 72
  | .block id b, fr, h => match codeRun b fr h with
    | .ex i fr h => match Nat.beq i id with | true => .nx fr h | false => .ex i fr h
    | .nx fr h => .nx fr h
    | .rt fr h => .rt fr h
    | .pan v h => .pan v h
    | .bad n => .bad n
  | .loop b, fr, h => iter (fun fr h => codeRun b fr h) N fr h
  | .exit id, fr, h => .ex id fr h
  | .ret, fr, h => .rt fr h
  | .scope _, _, _ => .bad 73
  | .label _, _, _ => .bad 73
  | .goto _, _, _ => .bad 73
  | .rangeFunc _ _ _ _, _, _ => .bad 73
  | .refuse _, _, _ => .bad 73

noncomputable def resV (fr : Fr) (h : Hp) : ResultVar → Option V
  | .tmp t => some (fr.get .undef t)
  | .cell a t => match (T t).d with
    | .other => none
    | _ => match loadN std h (szL (T t)) (fr.get .undef a) with
      | some cs => some (valOf (T t) cs)
      | none => none
noncomputable def resVs (fr : Fr) (h : Hp) : List ResultVar → Option (List V)
  | [] => some []
  | r :: rs => match resV T fr h r, resVs fr h rs with
    | some v, some vs => some (v :: vs)
    | _, _ => none
noncomputable def finish (rs : List ResultVar) (fr : Fr) (h : Hp) : RR := match resVs T fr h rs with
  | some vs => match vs with
    | [v] => .val v h
    | vs => .val (.tup vs) h
  | none => .bad 76
end

/-- All slots that are written lie in the frame. -/
def okDst (n : Nat) : Option Nat → Bool
  | none => true
  | some d => Nat.blt d n
def okOps (n : Nat) : List Oper → Bool
  | [] => true
  | o :: os => match okDst n o.dst with | true => okOps n os | false => false
def okCode (n : Nat) : Code → Bool
  | .region _ ops _ => okOps n ops.toList
  | .seq a b => match okCode n a with | true => okCode n b | false => false
  | .cond _ a b => match okCode n a with | true => okCode n b | false => false
  | .block _ b => okCode n b
  | .loop b => okCode n b
  | _ => true

section
variable (T : TypeId → TI) (fn : Nat → Func) (S : CallT → FuncId → Option (List V → Hp → RR)) (D : CallT → Nat → List Oper → Fr → Hp → CO) (N : Nat)
/-- A body run. -/
noncomputable def bodyRun (call : CallT) (f : Func) (c : Code) (xs : List V) (h : Hp) : RR :=
  match okCode f.ntmps c with
  | false => .bad 81
  | true => match Nat.ble (lenV xs) f.ntmps with
    | false => .bad 82
    | true => match codeRun T call (D call) N c (frame 0 .leaf xs) h with
      | .nx fr h => finish T f.results.toList fr h
      | .rt fr h => finish T f.results.toList fr h
      | .ex _ _ _ => .bad 83
      | .pan v h => .pan v h
      | .bad n => .bad n
noncomputable def callF : Nat → CallT
  | 0, _, _, _ => .bad 84
  | n + 1, f, xs, h => match S (callF n) f with
    | some g => g xs h
    | none => match (fn f).body with
      | none => .bad 85
      | some c => match (fn f).name == "runtime.NumGoroutine" with
        | true => .bad 86
        | false => bodyRun T D N (callF n) (fn f) c xs h
end
end Go.AV
namespace Go.AV
open Go

/-- Values row by row. -/
structure AR (ι : Nat → Option Pl) (F : Nat → Prop) (w : World) (xs : List V) (args : Array Value) : Prop where
  size : args.size = xs.length
  at_ : ∀ (j : Nat) (v : V) (x : Value), xs[j]? = some v → args[j]? = some x → VR ι F w v x

/-- The panics behind one. -/
abbrev Ch := { l : List PanicEntry // ∀ x ∈ l, x.goexit = false }
/-- What a call leaves. -/
def RetR (ι : Nat → Option Pl) (F : Nat → Prop) (w : World) : RR → Ending → World → Prop
  | .val v h', e, w' => ∃ c ι', e = .returned c ∧ Ext ι F w ι' F w' ∧ WR ι' F h' w' ∧ VR ι' F w' v c
  | .pan v h', e, w' => ∃ c, ∃ ch : Ch, ∃ ι', e = .panicked ({ v := c, recovered := false } :: ch.1) ∧ Ext ι F w ι' F w' ∧ WR ι' F h' w' ∧ VR ι' F w' v c
  | .bad _, _, _ => True

def RR.ok : RR → Prop
  | .bad _ => False
  | _ => True

/-- A call ends so: of a function with a body, or of one that the model knows itself. -/
def Does (P : Program) (f : FuncId) (args : Array Value) (w : World) (R : Ending → World → Prop) : Prop :=
  ((callFunc f args).run P w = .ok (.enter f args) w ∧ Calls P f args w R) ∨ ∃ c w', (callFunc f args).run P w = .ok (.value c) w' ∧ R (.returned c) w'

def CallOk (P : Program) (call : CallT) : Prop := ∀ (f : FuncId) (xs : List V) (h : Hp) (ι : Nat → Option Pl) (F : Nat → Prop) (w : World) (args : Array Value),
  WR ι F h w → AR ι F w xs args → (call f xs h).ok → Does P f args w (RetR ι F w (call f xs h))

/-- A running frame is as told. -/
def St (ι : Nat → Option Pl) (F : Nat → Prop) (w : World) (a : Act) (fr : Fr) (h : Hp) (a' : Act) (w' : World) : Prop :=
  ∃ ι', Ext ι F w ι' F w' ∧ WR ι' F h w' ∧ FR ι' F w' fr a'.tmps ∧ a'.tmps.size = a.tmps.size ∧ a'.defers = a.defers

theorem St.trans {ι F w a fr h a1 w1} (s : St ι F w a fr h a1 w1) {K : Prop} (k : ∀ ι1, Ext ι F w ι1 F w1 → WR ι1 F h w1 → FR ι1 F w1 fr a1.tmps → a1.tmps.size = a.tmps.size → a1.defers = a.defers → K) : K := by
  obtain ⟨ι1, h1, h2, h3, h4, h5⟩ := s
  exact k ι1 h1 h2 h3 h4 h5

/-- Where code ends. -/
def CPost (ι : Nat → Option Pl) (F : Nat → Prop) (w : World) (a : Act) : CO → Exit → Act → World → Prop
  | .nx fr h, e, a', w' => e = .normal ∧ St ι F w a fr h a' w'
  | .ex i fr h, e, a', w' => e = .exit i ∧ St ι F w a fr h a' w'
  | .rt fr h, e, a', w' => e = .ret ∧ St ι F w a fr h a' w'
  | .pan v h, e, a', w' => ∃ c, ∃ ch : Ch, ∃ ι', e = .panic ({ v := c, recovered := false } :: ch.1) ∧ Ext ι F w ι' F w' ∧ WR ι' F h w' ∧ VR ι' F w' v c ∧ a'.defers = a.defers
  | .bad _, _, _, _ => True
def CO.ok : CO → Prop
  | .bad _ => False
  | _ => True
def OR.ok : OR → Prop
  | .bad _ => False
  | _ => True
def OR.cr : OR → CO
  | .nx fr h => .nx fr h
  | .pan v h => .pan v h
  | .bad n => .bad n

theorem CPost.lift {ι F w a ι1 w1 a1} (e1 : Ext ι F w ι1 F w1) (hs : a1.tmps.size = a.tmps.size) (hd : a1.defers = a.defers) {r : CO} {e a' w'} (h : CPost ι1 F w1 a1 r e a' w') : CPost ι F w a r e a' w' := by
  cases r with
  | nx fr hp =>
    obtain ⟨rfl, ι2, h1, h2, h3, h4, h5⟩ := h
    exact ⟨rfl, ι2, e1.trans h1, h2, h3, h4.trans hs, h5.trans hd⟩
  | ex i fr hp =>
    obtain ⟨rfl, ι2, h1, h2, h3, h4, h5⟩ := h
    exact ⟨rfl, ι2, e1.trans h1, h2, h3, h4.trans hs, h5.trans hd⟩
  | rt fr hp =>
    obtain ⟨rfl, ι2, h1, h2, h3, h4, h5⟩ := h
    exact ⟨rfl, ι2, e1.trans h1, h2, h3, h4.trans hs, h5.trans hd⟩
  | pan v hp =>
    obtain ⟨c, ch, ι2, rfl, h1, h2, h3, h5⟩ := h
    exact ⟨c, ch, ι2, rfl, e1.trans h1, h2, h3, h5.trans hd⟩
  | bad n => trivial

section
variable {P : Program} {T : TypeId → TI} {call : CallT} {ι : Nat → Option Pl} {F : Nat → Prop} {h : Hp} {w : World} {a : Act} {fr : Fr}

theorem put_size (a : Act) (d : Option Tmp) (v : Value) : (a.put d v).tmps.size = a.tmps.size := by cases d <;> simp [Act.put]
theorem put_defers (a : Act) (d : Option Tmp) (v : Value) : (a.put d v).defers = a.defers := by cases d <;> rfl

theorem dst_lt {n : Nat} {d : Option Nat} (h : okDst n d = true) (k : Nat) (hk : d = some k) : k < n := by
  subst hk; simpa [okDst] using h

theorem undef_vr (ι F w) : VR ι F w (.tup []) undef := .tup rfl (fun j v x hv => by simp at hv)

/-- The guard. -/
theorem want_ok (hf : FR ι F w fr a.tmps) (ops : Array Oper) (o : Oper) :
    (wantV ops.toList fr o.guard = .yes → Region.wanted o (yielded ops a.tmps) = true) ∧ (wantV ops.toList fr o.guard = .no → Region.wanted o (yielded ops a.tmps) = false) := by
  unfold Region.wanted
  cases hg : o.guard with
  | none => simp [wantV]
  | some jw =>
    obtain ⟨j, want⟩ := jw
    have hdst : ∀ (l : List Oper) (j : Nat), dstOf l j = (l[j]?).bind (·.dst) := by
      intro l
      induction l with
      | nil => intro j; simp [dstOf]
      | cons x t ih => intro j; cases j <;> simp [dstOf, ih]
    simp only [wantV, hdst]
    have hy : yielded ops a.tmps j = match ((ops.toList[j]?).bind (·.dst)).bind (a.tmps[·]?) with | some (.bool b) => some b | _ => none := by
      unfold yielded; simp only [Array.getElem?_toList]; rfl
    cases hd : (ops.toList[j]?).bind (·.dst) with
    | none => simp
    | some d =>
      simp only
      rw [hd] at hy
      simp only [Option.bind_some] at hy
      have hv := hf.at_ d
      rw [Array.getD_eq_getD_getElem?] at hv
      generalize fr.get .undef d = v at hv ⊢
      generalize hx : (a.tmps[d]?).getD undef = x at hv
      cases hv with
      | bool b =>
        have : a.tmps[d]? = some (.bool b) := by
          cases ht : a.tmps[d]? with
          | none => rw [ht] at hx; simp [undef] at hx
          | some y => rw [ht] at hx; simp at hx; rw [hx]
        rw [this] at hy
        simp only at hy
        cases want <;> cases b <;> simp [hy]
      | @tup cs c hs hr =>
        cases cs with
        | nil =>
          have hc : c = #[] := by cases c; simp_all
          subst hc
          have : yielded ops a.tmps j = none := by
            rw [hy]
            cases ht : a.tmps[d]? with
            | none => rfl
            | some y =>
              rw [ht] at hx
              simp at hx
              rw [hx]
          simp [this]
        | cons u t => simp
      | _ => simp

/-- One operation. -/
theorem one_ok (hT : TOk P T) (hc : CallOk P call) (hw : WR ι F h w) (hf : FR ι F w fr a.tmps) (nid : Nat) {ops : Array Oper} {i : Nat} {o : Oper} (ho : ops[i]? = some o)
    (hd : okDst a.tmps.size o.dst = true) (K : Act → World → Prop) (Q : Exit → Act → World → Prop)
    (hnx : ∀ fr' h', one T call nid ops.toList o fr h = .nx fr' h' → ∀ a' w', St ι F w a fr' h' a' w' → K a' w')
    (hpan : ∀ v h', one T call nid ops.toList o fr h = .pan v h' → ∀ e a' w', CPost ι F w a (.pan v h') e a' w' → Q e a' w')
    (hok : (one T call nid ops.toList o fr h).ok) : wpOp P ops Q i K a w := by
  unfold wpOp
  simp only [ho]
  have hwant := want_ok hf ops o
  unfold one at hnx hpan hok
  have key : ∀ {v c w' ι'}, Ext ι F w ι' F w' → WR ι' F h w' ∨ True → VR ι' F w' v c → FR ι' F w' (putD fr o.dst v) (a.put o.dst c).tmps := fun e _ hv => (hf.mono e).put hv o.dst (dst_lt hd)
  cases hwt : wantV ops.toList fr o.guard with
  | bad => rw [hwt] at hok; exact hok.elim
  | no =>
    rw [hwt] at hnx
    rw [hwant.2 hwt]
    simp only [Bool.false_eq_true, if_false]
    exact hnx _ _ rfl _ _ ⟨ι, Ext.refl _ _ _, hw, hf.put (undef_vr _ _ _) o.dst (dst_lt hd), put_size _ _ _, put_defers _ _ _⟩
  | yes =>
    rw [hwt] at hnx hpan hok
    rw [hwant.1 hwt]
    simp only [if_true]
    refine .inl ?_
    unfold Oper.wp
    have hop := evOp_ok hT hw hf nid o
    generalize evOp std T nid fr h o = r at hop hnx hpan hok
    cases r with
    | val v h' =>
      obtain ⟨c, w', ι', hr, e1, hw', hv⟩ := hop
      rw [hr, Oper.upon_value]
      exact hnx _ _ rfl _ _ ⟨ι', e1, hw', (hf.mono e1).put hv o.dst (dst_lt hd), put_size _ _ _, put_defers _ _ _⟩
    | non h' =>
      obtain ⟨w', hr, e1, hw'⟩ := hop
      rw [hr, Oper.upon_skip]
      exact hnx _ _ rfl _ _ ⟨ι, e1, hw', (hf.mono e1).put (undef_vr _ _ _) o.dst (dst_lt hd), put_size _ _ _, put_defers _ _ _⟩
    | call f xs h' =>
      obtain ⟨rfl, cs, hr, hs, hat⟩ := hop
      have hrk : (call f xs h').ok := by
        simp only [fin] at hok
        generalize call f xs h' = r at hok ⊢
        cases r with
        | bad n => exact hok.elim
        | _ => trivial
      have hdo := hc f xs h' ι F w cs hw ⟨hs, hat⟩ hrk
      simp only [fin] at hnx hpan
      have step : ∀ e w'', RetR ι F w (call f xs h') e w'' → match e with
          | .returned c => K (a.put o.dst c) w''
          | .panicked chain => Q (.panic chain) a w''
          | .outgrown => LetsOut Q := by
        intro e w'' hR
        generalize call f xs h' = r at hR hnx hpan hrk
        cases r with
        | val v h'' =>
          obtain ⟨c, ι', rfl, e1, hw', hv⟩ := hR
          exact hnx _ _ rfl _ _ ⟨ι', e1, hw', (hf.mono e1).put hv o.dst (dst_lt hd), put_size _ _ _, put_defers _ _ _⟩
        | pan v h'' =>
          obtain ⟨c, ch, ι', rfl, e1, hw', hv⟩ := hR
          exact hpan _ _ rfl _ _ _ ⟨c, ch, ι', rfl, e1, hw', hv, rfl⟩
        | bad n => exact hrk.elim
      rcases hdo with ⟨he, hcalls⟩ | ⟨c, w', he, hR⟩
      · rw [hr, he, Oper.upon_enter]
        refine Calls.mono hcalls (fun e w'' hR => ?_)
        have := step e w'' hR
        cases e <;> exact this
      · rw [hr, he, Oper.upon_value]
        exact step _ _ hR
    | pan v h' =>
      obtain ⟨rfl, c, hr, hv⟩ := hop
      rw [hr, Oper.upon_panic]
      exact hpan _ _ rfl _ _ _ ⟨c, ⟨[], by simp⟩, ι, rfl, Ext.refl _ _ _, hw, hv, rfl⟩
    | bad n => exact hok.elim
/-- One operation; the frame at a panic is the one ahead of it. -/
theorem one_okP (hT : TOk P T) (hc : CallOk P call) (hw : WR ι F h w) (hf : FR ι F w fr a.tmps) (nid : Nat) {ops : Array Oper} {i : Nat} {o : Oper} (ho : ops[i]? = some o)
    (hd : okDst a.tmps.size o.dst = true) (K : Act → World → Prop) (Q : Exit → Act → World → Prop)
    (hnx : ∀ fr' h', one T call nid ops.toList o fr h = .nx fr' h' → ∀ a' w', St ι F w a fr' h' a' w' → K a' w')
    (hpan : ∀ v h', one T call nid ops.toList o fr h = .pan v h' → ∀ c (ch : Ch) ι' w', Ext ι F w ι' F w' → WR ι' F h' w' → VR ι' F w' v c → Q (.panic ({ v := c, recovered := false } :: ch.1)) a w')
    (hok : (one T call nid ops.toList o fr h).ok) : wpOp P ops Q i K a w := by
  unfold wpOp
  simp only [ho]
  have hwant := want_ok hf ops o
  unfold one at hnx hpan hok
  have key : ∀ {v c w' ι'}, Ext ι F w ι' F w' → WR ι' F h w' ∨ True → VR ι' F w' v c → FR ι' F w' (putD fr o.dst v) (a.put o.dst c).tmps := fun e _ hv => (hf.mono e).put hv o.dst (dst_lt hd)
  cases hwt : wantV ops.toList fr o.guard with
  | bad => rw [hwt] at hok; exact hok.elim
  | no =>
    rw [hwt] at hnx
    rw [hwant.2 hwt]
    simp only [Bool.false_eq_true, if_false]
    exact hnx _ _ rfl _ _ ⟨ι, Ext.refl _ _ _, hw, hf.put (undef_vr _ _ _) o.dst (dst_lt hd), put_size _ _ _, put_defers _ _ _⟩
  | yes =>
    rw [hwt] at hnx hpan hok
    rw [hwant.1 hwt]
    simp only [if_true]
    refine .inl ?_
    unfold Oper.wp
    have hop := evOp_ok hT hw hf nid o
    generalize evOp std T nid fr h o = r at hop hnx hpan hok
    cases r with
    | val v h' =>
      obtain ⟨c, w', ι', hr, e1, hw', hv⟩ := hop
      rw [hr, Oper.upon_value]
      exact hnx _ _ rfl _ _ ⟨ι', e1, hw', (hf.mono e1).put hv o.dst (dst_lt hd), put_size _ _ _, put_defers _ _ _⟩
    | non h' =>
      obtain ⟨w', hr, e1, hw'⟩ := hop
      rw [hr, Oper.upon_skip]
      exact hnx _ _ rfl _ _ ⟨ι, e1, hw', (hf.mono e1).put (undef_vr _ _ _) o.dst (dst_lt hd), put_size _ _ _, put_defers _ _ _⟩
    | call f xs h' =>
      obtain ⟨rfl, cs, hr, hs, hat⟩ := hop
      have hrk : (call f xs h').ok := by
        simp only [fin] at hok
        generalize call f xs h' = r at hok ⊢
        cases r with
        | bad n => exact hok.elim
        | _ => trivial
      have hdo := hc f xs h' ι F w cs hw ⟨hs, hat⟩ hrk
      simp only [fin] at hnx hpan
      have step : ∀ e w'', RetR ι F w (call f xs h') e w'' → match e with
          | .returned c => K (a.put o.dst c) w''
          | .panicked chain => Q (.panic chain) a w''
          | .outgrown => LetsOut Q := by
        intro e w'' hR
        generalize call f xs h' = r at hR hnx hpan hrk
        cases r with
        | val v h'' =>
          obtain ⟨c, ι', rfl, e1, hw', hv⟩ := hR
          exact hnx _ _ rfl _ _ ⟨ι', e1, hw', (hf.mono e1).put hv o.dst (dst_lt hd), put_size _ _ _, put_defers _ _ _⟩
        | pan v h'' =>
          obtain ⟨c, ch, ι', rfl, e1, hw', hv⟩ := hR
          exact hpan _ _ rfl _ ch ι' _ e1 hw' hv
        | bad n => exact hrk.elim
      rcases hdo with ⟨he, hcalls⟩ | ⟨c, w', he, hR⟩
      · rw [hr, he, Oper.upon_enter]
        refine Calls.mono hcalls (fun e w'' hR => ?_)
        have := step e w'' hR
        cases e <;> exact this
      · rw [hr, he, Oper.upon_value]
        exact step _ _ hR
    | pan v h' =>
      obtain ⟨rfl, c, hr, hv⟩ := hop
      rw [hr, Oper.upon_panic]
      exact hpan _ _ rfl _ ⟨[], by simp⟩ ι _ (Ext.refl _ _ _) hw hv
    | bad n => exact hok.elim
end
end Go.AV
namespace Go.AV
open Go
section
variable {P : Program} {T : TypeId → TI} {call : CallT}

theorem okOps_at {n : Nat} : ∀ {l : List Oper}, okOps n l = true → ∀ (i : Nat) (o : Oper), l[i]? = some o → okDst n o.dst = true
  | [], _, i, o, h => by simp at h
  | x :: l, hk, i, o, h => by
    simp only [okOps] at hk
    cases hx : okDst n x.dst with
    | false => rw [hx] at hk; cases hk
    | true =>
      rw [hx] at hk
      cases i with
      | zero => simp at h; subst h; exact hx
      | succ i => exact okOps_at hk i o (by simpa using h)

theorem beq_no {i j : Nat} (h : i ≠ j) : Nat.beq i j = false := by
  cases hb : Nat.beq i j with
  | false => rfl
  | true => exact absurd (Nat.eq_of_beq_eq_true hb) h

/-- Operations one behind the other. -/
theorem ops_ok (hT : TOk P T) (hc : CallOk P call) {ops : Array Oper} {n : Nat} (hk : okOps n ops.toList = true) :
    ∀ (rest : List Oper) (i : Nat), ops.toList.drop i = rest → ∀ (ι : Nat → Option Pl) (F : Nat → Prop) (h : Hp) (w : World) (a : Act) (fr : Fr), WR ι F h w → FR ι F w fr a.tmps → a.tmps.size = n →
    (opsRun T call ops.toList rest fr h).ok → ∀ Q : Exit → Act → World → Prop, (∀ e a' w', CPost ι F w a (opsRun T call ops.toList rest fr h) e a' w' → Q e a' w') → wpOps P ops Q ((List.range ops.size).drop i) a w
  | [], i, hd, ι, F, h, w, a, fr, hw, hf, hn, hok, Q, hQ => by
    have hi : ops.size ≤ i := by
      have := congrArg List.length hd
      simp at this
      omega
    rw [List.drop_eq_nil_of_le (by simpa using hi)]
    exact hQ _ _ _ ⟨rfl, ι, Ext.refl _ _ _, hw, hf, rfl, rfl⟩
  | o :: rest, i, hd, ι, F, h, w, a, fr, hw, hf, hn, hok, Q, hQ => by
    have hi : i < ops.size := by
      rcases Nat.lt_or_ge i ops.size with h' | h'
      · exact h'
      · rw [List.drop_eq_nil_of_le (by simpa using h')] at hd; cases hd
    have hoi : ops[i]? = some o := by
      have := congrArg (fun l => l[0]?) hd
      simp only [List.getElem?_drop, Nat.add_zero] at this
      simpa using this
    have hdr : ops.toList.drop (i + 1) = rest := by
      have := congrArg (List.drop 1) hd
      rw [List.drop_drop] at this
      simpa [Nat.add_comm] using this
    have hri : (List.range ops.size).drop i = i :: (List.range ops.size).drop (i + 1) := by
      rw [List.drop_eq_getElem_cons (by simpa using hi)]
      simp
    rw [hri, wpOps_cons]
    have hdst : okDst a.tmps.size o.dst = true := by rw [hn]; exact okOps_at hk i o (by simpa using hoi)
    simp only [opsRun] at hok hQ
    refine one_ok hT hc hw hf (lenOb h) hoi hdst _ _ (fun fr' h' he a' w' hs => ?_) (fun v h' he e a' w' hp => ?_) ?_
    · rw [he] at hok hQ
      obtain ⟨ι', e1, hw', hf', hs', hd'⟩ := hs
      exact ops_ok hT hc hk rest (i + 1) hdr ι' F h' w' a' fr' hw' hf' (hs'.trans hn) hok Q (fun e a'' w'' hp => hQ _ _ _ (hp.lift e1 hs' hd'))
    · rw [he] at hQ
      exact hQ _ _ _ hp
    · generalize one T call (lenOb h) ops.toList o fr h = r at hok ⊢
      cases r with
      | bad n => exact hok.elim
      | _ => trivial

/-- Regions that are drawn. -/
def DOk (P : Program) (D : Nat → List Oper → Fr → Hp → CO) : Prop := ∀ (id : Nat) (ops : Array Oper) (ι : Nat → Option Pl) (F : Nat → Prop) (h : Hp) (w : World) (a : Act) (fr : Fr),
  WR ι F h w → FR ι F w fr a.tmps → okOps a.tmps.size ops.toList = true → (D id ops.toList fr h).ok → (Code.region id ops true).wp P (CPost ι F w a (D id ops.toList fr h)) a w

theorem loop_wp {c : Code} {Q : Exit → Act → World → Prop} {a : Act} {w : World}
    (hh : ∀ b k cs, ∃ e a' w', Q e a' w' ∧ Arrives P (lone (b.at a (.code c :: .inLoop c :: k)) cs w) b k cs e a' w') : (Code.loop c).wp P Q a w := by
  intro b k cs
  obtain ⟨e, a', w', hq, harr⟩ := hh b k cs
  exact ⟨e, a', w', hq, .of_steps (.one step_loop) harr⟩

variable {D : Nat → List Oper → Fr → Hp → CO} {N : Nat}

theorem code_ok (hT : TOk P T) (hc : CallOk P call) (hD : DOk P D) {n : Nat} : ∀ (c : Code), okCode n c = true → ∀ (ι : Nat → Option Pl) (F : Nat → Prop) (h : Hp) (w : World) (a : Act) (fr : Fr),
    WR ι F h w → FR ι F w fr a.tmps → a.tmps.size = n → (codeRun T call D N c fr h).ok → c.wp P (CPost ι F w a (codeRun T call D N c fr h)) a w
  | .skip, _, ι, F, h, w, a, fr, hw, hf, hn, hok => wp_skip ⟨rfl, ι, Ext.refl _ _ _, hw, hf, rfl, rfl⟩
  | .region id ops d, hk, ι, F, h, w, a, fr, hw, hf, hn, hok => by
    simp only [okCode] at hk
    cases d with
    | true => exact hD id ops ι F h w a fr hw hf (by rw [hn]; exact hk) hok
    | false =>
      simp only [codeRun] at hok ⊢
      exact wp_region (by simpa using ops_ok hT hc hk ops.toList 0 rfl ι F h w a fr hw hf hn hok _ (fun _ _ _ hp => hp))
  | .seq x y, hk, ι, F, h, w, a, fr, hw, hf, hn, hok => by
    simp only [okCode] at hk
    cases hx : okCode n x with
    | false => rw [hx] at hk; cases hk
    | true =>
      rw [hx] at hk
      simp only [codeRun] at hok ⊢
      have hxo : (codeRun T call D N x fr h).ok := by
        generalize codeRun T call D N x fr h = r at hok ⊢
        cases r with
        | bad n => exact hok.elim
        | _ => trivial
      refine wp_seq (wp_mono (code_ok hT hc hD x hx ι F h w a fr hw hf hn hxo) (fun e a' w' hp => ?_))
      generalize codeRun T call D N x fr h = r at hok hp hxo ⊢
      cases r with
      | nx fr' h' =>
        obtain ⟨rfl, ι', e1, hw', hf', hs', hd'⟩ := hp
        exact wp_mono (code_ok hT hc hD y hk ι' F h' w' a' fr' hw' hf' (hs'.trans hn) hok) (fun e a'' w'' hq => hq.lift e1 hs' hd')
      | ex i fr' h' => obtain ⟨rfl, hp⟩ := hp; exact ⟨rfl, hp⟩
      | rt fr' h' => obtain ⟨rfl, hp⟩ := hp; exact ⟨rfl, hp⟩
      | pan v h' => obtain ⟨c, ch, ι', rfl, hp⟩ := hp; exact ⟨c, ch, ι', rfl, hp⟩
      | bad n => exact hxo.elim
  | .cond x y z, hk, ι, F, h, w, a, fr, hw, hf, hn, hok => by
    simp only [okCode] at hk
    cases hx : okCode n y with
    | false => rw [hx] at hk; cases hk
    | true =>
      rw [hx] at hk
      simp only [codeRun] at hok ⊢
      have hv := VR.arg hf x
      generalize arg fr x = v at hv hok ⊢
      generalize hcx : a.eval x = cx at hv
      cases hv with
      | bool t =>
        cases t with
        | true => exact wp_cond_true hcx (code_ok hT hc hD y hx ι F h w a fr hw hf hn hok)
        | false => exact wp_cond_false hcx (code_ok hT hc hD z hk ι F h w a fr hw hf hn hok)
      | _ => exact hok.elim
  | .block id x, hk, ι, F, h, w, a, fr, hw, hf, hn, hok => by
    simp only [okCode] at hk
    simp only [codeRun] at hok ⊢
    have hxo : (codeRun T call D N x fr h).ok := by
      generalize codeRun T call D N x fr h = r at hok ⊢
      cases r with
      | bad n => exact hok.elim
      | _ => trivial
    refine wp_block (wp_mono (code_ok hT hc hD x hk ι F h w a fr hw hf hn hxo) (fun e a' w' hp => ?_))
    generalize codeRun T call D N x fr h = r at hok hp hxo ⊢
    cases r with
    | nx fr' h' => obtain ⟨rfl, hp⟩ := hp; exact ⟨rfl, hp⟩
    | ex i fr' h' =>
      obtain ⟨rfl, hp⟩ := hp
      simp only [Exit.inBlock]
      by_cases hi : i = id
      · subst hi
        rw [if_pos rfl, show Nat.beq i i = true by simp]
        exact ⟨rfl, hp⟩
      · rw [if_neg hi, beq_no hi]
        exact ⟨rfl, hp⟩
    | rt fr' h' => obtain ⟨rfl, hp⟩ := hp; exact ⟨rfl, hp⟩
    | pan v h' => obtain ⟨c, ch, ι', rfl, hp⟩ := hp; exact ⟨c, ch, ι', rfl, hp⟩
    | bad n => exact hxo.elim
  | .loop x, hk, ι, F, h, w, a, fr, hw, hf, hn, hok => by
    simp only [okCode] at hk
    simp only [codeRun] at hok ⊢
    have body := code_ok hT hc hD x hk
    refine loop_wp (fun b k cs => ?_)
    have key : ∀ (M : Nat) (ι1 : Nat → Option Pl) (h : Hp) (w1 : World) (a1 : Act) (fr : Fr), WR ι1 F h w1 → FR ι1 F w1 fr a1.tmps → a1.tmps.size = n →
        (iter (fun fr h => codeRun T call D N x fr h) M fr h).ok →
        ∃ e a' w', CPost ι1 F w1 a1 (iter (fun fr h => codeRun T call D N x fr h) M fr h) e a' w' ∧ Arrives P (lone (b.at a1 (.code x :: .inLoop x :: k)) cs w1) b k cs e a' w' := by
      intro M
      induction M with
      | zero => intro ι1 h w1 a1 fr hw hf hn hok; exact hok.elim
      | succ M ih =>
        intro ι1 h w1 a1 fr hw hf hn hok
        simp only [iter] at hok ⊢
        have hxo : (codeRun T call D N x fr h).ok := by
          generalize codeRun T call D N x fr h = r at hok ⊢
          cases r with
          | bad n => exact hok.elim
          | _ => trivial
        obtain ⟨e, a', w', hp, harr⟩ := body ι1 F h w1 a1 fr hw hf hn hxo b (.inLoop x :: k) cs
        generalize codeRun T call D N x fr h = r at hok hp hxo ⊢
        cases r with
        | nx fr' h' =>
          obtain ⟨rfl, ι', e1, hw', hf', hs', hd'⟩ := hp
          obtain ⟨e2, a2, w2, hp2, harr2⟩ := ih ι' h' w' a' fr' hw' hf' (hs'.trans hn) hok
          exact ⟨e2, a2, w2, hp2.lift e1 hs' hd', .of_steps (Steps.trans harr (.one step_inLoop)) harr2⟩
        | ex i fr' h' => obtain ⟨rfl, hp⟩ := hp; exact ⟨_, _, _, ⟨rfl, hp⟩, .pass (x := .inLoop x) rfl (fun _ _ => .inl (by simp)) harr⟩
        | rt fr' h' => obtain ⟨rfl, hp⟩ := hp; exact ⟨_, _, _, ⟨rfl, hp⟩, .pass (x := .inLoop x) rfl (fun _ _ => .inl (by simp)) harr⟩
        | pan v h' => obtain ⟨c, ch, ι', rfl, hp⟩ := hp; exact ⟨_, _, _, ⟨c, ch, ι', rfl, hp⟩, .pass (x := .inLoop x) rfl (fun _ _ => .inl (by simp)) harr⟩
        | bad n => exact hxo.elim
    exact key N ι h w a fr hw hf hn hok
  | .exit id, _, ι, F, h, w, a, fr, hw, hf, hn, hok => wp_exit ⟨rfl, ι, Ext.refl _ _ _, hw, hf, rfl, rfl⟩
  | .ret, _, ι, F, h, w, a, fr, hw, hf, hn, hok => wp_ret ⟨rfl, ι, Ext.refl _ _ _, hw, hf, rfl, rfl⟩
  | .scope _, _, _, _, _, _, _, _, _, _, _, hok => hok.elim
  | .label _, _, _, _, _, _, _, _, _, _, _, hok => hok.elim
  | .goto _, _, _, _, _, _, _, _, _, _, _, hok => hok.elim
  | .rangeFunc _ _ _ _, _, _, _, _, _, _, _, _, _, _, hok => hok.elim
  | .refuse _, _, _, _, _, _, _, _, _, _, _, hok => hok.elim
end
end Go.AV
namespace Go.AV
open Go
section
variable {P : Program} {T : TypeId → TI} {call : CallT} {ι : Nat → Option Pl} {F : Nat → Prop} {h : Hp} {w : World} {fr : Fr}

theorem res_one (hT : TOk P T) (hw : WR ι F h w) {tmps : Array Value} (hf : FR ι F w fr tmps) {r : ResultVar} {v : V} (hr : resV T fr h r = some v) :
    ∃ c, ((match r with | .tmp t => pure (tmps.getD t undef) | .cell a t => do loadVar t (← asAddr (tmps.getD a undef)) : Sem Value).run P w = .ok c w) ∧ VR ι F w v c := by
  cases r with
  | tmp t =>
    simp only [resV, Option.some.injEq] at hr
    subst hr
    exact ⟨_, rfl, hf.at_ t⟩
  | cell p t =>
    simp only [resV] at hr
    split at hr
    · cases hr
    · rename_i hne
      split at hr
      · rename_i cs hl
        cases hr
        obtain ⟨b, off, y, hp, hlen, hc, hrr⟩ := loadN_ok hw (hf.at_ p) hl
        refine ⟨_, ?_, valOf_ok hlen hrr (fun j hj => (hc j hj).2)⟩
        simp only [hp, asAddr, Sem.run_bind, Sem.run_pure, Result.andThen_ok]
        rw [run_loadVar_ok hT (fun e => hne e) (fun j hj => (hc j hj).1)]
      · cases hr

theorem res_all (hT : TOk P T) (hw : WR ι F h w) {tmps : Array Value} (hf : FR ι F w fr tmps) : ∀ {rs : List ResultVar} {vs : List V}, resVs T fr h rs = some vs →
    ∃ cs : List Value, ((rs.mapM fun | .tmp t => pure (tmps.getD t undef) | .cell a t => do loadVar t (← asAddr (tmps.getD a undef)) : Sem (List Value)).run P w = .ok cs w) ∧ cs.length = vs.length ∧
      ∀ (j : Nat) (v : V) (x : Value), vs[j]? = some v → cs[j]? = some x → VR ι F w v x
  | [], vs, hr => by
    simp only [resVs, Option.some.injEq] at hr
    subst hr
    exact ⟨[], by simp, rfl, fun j v x hv => by simp at hv⟩
  | r :: rs, vs, hr => by
    simp only [resVs] at hr
    split at hr
    · rename_i v vs' h1 h2
      cases hr
      obtain ⟨c, hc1, hc2⟩ := res_one hT hw hf h1
      obtain ⟨cs, hcs, hlen, hat⟩ := res_all hT hw hf h2
      refine ⟨c :: cs, ?_, by simp [hlen], fun j v x hv hx => ?_⟩
      · rw [List.mapM_cons]
        simp only [Sem.run_bind, Sem.run_pure, hc1, hcs, Result.andThen_ok]
      · cases j with
        | zero => simp at hv hx; subst hv; subst hx; exact hc2
        | succ j => exact hat j v x (by simpa using hv) (by simpa using hx)
    · cases hr

/-- What a function answers. -/
theorem finish_ok (hT : TOk P T) (hw : WR ι F h w) {fn : Func} {tmps : Array Value} (hf : FR ι F w fr tmps) (hok : (finish T fn.results.toList fr h).ok) :
    ∃ c v, finish T fn.results.toList fr h = .val v h ∧ (results fn tmps).run P w = .ok c w ∧ VR ι F w v c := by
  unfold finish at hok ⊢
  split at hok
  · rename_i vs hvs
    obtain ⟨cs, h1, h2, h3⟩ := res_all hT hw hf hvs
    have hrun : (results fn tmps).run P w = .ok (if h : cs.toArray.size = 1 then cs.toArray[0] else .tuple cs.toArray) w := by
      unfold results
      rw [Array.mapM_eq_mapM_toList]
      simp only [Sem.run_bind, Sem.run_map, h1, Sem.run_pure, Result.andThen_ok]
      refine (congrArg (fun r : Result (List Value) => (r.andThen fun a w' => Result.ok a.toArray w').andThen fun a w' => Result.ok (if h : a.size = 1 then a[0] else Value.tuple a) w') (a₂ := .ok cs w) h1).trans ?_
      rfl
    split
    · rename_i v
      simp only [List.length_cons, List.length_nil] at h2
      obtain ⟨c, rfl⟩ := List.length_eq_one_iff.1 h2
      exact ⟨c, v, rfl, by rw [hrun]; simp, h3 0 v c rfl rfl⟩
    · rename_i hne
      refine ⟨.tuple cs.toArray, _, rfl, ?_, .tup (by simpa using h2) (fun j v x hv hx => h3 j v x hv (by simpa using hx))⟩
      rw [hrun, dif_neg]
      intro e
      simp only [List.size_toArray] at e
      rw [h2] at e
      obtain ⟨v, hv⟩ := List.length_eq_one_iff.1 e
      exact hne v hv
  · exact hok.elim

theorem frame_get : ∀ (xs : List V) (n : Nat) (t : Fr) (i : Nat), (frame n t xs).get .undef i = if n ≤ i then (xs[i - n]?).getD (t.get .undef i) else t.get .undef i
  | [], n, t, i => by simp [frame]
  | v :: r, n, t, i => by
    show (frame (n + 1) (t.set .undef n v) r).get .undef i = _
    rw [frame_get r (n + 1), Tree.get_set]
    by_cases h1 : n + 1 ≤ i
    · have e1 : i - n = (i - (n + 1)) + 1 := by omega
      have e2 : n ≤ i := by omega
      have e3 : ¬ i = n := by omega
      rw [if_pos h1, if_pos e2, if_neg e3, e1]
      simp
    · rw [if_neg h1]
      by_cases h2 : i = n
      · subst h2; simp
      · rw [if_neg h2, if_neg (by omega)]

theorem frame_ok {xs : List V} {args : Array Value} (ha : AR ι F w xs args) (k : Nat) : FR ι F w (frame 0 .leaf xs) (args ++ Array.replicate k undef) := by
  refine ⟨fun i => ?_⟩
  rw [frame_get, if_pos (Nat.zero_le _), Nat.sub_zero]
  cases hx : xs[i]? with
  | none => exact .undef _
  | some v =>
    have hlt : i < args.size := by
      rw [ha.size]
      rcases Nat.lt_or_ge i xs.length with h' | h'
      · exact h'
      · rw [List.getElem?_eq_none h'] at hx; cases hx
    simp only [Option.getD_some]
    rw [Array.getD_eq_getD_getElem?, Array.getElem?_append_left hlt, Array.getElem?_eq_getElem hlt]
    exact ha.at_ i v _ hx (Array.getElem?_eq_getElem hlt)

/-- A function with a body. -/
theorem body_ok (hT : TOk P T) {D : CallT → Nat → List Oper → Fr → Hp → CO} {N : Nat} (hc : CallOk P call) (hD : DOk P (D call)) {f : FuncId} {fn : Func} {c : Code}
    (hfn : P.funcs[f]? = some fn) (hb : fn.body = some c) {xs : List V} {args : Array Value} (hw : WR ι F h w) (ha : AR ι F w xs args) (hok : (bodyRun T D N call fn c xs h).ok) :
    Calls P f args w (RetR ι F w (bodyRun T D N call fn c xs h)) := by
  unfold bodyRun at hok ⊢
  split at hok
  · exact hok.elim
  · rename_i hk
    split at hok
    · exact hok.elim
    · rename_i hle
      have hle' : args.size ≤ fn.ntmps := by
        rw [ha.size, ← lenV_eq]; exact Nat.le_of_ble_eq_true hle
      refine calls_of_wp hfn hb ?_
      have hsz : (args ++ Array.replicate (fn.ntmps - args.size) undef).size = fn.ntmps := by simp; omega
      have hco : (codeRun T call (D call) N c (frame 0 .leaf xs) h).ok := by
        generalize codeRun T call (D call) N c (frame 0 .leaf xs) h = r at hok ⊢
        cases r with
        | bad n => exact hok.elim
        | _ => trivial
      refine wp_mono (code_ok (n := fn.ntmps) hT hc hD c hk ι F h w { tmps := args ++ Array.replicate (fn.ntmps - args.size) undef, defers := [] } (frame 0 .leaf xs) hw (frame_ok ha _) hsz hco) (fun e a' w' hp => ?_)
      generalize codeRun T call (D call) N c (frame 0 .leaf xs) h = r at hok hp hco ⊢
      cases r with
      | nx fr' h' =>
        obtain ⟨rfl, ι', e1, hw', hf', hs', hd'⟩ := hp
        obtain ⟨c', v, h1, h2, h3⟩ := finish_ok hT hw' (fn := fn) hf' hok
        simp only [h1]
        exact ⟨hd', c', h2, c', ι', rfl, e1, hw', h3⟩
      | rt fr' h' =>
        obtain ⟨rfl, ι', e1, hw', hf', hs', hd'⟩ := hp
        obtain ⟨c', v, h1, h2, h3⟩ := finish_ok hT hw' (fn := fn) hf' hok
        simp only [h1]
        exact ⟨hd', c', h2, c', ι', rfl, e1, hw', h3⟩
      | pan v h' =>
        obtain ⟨c', ch, ι', rfl, e1, hw', hv, hd'⟩ := hp
        exact ⟨hd', c', ch, ι', rfl, e1, hw', hv⟩
      | ex i fr' h' => exact hok.elim
      | bad n => exact hco.elim

/-- Specials. -/
def SOk (P : Program) (S : CallT → FuncId → Option (List V → Hp → RR)) : Prop := ∀ (call : CallT), CallOk P call → ∀ (f : FuncId) (g : List V → Hp → RR), S call f = some g →
  ∀ (xs : List V) (h : Hp) (ι : Nat → Option Pl) (F : Nat → Prop) (w : World) (args : Array Value), WR ι F h w → AR ι F w xs args → (g xs h).ok → Does P f args w (RetR ι F w (g xs h))

theorem callF_ok (hT : TOk P T) {S : CallT → FuncId → Option (List V → Hp → RR)} (hS : SOk P S) {D : CallT → Nat → List Oper → Fr → Hp → CO} (hD : ∀ call, CallOk P call → DOk P (D call)) {N : Nat}
    {fn : Nat → Func} (hfn : ∀ f c, (fn f).body = some c → P.funcs[f]? = some (fn f)) : ∀ n, CallOk P (callF T fn S D N n)
  | 0 => fun f xs h ι F w args hw ha hok => hok.elim
  | n + 1 => fun f xs h ι F w args hw ha hok => by
    have ih := callF_ok hT hS hD (N := N) hfn n
    simp only [callF] at hok ⊢
    split at hok
    · rename_i g hg
      exact hS _ ih f g hg xs h ι F w args hw ha hok
    · rename_i hg
      split at hok
      · exact hok.elim
      · rename_i c hb
        split at hok
        · exact hok.elim
        · rename_i hname
          have hf := hfn f c hb
          refine .inl ⟨?_, body_ok hT ih (hD _ ih) hf hb hw ha hok⟩
          have h1 : (fn f).name ≠ "runtime.NumGoroutine" := by simpa using hname
          simp [callFunc, hf, hb, h1]
end
end Go.AV
namespace Go.AV
open Go

section
variable (T : TypeId → TI) (call : CallT) (D : Nat → List Oper → Fr → Hp → CO) (N : Nat) (cut slot m : Nat) (rs : List ResultVar)
noncomputable def endTrue (fr : Fr) (h : Hp) : Bool := match finish T rs fr h with | .val (.bool true) _ => true | _ => false
/-- Behind the cut a range in the slot, from 0 to m at most, is taken for its number r. -/
noncomputable def atCut (r : Nat) (k : Bool → Fr → Hp → Bool) (fr : Fr) (h : Hp) : Bool := match fr.get .undef slot with
  | .rng kk lo hi => match decide (0 ≤ lo), decide (hi ≤ Int.ofNat m) with
    | true, true => k true (fr.set .undef slot (.int kk (Int.ofNat r))) h
    | _, _ => false
  | _ => false
/-- A body run to its end; at one region on the way the slot's range is taken for the number r. (The flag: the cut lies behind.) -/
noncomputable def cutRun (r : Nat) : Code → (Bool → Fr → Hp → Bool) → Bool → Fr → Hp → Bool
  | .seq a b, k, t, fr, h => cutRun r a (fun t fr h => cutRun r b k t fr h) t fr h
  | .region id ops d, k, t, fr, h => match codeRun T call D N (.region id ops d) fr h with
    | .nx fr h => match Nat.beq id cut with
      | true => match t with
        | true => false
        | false => atCut slot m r k fr h
      | false => k t fr h
    | _ => false
  | c, k, t, fr, h => match codeRun T call D N c fr h with
    | .nx fr h => k t fr h
    | .rt fr h => endTrue T rs fr h
    | _ => false
end
section
variable {P : Program} {T : TypeId → TI} {call : CallT} {D : Nat → List Oper → Fr → Hp → CO} {N cut slot m : Nat} {rs : List ResultVar}

theorem FR.split {ι F w fr t slot kk lo hi} (hf : FR ι F w fr t) (hs : fr.get .undef slot = .rng kk lo hi) : ∃ n : Int, lo ≤ n ∧ n ≤ hi ∧ FR ι F w (fr.set .undef slot (.int kk n)) t := by
  have hx := hf.at_ slot
  rw [hs] at hx
  generalize hc : t.getD slot undef = c at hx
  cases hx with
  | @rng _ _ _ n h1 h2 =>
    refine ⟨n, h1, h2, ⟨fun i => ?_⟩⟩
    rw [Tree.get_set]
    split
    · subst_vars; rw [hc]; exact .int _ _
    · exact hf.at_ i

/-- Ahead of the cut: for all numbers; behind it: for one. -/
def Each (m : Nat) (t : Bool) (K : Nat → Prop) : Prop := match t with
  | true => ∃ r, K r
  | false => ∀ r, r ≤ m → K r
theorem Each.mono {t : Bool} {K K' : Nat → Prop} (h : Each m t K) (hk : ∀ r, K r → K' r) : Each m t K' := by
  cases t with
  | true => obtain ⟨r, h⟩ := h; exact ⟨r, hk r h⟩
  | false => exact fun r hr => hk r (h r hr)
theorem Each.some {t : Bool} {K : Nat → Prop} (h : Each m t K) : ∃ r, K r := by
  cases t with
  | true => exact h
  | false => exact ⟨0, h 0 (Nat.zero_le _)⟩

/-- What stands behind a piece of the body. -/
def Then (ι : Nat → Option Pl) (F : Nat → Prop) (w : World) (a : Act) (K : Fr → Hp → Prop) (a' : Act) (w' : World) : Prop :=
  ∃ (ι' : Nat → Option Pl) (fr' : Fr) (h' : Hp), Ext ι F w ι' F w' ∧ WR ι' F h' w' ∧ FR ι' F w' fr' a'.tmps ∧ a'.tmps.size = a.tmps.size ∧ a'.defers = a.defers ∧ K fr' h'

theorem rest_ok (hT : TOk P T) (hc : CallOk P call) (hD : DOk P D) {n : Nat} {c : Code} (hk : okCode n c = true) {ι F h w a fr} {t : Bool} {k : Nat → Bool → Fr → Hp → Bool} (hw : WR ι F h w) (hf : FR ι F w fr a.tmps) (hn : a.tmps.size = n)
    (hr : Each m t fun r => (match codeRun T call D N c fr h with | .nx fr h => k r t fr h | .rt fr h => endTrue T rs fr h | _ => false) = true) {Q : Exit → Act → World → Prop}
    (hrt : ∀ a' w', Then ι F w a (fun fr h => endTrue T rs fr h = true) a' w' → Q .ret a' w') (hnx : ∀ a' w' t, Then ι F w a (fun fr h => Each m t fun r => k r t fr h = true) a' w' → Q .normal a' w') : c.wp P Q a w := by
  have hok : (codeRun T call D N c fr h).ok := by
    obtain ⟨r, hr⟩ := hr.some
    generalize codeRun T call D N c fr h = x at hr ⊢
    cases x with
    | bad n => cases hr
    | _ => trivial
  refine wp_mono (code_ok hT hc hD c hk ι F h w a fr hw hf hn hok) (fun e a' w' hp => ?_)
  generalize codeRun T call D N c fr h = x at hr hp
  cases x with
  | nx fr' h' =>
    obtain ⟨rfl, ι', e1, hw', hf', hs', hd'⟩ := hp
    exact hnx a' w' t ⟨ι', fr', h', e1, hw', hf', hs', hd', hr⟩
  | rt fr' h' =>
    obtain ⟨rfl, ι', e1, hw', hf', hs', hd'⟩ := hp
    obtain ⟨r, hr⟩ := hr.some
    exact hrt a' w' ⟨ι', fr', h', e1, hw', hf', hs', hd', hr⟩
  | _ => obtain ⟨r, hr⟩ := hr.some; cases hr

theorem cut_ok (hT : TOk P T) (hc : CallOk P call) (hD : DOk P D) {n : Nat} : ∀ (c : Code), okCode n c = true → ∀ {ι F h w a fr} {t : Bool} {k : Nat → Bool → Fr → Hp → Bool}, WR ι F h w → FR ι F w fr a.tmps → a.tmps.size = n →
    (Each m t fun r => cutRun T call D N cut slot m rs r c (k r) t fr h = true) → ∀ {Q : Exit → Act → World → Prop},
    (∀ a' w', Then ι F w a (fun fr h => endTrue T rs fr h = true) a' w' → Q .ret a' w') → (∀ a' w' t, Then ι F w a (fun fr h => Each m t fun r => k r t fr h = true) a' w' → Q .normal a' w') → c.wp P Q a w
  | .seq x y, hk, ι, F, h, w, a, fr, t, k, hw, hf, hn, hr, Q, hrt, hnx => by
    simp only [okCode] at hk
    cases hx : okCode n x with
    | false => rw [hx] at hk; cases hk
    | true =>
      rw [hx] at hk
      refine wp_seq (cut_ok hT hc hD x hx (k := fun r t fr h => cutRun T call D N cut slot m rs r y (k r) t fr h) hw hf hn (hr.mono fun r hr => by simpa only [cutRun] using hr) (fun a' w' ht => hrt a' w' ht) (fun a' w' t ht => ?_))
      obtain ⟨ι', fr', h', e1, hw', hf', hs', hd', hr'⟩ := ht
      refine cut_ok hT hc hD y hk (k := k) hw' hf' (hs'.trans hn) hr' (fun a2 w2 ht => hrt a2 w2 ?_) (fun a2 w2 t ht => hnx a2 w2 t ?_)
      all_goals
        obtain ⟨ι2, fr2, h2, e2, hw2, hf2, hs2, hd2, hr2⟩ := ht
        exact ⟨ι2, fr2, h2, e1.trans e2, hw2, hf2, hs2.trans hs', hd2.trans hd', hr2⟩
  | .region id ops d, hk, ι, F, h, w, a, fr, t, k, hw, hf, hn, hr, Q, hrt, hnx => by
    refine rest_ok (N := N) (rs := rs) (m := m) (t := t) (k := fun r t fr h => match Nat.beq id cut with | true => (match t with | true => false | false => atCut slot m r (k r) fr h) | false => k r t fr h) hT hc hD hk hw hf hn ?_ hrt (fun a' w' t ht => ?_)
    · refine hr.mono fun r hr => ?_
      simp only [cutRun] at hr
      generalize codeRun T call D N (.region id ops d) fr h = x at hr ⊢
      cases x with
      | nx fr h => exact hr
      | _ => cases hr
    · obtain ⟨ι', fr', h', e1, hw', hf', hs', hd', hr'⟩ := ht
      cases hb : Nat.beq id cut with
      | false =>
        simp only [hb] at hr'
        exact hnx a' w' t ⟨ι', fr', h', e1, hw', hf', hs', hd', hr'⟩
      | true =>
        simp only [hb] at hr'
        cases t with
        | true => obtain ⟨r, hr'⟩ := hr'; cases hr'
        | false =>
          have h0 := hr' 0 (Nat.zero_le _)
          simp only [atCut] at h0
          split at h0
          · rename_i kk lo hi hs
            split at h0
            · rename_i l1 l2
              have l1' : (0 : Int) ≤ lo := of_decide_eq_true l1
              have l2' : hi ≤ (m : Int) := of_decide_eq_true l2
              obtain ⟨n', g1, g2, g3⟩ := hf'.split hs
              have hn' := hr' n'.toNat (by omega)
              simp only [atCut, hs, l1, l2] at hn'
              have hto : Int.ofNat n'.toNat = n' := by show ((n'.toNat : Nat) : Int) = n'; omega
              rw [hto] at hn'
              exact hnx a' w' true ⟨ι', _, h', e1, hw', g3, hs', hd', n'.toNat, hn'⟩
            · cases h0
          · cases h0
  | .skip, hk, ι, F, h, w, a, fr, t, k, hw, hf, hn, hr, Q, hrt, hnx => rest_ok (N := N) hT hc hD hk hw hf hn (by simp only [cutRun] at hr; exact hr) hrt hnx
  | .cond .., hk, ι, F, h, w, a, fr, t, k, hw, hf, hn, hr, Q, hrt, hnx => rest_ok (N := N) hT hc hD hk hw hf hn (by simp only [cutRun] at hr; exact hr) hrt hnx
  | .block .., hk, ι, F, h, w, a, fr, t, k, hw, hf, hn, hr, Q, hrt, hnx => rest_ok (N := N) hT hc hD hk hw hf hn (by simp only [cutRun] at hr; exact hr) hrt hnx
  | .loop .., hk, ι, F, h, w, a, fr, t, k, hw, hf, hn, hr, Q, hrt, hnx => rest_ok (N := N) hT hc hD hk hw hf hn (by simp only [cutRun] at hr; exact hr) hrt hnx
  | .exit .., hk, ι, F, h, w, a, fr, t, k, hw, hf, hn, hr, Q, hrt, hnx => rest_ok (N := N) hT hc hD hk hw hf hn (by simp only [cutRun] at hr; exact hr) hrt hnx
  | .ret, hk, ι, F, h, w, a, fr, t, k, hw, hf, hn, hr, Q, hrt, hnx => rest_ok (N := N) hT hc hD hk hw hf hn (by simp only [cutRun] at hr; exact hr) hrt hnx
  | .scope .., hk, ι, F, h, w, a, fr, t, k, hw, hf, hn, hr, Q, hrt, hnx => rest_ok (N := N) hT hc hD hk hw hf hn (by simp only [cutRun] at hr; exact hr) hrt hnx
  | .label .., hk, ι, F, h, w, a, fr, t, k, hw, hf, hn, hr, Q, hrt, hnx => rest_ok (N := N) hT hc hD hk hw hf hn (by simp only [cutRun] at hr; exact hr) hrt hnx
  | .goto .., hk, ι, F, h, w, a, fr, t, k, hw, hf, hn, hr, Q, hrt, hnx => rest_ok (N := N) hT hc hD hk hw hf hn (by simp only [cutRun] at hr; exact hr) hrt hnx
  | .rangeFunc .., hk, ι, F, h, w, a, fr, t, k, hw, hf, hn, hr, Q, hrt, hnx => rest_ok (N := N) hT hc hD hk hw hf hn (by simp only [cutRun] at hr; exact hr) hrt hnx
  | .refuse .., hk, ι, F, h, w, a, fr, t, k, hw, hf, hn, hr, Q, hrt, hnx => rest_ok (N := N) hT hc hD hk hw hf hn (by simp only [cutRun] at hr; exact hr) hrt hnx

/-- A call whose body runs to true, for each number at the cut. -/
theorem cut_calls (hT : TOk P T) (hc : CallOk P call) (hD : DOk P D) {f : FuncId} {fn : Func} {c : Code} (hfn : P.funcs[f]? = some fn) (hb : fn.body = some c) {xs : List V} {args : Array Value} {ι F h w} (hw : WR ι F h w) (ha : AR ι F w xs args)
    (hk : okCode fn.ntmps c = true) (hle : xs.length ≤ fn.ntmps) (hr : ∀ r, r ≤ m → cutRun T call D N cut slot m fn.results.toList r c (fun _ fr h => endTrue T fn.results.toList fr h) false (frame 0 .leaf xs) h = true) :
    Calls P f args w fun e w' => e = .returned (.bool true) ∧ ∃ ι', Ext ι F w ι' F w' := by
  have hle' : args.size ≤ fn.ntmps := by rw [ha.size]; exact hle
  refine calls_of_wp hfn hb ?_
  have hsz : (args ++ Array.replicate (fn.ntmps - args.size) undef).size = fn.ntmps := by simp; omega
  have fin : ∀ a' w', Then ι F w { tmps := args ++ Array.replicate (fn.ntmps - args.size) undef, defers := [] } (fun fr h => endTrue T fn.results.toList fr h = true) a' w' →
      a'.defers = [] ∧ ∃ c', (results fn a'.tmps).run P w' = .ok c' w' ∧ (Ending.returned c' = .returned (.bool true) ∧ ∃ ι', Ext ι F w ι' F w') := by
    rintro a' w' ⟨ι', fr', h', e1, hw', hf', hs', hd', hr'⟩
    unfold endTrue at hr'
    have hok : (finish T fn.results.toList fr' h').ok := by
      generalize finish T fn.results.toList fr' h' = r at hr' ⊢
      cases r with
      | bad n => cases hr'
      | _ => trivial
    obtain ⟨c', v, h1, h2, h3⟩ := finish_ok hT hw' (fn := fn) hf' hok
    rw [h1] at hr'
    split at hr'
    · rename_i heq
      cases heq
      cases h3
      exact ⟨hd', _, h2, rfl, ι', e1⟩
    · cases hr'
  refine cut_ok (t := false) (k := fun _ _ fr h => endTrue T fn.results.toList fr h) hT hc hD c hk hw (frame_ok ha _) hsz hr (fun a' w' ht => ?_) (fun a' w' t ht => ?_)
  · obtain ⟨h1, c', h2, h3⟩ := fin a' w' ht
    exact ⟨h1, c', h2, h3⟩
  · obtain ⟨ι', fr', h', e1, hw', hf', hs', hd', hr'⟩ := ht
    obtain ⟨_, hr'⟩ := hr'.some
    obtain ⟨h1, c', h2, h3⟩ := fin a' w' ⟨ι', fr', h', e1, hw', hf', hs', hd', hr'⟩
    exact ⟨h1, c', h2, h3⟩
end
end Go.AV
namespace Go.AV
open Go

/-- Two heaps alike but for M; there the first one knows nothing. -/
structure Sim (M : Nat → Prop) (h h' : Hp) : Prop where
  next : h'.next = h.next
  same : ∀ o, ¬ M o → ob h' o = ob h o
  none : ∀ o, M o → (ob h o = .dead ∨ ob h o = .free) ∧ o < h.next
def Keeps (M : Nat → Prop) (h h' : Hp) : Prop := ∀ o, M o → ob h' o = ob h o
def ResS (M : Nat → Prop) (h' : Hp) : Res → Res → Prop
  | .val v h1, r => ∃ h1', r = .val v h1' ∧ Sim M h1 h1' ∧ Keeps M h' h1'
  | .non h1, r => ∃ h1', r = .non h1' ∧ Sim M h1 h1' ∧ Keeps M h' h1'
  | .call f xs h1, r => ∃ h1', r = .call f xs h1' ∧ Sim M h1 h1' ∧ Keeps M h' h1'
  | .pan v h1, r => ∃ h1', r = .pan v h1' ∧ Sim M h1 h1' ∧ Keeps M h' h1'
  | .bad _, _ => True

section
variable {T : TypeId → TI} {M : Nat → Prop} {h h' : Hp} {fr : Fr}

theorem Keeps.refl : Keeps M h h := fun _ _ => rfl
theorem Sim.ob (s : Sim M h h') {o : Nat} (h1 : ob h o ≠ .dead) (h2 : AV.ob h o ≠ .free) : ¬ M o ∧ AV.ob h' o = AV.ob h o := by
  have hn : ¬ M o := fun hm => by
    rcases (s.none o hm).1 with h3 | h3
    · exact h1 h3
    · exact h2 h3
  exact ⟨hn, s.same o hn⟩
theorem setOb_next (h : Hp) (o : Nat) (x : Ob) : (setOb h o x).next = h.next := by cases h; rfl
theorem Sim.set (s : Sim M h h') {o : Nat} (hn : ¬ M o) (x : Ob) : Sim M (setOb h o x) (setOb h' o x) ∧ Keeps M h' (setOb h' o x) := by
  refine ⟨⟨by rw [setOb_next, setOb_next, s.next], fun q hq => ?_, fun q hq => ?_⟩, fun q hq => ?_⟩
  · rw [ob_setOb', ob_setOb', s.same q hq]
  · rw [ob_setOb', if_neg (by rintro rfl; exact hn hq), setOb_next]; exact s.none q hq
  · rw [ob_setOb', if_neg (by rintro rfl; exact hn hq)]
theorem newOb_next {h h1 : Hp} {n : Nat} {x : Ob} (hh : newOb h n x = some h1) : h1.next = if n = h.next then h.next + 1 else h.next := by
  cases h
  rename_i m t
  simp only [newOb] at hh
  split at hh
  · cases hh
    simp only
    cases hb : Nat.beq n m with
    | true => rw [if_pos (Nat.eq_of_beq_eq_true hb)]
    | false => rw [if_neg (fun e => by rw [e, Nat.beq_refl] at hb; cases hb)]
  · cases hh
theorem newOb_le {h h1 : Hp} {n : Nat} {x : Ob} (hh : newOb h n x = some h1) : h.next ≤ h1.next := by
  rw [newOb_next hh]; split <;> omega
theorem Sim.new (s : Sim M h h') {n : Nat} (hn : ¬ M n) {x : Ob} {h1 : Hp} (hh : newOb h n x = some h1) : ∃ h1', newOb h' n x = some h1' ∧ Sim M h1 h1' ∧ Keeps M h' h1' := by
  obtain ⟨hf, hob⟩ := ob_newOb hh
  have hf' : AV.ob h' n = .free := by rw [s.same n hn]; exact hf
  have hex : ∃ h1', newOb h' n x = some h1' := by
    cases h' with
    | mk n' t' =>
      simp only [newOb]
      have : t'.get .free n = .free := hf'
      rw [this]
      exact ⟨_, rfl⟩
  obtain ⟨h1', hh'⟩ := hex
  obtain ⟨_, hob'⟩ := ob_newOb hh'
  refine ⟨h1', hh', ⟨by rw [newOb_next hh, newOb_next hh', s.next], fun q hq => ?_, fun q hq => ?_⟩, fun q hq => ?_⟩
  · rw [hob, hob', s.same q hq]
  · rw [hob, if_neg (by rintro rfl; exact hn hq)]
    exact ⟨(s.none q hq).1, Nat.lt_of_lt_of_le (s.none q hq).2 (newOb_le hh)⟩
  · rw [hob', if_neg (by rintro rfl; exact hn hq)]
theorem mkOb_sim (s : Sim M h h') {n : Nat} (hn : ¬ M n) (x : Ob) (v : V) : ResS M h' (mkOb h n x v) (mkOb h' n x v) := by
  unfold mkOb
  cases hh : newOb h n x with
  | none => trivial
  | some h1 =>
    obtain ⟨h1', e1, e2, e3⟩ := s.new hn hh
    rw [e1]
    exact ⟨h1', rfl, e2, e3⟩
theorem loadN_sim (s : Sim M h h') {n : Nat} {v : V} {cs : List V} (hl : loadN std h n v = some cs) : loadN std h' n v = some cs := by
  cases v with
  | bp o j =>
    simp only [loadN] at hl ⊢
    cases ho : AV.ob h o <;> rw [ho] at hl <;> simp only [reduceCtorEq] at hl
    rw [(s.ob (o := o) (by rw [ho]; simp) (by rw [ho]; simp)).2, ho]; exact hl
  | ep o i j =>
    simp only [loadN] at hl ⊢
    cases ho : AV.ob h o <;> rw [ho] at hl <;> simp only [reduceCtorEq] at hl
    rw [(s.ob (o := o) (by rw [ho]; simp) (by rw [ho]; simp)).2, ho]; exact hl
  | _ => exact hl
theorem storeN_sim (s : Sim M h h') {vs : List V} {v : V} {h1 : Hp} (hl : storeN std h vs v = some h1) : ∃ h1', storeN std h' vs v = some h1' ∧ Sim M h1 h1' ∧ Keeps M h' h1' := by
  cases v with
  | bp o j =>
    simp only [storeN] at hl ⊢
    cases ho : AV.ob h o <;> rw [ho] at hl <;> simp only [reduceCtorEq] at hl
    obtain ⟨hn, he⟩ := s.ob (o := o) (by rw [ho]; simp) (by rw [ho]; simp)
    rw [he, ho]
    simp only
    split at hl
    · rename_i cs hc
      cases hl
      exact ⟨_, rfl, s.set hn _⟩
    · cases hl
  | ep o i j =>
    simp only [storeN] at hl ⊢
    cases ho : AV.ob h o <;> rw [ho] at hl <;> simp only [reduceCtorEq] at hl
    obtain ⟨hn, he⟩ := s.ob (o := o) (by rw [ho]; simp) (by rw [ho]; simp)
    rw [he, ho]
    simp only
    split at hl
    · rename_i cs hc
      split at hl
      · rename_i ds hd
        cases hl
        exact ⟨_, rfl, s.set hn _⟩
      · cases hl
    · cases hl
  | _ => cases hl
theorem elsOf_sim (s : Sim M h h') {n : Nat} {v : V} {els : List (List V)} (hl : elsOf std h n v = some els) : elsOf std h' n v = some els := by
  cases v with
  | osl o off len =>
    simp only [elsOf] at hl ⊢
    cases ho : AV.ob h o <;> rw [ho] at hl <;> simp only [reduceCtorEq] at hl
    rw [(s.ob (o := o) (by rw [ho]; simp) (by rw [ho]; simp)).2, ho]; exact hl
  | _ => exact hl

theorem ResS.val (s : Sim M h h') (v : V) : ResS M h' (.val v h) (.val v h') := ⟨h', rfl, s, Keeps.refl⟩
end
end Go.AV
namespace Go.AV
open Go
section
variable {T : TypeId → TI} {M : Nat → Prop} {h h' : Hp} {fr : Fr}

theorem evLoad_sim (s : Sim M h h') (nid : Nat) (t : TypeId) (x : Operand) : ResS M h' (evLoad std T nid fr h t x) (evLoad std T nid fr h' t x) := by
  unfold evLoad
  split
  · trivial
  · cases hl : loadN std h (szL (tiOf T t)) (arg fr x) with
    | none => trivial
    | some cs => rw [loadN_sim s hl]; exact ResS.val s _
theorem evStore_sim (s : Sim M h h') (nid : Nat) (t : TypeId) (x y : Operand) : ResS M h' (evStore std T nid fr h t x y) (evStore std T nid fr h' t x y) := by
  unfold evStore
  split
  · trivial
  · split
    · split
      · rename_i vs _ _ _
        cases hl : storeN std h vs (arg fr x) with
        | none => trivial
        | some h1 =>
          obtain ⟨h1', e1, e2, e3⟩ := storeN_sim s hl
          rw [e1]
          exact ⟨h1', rfl, e2, e3⟩
      · trivial
    · trivial
theorem evIAddr_sim (s : Sim M h h') (nid : Nat) (t : TypeId) (x i : Operand) : ResS M h' (evIAddr std T nid fr h t x i) (evIAddr std T nid fr h' t x i) := by
  unfold evIAddr
  split
  · split
    · trivial
    · split
      · (repeat' split) <;> first | trivial | exact ResS.val s _
      · rename_i o off len k i _ _
        cases ho : ob h o with
        | arr sz els =>
          rw [(s.ob (o := o) (by rw [ho]; simp) (by rw [ho]; simp)).2, ho]
          simp only
          (repeat' split) <;> first | trivial | exact ResS.val s _
        | _ => trivial
      · trivial
  · trivial
theorem evSlice_sim (s : Sim M h h') (nid : Nat) (t : TypeId) (x : Operand) (lo hi : Option Operand) : ResS M h' (evSlice std T nid fr h t x lo hi) (evSlice std T nid fr h' t x lo hi) := by
  unfold evSlice
  generalize (match lo with | some l => arg fr l | none => V.int .i64 0) = lv
  split
  · split
    · (repeat' split) <;> first | trivial | exact ResS.val s _
    · (repeat' split) <;> first | trivial | exact ResS.val s _
    · (repeat' split) <;> first | trivial | exact ResS.val s _
    · rename_i e o off len _ _
      split
      · trivial
      · split
        · cases ho : ob h o with
          | arr sz els =>
            rw [(s.ob (o := o) (by rw [ho]; simp) (by rw [ho]; simp)).2, ho]
            simp only
            (repeat' split) <;> first | trivial | exact ResS.val s _
          | _ => trivial
        · trivial
    · trivial
  · trivial
theorem evCallB_sim (s : Sim M h h') {nid : Nat} (hn : ¬ M nid) (b : Builtin) (xs : Array Operand) (ts : Array TypeId) : ResS M h' (evCallB std T nid fr h b xs ts) (evCallB std T nid fr h' b xs ts) := by
  unfold evCallB
  split
  · (repeat' split) <;> first | trivial | exact ResS.val s _
  · rename_i v x t u r _ _
    split
    · rename_i e _ _
      split
      · trivial
      · cases hl : elsOf std h (tiOf T e).size x with
        | none => trivial
        | some new =>
          rw [elsOf_sim s hl]
          simp only
          split
          · split
            · exact ResS.val s _
            · split
              · exact mkOb_sim s hn _ _
              · trivial
          · rename_i o off len _
            cases ho : ob h o with
            | arr sz els =>
              obtain ⟨hno, he⟩ := s.ob (o := o) (by rw [ho]; simp) (by rw [ho]; simp)
              rw [he, ho]
              simp only
              split
              · split
                · obtain ⟨s1, k1⟩ := s.set hno (.arr sz (putRows std els (std .nadd off len) new))
                  exact ⟨_, rfl, s1, k1⟩
                split
                · obtain ⟨s1, k1⟩ := s.set hno .dead
                  have := mkOb_sim s1 hn (.arr sz (std .app (std .sub els off (std .nadd off len)) new)) (.osl nid 0 (std .nadd len (std .len new)))
                  generalize mkOb (setOb h o .dead) nid _ _ = r1 at this ⊢
                  cases r1 with
                  | val v h1 => obtain ⟨h2, e1, e2, e3⟩ := this; exact ⟨h2, e1, e2, fun q hq => (e3 q hq).trans (k1 q hq)⟩
                  | non h1 => obtain ⟨h2, e1, e2, e3⟩ := this; exact ⟨h2, e1, e2, fun q hq => (e3 q hq).trans (k1 q hq)⟩
                  | call f xs h1 => obtain ⟨h2, e1, e2, e3⟩ := this; exact ⟨h2, e1, e2, fun q hq => (e3 q hq).trans (k1 q hq)⟩
                  | pan v h1 => obtain ⟨h2, e1, e2, e3⟩ := this; exact ⟨h2, e1, e2, fun q hq => (e3 q hq).trans (k1 q hq)⟩
                  | bad n => trivial
                · trivial
              · trivial
            | _ => trivial
          · trivial
    · trivial
  · rename_i x t r _ _
    split
    · split
      · trivial
      · split
        · exact ResS.val s _
        · rename_i o off len _
          cases ho : ob h o with
          | arr sz els =>
            obtain ⟨hno, he⟩ := s.ob (o := o) (by rw [ho]; simp) (by rw [ho]; simp)
            rw [he, ho]
            simp only
            split
            · obtain ⟨s1, k1⟩ := s.set hno (.arr sz (clr std els off len (tiOf T _).zero))
              exact ⟨_, rfl, s1, k1⟩
            · trivial
          | _ => trivial
        · trivial
    · trivial
  all_goals ((repeat' split) <;> first | trivial | exact ResS.val s _)

theorem esOf_sim (s : Sim M h h') {v : V} {es : List (V × V)} (hl : esOf h v = some es) : esOf h' v = some es := by
  cases v with
  | mp o =>
    simp only [esOf] at hl ⊢
    cases ho : ob h o <;> rw [ho] at hl <;> simp only [reduceCtorEq] at hl
    rw [(s.ob (o := o) (by rw [ho]; simp) (by rw [ho]; simp)).2, ho]; exact hl
  | _ => exact hl
theorem evLook_sim (s : Sim M h h') (nid : Nat) (t : TypeId) (m k : Operand) (ok : Bool) : ResS M h' (evLook std T nid fr h t m k ok) (evLook std T nid fr h' t m k ok) := by
  unfold evLook
  split
  · split
    · trivial
    · cases hes : esOf h (arg fr m) with
      | none => trivial
      | some es =>
        rw [esOf_sim s hes]
        (repeat' split) <;> first | trivial | exact ResS.val s _
  · trivial
theorem evMapU_sim (s : Sim M h h') (nid : Nat) (t : TypeId) (m k x : Operand) : ResS M h' (evMapU std T nid fr h t m k x) (evMapU std T nid fr h' t m k x) := by
  unfold evMapU
  split
  · split
    · rename_i o _
      cases ho : ob h o with
      | map es =>
        obtain ⟨hno, he⟩ := s.ob (o := o) (by rw [ho]; simp) (by rw [ho]; simp)
        rw [he, ho]
        have set : ∀ y, ResS M h' (.non (setOb h o y)) (.non (setOb h' o y)) := fun y => ⟨_, rfl, (s.set hno y).1, (s.set hno y).2⟩
        (repeat' split) <;> first | trivial | exact set _
      | _ => trivial
    · trivial
  · trivial

/-- Each operation runs alike. -/
theorem evOp_sim (s : Sim M h h') {nid : Nat} (hn : ¬ M nid) (o : Oper) : ResS M h' (evOp std T nid fr h o) (evOp std T nid fr h' o) := by
  unfold evOp
  split
  · exact ResS.val s _
  · exact ResS.val s _
  · unfold evPick; (repeat' split) <;> first | trivial | exact ResS.val s _
  · unfold evAlloc; (repeat' split) <;> first | trivial | exact mkOb_sim s hn _ _
  · unfold evBox; (repeat' split) <;> first | trivial | exact mkOb_sim s hn _ _
  · unfold evBuild; (repeat' split) <;> first | trivial | exact ResS.val s _
  · unfold evBuildS; (repeat' split) <;> first | trivial | exact mkOb_sim s hn _ _
  · exact evLoad_sim s _ _ _
  · exact evStore_sim s _ _ _ _
  · unfold evNil; (repeat' split) <;> first | trivial | exact ResS.val s _
  · unfold evBin; (repeat' split) <;> first | trivial | exact ResS.val s _
  · unfold evUn; (repeat' split) <;> first | trivial | exact ResS.val s _
  · unfold evConv
    split
    · trivial
    · split
      · cases hes : elsOf std h 1 (arg fr _) with
        | none => trivial
        | some els =>
          rw [elsOf_sim s hes]
          simp only
          split
          · exact ResS.val s _
          · trivial
      · trivial
    · (repeat' split) <;> first | trivial | exact ResS.val s _ | exact mkOb_sim s hn _ _
  · unfold evMkI; (repeat' split) <;> first | trivial | exact ResS.val s _
  · unfold evMkF; (repeat' split) <;> first | trivial | exact ResS.val s _
  · unfold evMakeS; (repeat' split) <;> first | trivial | exact mkOb_sim s hn _ _
  · exact mkOb_sim s hn _ _
  · exact evSlice_sim s _ _ _ _ _
  · unfold evSlice3; (repeat' split) <;> first | trivial | exact ResS.val s _
  · unfold evFAddr; (repeat' split) <;> first | trivial | exact ResS.val s _
  · unfold evFld; (repeat' split) <;> first | trivial | exact ResS.val s _
  · exact evIAddr_sim s _ _ _ _
  · unfold evIdx; (repeat' split) <;> first | trivial | exact ResS.val s _
  · unfold evExtr; (repeat' split) <;> first | trivial | exact ResS.val s _
  · exact evLook_sim s _ _ _ _ _
  · exact evMapU_sim s _ _ _ _ _
  · unfold evPan; (repeat' split) <;> first | trivial | exact ⟨h', rfl, s, Keeps.refl⟩
  · unfold evTA; (repeat' split) <;> first | trivial | exact ResS.val s _
  · unfold evCallV; (repeat' split) <;> first | trivial | exact ⟨h', rfl, s, Keeps.refl⟩
  · exact evCallB_sim s hn _ _ _
  · trivial
end
end Go.AV
namespace Go.AV
open Go

def RRS (M : Nat → Prop) (h' : Hp) : RR → RR → Prop
  | .val v h1, r => ∃ h1', r = .val v h1' ∧ Sim M h1 h1' ∧ Keeps M h' h1'
  | .pan v h1, r => ∃ h1', r = .pan v h1' ∧ Sim M h1 h1' ∧ Keeps M h' h1'
  | .bad _, _ => True
def ORS (M : Nat → Prop) (h' : Hp) : OR → OR → Prop
  | .nx fr h1, r => ∃ h1', r = .nx fr h1' ∧ Sim M h1 h1' ∧ Keeps M h' h1'
  | .pan v h1, r => ∃ h1', r = .pan v h1' ∧ Sim M h1 h1' ∧ Keeps M h' h1'
  | .bad _, _ => True
def COS (M : Nat → Prop) (h' : Hp) : CO → CO → Prop
  | .nx fr h1, r => ∃ h1', r = .nx fr h1' ∧ Sim M h1 h1' ∧ Keeps M h' h1'
  | .ex i fr h1, r => ∃ h1', r = .ex i fr h1' ∧ Sim M h1 h1' ∧ Keeps M h' h1'
  | .rt fr h1, r => ∃ h1', r = .rt fr h1' ∧ Sim M h1 h1' ∧ Keeps M h' h1'
  | .pan v h1, r => ∃ h1', r = .pan v h1' ∧ Sim M h1 h1' ∧ Keeps M h' h1'
  | .bad _, _ => True
def CallSim (call : CallT) : Prop := ∀ (M : Nat → Prop) (f : FuncId) (xs : List V) (h h' : Hp), Sim M h h' → RRS M h' (call f xs h) (call f xs h')
def DSim (D : Nat → List Oper → Fr → Hp → CO) : Prop := ∀ (M : Nat → Prop) (id : Nat) (ops : List Oper) (fr : Fr) (h h' : Hp), Sim M h h' → COS M h' (D id ops fr h) (D id ops fr h')

section
variable {T : TypeId → TI} {M : Nat → Prop} {call : CallT} {D : Nat → List Oper → Fr → Hp → CO} {N : Nat}

theorem Keeps.trans {h1 h2 h3 : Hp} (a : Keeps M h1 h2) (b : Keeps M h2 h3) : Keeps M h1 h3 := fun o ho => (b o ho).trans (a o ho)
theorem Sim.fresh {h h' : Hp} (s : Sim M h h') : ¬ M (lenOb h) := fun hm => by
  have := (s.none _ hm).2
  exact absurd this (Nat.lt_irrefl _)
theorem COS.keeps {h h1 : Hp} (k : Keeps M h h1) {a b : CO} (x : COS M h1 a b) : COS M h a b := by
  cases a with
  | bad n => trivial
  | _ => obtain ⟨h2, e1, e2, e3⟩ := x; exact ⟨h2, e1, e2, k.trans e3⟩

theorem one_sim (hc : CallSim call) {h h' : Hp} (s : Sim M h h') {nid : Nat} (hn : ¬ M nid) (all : List Oper) (o : Oper) (fr : Fr) : ORS M h' (one T call nid all o fr h) (one T call nid all o fr h') := by
  unfold one
  split
  · have hs := evOp_sim (T := T) (fr := fr) s hn o
    generalize evOp std T nid fr h o = r at hs ⊢
    generalize evOp std T nid fr h' o = r' at hs ⊢
    cases r with
    | val v h1 => obtain ⟨h2, rfl, e2, e3⟩ := hs; exact ⟨h2, rfl, e2, e3⟩
    | non h1 => obtain ⟨h2, rfl, e2, e3⟩ := hs; exact ⟨h2, rfl, e2, e3⟩
    | pan v h1 => obtain ⟨h2, rfl, e2, e3⟩ := hs; exact ⟨h2, rfl, e2, e3⟩
    | bad n => trivial
    | call f xs h1 =>
      obtain ⟨h2, rfl, e2, e3⟩ := hs
      have hcs := hc M f xs h1 h2 e2
      simp only [fin]
      generalize call f xs h1 = q at hcs ⊢
      generalize call f xs h2 = q' at hcs ⊢
      cases q with
      | val v h3 => obtain ⟨h4, rfl, f2, f3⟩ := hcs; exact ⟨h4, rfl, f2, e3.trans f3⟩
      | pan v h3 => obtain ⟨h4, rfl, f2, f3⟩ := hcs; exact ⟨h4, rfl, f2, e3.trans f3⟩
      | bad n => trivial
  · exact ⟨h', rfl, s, Keeps.refl⟩
  · trivial

theorem ops_sim (hc : CallSim call) (all : List Oper) : ∀ (os : List Oper) (fr : Fr) (h h' : Hp), Sim M h h' → COS M h' (opsRun T call all os fr h) (opsRun T call all os fr h')
  | [], fr, h, h', s => ⟨h', rfl, s, Keeps.refl⟩
  | o :: os, fr, h, h', s => by
    have he : lenOb h' = lenOb h := s.next
    simp only [opsRun, he]
    have hs := one_sim (T := T) hc s s.fresh all o fr
    generalize one T call (lenOb h) all o fr h = r at hs ⊢
    generalize one T call (lenOb h) all o fr h' = r' at hs ⊢
    cases r with
    | nx fr' h1 =>
      obtain ⟨h2, rfl, e2, e3⟩ := hs
      exact (ops_sim hc all os fr' h1 h2 e2).keeps e3
    | pan v h1 => obtain ⟨h2, rfl, e2, e3⟩ := hs; exact ⟨h2, rfl, e2, e3⟩
    | bad n => trivial

theorem iter_sim {f : Fr → Hp → CO} (hf : ∀ fr h h', Sim M h h' → COS M h' (f fr h) (f fr h')) : ∀ (n : Nat) (fr : Fr) (h h' : Hp), Sim M h h' → COS M h' (iter f n fr h) (iter f n fr h')
  | 0, fr, h, h', s => trivial
  | n + 1, fr, h, h', s => by
    simp only [iter]
    have hs := hf fr h h' s
    generalize f fr h = r at hs ⊢
    generalize f fr h' = r' at hs ⊢
    cases r with
    | nx fr' h1 => obtain ⟨h2, rfl, e2, e3⟩ := hs; exact (iter_sim hf n fr' h1 h2 e2).keeps e3
    | bad n => trivial
    | _ => obtain ⟨h2, rfl, e2, e3⟩ := hs; exact ⟨h2, rfl, e2, e3⟩

theorem code_sim (hc : CallSim call) (hD : DSim D) : ∀ (c : Code) (fr : Fr) (h h' : Hp), Sim M h h' → COS M h' (codeRun T call D N c fr h) (codeRun T call D N c fr h')
  | .skip, fr, h, h', s => ⟨h', rfl, s, Keeps.refl⟩
  | .region id ops d, fr, h, h', s => by
    cases d with
    | true => exact hD M id ops.toList fr h h' s
    | false => exact ops_sim hc ops.toList ops.toList fr h h' s
  | .seq a b, fr, h, h', s => by
    simp only [codeRun]
    have hs := code_sim hc hD a fr h h' s
    generalize codeRun T call D N a fr h = r at hs ⊢
    generalize codeRun T call D N a fr h' = r' at hs ⊢
    cases r with
    | nx fr' h1 => obtain ⟨h2, rfl, e2, e3⟩ := hs; exact (code_sim hc hD b fr' h1 h2 e2).keeps e3
    | bad n => trivial
    | _ => obtain ⟨h2, rfl, e2, e3⟩ := hs; exact ⟨h2, rfl, e2, e3⟩
  | .cond x a b, fr, h, h', s => by
    simp only [codeRun]
    split
    · split
      · exact code_sim hc hD a fr h h' s
      · exact code_sim hc hD b fr h h' s
    · trivial
  | .block id b, fr, h, h', s => by
    simp only [codeRun]
    have hs := code_sim hc hD b fr h h' s
    generalize codeRun T call D N b fr h = r at hs ⊢
    generalize codeRun T call D N b fr h' = r' at hs ⊢
    cases r with
    | ex i fr' h1 =>
      obtain ⟨h2, rfl, e2, e3⟩ := hs
      simp only
      split <;> exact ⟨h2, rfl, e2, e3⟩
    | bad n => trivial
    | _ => obtain ⟨h2, rfl, e2, e3⟩ := hs; exact ⟨h2, rfl, e2, e3⟩
  | .loop b, fr, h, h', s => iter_sim (fun fr h h' s => code_sim hc hD b fr h h' s) N fr h h' s
  | .exit id, fr, h, h', s => ⟨h', rfl, s, Keeps.refl⟩
  | .ret, fr, h, h', s => ⟨h', rfl, s, Keeps.refl⟩
  | .scope _, _, _, _, _ => trivial
  | .label _, _, _, _, _ => trivial
  | .goto _, _, _, _, _ => trivial
  | .rangeFunc _ _ _ _, _, _, _, _ => trivial
  | .refuse _, _, _, _, _ => trivial

theorem res_sim {h h' : Hp} (s : Sim M h h') {fr : Fr} {r : ResultVar} {v : V} (hr : resV T fr h r = some v) : resV T fr h' r = some v := by
  cases r with
  | tmp t => exact hr
  | cell a t =>
    simp only [resV] at hr ⊢
    split at hr
    · cases hr
    · split at hr
      · rename_i cs hl
        rw [loadN_sim s hl]; exact hr
      · cases hr
theorem ress_sim {h h' : Hp} (s : Sim M h h') {fr : Fr} : ∀ {rs : List ResultVar} {vs : List V}, resVs T fr h rs = some vs → resVs T fr h' rs = some vs
  | [], vs, hr => hr
  | r :: rs, vs, hr => by
    simp only [resVs] at hr ⊢
    split at hr
    · rename_i v vs' h1 h2
      rw [res_sim s h1, ress_sim s h2]; exact hr
    · cases hr
theorem finish_sim {h h' : Hp} (s : Sim M h h') (rs : List ResultVar) (fr : Fr) : RRS M h' (finish T rs fr h) (finish T rs fr h') := by
  unfold finish
  cases hr : resVs T fr h rs with
  | none => trivial
  | some vs =>
    rw [ress_sim s hr]
    simp only
    split <;> exact ⟨h', rfl, s, Keeps.refl⟩
theorem RRS.keeps {h h1 : Hp} (k : Keeps M h h1) {a b : RR} (x : RRS M h1 a b) : RRS M h a b := by
  cases a with
  | bad n => trivial
  | _ => obtain ⟨h2, e1, e2, e3⟩ := x; exact ⟨h2, e1, e2, k.trans e3⟩

theorem callF_sim {S : CallT → FuncId → Option (List V → Hp → RR)} (hS : ∀ call, CallSim call → ∀ f g, S call f = some g → ∀ (M : Nat → Prop) xs h h', Sim M h h' → RRS M h' (g xs h) (g xs h'))
    {D : CallT → Nat → List Oper → Fr → Hp → CO} (hD : ∀ call, CallSim call → DSim (D call)) {fn : Nat → Func} : ∀ n, CallSim (callF T fn S D N n)
  | 0 => fun M f xs h h' s => trivial
  | n + 1 => fun M f xs h h' s => by
    have ih := callF_sim hS hD (fn := fn) n
    simp only [callF]
    split
    · rename_i g hg
      exact hS _ ih f g hg M xs h h' s
    · split
      · trivial
      · split
        · trivial
        · unfold bodyRun
          split
          · trivial
          · split
            · trivial
            · rename_i c _ _ _ _ _ _ _
              have hs := code_sim (T := T) (N := N) ih (hD _ ih) c (frame 0 .leaf xs) h h' s
              generalize codeRun T _ _ N c (frame 0 .leaf xs) h = r at hs ⊢
              generalize codeRun T _ _ N c (frame 0 .leaf xs) h' = r' at hs ⊢
              cases r with
              | nx fr' h1 => obtain ⟨h2, rfl, e2, e3⟩ := hs; exact (finish_sim e2 _ _).keeps e3
              | rt fr' h1 => obtain ⟨h2, rfl, e2, e3⟩ := hs; exact (finish_sim e2 _ _).keeps e3
              | pan v h1 => obtain ⟨h2, rfl, e2, e3⟩ := hs; exact ⟨h2, rfl, e2, e3⟩
              | ex i fr' h1 => trivial
              | bad n => trivial
end
end Go.AV
namespace Go.AV

def beqB2 : Bool → Bool → Bool
  | true, true => true
  | false, false => true
  | _, _ => false
def beqI : Int → Int → Bool
  | .ofNat a, .ofNat b => Nat.beq a b
  | .negSucc a, .negSucc b => Nat.beq a b
  | _, _ => false
def beqS : List UInt8 → List UInt8 → Bool
  | [], [] => true
  | a :: s, b :: t => match Nat.beq a.toNat b.toNat with | true => beqS s t | false => false
  | _, _ => false
mutual
def beqV : V → V → Bool
  | .bool a, .bool b => beqB2 a b
  | .int k a, .int j b => match sameK k j with | true => beqI a b | false => false
  | .rng k a c, .rng j b d => match sameK k j with | true => (match beqI a b with | true => beqI c d | false => false) | false => false
  | .flt a, .flt b => Nat.beq a b
  | .str a, .str b => beqS a b
  | .nilp, .nilp => true
  | .bp o j, .bp p k => match Nat.beq o p with | true => Nat.beq j k | false => false
  | .ep o i j, .ep p k l => match Nat.beq o p with | true => (match Nat.beq i k with | true => Nat.beq j l | false => false) | false => false
  | .cp a, .cp b => beqVs a b
  | .nils, .nils => true
  | .isl a x, .isl b y => match Nat.beq a b with | true => beqVss x y | false => false
  | .osl a b c, .osl d e f => match Nat.beq a d with | true => (match Nat.beq b e with | true => Nat.beq c f | false => false) | false => false
  | .nilm, .nilm => true
  | .mp a, .mp b => Nat.beq a b
  | .fn f a, .fn g b => match Nat.beq f g with | true => beqVs a b | false => false
  | .fb f a, .fb g b => match Nat.beq f g with | true => beqVs a b | false => false
  | .nilf, .nilf => true
  | .ifc t a, .ifc u b => match Nat.beq t u with | true => beqV a b | false => false
  | .nili, .nili => true
  | .agg a, .agg b => beqVs a b
  | .tup a, .tup b => beqVs a b
  | _, _ => false
def beqVs : List V → List V → Bool
  | [], [] => true
  | a :: s, b :: t => match beqV a b with | true => beqVs s t | false => false
  | _, _ => false
def beqVss : List (List V) → List (List V) → Bool
  | [], [] => true
  | a :: s, b :: t => match beqVs a b with | true => beqVss s t | false => false
  | _, _ => false
end

theorem beqI_eq : ∀ {a b : Int}, beqI a b = true → a = b
  | .ofNat a, .ofNat b, h => by rw [Nat.eq_of_beq_eq_true h]
  | .negSucc a, .negSucc b, h => by rw [Nat.eq_of_beq_eq_true h]
  | .ofNat a, .negSucc b, h => by cases h
  | .negSucc a, .ofNat b, h => by cases h
theorem beqS_eq : ∀ {a b : List UInt8}, beqS a b = true → a = b
  | [], [], _ => rfl
  | a :: s, b :: t, h => by
    simp only [beqS] at h
    split at h
    · rename_i hb
      rw [beqS_eq h, UInt8.toNat_inj.1 (Nat.eq_of_beq_eq_true hb)]
    · cases h
  | [], _ :: _, h => by cases h
  | _ :: _, [], h => by cases h
theorem if_true {a b : Bool} (h : (match a with | true => b | false => false) = true) : a = true ∧ b = true := by cases a <;> simp_all
mutual
theorem beqV_eq : ∀ (a b : V), beqV a b = true → a = b
  | .undef, b, h => by cases b <;> cases h
  | .bool a, b, h => by cases b <;> first | (cases h; done) | (simp only [beqV] at h; rename_i b; cases a <;> cases b <;> first | rfl | cases h)
  | .int k a, b, h => by
    cases b <;> first | (cases h; done) | skip
    simp only [beqV] at h
    obtain ⟨h1, h2⟩ := if_true h
    rename_i j b
    have : k = j := by cases k <;> cases j <;> first | rfl | cases h1
    rw [this, beqI_eq h2]
  | .rng k a c, b, h => by
    cases b <;> first | (cases h; done) | skip
    simp only [beqV] at h
    obtain ⟨h1, h2⟩ := if_true h
    obtain ⟨h3, h4⟩ := if_true h2
    rename_i j b d
    have : k = j := by cases k <;> cases j <;> first | rfl | cases h1
    rw [this, beqI_eq h3, beqI_eq h4]
  | .flt a, b, h => by
    cases b <;> first | (cases h; done) | skip
    simp only [beqV] at h
    rw [Nat.eq_of_beq_eq_true h]
  | .str a, b, h => by
    cases b <;> first | (cases h; done) | skip
    simp only [beqV] at h
    rw [beqS_eq h]
  | .nilp, b, h => by cases b <;> first | rfl | cases h
  | .bp o j, b, h => by
    cases b <;> first | (cases h; done) | skip
    simp only [beqV] at h
    obtain ⟨h1, h2⟩ := if_true h
    rw [Nat.eq_of_beq_eq_true h1, Nat.eq_of_beq_eq_true h2]
  | .ep o i j, b, h => by
    cases b <;> first | (cases h; done) | skip
    simp only [beqV] at h
    obtain ⟨h1, h2⟩ := if_true h
    obtain ⟨h3, h4⟩ := if_true h2
    rw [Nat.eq_of_beq_eq_true h1, Nat.eq_of_beq_eq_true h3, Nat.eq_of_beq_eq_true h4]
  | .cp a, b, h => by
    cases b <;> first | (cases h; done) | skip
    simp only [beqV] at h
    rw [beqVs_eq a _ h]
  | .nils, b, h => by cases b <;> first | rfl | cases h
  | .isl a x, b, h => by
    cases b <;> first | (cases h; done) | skip
    simp only [beqV] at h
    obtain ⟨h1, h2⟩ := if_true h
    rw [Nat.eq_of_beq_eq_true h1, beqVss_eq x _ h2]
  | .osl o i j, b, h => by
    cases b <;> first | (cases h; done) | skip
    simp only [beqV] at h
    obtain ⟨h1, h2⟩ := if_true h
    obtain ⟨h3, h4⟩ := if_true h2
    rw [Nat.eq_of_beq_eq_true h1, Nat.eq_of_beq_eq_true h3, Nat.eq_of_beq_eq_true h4]
  | .nilm, b, h => by cases b <;> first | rfl | cases h
  | .mp a, b, h => by
    cases b <;> first | (cases h; done) | skip
    simp only [beqV] at h
    rw [Nat.eq_of_beq_eq_true h]
  | .fn f a, b, h => by
    cases b <;> first | (cases h; done) | skip
    simp only [beqV] at h
    obtain ⟨h1, h2⟩ := if_true h
    rw [Nat.eq_of_beq_eq_true h1, beqVs_eq a _ h2]
  | .fb f a, b, h => by
    cases b <;> first | (cases h; done) | skip
    simp only [beqV] at h
    obtain ⟨h1, h2⟩ := if_true h
    rw [Nat.eq_of_beq_eq_true h1, beqVs_eq a _ h2]
  | .nilf, b, h => by cases b <;> first | rfl | cases h
  | .ifc t a, b, h => by
    cases b <;> first | (cases h; done) | skip
    simp only [beqV] at h
    obtain ⟨h1, h2⟩ := if_true h
    rw [Nat.eq_of_beq_eq_true h1, beqV_eq a _ h2]
  | .nili, b, h => by cases b <;> first | rfl | cases h
  | .agg a, b, h => by
    cases b <;> first | (cases h; done) | skip
    simp only [beqV] at h
    rw [beqVs_eq a _ h]
  | .tup a, b, h => by
    cases b <;> first | (cases h; done) | skip
    simp only [beqV] at h
    rw [beqVs_eq a _ h]
theorem beqVs_eq : ∀ (a b : List V), beqVs a b = true → a = b
  | [], b, h => by cases b <;> first | rfl | cases h
  | a :: s, b, h => by
    cases b with
    | nil => cases h
    | cons b t =>
      simp only [beqVs] at h
      obtain ⟨h1, h2⟩ := if_true h
      rw [beqV_eq a b h1, beqVs_eq s t h2]
theorem beqVss_eq : ∀ (a b : List (List V)), beqVss a b = true → a = b
  | [], b, h => by cases b <;> first | rfl | cases h
  | a :: s, b, h => by
    cases b with
    | nil => cases h
    | cons b t =>
      simp only [beqVss] at h
      obtain ⟨h1, h2⟩ := if_true h
      rw [beqVs_eq a b h1, beqVss_eq s t h2]
end
end Go.AV
namespace Go.AV

def nthN : List Nat → Nat → Nat
  | [], _ => 0
  | v :: _, 0 => v
  | _ :: t, n + 1 => nthN t n
def hasB (m i : Nat) : Bool := Nat.beq (Nat.land 1 (Nat.shiftRight m i)) 1
/-- What is ahead of an operation: of its edges, one behind the other. -/
def orB (acc : List Nat) : List Edge → Nat
  | [] => 0
  | e :: r => match Region.binds .any e with
    | true => Nat.lor (Nat.lor (Nat.pow 2 e.on) (nthN acc e.on)) (orB acc r)
    | false => orB acc r
def snoc : List Nat → Nat → List Nat
  | [], x => [x]
  | v :: t, x => v :: snoc t x
def befs : List Nat → List Oper → List Nat
  | acc, [] => acc
  | acc, o :: r => befs (snoc acc (orB acc o.after.toList)) r
/-- Edges go back. -/
def edgesOk : Nat → List Oper → Bool
  | _, [] => true
  | k, o :: r => match goE k o.after.toList with | true => edgesOk (Nat.add k 1) r | false => false
where goE (k : Nat) : List Edge → Bool
  | [] => true
  | e :: r => match Region.binds .any e with
    | true => (match Nat.blt e.on k with | true => goE k r | false => false)
    | false => goE k r
/-- The slots that an operation looks at. -/
def tmpsOf : List Operand → List Nat
  | [] => []
  | .tmp t :: r => t :: tmpsOf r
  | _ :: r => tmpsOf r
def looks (all : List Oper) (o : Oper) : List Nat := match o.guard with
  | none => tmpsOf o.op.operands.toList
  | some (j, _) => match dstOf all j with
    | some d => d :: tmpsOf o.op.operands.toList
    | none => tmpsOf o.op.operands.toList
def memN (x : Nat) : List Nat → Bool
  | [] => false
  | y :: t => match Nat.beq x y with | true => true | false => memN x t
/-- Not pure and alone: it must be ordered against its like. -/
def hard (o : Oper) : Bool := match o.op with
  | .call { callee := .value _, .. } => true
  | .call { callee := .builtin .append, .. } => true
  | .call { callee := .builtin .copy, .. } => true
  | .call { callee := .builtin .clear, .. } => true
  | .store .. | .mapUpdate .. | .panic _ | .defer _ => true
  | _ => false
def clash (all : List Oper) (a b : Oper) : Bool :=
  match (match a.dst with | some d => (match memN d (looks all b) with | true => true | false => (match b.dst with | some d' => Nat.beq d d' | none => false)) | none => false) with
  | true => true
  | false => match (match b.dst with | some d => memN d (looks all a) | none => false) with
    | true => true
    | false => match hard a with | true => hard b | false => false
/-- What clashes is ordered. -/
def pairOk (all : List Oper) (m : Nat) (b : Oper) : Nat → List Oper → Bool
  | _, [] => true
  | i, a :: r => match clash all a b with
    | true => (match hasB m i with | true => pairOk all m b (Nat.add i 1) r | false => false)
    | false => pairOk all m b (Nat.add i 1) r
def takeO : Nat → List Oper → List Oper
  | 0, _ => []
  | _ + 1, [] => []
  | n + 1, o :: r => o :: takeO n r
def pairsOk (all : List Oper) (bs : List Nat) : Nat → List Oper → Bool
  | _, [] => true
  | k, o :: r => match pairOk all (nthN bs k) o 0 (takeO k all) with
    | true => pairsOk all bs (Nat.add k 1) r
    | false => false
def statOk (all : List Oper) : Bool := match edgesOk 0 all with
  | true => pairsOk all (befs [] all) 0 all
  | false => false
def lenO : List Oper → Nat
  | [] => 0
  | _ :: t => Nat.add (lenO t) 1

/-- What reads the heap, though soft. -/
def reads (T : TypeId → TI) (o : Oper) : Bool := match o.op with
  | .load .. | .indexAddr .. | .slice .. | .lookup .. => true
  | .convert s _ _ => match (T s).d with | .slice _ => true | _ => false
  | .call { callee := .builtin .len, .. } => true
  | .call { callee := .builtin .cap, .. } => true
  | _ => false
/-- Nothing lies there yet. -/
noncomputable def freeAll (h : Hp) : Nat → Nat → Bool
  | 0, _ => true
  | n + 1, i => match ob h i with | .free => freeAll h n (Nat.add i 1) | _ => false
/-- Given up. -/
noncomputable def killAll : Nat → Nat → Hp → Hp
  | 0, _, h => h
  | n + 1, i, h => killAll n (Nat.add i 1) (setOb h i .dead)
/-- All of them have it ahead. -/
def laterOk (k : Nat) : List Nat → Bool
  | [] => true
  | m :: r => match hasB m k with | true => laterOk k r | false => false

/-- The region's objects that are not ahead of an operation, from i on: dead. -/
noncomputable def mask (base m : Nat) : Nat → Nat → Hp → Hp
  | 0, _, h => h
  | n + 1, i, h => match hasB m i with
    | true => mask base m n (Nat.add i 1) h
    | false => match ob h (Nat.add base i) with
      | .free => mask base m n (Nat.add i 1) h
      | _ => mask base m n (Nat.add i 1) (setOb h (Nat.add base i) .dead)
/-- And back again, as in h0. -/
noncomputable def unmask (base m : Nat) (h0 : Hp) : Nat → Nat → Hp → Hp
  | 0, _, h => h
  | n + 1, i, h => match hasB m i with
    | true => unmask base m h0 n (Nat.add i 1) h
    | false => match ob h0 (Nat.add base i) with
      | .free => unmask base m h0 n (Nat.add i 1) h
      | x => unmask base m h0 n (Nat.add i 1) (setOb h (Nat.add base i) x)

/-- A read: its number, the operation, the frame then, what came. -/
structure Rd where
  k : Nat
  o : Oper
  fr : Fr
  v : V
/-- A phase: the hard operation that ends it, the heap ahead of it. -/
structure Ph where
  k : Nat
  h : Hp

section
variable (T : TypeId → TI) (call : CallT) (all : List Oper) (bs : List Nat) (base : Nat)

inductive DR where
  | nx (fr : Fr) (h : Hp) (ps : List Ph) (rs : List Rd)
  | pan (k : Nat) (v : V) (h h1 : Hp) (ps : List Ph) (rs : List Rd)
  | bad (n : Nat)
/-- The operations in the text's order. -/
noncomputable def dops : Nat → List Oper → Fr → Hp → List Ph → List Rd → DR
  | _, [], fr, h, ps, rs => .nx fr h ps rs
  | k, o :: os, fr, h, ps, rs => match hard o with
    | true => match one T call (Nat.add base k) all o fr (mask base (nthN bs k) k 0 h) with
      | .nx fr h1 => dops (Nat.add k 1) os fr (unmask base (nthN bs k) h k 0 h1) (⟨k, h⟩ :: ps) rs
      | .pan v h1 => .pan k v h h1 ps rs
      | .bad n => .bad n
    | false => match one T call (Nat.add base k) all o fr h with
      | .nx fr1 h1 => match reads T o with
        | true => match o.dst with
          | some d => dops (Nat.add k 1) os fr1 h1 ps (⟨k, o, fr, fr1.get .undef d⟩ :: rs)
          | none => .bad 90
        | false => dops (Nat.add k 1) os fr1 h1 ps rs
      | .pan _ _ => .bad 91
      | .bad n => .bad n
/-- One read in one phase. -/
noncomputable def again (r : Rd) (h : Hp) : Bool := match one T call (Nat.add base r.k) all r.o r.fr (mask base (nthN bs r.k) (lenO all) 0 h) with
  | .nx fr1 _ => match r.o.dst with
    | some d => beqV (fr1.get .undef d) r.v
    | none => false
  | _ => false
/-- The phases from the last to the first, h being the heap behind them: those where the read may be. -/
noncomputable def phases (r : Rd) (h : Hp) : List Ph → Bool
  | [] => again T call all bs base r h
  | p :: ps => match hasB (nthN bs p.k) r.k with
    | true => phases r p.h ps
    | false => match again T call all bs base r h with
      | true => (match hasB (nthN bs r.k) p.k with | true => true | false => phases r p.h ps)
      | false => false
noncomputable def allAgain (h : Hp) (ps : List Ph) : List Rd → Bool
  | [] => true
  | r :: rs => match phases T call all bs base r h ps with | true => allAgain h ps rs | false => false
end

def dropN' : Nat → List Nat → List Nat
  | 0, l => l
  | _ + 1, [] => []
  | n + 1, _ :: t => dropN' n t
/-- A drawn region. -/
noncomputable def drawn (T : TypeId → TI) (call : CallT) (_id : Nat) (all : List Oper) (fr : Fr) (h : Hp) : CO := match statOk all with
  | false => .bad 92
  | true => match freeAll h (Nat.add (lenO all) 1) h.next with
    | false => .bad 94
    | true => match dops T call all (befs [] all) h.next 0 all fr ⟨Nat.add h.next (Nat.add (lenO all) 1), h.t⟩ [] [] with
      | .nx fr h1 ps rs => match allAgain T call all (befs [] all) h.next h1 ps rs with
        | true => .nx fr h1
        | false => .bad 93
      | .pan k v h0 h1 ps rs => match laterOk k (dropN' (Nat.add k 1) (befs [] all)) with
        | true => match allAgain T call all (befs [] all) h.next h0 ps rs with
          | true => .pan v (killAll (lenO all) h.next h1)
          | false => .bad 93
        | false => .bad 95
      | .bad n => .bad n
end Go.AV
namespace Go.AV
open Go

theorem mask_next (base m : Nat) : ∀ (n i : Nat) (h : Hp), (mask base m n i h).next = h.next
  | 0, i, h => rfl
  | n + 1, i, h => by
    unfold mask
    split
    · exact mask_next base m n _ h
    · split
      · exact mask_next base m n _ h
      · rw [mask_next base m n]; exact setOb_next _ _ _
theorem unmask_next (base m : Nat) (h0 : Hp) : ∀ (n i : Nat) (h : Hp), (unmask base m h0 n i h).next = h.next
  | 0, i, h => rfl
  | n + 1, i, h => by
    unfold unmask
    split
    · exact unmask_next base m h0 n _ h
    · split
      · exact unmask_next base m h0 n _ h
      · rw [unmask_next base m h0 n]; exact setOb_next _ _ _
open Classical in
theorem mask_ob (base m : Nat) : ∀ (n i : Nat) (h : Hp) (o : Nat), ob (mask base m n i h) o =
    if (∃ j, i ≤ j ∧ j < i + n ∧ o = base + j ∧ hasB m j = false) ∧ ob h o ≠ .free then .dead else ob h o
  | 0, i, h, o => by
    rw [if_neg]
    · rfl
    · rintro ⟨⟨j, h1, h2, _⟩, _⟩; omega
  | n + 1, i, h, o => by
    have step : ∀ (h1 : Hp), ob h1 o = (if o = base + i ∧ hasB m i = false ∧ ob h o ≠ .free then .dead else ob h o) → (ob h1 o = .free ↔ ob h o = .free) →
        ob (mask base m n (i + 1) h1) o = if (∃ j, i ≤ j ∧ j < i + (n + 1) ∧ o = base + j ∧ hasB m j = false) ∧ ob h o ≠ .free then .dead else ob h o := by
      intro h1 e1 e2
      rw [mask_ob base m n (i + 1) h1 o]
      by_cases hf : ob h o = .free
      · rw [if_neg (fun hh => hh.2 (e2.2 hf)), if_neg (fun hh => hh.2 hf), e1, if_neg (fun hh => hh.2.2 hf)]
      · by_cases hj : ∃ j, i + 1 ≤ j ∧ j < i + 1 + n ∧ o = base + j ∧ hasB m j = false
        · rw [if_pos ⟨hj, fun hh => hf (e2.1 hh)⟩, if_pos ⟨by obtain ⟨j, a, b, c, d⟩ := hj; exact ⟨j, by omega, by omega, c, d⟩, hf⟩]
        · rw [if_neg (fun hh => hj hh.1), e1]
          by_cases hi : o = base + i ∧ hasB m i = false
          · rw [if_pos ⟨hi.1, hi.2, hf⟩, if_pos ⟨⟨i, by omega, by omega, hi.1, hi.2⟩, hf⟩]
          · rw [if_neg (fun hh => hi ⟨hh.1, hh.2.1⟩), if_neg]
            rintro ⟨⟨j, a, b, c, d⟩, _⟩
            by_cases hji : j = i
            · subst hji; exact hi ⟨c, d⟩
            · exact hj ⟨j, by omega, by omega, c, d⟩
    unfold mask
    simp only [Nat.add_eq]
    split
    · rename_i hb
      refine step h ?_ Iff.rfl
      rw [if_neg (by rw [hb]; simp)]
    · rename_i hb
      split
      · rename_i hfree
        refine step h ?_ Iff.rfl
        rw [if_neg]
        rintro ⟨e, _, e2⟩
        exact e2 (e ▸ hfree)
      · rename_i hne
        refine step _ ?_ ?_
        · rw [ob_setOb']
          by_cases e : o = base + i
          · rw [if_pos e, if_pos ⟨e, hb, by rw [e]; exact hne⟩]
          · rw [if_neg e, if_neg (fun hh => e hh.1)]
        · rw [ob_setOb']
          by_cases e : o = base + i
          · rw [if_pos e]
            constructor
            · intro h; cases h
            · intro h; rw [e] at h; exact absurd h hne
          · rw [if_neg e]
open Classical in
theorem unmask_ob (base m : Nat) (h0 : Hp) : ∀ (n i : Nat) (h : Hp) (o : Nat), ob (unmask base m h0 n i h) o =
    if (∃ j, i ≤ j ∧ j < i + n ∧ o = base + j ∧ hasB m j = false) ∧ ob h0 o ≠ .free then ob h0 o else ob h o
  | 0, i, h, o => by
    rw [if_neg]
    · rfl
    · rintro ⟨⟨j, h1, h2, _⟩, _⟩; omega
  | n + 1, i, h, o => by
    have step : ∀ (h1 : Hp), ob h1 o = (if o = base + i ∧ hasB m i = false ∧ ob h0 o ≠ .free then ob h0 o else ob h o) →
        ob (unmask base m h0 n (i + 1) h1) o = if (∃ j, i ≤ j ∧ j < i + (n + 1) ∧ o = base + j ∧ hasB m j = false) ∧ ob h0 o ≠ .free then ob h0 o else ob h o := by
      intro h1 e1
      rw [unmask_ob base m h0 n (i + 1) h1 o]
      by_cases hf : ob h0 o = .free
      · rw [if_neg (fun hh => hh.2 hf), if_neg (fun hh => hh.2 hf), e1, if_neg (fun hh => hh.2.2 hf)]
      · by_cases hj : ∃ j, i + 1 ≤ j ∧ j < i + 1 + n ∧ o = base + j ∧ hasB m j = false
        · rw [if_pos ⟨hj, hf⟩, if_pos ⟨by obtain ⟨j, a, b, c, d⟩ := hj; exact ⟨j, by omega, by omega, c, d⟩, hf⟩]
        · rw [if_neg (fun hh => hj hh.1), e1]
          by_cases hi : o = base + i ∧ hasB m i = false
          · rw [if_pos ⟨hi.1, hi.2, hf⟩, if_pos ⟨⟨i, by omega, by omega, hi.1, hi.2⟩, hf⟩]
          · rw [if_neg (fun hh => hi ⟨hh.1, hh.2.1⟩), if_neg]
            rintro ⟨⟨j, a, b, c, d⟩, _⟩
            by_cases hji : j = i
            · subst hji; exact hi ⟨c, d⟩
            · exact hj ⟨j, by omega, by omega, c, d⟩
    unfold unmask
    simp only [Nat.add_eq]
    split
    · rename_i hb
      refine step h ?_
      rw [if_neg (by rw [hb]; simp)]
    · rename_i hb
      split
      · rename_i hfree
        refine step h ?_
        rw [if_neg]
        rintro ⟨e, _, e2⟩
        exact e2 (e ▸ hfree)
      · rename_i hne
        refine step _ ?_
        rw [ob_setOb']
        by_cases e : o = base + i
        · rw [if_pos e, if_pos ⟨e, hb, by rw [e]; exact hne⟩, e]
        · rw [if_neg e, if_neg (fun hh => e hh.1)]

section
variable {T : TypeId → TI} {M : Nat → Prop} {call : CallT} {all : List Oper} {bs : List Nat} {base : Nat}

theorem mask_sim {h h' : Hp} (s : Sim M h h') (hb : ∀ j, ¬ M (base + j)) (m n i : Nat) : Sim M (mask base m n i h) (mask base m n i h') ∧ Keeps M h' (mask base m n i h') := by
  refine ⟨⟨by rw [mask_next, mask_next, s.next], fun o ho => ?_, fun o ho => ?_⟩, fun o ho => ?_⟩
  · rw [mask_ob, mask_ob, s.same o ho]
  · rw [mask_ob, mask_next, if_neg]
    · exact s.none o ho
    · rintro ⟨⟨j, _, _, e, _⟩, _⟩; exact hb j (e ▸ ho)
  · rw [mask_ob, if_neg]
    rintro ⟨⟨j, _, _, e, _⟩, _⟩; exact hb j (e ▸ ho)
theorem unmask_sim {h h' h0 h0' : Hp} (s : Sim M h h') (s0 : Sim M h0 h0') (hb : ∀ j, ¬ M (base + j)) (m n i : Nat) : Sim M (unmask base m h0 n i h) (unmask base m h0' n i h') ∧ Keeps M h' (unmask base m h0' n i h') := by
  refine ⟨⟨by rw [unmask_next, unmask_next, s.next], fun o ho => ?_, fun o ho => ?_⟩, fun o ho => ?_⟩
  · rw [unmask_ob, unmask_ob, s.same o ho, s0.same o ho]
  · rw [unmask_ob, unmask_next, if_neg]
    · exact s.none o ho
    · rintro ⟨⟨j, _, _, e, _⟩, _⟩; exact hb j (e ▸ ho)
  · rw [unmask_ob, if_neg]
    rintro ⟨⟨j, _, _, e, _⟩, _⟩; exact hb j (e ▸ ho)

theorem again_sim (hc : CallSim call) {h h' : Hp} (s : Sim M h h') (hb : ∀ j, ¬ M (base + j)) (r : Rd) (ha : again T call all bs base r h = true) : again T call all bs base r h' = true := by
  unfold again at ha ⊢
  have hs := one_sim (T := T) hc (mask_sim s hb (nthN bs r.k) (lenO all) 0).1 (hb r.k) all r.o r.fr
  change ORS M _ (one T call (Nat.add base r.k) all r.o r.fr _) (one T call (Nat.add base r.k) all r.o r.fr _) at hs
  generalize one T call (Nat.add base r.k) all r.o r.fr (mask base (nthN bs r.k) (lenO all) 0 h) = q at hs ha
  generalize one T call (Nat.add base r.k) all r.o r.fr (mask base (nthN bs r.k) (lenO all) 0 h') = q' at hs ⊢
  cases q with
  | nx fr h1 => obtain ⟨h2, rfl, _⟩ := hs; exact ha
  | pan v h1 => cases ha
  | bad n => cases ha

/-- Phases alike. -/
def PsS (M : Nat → Prop) : List Ph → List Ph → Prop
  | [], [] => True
  | p :: ps, q :: qs => p.k = q.k ∧ Sim M p.h q.h ∧ PsS M ps qs
  | _, _ => False
theorem phases_sim (hc : CallSim call) (hb : ∀ j, ¬ M (base + j)) (r : Rd) : ∀ (ps ps' : List Ph) (h h' : Hp), Sim M h h' → PsS M ps ps' → phases T call all bs base r h ps = true → phases T call all bs base r h' ps' = true
  | [], [], h, h', s, _, ha => again_sim hc s hb r ha
  | p :: ps, q :: qs, h, h', s, ⟨e, sp, sps⟩, ha => by
    simp only [phases, ← e] at ha ⊢
    split at ha
    · exact phases_sim hc hb r ps qs _ _ sp sps ha
    · split at ha
      · rename_i hag
        rw [again_sim hc s hb r hag]
        simp only
        split at ha
        · rfl
        · exact phases_sim hc hb r ps qs _ _ sp sps ha
      · cases ha
  | [], _ :: _, _, _, _, hp, _ => hp.elim
  | _ :: _, [], _, _, _, hp, _ => hp.elim
theorem allAgain_sim (hc : CallSim call) (hb : ∀ j, ¬ M (base + j)) {ps ps' : List Ph} {h h' : Hp} (s : Sim M h h') (sp : PsS M ps ps') : ∀ (rs : List Rd), allAgain T call all bs base h ps rs = true → allAgain T call all bs base h' ps' rs = true
  | [], _ => rfl
  | r :: rs, ha => by
    simp only [allAgain] at ha ⊢
    split at ha
    · rename_i hp
      rw [phases_sim hc hb r ps ps' h h' s sp hp]
      exact allAgain_sim hc hb s sp rs ha
    · cases ha

def DRS (M : Nat → Prop) (h' : Hp) : DR → DR → Prop
  | .nx fr h1 ps rs, r => ∃ h1' ps', r = .nx fr h1' ps' rs ∧ Sim M h1 h1' ∧ Keeps M h' h1' ∧ PsS M ps ps'
  | .pan k v h0 h1 ps rs, r => ∃ h0' h1' ps', r = .pan k v h0' h1' ps' rs ∧ Sim M h0 h0' ∧ Sim M h1 h1' ∧ Keeps M h' h1' ∧ PsS M ps ps'
  | .bad _, _ => True
theorem DRS.keeps {h h1 : Hp} (k : Keeps M h h1) {a b : DR} (x : DRS M h1 a b) : DRS M h a b := by
  cases a with
  | bad n => trivial
  | nx fr h2 ps rs => obtain ⟨h3, ps', e1, e2, e3, e4⟩ := x; exact ⟨h3, ps', e1, e2, k.trans e3, e4⟩
  | pan j v h0 h2 ps rs => obtain ⟨h0', h3, ps', e1, e2, e3, e4, e5⟩ := x; exact ⟨h0', h3, ps', e1, e2, e3, k.trans e4, e5⟩

theorem killAll_next : ∀ (n i : Nat) (h : Hp), (killAll n i h).next = h.next
  | 0, i, h => rfl
  | n + 1, i, h => by
    unfold killAll
    rw [killAll_next n]; exact setOb_next _ _ _
open Classical in
theorem killAll_ob : ∀ (n i : Nat) (h : Hp) (o : Nat), ob (killAll n i h) o = if i ≤ o ∧ o < i + n then .dead else ob h o
  | 0, i, h, o => by rw [if_neg (by omega)]; rfl
  | n + 1, i, h, o => by
    unfold killAll
    simp only [Nat.add_eq]
    rw [killAll_ob n, ob_setOb']
    by_cases h1 : i + 1 ≤ o ∧ o < i + 1 + n
    · rw [if_pos h1, if_pos (by omega)]
    · rw [if_neg h1]
      by_cases h2 : o = i
      · rw [if_pos h2, if_pos (by omega)]
      · rw [if_neg h2, if_neg (by omega)]
theorem killAll_sim {h h' : Hp} (s : Sim M h h') (hb : ∀ j, ¬ M (base + j)) (n : Nat) : Sim M (killAll n base h) (killAll n base h') ∧ Keeps M h' (killAll n base h') := by
  have hne : ∀ o, M o → ¬ (base ≤ o ∧ o < base + n) := fun o ho hh => hb (o - base) (by rw [show base + (o - base) = o by omega]; exact ho)
  refine ⟨⟨by rw [killAll_next, killAll_next, s.next], fun o ho => ?_, fun o ho => ?_⟩, fun o ho => ?_⟩
  · rw [killAll_ob, killAll_ob, s.same o ho]
  · rw [killAll_ob, killAll_next, if_neg (hne o ho)]; exact s.none o ho
  · rw [killAll_ob, if_neg (hne o ho)]
theorem freeAll_sim {h h' : Hp} (s : Sim M h h') : ∀ (n i : Nat), (∀ j, ¬ M (i + j)) → freeAll h n i = true → freeAll h' n i = true
  | 0, i, _, _ => rfl
  | n + 1, i, hb, ha => by
    simp only [freeAll] at ha ⊢
    rw [s.same i (hb 0)]
    split at ha
    · exact freeAll_sim s n _ (fun j => by rw [Nat.add_eq, Nat.add_assoc]; exact hb (1 + j)) ha
    · cases ha

theorem dops_sim (hc : CallSim call) (hb : ∀ j, ¬ M (base + j)) : ∀ (os : List Oper) (k : Nat) (fr : Fr) (h h' : Hp) (ps ps' : List Ph) (rs : List Rd), Sim M h h' → PsS M ps ps' →
    DRS M h' (dops T call all bs base k os fr h ps rs) (dops T call all bs base k os fr h' ps' rs)
  | [], k, fr, h, h', ps, ps', rs, s, sp => ⟨h', ps', rfl, s, Keeps.refl, sp⟩
  | o :: os, k, fr, h, h', ps, ps', rs, s, sp => by
    simp only [dops]
    split
    · obtain ⟨s1, k1⟩ := mask_sim s hb (nthN bs k) k 0
      have hs := one_sim (T := T) hc s1 (hb k) all o fr
      change ORS M _ (one T call (Nat.add base k) all o fr _) (one T call (Nat.add base k) all o fr _) at hs
      generalize one T call (Nat.add base k) all o fr (mask base (nthN bs k) k 0 h) = q at hs ⊢
      generalize one T call (Nat.add base k) all o fr (mask base (nthN bs k) k 0 h') = q' at hs ⊢
      cases q with
      | nx fr1 h1 =>
        obtain ⟨h2, rfl, e2, e3⟩ := hs
        obtain ⟨u1, u2⟩ := unmask_sim e2 s hb (nthN bs k) k 0
        exact (dops_sim hc hb os _ fr1 _ _ _ _ rs u1 (show PsS M (⟨k, h⟩ :: ps) (⟨k, h'⟩ :: ps') from ⟨rfl, s, sp⟩)).keeps ((k1.trans e3).trans u2)
      | pan v h1 =>
        obtain ⟨h2, rfl, e2, e3⟩ := hs
        exact ⟨_, _, _, rfl, s, e2, k1.trans e3, sp⟩
      | bad n => trivial
    · have hs := one_sim (T := T) hc s (hb k) all o fr
      change ORS M _ (one T call (Nat.add base k) all o fr _) (one T call (Nat.add base k) all o fr _) at hs
      generalize one T call (Nat.add base k) all o fr h = q at hs ⊢
      generalize one T call (Nat.add base k) all o fr h' = q' at hs ⊢
      cases q with
      | nx fr1 h1 =>
        obtain ⟨h2, rfl, e2, e3⟩ := hs
        simp only
        split
        · split
          · exact (dops_sim hc hb os _ fr1 _ _ _ _ _ e2 sp).keeps e3
          · trivial
        · exact (dops_sim hc hb os _ fr1 _ _ _ _ _ e2 sp).keeps e3
      | pan v h1 => trivial
      | bad n => trivial

theorem drawn_sim (hc : CallSim call) : DSim (drawn T call) := by
  intro M id ops fr h h' s
  unfold drawn
  split
  · trivial
  · have hb : ∀ j, ¬ M (h.next + j) := fun j hm => by have := (s.none _ hm).2; omega
    split
    · trivial
    · rename_i hfr
      rw [s.next, freeAll_sim s _ _ hb hfr]
      have s2 : Sim M ⟨Nat.add h.next (Nat.add (lenO ops) 1), h.t⟩ ⟨Nat.add h.next (Nat.add (lenO ops) 1), h'.t⟩ := ⟨rfl, s.same, fun o ho => ⟨(s.none o ho).1, Nat.lt_of_lt_of_le (s.none o ho).2 (Nat.le_add_right _ _)⟩⟩
      have hs := dops_sim (T := T) (all := ops) (bs := befs [] ops) (base := h.next) hc hb ops 0 fr _ _ [] [] [] s2 trivial
      simp only
      generalize dops T call ops (befs [] ops) h.next 0 ops fr ⟨Nat.add h.next (Nat.add (lenO ops) 1), h.t⟩ [] [] = q at hs ⊢
      generalize dops T call ops (befs [] ops) h.next 0 ops fr ⟨Nat.add h.next (Nat.add (lenO ops) 1), h'.t⟩ [] [] = q' at hs ⊢
      cases q with
      | nx fr1 h1 ps rs =>
        obtain ⟨h2, ps', rfl, e2, e3, e4⟩ := hs
        simp only
        split
        · rename_i ha
          rw [allAgain_sim hc hb e2 e4 rs ha]
          exact ⟨h2, rfl, e2, e3⟩
        · trivial
      | pan k v h0 h1 ps rs =>
        obtain ⟨h0', h2, ps', rfl, e2, e3, e4, e5⟩ := hs
        simp only
        split
        · split
          · rename_i ha
            rw [allAgain_sim hc hb e2 e5 rs ha]
            obtain ⟨k1, k2⟩ := killAll_sim e3 hb (lenO ops)
            exact ⟨_, rfl, k1, e4.trans k2⟩
          · trivial
        · trivial
      | bad n => trivial
end
end Go.AV
namespace Go.AV
open Go
section
variable {T : TypeId → TI} {fr fr' : Fr} {h : Hp}

theorem args_congr : ∀ {l : List Operand}, (∀ x ∈ l, arg fr x = arg fr' x) → args fr l = args fr' l
  | [], _ => rfl
  | x :: r, hx => by simp only [args]; rw [hx x (by simp), args_congr (fun y hy => hx y (by simp [hy]))]
theorem parts_congr : ∀ {l : List (Nat × Operand)}, (∀ p ∈ l, arg fr p.2 = arg fr' p.2) → parts fr l = parts fr' l
  | [], _ => rfl
  | (i, x) :: r, hx => by simp only [parts]; rw [hx (i, x) (by simp), parts_congr (fun y hy => hx y (by simp [hy]))]

/-- An operation looks at its operands alone. -/
theorem evOp_congr (nid : Nat) (o : Oper) (hx : ∀ x ∈ o.op.operands, arg fr x = arg fr' x) : evOp std T nid fr h o = evOp std T nid fr' h o := by
  obtain ⟨dst, op, ty, pos, after, guard⟩ := o
  simp only at hx
  cases op <;> simp only [Op.operands] at hx <;> simp only [evOp]
  case move x => rw [hx x (by simp)]
  case assign x => rw [hx x (by simp)]
  case build t ps =>
    simp only [evBuild]
    rw [parts_congr (fr := fr) (fr' := fr') (fun p hp => hx p.2 (by simp; exact ⟨p.1, by simpa using hp⟩))]
  case buildSlice t n ps =>
    simp only [evBuildS]
    rw [parts_congr (fr := fr) (fr' := fr') (fun p hp => hx p.2 (by simp; exact ⟨p.1, by simpa using hp⟩))]
  case makeFunc f first caps =>
    cases f <;> simp only [evMkF]
    rw [args_congr (l := caps.toList) (fr := fr) (fr' := fr') (fun x hm => hx x (by simp; right; simpa using hm))]
    have e := args_congr (l := first.toList) (fr := fr) (fr' := fr') (fun x hm => hx x (by simp; left; simpa using hm))
    generalize first.toList = l at e
    cases l with
    | nil => rfl
    | cons y r => simp only; rw [e]
  case makeMap t r => cases r <;> simp
  case slice t x lo hi mx =>
    cases mx with
    | none =>
      simp only [evSlice]
      rw [hx x (by simp)]
      cases lo <;> cases hi <;> simp_all
    | some u =>
      cases lo with
      | none => rfl
      | some l => cases hi with
        | none => rfl
        | some m =>
          simp only [evSlice3]
          rw [hx x (by simp), hx l (by simp), hx m (by simp), hx u (by simp)]
  case typeAssert x u t ok =>
    cases ok <;> simp only [evTA]
    rw [hx x (by simp)]
  case call c =>
    obtain ⟨f, as, ts⟩ := c
    cases f with
    | value f =>
      simp only [evCallV]
      rw [hx f (by simp [Call.operands]), args_congr (l := as.toList) (fr := fr) (fr' := fr') (fun x hm => hx x (by simp [Call.operands]; right; simpa using hm))]
    | builtin b =>
      simp only [evCallB]
      rw [args_congr (l := as.toList) (fr := fr) (fr' := fr') (fun x hm => hx x (by simp [Call.operands]; simpa using hm))]
    | invoke r m => simp
  all_goals first
    | rfl
    | (simp only [evPick, evAlloc, evBox, evLoad, evStore, evNil, evBin, evUn, evConv, evMkI, evFAddr, evFld, evIAddr, evIdx, evExtr, evPan, evMakeS, evLook, evMapU] at *; simp_all; done)
end
end Go.AV
