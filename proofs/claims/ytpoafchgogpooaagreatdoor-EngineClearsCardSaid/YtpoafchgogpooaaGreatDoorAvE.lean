/-
  The abstract machine: regions whose order Go leaves open, in each order. By an AI agent. Conditions: none beyond what each theorem states.
-/
import Derived.Test.YtpoafchgogpooaaGreatDoorAvD
set_option linter.unusedVariables false
set_option linter.unusedSimpArgs false
namespace Go.AV
open Go
section
variable {T : TypeId → TI} {call : CallT} {fr fr' : Fr}

def SoftR (nid : Nat) (h h2 : Hp) (r r2 : Res) : Prop :=
  (∃ v, r = .val v h ∧ r2 = .val v h2) ∨ (∃ x v, x ≠ Ob.free ∧ r = mkOb h nid x v ∧ r2 = mkOb h2 nid x v) ∨ ∃ n, r = .bad n

/-- A soft operation that does not read: what it makes does not hang on the heap. -/
theorem evOp_soft (nid : Nat) (o : Oper) (hh : hard o = false) (hr : reads T o = false) (h h2 : Hp) : SoftR nid h h2 (evOp std T nid fr h o) (evOp std T nid fr h2 o) := by
  obtain ⟨dst, op, ty, pos, after, guard⟩ := o
  cases op
  case call c =>
    obtain ⟨f, as, ts⟩ := c
    cases f with
    | value f => cases hh
    | builtin b =>
      cases b <;> simp only [hard, reads] at hh hr <;> first
        | (cases hh; done)
        | (cases hr; done)
        | (simp only [evOp, evCallB]
           (repeat' split) <;> first
            | exact .inl ⟨_, rfl, rfl⟩
            | exact .inr (.inr ⟨_, rfl⟩)
            | (simp_all; done))
    | invoke r m => exact .inr (.inr ⟨_, rfl⟩)
  case convert s t x =>
    simp only [reads] at hr
    simp only [evOp, evConv, tiOf]
    split
    · exact .inr (.inr ⟨_, rfl⟩)
    · rename_i e hd
      rw [hd] at hr
      cases hr
    · (repeat' split) <;> first
      | exact .inl ⟨_, rfl, rfl⟩
      | exact .inr (.inl ⟨_, _, by simp, rfl, rfl⟩)
      | exact .inr (.inr ⟨_, rfl⟩)
  case makeFunc f first caps =>
    cases f <;> simp only [evOp, evMkF] <;> (repeat' split) <;> first
      | exact .inl ⟨_, rfl, rfl⟩
      | exact .inr (.inr ⟨_, rfl⟩)
  case makeMap t r =>
    cases r <;> simp only [evOp] <;> first
      | exact .inr (.inl ⟨_, _, by simp, rfl, rfl⟩)
      | exact .inr (.inr ⟨_, rfl⟩)
  case typeAssert x u t ok =>
    cases ok <;> simp only [evOp, evTA] <;> (repeat' split) <;> first
      | exact .inl ⟨_, rfl, rfl⟩
      | exact .inr (.inr ⟨_, rfl⟩)
  all_goals first
    | (cases hh; done)
    | (cases hr; done)
    | exact .inr (.inr ⟨_, rfl⟩)
    | (simp only [evOp, evPick, evAlloc, evBox, evBuild, evBuildS, evNil, evBin, evUn, evMkI, evFAddr, evFld, evIdx, evExtr, evMakeS]
       (repeat' split) <;> first
        | exact .inl ⟨_, rfl, rfl⟩
        | exact .inr (.inl ⟨_, _, by simp, rfl, rfl⟩)
        | exact .inr (.inr ⟨_, rfl⟩))

/-- A soft operation that reads makes nothing. -/
theorem evOp_read (nid nid' : Nat) (o : Oper) (hh : hard o = false) (hr : reads T o = true) (h : Hp) :
    (∃ v, evOp std T nid fr h o = .val v h ∧ evOp std T nid' fr h o = .val v h) ∨ ∃ n, evOp std T nid fr h o = .bad n := by
  obtain ⟨dst, op, ty, pos, after, guard⟩ := o
  cases op
  case call c =>
    obtain ⟨f, as, ts⟩ := c
    cases f with
    | value f => cases hh
    | builtin b =>
      cases b <;> simp only [hard, reads] at hh hr <;> first
        | (cases hh; done)
        | (cases hr; done)
        | (simp only [evOp, evCallB]
           (repeat' split) <;> first
            | exact .inl ⟨_, rfl, rfl⟩
            | exact .inr ⟨_, rfl⟩
            | (simp_all; done))
    | invoke r m => cases hr
  case convert s t x =>
    simp only [reads] at hr
    simp only [evOp, evConv, tiOf]
    split
    · exact .inr ⟨_, rfl⟩
    · (repeat' split) <;> first
      | exact .inl ⟨_, rfl, rfl⟩
      | exact .inr ⟨_, rfl⟩
    · rename_i h1 h2
      generalize (T s).d = D at hr h2
      cases D <;> first | (cases hr; done) | exact absurd rfl (h2 _)
  case slice t x lo hi mx =>
    cases mx with
    | none =>
      simp only [evOp, evSlice]
      (repeat' split) <;> first
      | exact .inl ⟨_, rfl, rfl⟩
      | exact .inr ⟨_, rfl⟩
    | some u =>
      cases lo with
      | none => exact .inr ⟨_, rfl⟩
      | some l => cases hi with
        | none => exact .inr ⟨_, rfl⟩
        | some m =>
          simp only [evOp, evSlice3]
          (repeat' split) <;> first
          | exact .inl ⟨_, rfl, rfl⟩
          | exact .inr ⟨_, rfl⟩
  all_goals first
    | (cases hh; done)
    | (cases hr; done)
    | exact .inr ⟨_, rfl⟩
    | (simp only [evOp, evLoad, evIAddr, evLook]
       (repeat' split) <;> first
        | exact .inl ⟨_, rfl, rfl⟩
        | exact .inr ⟨_, rfl⟩)

/-- What an operation gives. -/
noncomputable def res1 (T : TypeId → TI) (call : CallT) (nid : Nat) (all : List Oper) (o : Oper) (fr : Fr) (h : Hp) : RR := match wantV all fr o.guard with
  | .yes => match evOp std T nid fr h o with
    | .val v h => .val v h
    | .non h => .val (.tup []) h
    | .call f xs h => call f xs h
    | .pan v h => .pan v h
    | .bad n => .bad n
  | .no => .val (.tup []) h
  | .bad => .bad 70
noncomputable def ofRR (fr : Fr) (dst : Option Nat) : RR → OR
  | .val v h => .nx (putD fr dst v) h
  | .pan v h => .pan v h
  | .bad n => .bad n
theorem one_eq (nid : Nat) (all : List Oper) (o : Oper) (fr : Fr) (h : Hp) : one T call nid all o fr h = ofRR fr o.dst (res1 T call nid all o fr h) := by
  unfold one res1
  cases wantV all fr o.guard with
  | yes =>
    simp only
    cases evOp std T nid fr h o with
    | call f xs h1 =>
      simp only [fin]
      cases call f xs h1 <;> rfl
    | _ => rfl
  | _ => rfl
theorem mem_tmps {l : List Operand} {t : Nat} (h : Operand.tmp t ∈ l) : t ∈ tmpsOf l := by
  induction l with
  | nil => simp at h
  | cons x r ih =>
    cases x with
    | tmp u =>
      simp only [tmpsOf, List.mem_cons] at h ⊢
      rcases h with h | h
      · left; cases h; rfl
      · right; exact ih h
    | _ => simp only [tmpsOf, List.mem_cons] at h ⊢; rcases h with h | h; · cases h
           · exact ih h
theorem res1_congr (nid : Nat) (all : List Oper) (o : Oper) (h : Hp) (hl : ∀ s ∈ looks all o, fr.get .undef s = fr'.get .undef s) : res1 T call nid all o fr h = res1 T call nid all o fr' h := by
  have hw : wantV all fr o.guard = wantV all fr' o.guard := by
    unfold looks at hl
    cases hg : o.guard with
    | none => rfl
    | some jw =>
      obtain ⟨j, w⟩ := jw
      rw [hg] at hl
      simp only [wantV] at hl ⊢
      cases hd : dstOf all j with
      | none => rfl
      | some d =>
        rw [hd] at hl
        simp only
        rw [hl d (by simp)]
  have he : evOp std T nid fr h o = evOp std T nid fr' h o := by
    refine evOp_congr nid o (fun x hx => ?_)
    cases x with
    | tmp t =>
      refine hl t ?_
      have := mem_tmps (l := o.op.operands.toList) (by simpa using hx)
      unfold looks
      split
      · exact this
      · split
        · exact List.mem_cons_of_mem _ this
        · exact this
    | _ => rfl
  unfold res1
  rw [hw, he]

/-- A soft operation that does not read. -/
theorem res1_soft (nid : Nat) (all : List Oper) (o : Oper) (hh : hard o = false) (hr : reads T o = false) (fr : Fr) (h h2 : Hp) :
    (∃ v, res1 T call nid all o fr h = .val v h ∧ res1 T call nid all o fr h2 = .val v h2) ∨
    (∃ x v h1, x ≠ Ob.free ∧ newOb h nid x = some h1 ∧ res1 T call nid all o fr h = .val v h1 ∧ ∀ h3, newOb h2 nid x = some h3 → res1 T call nid all o fr h2 = .val v h3) ∨
    ∃ n, res1 T call nid all o fr h = .bad n := by
  unfold res1
  cases wantV all fr o.guard with
  | no => exact .inl ⟨_, rfl, rfl⟩
  | bad => exact .inr (.inr ⟨_, rfl⟩)
  | yes =>
    simp only
    rcases evOp_soft (fr := fr) nid o hh hr h h2 with ⟨v, e1, e2⟩ | ⟨x, v, hx, e1, e2⟩ | ⟨n, e⟩
    · rw [e1, e2]; exact .inl ⟨_, rfl, rfl⟩
    · rw [e1, e2]
      unfold mkOb
      cases hn : newOb h nid x with
      | none => exact .inr (.inr ⟨_, rfl⟩)
      | some h1 => exact .inr (.inl ⟨x, v, h1, hx, hn, rfl, fun h3 h3e => by rw [h3e]⟩)
    · rw [e]; exact .inr (.inr ⟨_, rfl⟩)
/-- One that does. -/
theorem res1_read (nid nid' : Nat) (all : List Oper) (o : Oper) (hh : hard o = false) (hr : reads T o = true) (fr : Fr) (h : Hp) :
    (∃ v, res1 T call nid all o fr h = .val v h ∧ res1 T call nid' all o fr h = .val v h) ∨ ∃ n, res1 T call nid all o fr h = .bad n := by
  unfold res1
  cases wantV all fr o.guard with
  | no => exact .inl ⟨_, rfl, rfl⟩
  | bad => exact .inr ⟨_, rfl⟩
  | yes =>
    simp only
    rcases evOp_read (fr := fr) nid nid' o hh hr h with ⟨v, e1, e2⟩ | ⟨n, e⟩
    · rw [e1, e2]; exact .inl ⟨_, rfl, rfl⟩
    · rw [e]; exact .inr ⟨_, rfl⟩
/-- Alike heaps. -/
theorem res1_sim {M : Nat → Prop} (hc : CallSim call) {h h' : Hp} (s : Sim M h h') {nid : Nat} (hn : ¬ M nid) (all : List Oper) (o : Oper) (fr : Fr) :
    RRS M h' (res1 T call nid all o fr h) (res1 T call nid all o fr h') := by
  unfold res1
  cases wantV all fr o.guard with
  | no => exact ⟨h', rfl, s, Keeps.refl⟩
  | bad => trivial
  | yes =>
    simp only
    have hs := evOp_sim (T := T) (fr := fr) s hn o
    generalize evOp std T nid fr h o = r at hs ⊢
    generalize evOp std T nid fr h' o = r' at hs ⊢
    cases r with
    | val v h1 => obtain ⟨h2, rfl, e2, e3⟩ := hs; exact ⟨h2, rfl, e2, e3⟩
    | non h1 => obtain ⟨h2, rfl, e2, e3⟩ := hs; exact ⟨h2, rfl, e2, e3⟩
    | pan v h1 => obtain ⟨h2, rfl, e2, e3⟩ := hs; exact ⟨h2, rfl, e2, e3⟩
    | bad n => trivial
    | call f xs h1 =>
      obtain ⟨h2, rfl, e2, e3⟩ := hs
      have hcs := hc M f xs h1 h2 e2
      simp only
      generalize call f xs h1 = q at hcs ⊢
      generalize call f xs h2 = q' at hcs ⊢
      cases q with
      | val v h3 => obtain ⟨h4, rfl, f2, f3⟩ := hcs; exact ⟨h4, rfl, f2, e3.trans f3⟩
      | pan v h3 => obtain ⟨h4, rfl, f2, f3⟩ := hcs; exact ⟨h4, rfl, f2, e3.trans f3⟩
      | bad n => trivial

/-! What is ahead of what. -/
theorem hasB_eq (m i : Nat) : hasB m i = m.testBit i := by
  unfold hasB Nat.testBit
  show Nat.beq (1 &&& m >>> i) 1 = (1 &&& m >>> i != 0)
  have h : (1 &&& m >>> i) = m >>> i % 2 := by rw [Nat.and_comm, Nat.and_one_is_mod]
  rw [h]
  rcases Nat.mod_two_eq_zero_or_one (m >>> i) with e | e <;> rw [e] <;> rfl
theorem nthN_eq : ∀ (l : List Nat) (i : Nat), nthN l i = l.getD i 0
  | [], i => by cases i <;> rfl
  | v :: t, 0 => rfl
  | v :: t, i + 1 => by simpa [nthN] using nthN_eq t i
theorem orB_has (acc : List Nat) : ∀ (l : List Edge) (i : Nat), hasB (orB acc l) i = true → ∃ e ∈ l, Region.binds .any e = true ∧ (i = e.on ∨ hasB (nthN acc e.on) i = true)
  | [], i, h => by rw [hasB_eq] at h; simp [orB] at h
  | e :: r, i, h => by
    simp only [orB] at h
    split at h
    · rename_i hb
      rw [hasB_eq] at h
      simp only [show ∀ a b, Nat.lor a b = a ||| b from fun _ _ => rfl, show ∀ a b, Nat.pow a b = a ^ b from fun _ _ => rfl, Nat.testBit_or, Nat.testBit_two_pow, Bool.or_eq_true, decide_eq_true_eq] at h
      rcases h with (h | h) | h
      · exact ⟨e, by simp, hb, .inl h.symm⟩
      · exact ⟨e, by simp, hb, .inr (by rw [hasB_eq]; exact h)⟩
      · obtain ⟨e', h1, h2⟩ := orB_has acc r i (by rw [hasB_eq]; exact h)
        exact ⟨e', by simp [h1], h2⟩
    · obtain ⟨e', h1, h2⟩ := orB_has acc r i h
      exact ⟨e', by simp [h1], h2⟩
theorem snoc_eq (l : List Nat) (x : Nat) : snoc l x = l ++ [x] := by induction l <;> simp [snoc, *]
theorem befs_pre : ∀ (os : List Oper) (acc : List Nat), ∃ t, befs acc os = acc ++ t ∧ t.length = os.length
  | [], acc => ⟨[], by simp [befs], rfl⟩
  | o :: r, acc => by
    obtain ⟨t, e, h⟩ := befs_pre r (snoc acc (orB acc o.after.toList))
    exact ⟨orB acc o.after.toList :: t, by simp only [befs]; rw [e, snoc_eq]; simp, by simp [h]⟩
theorem befs_at : ∀ (os : List Oper) (acc : List Nat) (j : Nat) (o : Oper), os[j]? = some o → (∀ e ∈ o.after.toList, Region.binds .any e = true → e.on < acc.length + j) →
    ∀ i, hasB (nthN (befs acc os) (acc.length + j)) i = true → ∃ e ∈ o.after.toList, Region.binds .any e = true ∧ (i = e.on ∨ hasB (nthN (befs acc os) e.on) i = true)
  | [], acc, j, o, h, _, i, _ => by simp at h
  | x :: r, acc, 0, o, h, he, i, hi => by
    simp at h; subst h
    obtain ⟨t, e, ht⟩ := befs_pre r (snoc acc (orB acc x.after.toList))
    simp only [befs] at hi ⊢
    rw [e, snoc_eq] at hi ⊢
    rw [nthN_eq, Nat.add_zero] at hi
    have e2 : ((acc ++ [orB acc x.after.toList]) ++ t).getD acc.length 0 = orB acc x.after.toList := by
      rw [List.getD_eq_getElem?_getD, List.getElem?_append_left (by simp)]; simp
    rw [e2] at hi
    obtain ⟨e', h1, h2, h3⟩ := orB_has acc _ i hi
    refine ⟨e', h1, h2, h3.imp_right (fun h3 => ?_)⟩
    have hlt := he e' h1 h2
    have e3 : ((acc ++ [orB acc x.after.toList]) ++ t).getD e'.on 0 = acc.getD e'.on 0 := by
      rw [List.getD_eq_getElem?_getD, List.append_assoc, List.getElem?_append_left (by simpa using hlt), List.getD_eq_getElem?_getD]
    rw [nthN_eq, e3, ← nthN_eq]
    exact h3
  | x :: r, acc, j + 1, o, h, he, i, hi => by
    simp only [befs] at hi ⊢
    have hl : (snoc acc (orB acc x.after.toList)).length = acc.length + 1 := by simp [snoc_eq]
    have := befs_at r (snoc acc (orB acc x.after.toList)) j o (by simpa using h) (fun e h1 h2 => by have := he e h1 h2; omega) i
    rw [hl, show acc.length + 1 + j = acc.length + (j + 1) by omega] at this
    exact this hi
theorem edges_at : ∀ (os : List Oper) (k j : Nat) (o : Oper), edgesOk k os = true → os[j]? = some o → ∀ e ∈ o.after.toList, Region.binds .any e = true → e.on < k + j
  | [], k, j, o, _, h => by simp at h
  | x :: r, k, j, o, hk, h => by
    simp only [edgesOk] at hk
    split at hk
    · rename_i hx
      cases j with
      | zero =>
        simp at h; subst h
        have key : ∀ (l : List Edge), edgesOk.goE k l = true → ∀ e ∈ l, Region.binds .any e = true → e.on < k := by
          intro l
          induction l with
          | nil => intro _ e he; simp at he
          | cons y t ih =>
            intro hg e he hb
            simp only [edgesOk.goE] at hg
            split at hg
            · split at hg
              · rename_i hlt
                rcases List.mem_cons.1 he with rfl | he
                · exact Nat.le_of_ble_eq_true hlt
                · exact ih hg e he hb
              · cases hg
            · rename_i hn
              rcases List.mem_cons.1 he with rfl | he
              · rw [hn] at hb; cases hb
              · exact ih hg e he hb
        intro e he hb
        have := key _ hx e he hb
        omega
      | succ j =>
        intro e he hb
        have := edges_at r (k + 1) j o hk (by simpa using h) e he hb
        omega
    · cases hk
theorem takeO_at : ∀ (k i : Nat) (l : List Oper), i < k → (takeO k l)[i]? = l[i]?
  | 0, i, l, h => by omega
  | k + 1, i, [], h => by simp [takeO]
  | k + 1, 0, o :: r, h => by simp [takeO]
  | k + 1, i + 1, o :: r, h => by simpa [takeO] using takeO_at k i r (by omega)
theorem pair_at {all : List Oper} {m : Nat} {b : Oper} : ∀ (l : List Oper) (s i : Nat) (a : Oper), pairOk all m b s l = true → l[i]? = some a → clash all a b = true → hasB m (s + i) = true
  | [], s, i, a, _, h, _ => by simp at h
  | x :: r, s, i, a, hp, h, hc => by
    simp only [pairOk] at hp
    cases i with
    | zero =>
      simp at h; subst h
      rw [hc] at hp
      simp only at hp
      split at hp
      · rename_i hb; exact hb
      · cases hp
    | succ i =>
      have : pairOk all m b (s + 1) r = true := by
        split at hp
        · split at hp
          · exact hp
          · cases hp
        · exact hp
      have := pair_at r (s + 1) i a this (by simpa using h) hc
      rw [show s + 1 + i = s + (i + 1) by omega] at this
      exact this
theorem pairs_at {all : List Oper} {bs : List Nat} : ∀ (l : List Oper) (k j : Nat) (b : Oper), pairsOk all bs k l = true → l[j]? = some b → ∀ (i : Nat) (a : Oper), i < k + j → all[i]? = some a → clash all a b = true → hasB (nthN bs (k + j)) i = true
  | [], k, j, b, _, h => by simp at h
  | x :: r, k, j, b, hp, h => by
    simp only [pairsOk] at hp
    split at hp
    · rename_i hx
      cases j with
      | zero =>
        simp at h; subst h
        intro i a hi ha hc
        have := pair_at _ 0 i a hx (by rw [takeO_at k i all (by omega)]; exact ha) hc
        rw [Nat.zero_add] at this
        exact this
      | succ j =>
        have := pairs_at r (k + 1) j b hp (by simpa using h)
        intro i a hi ha hc
        have := this i a (by omega) ha hc
        rw [show k + 1 + j = k + (j + 1) by omega] at this
        exact this
    · cases hp
theorem later_at : ∀ (l : List Nat) (k j : Nat), laterOk k l = true → j < l.length → hasB (nthN l j) k = true
  | [], k, j, _, h => by simp at h
  | m :: r, k, j, hl, h => by
    simp only [laterOk] at hl
    split at hl
    · rename_i hm
      cases j with
      | zero => exact hm
      | succ j => exact later_at r k j hl (by simpa using h)
    · cases hl
theorem dropN'_eq : ∀ (n : Nat) (l : List Nat), dropN' n l = l.drop n
  | 0, l => by simp [dropN']
  | n + 1, [] => by simp [dropN']
  | n + 1, x :: t => by simpa [dropN'] using dropN'_eq n t
theorem lenO_eq (l : List Oper) : lenO l = l.length := by induction l <;> simp [lenO, *]
theorem memN_iff (x : Nat) (l : List Nat) : memN x l = true ↔ x ∈ l := by
  induction l with
  | nil => simp [memN]
  | cons y t ih =>
    simp only [memN, List.mem_cons]
    cases hb : Nat.beq x y with
    | true => simp [Nat.eq_of_beq_eq_true hb]
    | false =>
      have : x ≠ y := fun e => by rw [e, Nat.beq_refl] at hb; cases hb
      simp [ih, this]
theorem clash_dst {all : List Oper} {a b : Oper} {d : Nat} (h : a.dst = some d) (hl : d ∈ looks all b ∨ b.dst = some d) : clash all a b = true := by
  unfold clash
  rw [h]
  cases hm : memN d (looks all b) with
  | true => simp only [hm]
  | false =>
    rcases hl with hl | hl
    · rw [(memN_iff _ _).2 hl] at hm; cases hm
    · simp only [hm, hl, Nat.beq_refl]
theorem clash_dst' {all : List Oper} {a b : Oper} {d : Nat} (h : b.dst = some d) (hl : d ∈ looks all a) : clash all a b = true := by
  unfold clash
  split
  · rfl
  · rw [h]; simp only [(memN_iff _ _).2 hl]
theorem clash_hard {all : List Oper} {a b : Oper} (h : hard a = true) (h' : hard b = true) : clash all a b = true := by
  unfold clash
  split
  · rfl
  · split
    · rfl
    · rw [h, h']
end
end Go.AV
namespace Go.AV
open Go
section
variable (T : TypeId → TI) (call : CallT) (all : List Oper) (bs : List Nat) (base : Nat)

noncomputable def nxt (k : Nat) (s : Fr × Hp) : Fr × Hp := match all[k]? with
  | some o => match hard o with
    | true => match one T call (Nat.add base k) all o s.1 (mask base (nthN bs k) k 0 s.2) with
      | .nx fr h1 => (fr, unmask base (nthN bs k) s.2 k 0 h1)
      | _ => s
    | false => match one T call (Nat.add base k) all o s.1 s.2 with
      | .nx fr h1 => (fr, h1)
      | _ => s
  | none => s
noncomputable def SS (s0 : Fr × Hp) : Nat → Fr × Hp
  | 0 => s0
  | k + 1 => nxt T call all bs base k (SS s0 k)
variable (s0 : Fr × Hp)
noncomputable def PL : Nat → List Ph
  | 0 => []
  | m + 1 => match all[m]? with
    | some o => match hard o with
      | true => ⟨m, (SS T call all bs base s0 m).2⟩ :: PL m
      | false => PL m
    | none => PL m
noncomputable def RL : Nat → List Rd
  | 0 => []
  | m + 1 => match all[m]? with
    | some o => match hard o with
      | true => RL m
      | false => match reads T o with
        | true => match o.dst with
          | some d => ⟨m, o, (SS T call all bs base s0 m).1, (SS T call all bs base s0 (m + 1)).1.get .undef d⟩ :: RL m
          | none => RL m
        | false => RL m
    | none => RL m
/-- A step went well. -/
structure Good (k : Nat) : Prop where
  hd : ∀ o, all[k]? = some o → hard o = true → ∃ fr h1, one T call (Nat.add base k) all o (SS T call all bs base s0 k).1 (mask base (nthN bs k) k 0 (SS T call all bs base s0 k).2) = .nx fr h1 ∧
    SS T call all bs base s0 (k + 1) = (fr, unmask base (nthN bs k) (SS T call all bs base s0 k).2 k 0 h1)
  sf : ∀ o, all[k]? = some o → hard o = false → ∃ fr h1, one T call (Nat.add base k) all o (SS T call all bs base s0 k).1 (SS T call all bs base s0 k).2 = .nx fr h1 ∧ SS T call all bs base s0 (k + 1) = (fr, h1) ∧
    (reads T o = true → ∃ d, o.dst = some d)

def Spec (k : Nat) : DR → Prop
  | .nx fr h ps rs => (∀ j, k ≤ j → j < all.length → Good T call all bs base s0 j) ∧ fr = (SS T call all bs base s0 all.length).1 ∧ h = (SS T call all bs base s0 all.length).2 ∧
    ps = PL T call all bs base s0 all.length ∧ rs = RL T call all bs base s0 all.length
  | .pan k0 v h h1 ps rs => (∀ j, k ≤ j → j < k0 → Good T call all bs base s0 j) ∧ k ≤ k0 ∧ h = (SS T call all bs base s0 k0).2 ∧ ps = PL T call all bs base s0 k0 ∧ rs = RL T call all bs base s0 k0 ∧
    ∃ o, all[k0]? = some o ∧ hard o = true ∧ one T call (Nat.add base k0) all o (SS T call all bs base s0 k0).1 (mask base (nthN bs k0) k0 0 (SS T call all bs base s0 k0).2) = .pan v h1
  | .bad _ => True
theorem Spec.step {k : Nat} {r : DR} (hg : Good T call all bs base s0 k) (h : Spec T call all bs base s0 (k + 1) r) : Spec T call all bs base s0 k r := by
  cases r with
  | nx fr hp ps rs =>
    obtain ⟨h1, h2⟩ := h
    refine ⟨fun j hj hlt => ?_, h2⟩
    by_cases e : j = k
    · subst e; exact hg
    · exact h1 j (by omega) hlt
  | pan k0 v hp h1 ps rs =>
    obtain ⟨h1, h2, h3⟩ := h
    refine ⟨fun j hj hlt => ?_, by omega, h3⟩
    by_cases e : j = k
    · subst e; exact hg
    · exact h1 j (by omega) hlt
  | bad n => trivial

theorem dops_spec : ∀ (os : List Oper) (k : Nat), all.drop k = os →
    Spec T call all bs base s0 k (dops T call all bs base k os (SS T call all bs base s0 k).1 (SS T call all bs base s0 k).2 (PL T call all bs base s0 k) (RL T call all bs base s0 k))
  | [], k, hd => by
    have hk : all.length ≤ k := by
      have := congrArg List.length hd
      simp at this; omega
    have key : ∀ m, all.length + m = k → SS T call all bs base s0 k = SS T call all bs base s0 all.length ∧ PL T call all bs base s0 k = PL T call all bs base s0 all.length ∧ RL T call all bs base s0 k = RL T call all bs base s0 all.length := by
      intro m
      induction m generalizing k with
      | zero => intro e; rw [← e]; exact ⟨rfl, rfl, rfl⟩
      | succ m ih =>
        intro e
        subst e
        have hn : all[all.length + m]? = none := List.getElem?_eq_none (by omega)
        obtain ⟨e1, e2, e3⟩ := ih (all.length + m) (List.drop_eq_nil_of_le (by omega)) (by omega) rfl
        refine ⟨?_, ?_, ?_⟩
        · rw [← e1]; show nxt T call all bs base (all.length + m) (SS T call all bs base s0 (all.length + m)) = _; unfold nxt; simp only [hn]
        · rw [← e2]; show PL T call all bs base s0 ((all.length + m) + 1) = _; simp only [PL, hn]
        · rw [← e3]; show RL T call all bs base s0 ((all.length + m) + 1) = _; simp only [RL, hn]
    obtain ⟨e1, e2, e3⟩ := key (k - all.length) (by omega)
    simp only [dops]
    exact ⟨fun j hj hlt => by omega, by rw [e1], by rw [e1], e2, e3⟩
  | o :: os, k, hd => by
    have hk : all[k]? = some o := by
      have := congrArg (fun l => l[0]?) hd
      simpa [List.getElem?_drop] using this
    have hd' : all.drop (k + 1) = os := by
      have := congrArg (List.drop 1) hd
      rw [List.drop_drop] at this
      simpa [Nat.add_comm] using this
    have hlt : k < all.length := (List.getElem?_eq_some_iff.1 hk).1
    simp only [dops]
    have ih := dops_spec os (k + 1) hd'
    have hS : SS T call all bs base s0 (k + 1) = nxt T call all bs base k (SS T call all bs base s0 k) := rfl
    have hP : PL T call all bs base s0 (k + 1) = match all[k]? with | some o => (match hard o with | true => ⟨k, (SS T call all bs base s0 k).2⟩ :: PL T call all bs base s0 k | false => PL T call all bs base s0 k) | none => PL T call all bs base s0 k := rfl
    have hR : RL T call all bs base s0 (k + 1) = match all[k]? with
      | some o => (match hard o with
        | true => RL T call all bs base s0 k
        | false => match reads T o with
          | true => match o.dst with
            | some d => ⟨k, o, (SS T call all bs base s0 k).1, (SS T call all bs base s0 (k + 1)).1.get .undef d⟩ :: RL T call all bs base s0 k
            | none => RL T call all bs base s0 k
          | false => RL T call all bs base s0 k)
      | none => RL T call all bs base s0 k := rfl
    unfold nxt at hS
    simp only [hk] at hS hP hR
    cases hh : hard o with
    | true =>
      simp only [hh] at hS hP hR ⊢
      cases hr : one T call (Nat.add base k) all o (SS T call all bs base s0 k).1 (mask base (nthN bs k) k 0 (SS T call all bs base s0 k).2) with
      | nx fr1 h1 =>
        simp only [hr] at hS ⊢
        refine Spec.step T call all bs base s0 ⟨fun o' ho' _ => ?_, fun o' ho' hf => ?_⟩ ?_
        · rw [hk] at ho'; cases ho'; exact ⟨fr1, h1, hr, hS⟩
        · rw [hk] at ho'; cases ho'; rw [hh] at hf; cases hf
        · rw [hS, hP, hR] at ih
          exact ih
      | pan v h1 => exact ⟨fun j hj hlt => by omega, Nat.le_refl _, rfl, rfl, rfl, o, hk, hh, hr⟩
      | bad n => trivial
    | false =>
      simp only [hh] at hS hP hR ⊢
      cases hr : one T call (Nat.add base k) all o (SS T call all bs base s0 k).1 (SS T call all bs base s0 k).2 with
      | nx fr1 h1 =>
        simp only [hr] at hS ⊢
        have hg : (reads T o = true → ∃ d, o.dst = some d) → Good T call all bs base s0 k := fun hd => by
          refine ⟨fun o' ho' hf => ?_, fun o' ho' _ => ?_⟩
          · rw [hk] at ho'; cases ho'; rw [hh] at hf; cases hf
          · rw [hk] at ho'; cases ho'; exact ⟨fr1, h1, hr, hS, hd⟩
        cases hrd : reads T o with
        | true =>
          simp only [hrd] at hR ⊢
          cases hdst : o.dst with
          | none => trivial
          | some d =>
            simp only [hdst] at hR ⊢
            refine Spec.step T call all bs base s0 (hg (fun _ => ⟨d, hdst⟩)) ?_
            rw [hR, hS, hP] at ih
            exact ih
        | false =>
          simp only [hrd] at hR ⊢
          refine Spec.step T call all bs base s0 (hg (fun e => by rw [hrd] at e; cases e)) ?_
          rw [hS, hP, hR] at ih
          exact ih
      | pan v h1 => trivial
      | bad n => trivial

/-- A read that was found is looked at again. -/
theorem RL_mem : ∀ (m k : Nat) (o : Oper) (d : Nat), k < m → all[k]? = some o → hard o = false → reads T o = true → o.dst = some d →
    (⟨k, o, (SS T call all bs base s0 k).1, (SS T call all bs base s0 (k + 1)).1.get .undef d⟩ : Rd) ∈ RL T call all bs base s0 m
  | 0, k, o, d, h, _, _, _, _ => by omega
  | m + 1, k, o, d, h, hk, hh, hr, hd => by
    by_cases e : k = m
    · subst e
      simp only [RL, hk, hh, hr, hd]
      exact List.mem_cons_self ..
    · have ih := RL_mem m k o d (by omega) hk hh hr hd
      simp only [RL]
      split
      · split
        · exact ih
        · split
          · split
            · exact List.mem_cons_of_mem _ ih
            · exact ih
          · exact ih
      · exact ih
theorem allAgain_mem {h : Hp} {ps : List Ph} : ∀ {rs : List Rd}, allAgain T call all bs base h ps rs = true → ∀ r ∈ rs, phases T call all bs base r h ps = true
  | [], _, r, hr => by simp at hr
  | x :: rs, ha, r, hr => by
    simp only [allAgain] at ha
    split at ha
    · rename_i hp
      rcases List.mem_cons.1 hr with rfl | hr
      · exact hp
      · exact allAgain_mem ha r hr
    · cases ha
def HardAt (p : Nat) : Prop := ∃ o, all[p]? = some o ∧ hard o = true
theorem PL_head : ∀ (m : Nat) {p : Ph} {ps : List Ph}, PL T call all bs base s0 m = p :: ps → HardAt all p.k ∧ p.k < m ∧ p.h = (SS T call all bs base s0 p.k).2 ∧ ps = PL T call all bs base s0 p.k
  | 0, p, ps, h => by simp [PL] at h
  | m + 1, p, ps, h => by
    simp only [PL] at h
    split at h
    · rename_i o ho
      split at h
      · rename_i hh
        cases h
        exact ⟨⟨o, ho, hh⟩, by simp, rfl, rfl⟩
      · obtain ⟨h1, h2, h3⟩ := PL_head m h; exact ⟨h1, by omega, h3⟩
    · obtain ⟨h1, h2, h3⟩ := PL_head m h; exact ⟨h1, by omega, h3⟩
theorem PL_hard {m : Nat} (h : HardAt all m) : PL T call all bs base s0 (m + 1) = ⟨m, (SS T call all bs base s0 m).2⟩ :: PL T call all bs base s0 m := by
  obtain ⟨o, ho, hh⟩ := h
  simp only [PL, ho, hh]
theorem PL_soft {m : Nat} (h : ¬ HardAt all m) : PL T call all bs base s0 (m + 1) = PL T call all bs base s0 m := by
  simp only [PL]
  split
  · rename_i o ho
    split
    · rename_i hh; exact absurd ⟨o, ho, hh⟩ h
    · rfl
  · rfl
/-- In the last phase. -/
theorem phases_last {r : Rd} {m : Nat} {h : Hp} (hp : phases T call all bs base r h (PL T call all bs base s0 m) = true) (hn : ∀ p, HardAt all p → p < m → hasB (nthN bs p) r.k = false) :
    again T call all bs base r h = true := by
  cases hl : PL T call all bs base s0 m with
  | nil => rw [hl] at hp; exact hp
  | cons p ps =>
    obtain ⟨h1, h2, h3, h4⟩ := PL_head T call all bs base s0 m hl
    rw [hl] at hp
    simp only [phases, hn p.k h1 h2] at hp
    split at hp
    · rename_i ha; exact ha
    · cases hp
/-- In an earlier phase. -/
theorem phases_back {r : Rd} {q : Nat} (hq : HardAt all q) : ∀ (m : Nat) (h : Hp), q < m → phases T call all bs base r h (PL T call all bs base s0 m) = true →
    (∀ p, HardAt all p → q ≤ p → p < m → hasB (nthN bs r.k) p = false) → phases T call all bs base r (SS T call all bs base s0 q).2 (PL T call all bs base s0 q) = true
  | 0, h, hlt, _, _ => by omega
  | m + 1, h, hlt, hp, hn => by
    by_cases hm : HardAt all m
    · rw [PL_hard T call all bs base s0 hm] at hp
      have hp' : phases T call all bs base r (SS T call all bs base s0 m).2 (PL T call all bs base s0 m) = true := by
        simp only [phases, hn m hm (by omega) (by omega)] at hp
        split at hp
        · exact hp
        · split at hp
          · exact hp
          · cases hp
      by_cases e : m = q
      · subst e; exact hp'
      · exact phases_back hq m _ (by omega) hp' (fun p h1 h2 h3 => hn p h1 h2 (by omega))
    · rw [PL_soft T call all bs base s0 hm] at hp
      have e : m ≠ q := fun e => hm (e ▸ hq)
      exact phases_back hq m _ (by omega) hp (fun p h1 h2 h3 => hn p h1 h2 (by omega))
end
end Go.AV
namespace Go.AV
open Go
theorem putD_get (fr : Fr) (dst : Option Nat) (v : V) (s : Nat) : (putD fr dst v).get .undef s = if dst = some s then v else fr.get .undef s := by
  cases dst with
  | none => simp [putD]
  | some d =>
    simp only [putD, Tree.get_set, Option.some.injEq]
    by_cases e : s = d
    · rw [if_pos e, if_pos e.symm]
    · rw [if_neg e, if_neg (fun h => e h.symm)]
theorem ob_new_ne {h h1 : Hp} {n : Nat} {x : Ob} (hh : newOb h n x = some h1) {o : Nat} (ho : o ≠ n) : ob h1 o = ob h o := by rw [(ob_newOb hh).2, if_neg ho]
theorem new_ex {h : Hp} {n : Nat} (x : Ob) (hf : ob h n = .free) : ∃ h1, newOb h n x = some h1 := by
  cases h with
  | mk m t =>
    have : t.get .free n = .free := hf
    simp only [newOb, this]
    exact ⟨_, rfl⟩

/-- What is known of the text's own run. -/
structure Env (T : TypeId → TI) (call : CallT) (all : List Oper) (bs : List Nat) (base : Nat) (s0 : Fr × Hp) (n' : Nat) : Prop where
  stat : statOk all = true
  hbs : bs = befs [] all
  le : n' ≤ all.length
  good : ∀ j, j < n' → Good T call all bs base s0 j
  free0 : ∀ j, j ≤ all.length → ob s0.2 (base + j) = .free
  next0 : base + all.length < s0.2.next
  sim : CallSim call
  again : ∀ i o d, i < n' → all[i]? = some o → hard o = false → reads T o = true → o.dst = some d →
    phases T call all bs base ⟨i, o, (SS T call all bs base s0 i).1, (SS T call all bs base s0 (i + 1)).1.get .undef d⟩ (SS T call all bs base s0 n').2 (PL T call all bs base s0 n') = true

section
variable {T : TypeId → TI} {call : CallT} {all : List Oper} {bs : List Nat} {base : Nat} {s0 : Fr × Hp} {n' : Nat}
def bef (bs : List Nat) (j i : Nat) : Prop := hasB (nthN bs j) i = true

theorem Env.edge (E : Env T call all bs base s0 n') {j : Nat} {o : Oper} (h : all[j]? = some o) : ∀ e ∈ o.after.toList, Region.binds .any e = true → e.on < j := by
  have := E.stat
  unfold statOk at this
  split at this
  · rename_i he
    intro e h1 h2
    have := edges_at all 0 j o he h e h1 h2
    omega
  · cases this
theorem Env.clash (E : Env T call all bs base s0 n') {i j : Nat} {a b : Oper} (hi : all[i]? = some a) (hj : all[j]? = some b) (hlt : i < j) (hc : clash all a b = true) : bef bs j i := by
  have := E.stat
  unfold statOk at this
  split at this
  · have := pairs_at all 0 j b this hj i a (by omega) hi hc
    rw [Nat.zero_add] at this
    unfold bef; rw [E.hbs]; exact this
  · cases this
theorem Env.bef_at (E : Env T call all bs base s0 n') {j i : Nat} {o : Oper} (h : all[j]? = some o) (hb : bef bs j i) : ∃ e ∈ o.after.toList, Region.binds .any e = true ∧ (i = e.on ∨ bef bs e.on i) := by
  have := befs_at all [] j o h (fun e h1 h2 => by have := E.edge h e h1 h2; simpa using this) i
  unfold bef at hb ⊢
  rw [E.hbs] at hb ⊢
  simpa using this (by simpa using hb)
theorem Env.bef_lt (E : Env T call all bs base s0 n') : ∀ {j i : Nat}, j < all.length → bef bs j i → i < j := by
  intro j
  induction j using Nat.strongRecOn with
  | _ j ih =>
    intro i hj hb
    have hj' : all[j]? = some all[j] := List.getElem?_eq_getElem hj
    obtain ⟨e, h1, h2, h3⟩ := E.bef_at hj' hb
    have := E.edge hj' e h1 h2
    rcases h3 with h3 | h3
    · omega
    · have := ih e.on this (by omega) h3; omega

theorem one_val {nid : Nat} {o : Oper} {fr : Fr} {h : Hp} {fr' : Fr} {h' : Hp} (hh : one T call nid all o fr h = .nx fr' h') : ∃ v, res1 T call nid all o fr h = .val v h' ∧ fr' = putD fr o.dst v := by
  rw [one_eq] at hh
  generalize res1 T call nid all o fr h = r at hh
  cases r with
  | val v h1 => cases hh; exact ⟨v, rfl, rfl⟩
  | pan v h1 => cases hh
  | bad n => cases hh
theorem one_pan {nid : Nat} {o : Oper} {fr : Fr} {h : Hp} {v : V} {h' : Hp} (hh : one T call nid all o fr h = .pan v h') : res1 T call nid all o fr h = .pan v h' := by
  rw [one_eq] at hh
  generalize res1 T call nid all o fr h = r at hh
  cases r with
  | val v h1 => cases hh
  | pan v h1 => cases hh; rfl
  | bad n => cases hh

/-- A soft step. -/
theorem Env.soft (E : Env T call all bs base s0 n') {k : Nat} {o : Oper} (hk : k < n') (ho : all[k]? = some o) (hs : hard o = false) :
    ∃ v, res1 T call (base + k) all o (SS T call all bs base s0 k).1 (SS T call all bs base s0 k).2 = .val v (SS T call all bs base s0 (k + 1)).2 ∧ (SS T call all bs base s0 (k + 1)).1 = putD (SS T call all bs base s0 k).1 o.dst v ∧
      (∀ q, q ≠ base + k → ob (SS T call all bs base s0 (k + 1)).2 q = ob (SS T call all bs base s0 k).2 q) ∧ (base + k < (SS T call all bs base s0 k).2.next → (SS T call all bs base s0 (k + 1)).2.next = (SS T call all bs base s0 k).2.next) ∧ (reads T o = true → (SS T call all bs base s0 (k + 1)).2 = (SS T call all bs base s0 k).2 ∧ ∃ d, o.dst = some d) := by
  obtain ⟨fr, h1, e1, e2, e3⟩ := (E.good k hk).sf o ho hs
  obtain ⟨v, r1, r2⟩ := one_val e1
  rw [e2]
  simp only
  refine ⟨v, r1, r2, ?_⟩
  change res1 T call (base + k) all o (SS T call all bs base s0 k).1 (SS T call all bs base s0 k).2 = .val v h1 at r1
  cases hr : reads T o with
  | true =>
    rcases res1_read (call := call) (base + k) (base + k) all o hs hr (SS T call all bs base s0 k).1 (SS T call all bs base s0 k).2 with ⟨u, f1, _⟩ | ⟨n, f1⟩
    · rw [f1] at r1; cases r1; exact ⟨fun q _ => rfl, fun _ => rfl, fun _ => ⟨rfl, e3 hr⟩⟩
    · rw [f1] at r1; cases r1
  | false =>
    rcases res1_soft (call := call) (base + k) all o hs hr (SS T call all bs base s0 k).1 (SS T call all bs base s0 k).2 (SS T call all bs base s0 k).2 with ⟨u, f1, _⟩ | ⟨x, u, h2, hx, hn, f1, _⟩ | ⟨n, f1⟩
    · rw [f1] at r1; cases r1; exact ⟨fun q _ => rfl, fun _ => rfl, fun e => by cases e⟩
    · rw [f1] at r1; cases r1
      exact ⟨fun q hq => ob_new_ne hn hq, fun hlt => by rw [newOb_next hn, if_neg (by omega)], fun e => by cases e⟩
    · rw [f1] at r1; cases r1
/-- A hard step. -/
theorem Env.hardS (E : Env T call all bs base s0 n') {k : Nat} {o : Oper} (hk : k < n') (ho : all[k]? = some o) (hs : hard o = true) :
    ∃ v h1, res1 T call (base + k) all o (SS T call all bs base s0 k).1 (mask base (nthN bs k) k 0 (SS T call all bs base s0 k).2) = .val v h1 ∧ (SS T call all bs base s0 (k + 1)).1 = putD (SS T call all bs base s0 k).1 o.dst v ∧ (SS T call all bs base s0 (k + 1)).2 = unmask base (nthN bs k) (SS T call all bs base s0 k).2 k 0 h1 := by
  obtain ⟨fr, h1, e1, e2⟩ := (E.good k hk).hd o ho hs
  obtain ⟨v, r1, r2⟩ := one_val e1
  rw [e2]
  exact ⟨v, h1, r1, r2, rfl⟩

open Classical in
theorem mask_k (base : Nat) (m k : Nat) (h : Hp) (o : Nat) : ob (mask base m k 0 h) o = if (∃ j, j < k ∧ o = base + j ∧ hasB m j = false) ∧ ob h o ≠ .free then .dead else ob h o := by
  rw [mask_ob]
  congr 1
  apply propext
  constructor
  · rintro ⟨⟨j, _, h2, h3⟩, h4⟩; exact ⟨⟨j, by omega, h3⟩, h4⟩
  · rintro ⟨⟨j, h2, h3⟩, h4⟩; exact ⟨⟨j, by omega, by omega, h3⟩, h4⟩
open Classical in
theorem unmask_k (base : Nat) (m k : Nat) (h0 h : Hp) (o : Nat) : ob (unmask base m h0 k 0 h) o = if (∃ j, j < k ∧ o = base + j ∧ hasB m j = false) ∧ ob h0 o ≠ .free then ob h0 o else ob h o := by
  rw [unmask_ob]
  congr 1
  apply propext
  constructor
  · rintro ⟨⟨j, _, h2, h3⟩, h4⟩; exact ⟨⟨j, by omega, h3⟩, h4⟩
  · rintro ⟨⟨j, h2, h3⟩, h4⟩; exact ⟨⟨j, by omega, by omega, h3⟩, h4⟩

/-- What is not yet made is free; the region's numbers are below. -/
theorem Env.trace (E : Env T call all bs base s0 n') : ∀ m, m ≤ n' → base + all.length < (SS T call all bs base s0 m).2.next ∧ ∀ j, m ≤ j → j ≤ all.length → ob (SS T call all bs base s0 m).2 (base + j) = .free
  | 0, _ => ⟨E.next0, fun j _ hj => E.free0 j hj⟩
  | m + 1, hm => by
    obtain ⟨h1, h2⟩ := E.trace m (by omega)
    have hlen := E.le
    have hm' : all[m]? = some (all[m]'(by omega)) := List.getElem?_eq_getElem (by omega)
    cases hh : hard (all[m]'(by omega)) with
    | false =>
      obtain ⟨v, _, _, e3, e4, _⟩ := E.soft (by omega) hm' hh
      refine ⟨by rw [e4 (by omega)]; exact h1, fun j hj hle => ?_⟩
      rw [e3 _ (by omega)]; exact h2 j (by omega) hle
    | true =>
      obtain ⟨v, g, e1, _, e3⟩ := E.hardS (by omega) hm' hh
      have hmk : ∀ j, m < j → j ≤ all.length → ob (mask base (nthN bs m) m 0 (SS T call all bs base s0 m).2) (base + j) = .free := by
        intro j hj hle
        rw [mask_k, if_neg]
        · exact h2 j (by omega) hle
        · rintro ⟨⟨i, hi, e, _⟩, _⟩; omega
      have s : Sim (fun o => ∃ j, m < j ∧ j ≤ all.length ∧ o = base + j) (mask base (nthN bs m) m 0 (SS T call all bs base s0 m).2) (mask base (nthN bs m) m 0 (SS T call all bs base s0 m).2) :=
        ⟨rfl, fun _ _ => rfl, fun o ⟨j, a, b, c⟩ => ⟨.inr (by rw [c]; exact hmk j a b), by rw [mask_next]; omega⟩⟩
      have := res1_sim (T := T) E.sim s (nid := base + m) (by rintro ⟨j, a, b, c⟩; omega) all (all[m]'(by omega)) (SS T call all bs base s0 m).1
      rw [e1] at this
      obtain ⟨g', eg, s', k'⟩ := this
      cases eg
      rw [e3]
      refine ⟨?_, fun j hj hle => ?_⟩
      · rw [unmask_next]
        exact (s'.none (base + all.length) ⟨all.length, by omega, Nat.le_refl _, rfl⟩).2
      · rw [unmask_k, if_neg]
        · rw [k' _ ⟨j, by omega, hle, rfl⟩]; exact hmk j (by omega) hle
        · rintro ⟨⟨i, hi, e, _⟩, _⟩; omega

/-- A region's object that is not ahead of a hard one stays. -/
theorem Env.keepReg (E : Env T call all bs base s0 n') {i p : Nat} (hp : p < n') (hip : i < p) (hb : HardAt all p → ¬ bef bs p i) : ob (SS T call all bs base s0 (p + 1)).2 (base + i) = ob (SS T call all bs base s0 p).2 (base + i) := by
  have hlen := E.le
  have hp' : all[p]? = some (all[p]'(by omega)) := List.getElem?_eq_getElem (by omega)
  cases hh : hard (all[p]'(by omega)) with
  | false =>
    obtain ⟨v, _, _, e3, _⟩ := E.soft hp hp' hh
    exact e3 _ (by omega)
  | true =>
    have hb := hb ⟨_, hp', hh⟩
    obtain ⟨v, g, e1, _, e3⟩ := E.hardS hp hp' hh
    have hbf : hasB (nthN bs p) i = false := by
      cases h : hasB (nthN bs p) i with
      | false => rfl
      | true => exact absurd h hb
    rw [e3, unmask_k]
    by_cases hf : ob (SS T call all bs base s0 p).2 (base + i) = .free
    · rw [if_neg (fun h => h.2 hf)]
      have hfm : ob (mask base (nthN bs p) p 0 (SS T call all bs base s0 p).2) (base + i) = .free := by rw [mask_k, if_neg (fun h => h.2 hf)]; exact hf
      have s : Sim (fun o => o = base + i) (mask base (nthN bs p) p 0 (SS T call all bs base s0 p).2) (mask base (nthN bs p) p 0 (SS T call all bs base s0 p).2) :=
        ⟨rfl, fun _ _ => rfl, fun o e => ⟨.inr (by rw [e]; exact hfm), by rw [mask_next]; have := (E.trace p (by omega)).1; omega⟩⟩
      have := res1_sim (T := T) E.sim s (nid := base + p) (by omega) all (all[p]'(by omega)) (SS T call all bs base s0 p).1
      rw [e1] at this
      obtain ⟨g', eg, s', k'⟩ := this
      cases eg
      rw [k' _ rfl, hfm, hf]
    · rw [if_pos ⟨⟨i, hip, rfl, hbf⟩, hf⟩]
theorem Env.keepSeg (E : Env T call all bs base s0 n') {i : Nat} : ∀ q, i < q → q ≤ n' → (∀ p, HardAt all p → i < p → p < q → ¬ bef bs p i) → ob (SS T call all bs base s0 q).2 (base + i) = ob (SS T call all bs base s0 (i + 1)).2 (base + i)
  | 0, h, _, _ => by omega
  | q + 1, h, hq, hb => by
    by_cases e : i = q
    · subst e; rfl
    · rw [E.keepReg (by omega) (by omega) (fun hh => hb q hh (by omega) (by omega))]
      exact E.keepSeg q (by omega) (by omega) (fun p h1 h2 h3 => hb p h1 h2 (by omega))
/-- Where no hard one is: only the new objects. -/
theorem Env.softSeg (E : Env T call all bs base s0 n') {a : Nat} : ∀ b, a ≤ b → b ≤ n' → (∀ p, a ≤ p → p < b → ¬ HardAt all p) → (SS T call all bs base s0 b).2.next = (SS T call all bs base s0 a).2.next ∧ ∀ o, (∀ j, a ≤ j → j < b → o ≠ base + j) → ob (SS T call all bs base s0 b).2 o = ob (SS T call all bs base s0 a).2 o
  | 0, h, _, _ => by have : a = 0 := by omega
                     subst this; exact ⟨rfl, fun _ _ => rfl⟩
  | b + 1, h, hb, hn => by
    by_cases e : a = b + 1
    · subst e; exact ⟨rfl, fun _ _ => rfl⟩
    · have hlen := E.le
      obtain ⟨i1, i2⟩ := E.softSeg b (by omega) (by omega) (fun p h1 h2 => hn p h1 (by omega))
      have hp' : all[b]? = some (all[b]'(by omega)) := List.getElem?_eq_getElem (by omega)
      have hh : hard (all[b]'(by omega)) = false := by
        cases hx : hard (all[b]'(by omega)) with
        | false => rfl
        | true => exact absurd ⟨_, hp', hx⟩ (hn b (by omega) (by omega))
      obtain ⟨v, _, _, e3, e4, _⟩ := E.soft (by omega) hp' hh
      refine ⟨by rw [e4 (by have := (E.trace b (by omega)).1; omega), i1], fun o ho => ?_⟩
      rw [e3 o (ho b (by omega) (by omega))]
      exact i2 o (fun j h1 h2 => ho j h1 (by omega))
theorem nextHard (all : List Oper) (n' : Nat) : ∀ (d k : Nat), k + d = n' → ∃ q, k ≤ q ∧ q ≤ n' ∧ (q = n' ∨ HardAt all q) ∧ ∀ p, k ≤ p → p < q → ¬ HardAt all p
  | 0, k, h => ⟨k, Nat.le_refl _, by omega, .inl (by omega), fun p h1 h2 => by omega⟩
  | d + 1, k, h => by
    by_cases hk : HardAt all k
    · exact ⟨k, Nat.le_refl _, by omega, .inr hk, fun p h1 h2 => by omega⟩
    · obtain ⟨q, h1, h2, h3, h4⟩ := nextHard all n' d (k + 1) (by omega)
      refine ⟨q, by omega, h2, h3, fun p hp1 hp2 => ?_⟩
      by_cases e : p = k
      · subst e; exact hk
      · exact h4 p (by omega) hp2

/-- Who wrote a slot last. -/
def WL (T : TypeId → TI) (call : CallT) (all : List Oper) (bs : List Nat) (base : Nat) (s0 : Fr × Hp) (X : Nat → Prop) (s : Nat) (v : V) : Prop :=
  ((∀ k o, X k → all[k]? = some o → o.dst ≠ some s) ∧ v = s0.1.get .undef s) ∨
  ∃ k o, X k ∧ all[k]? = some o ∧ o.dst = some s ∧ v = (SS T call all bs base s0 (k + 1)).1.get .undef s ∧ ∀ k' o', X k' → all[k']? = some o' → o'.dst = some s → k' ≤ k
theorem WL.uniq {X X' : Nat → Prop} {s : Nat} {v v' : V} (h : WL T call all bs base s0 X s v) (h' : WL T call all bs base s0 X' s v') (hx : ∀ k o, all[k]? = some o → o.dst = some s → (X k ↔ X' k)) : v = v' := by
  rcases h with ⟨a1, a2⟩ | ⟨k, o, a1, a2, a3, a4, a5⟩ <;> rcases h' with ⟨b1, b2⟩ | ⟨k', o', b1, b2, b3, b4, b5⟩
  · rw [a2, b2]
  · exact absurd b3 (a1 k' o' ((hx k' o' b2 b3).2 b1) b2)
  · exact absurd a3 (b1 k o ((hx k o a2 a3).1 a1) a2)
  · have h1 := a5 k' o' ((hx k' o' b2 b3).2 b1) b2 b3
    have h2 := b5 k o ((hx k o a2 a3).1 a1) a2 a3
    have : k = k' := by omega
    subst this
    rw [a4, b4]
/-- One more. -/
theorem WL.more {X : Nat → Prop} {s i : Nat} {o : Oper} {u v : V} {fr : Fr} (h : WL T call all bs base s0 X s (fr.get .undef s)) (hi : all[i]? = some o) (hX : ¬ X i)
    (hv : ∀ d, o.dst = some d → (SS T call all bs base s0 (i + 1)).1.get .undef d = v) (hm : o.dst = some s → ∀ k o', X k → all[k]? = some o' → o'.dst = some s → k ≤ i) :
    WL T call all bs base s0 (fun k => X k ∨ k = i) s ((putD fr o.dst v).get .undef s) := by
  rw [putD_get]
  by_cases hd : o.dst = some s
  · rw [if_pos hd]
    refine .inr ⟨i, o, .inr rfl, hi, hd, (hv s hd).symm, fun k' o' hk ho' hd' => ?_⟩
    rcases hk with hk | hk
    · exact hm hd k' o' hk ho' hd'
    · omega
  · rw [if_neg hd]
    rcases h with ⟨a1, a2⟩ | ⟨k, p, a1, a2, a3, a4, a5⟩
    · refine .inl ⟨fun k p hk hp => ?_, a2⟩
      rcases hk with hk | hk
      · exact a1 k p hk hp
      · subst hk; rw [hi] at hp; cases hp; exact hd
    · refine .inr ⟨k, p, .inl a1, a2, a3, a4, fun k' o' hk ho' hd' => ?_⟩
      rcases hk with hk | hk
      · exact a5 k' o' hk ho' hd'
      · subst hk; rw [hi] at ho'; cases ho'; exact absurd hd' hd
theorem WL.congr {X X' : Nat → Prop} {s : Nat} {v : V} (h : WL T call all bs base s0 X s v) (hx : ∀ k, X k ↔ X' k) : WL T call all bs base s0 X' s v := by
  have : X = X' := funext fun k => propext (hx k)
  rw [← this]; exact h
theorem Env.val (E : Env T call all bs base s0 n') {k : Nat} {o : Oper} (hk : k < n') (ho : all[k]? = some o) : ∃ v, (SS T call all bs base s0 (k + 1)).1 = putD (SS T call all bs base s0 k).1 o.dst v ∧ ∀ d, o.dst = some d → (SS T call all bs base s0 (k + 1)).1.get .undef d = v := by
  have : ∃ v, (SS T call all bs base s0 (k + 1)).1 = putD (SS T call all bs base s0 k).1 o.dst v := by
    cases hh : hard o with
    | false => obtain ⟨v, _, e, _⟩ := E.soft hk ho hh; exact ⟨v, e⟩
    | true => obtain ⟨v, _, _, e, _⟩ := E.hardS hk ho hh; exact ⟨v, e⟩
  obtain ⟨v, e⟩ := this
  exact ⟨v, e, fun d hd => by rw [e, putD_get, if_pos hd]⟩
/-- The frames of the text's run. -/
theorem Env.frame (E : Env T call all bs base s0 n') (s : Nat) : ∀ m, m ≤ n' → WL T call all bs base s0 (fun k => k < m) s ((SS T call all bs base s0 m).1.get .undef s)
  | 0, _ => .inl ⟨fun k o hk => by omega, rfl⟩
  | m + 1, hm => by
    have hlen := E.le
    have hm' : all[m]? = some (all[m]'(by omega)) := List.getElem?_eq_getElem (by omega)
    obtain ⟨v, e1, e2⟩ := E.val (by omega) hm'
    rw [e1]
    refine ((E.frame s m (by omega)).more (u := v) hm' (by omega) e2 (fun _ k o' hk _ _ => by omega)).congr (fun k => ?_)
    omega
end
end Go.AV
namespace Go.AV
open Go
section
variable {T : TypeId → TI} {call : CallT} {all : List Oper} {bs : List Nat} {base : Nat} {s0 : Fr × Hp} {n' : Nat}

/-- The heap when just X is done. -/
structure HI (T : TypeId → TI) (call : CallT) (all : List Oper) (bs : List Nat) (base : Nat) (s0 : Fr × Hp) (n' : Nat) (X : Nat → Prop) (hX : Hp) (q : Nat) : Prop where
  qle : q ≤ n'
  qh : q = n' ∨ HardAt all q
  xp : ∀ p, HardAt all p → p < n' → (X p ↔ p < q)
  next : hX.next = (SS T call all bs base s0 q).2.next
  out : ∀ o, (∀ j, j < all.length → o ≠ base + j) → ob hX o = ob (SS T call all bs base s0 q).2 o
  r1 : ∀ j, X j → j < q → ob hX (base + j) = ob (SS T call all bs base s0 q).2 (base + j)
  r2 : ∀ j, X j → q ≤ j → ob hX (base + j) = ob (SS T call all bs base s0 (j + 1)).2 (base + j)
  r3 : ∀ j, j < all.length → ¬ X j → ob hX (base + j) = .free
structure CX (bs : List Nat) (n' : Nat) (X : Nat → Prop) : Prop where
  cl : ∀ j i, X j → bef bs j i → X i
  lt : ∀ j, X j → j < n'

variable {X : Nat → Prop} {frX : Fr} {hX : Hp} {q : Nat}

theorem Env.agree (E : Env T call all bs base s0 n') (C : CX bs n' X) (hf : ∀ s, WL T call all bs base s0 X s (frX.get .undef s)) {i : Nat} {o : Oper} (hi : i ≤ n') (ho : all[i]? = some o) (hn : ¬ X i)
    (hr : ∀ j, bef bs i j → X j) : ∀ s ∈ looks all o, frX.get .undef s = (SS T call all bs base s0 i).1.get .undef s := by
  intro s hs
  refine (hf s).uniq (E.frame s i hi) (fun k p hk hd => ⟨fun hx => ?_, fun hlt => ?_⟩)
  · rcases Nat.lt_trichotomy k i with h | h | h
    · exact h
    · subst h; exact absurd hx hn
    · exact absurd (C.cl k i hx (E.clash ho hk h (clash_dst' hd hs))) hn
  · exact hr k (E.clash hk ho hlt (clash_dst hd (.inl hs)))
theorem Env.lastW (E : Env T call all bs base s0 n') (C : CX bs n' X) {i s : Nat} {o : Oper} (ho : all[i]? = some o) (hn : ¬ X i) (hd : o.dst = some s) :
    ∀ k o', X k → all[k]? = some o' → o'.dst = some s → k ≤ i := by
  intro k o' hk ho' hd'
  rcases Nat.lt_or_ge i k with h | h
  · exact absurd (C.cl k i hk (E.clash ho ho' h (clash_dst hd (.inr hd')))) hn
  · exact h

/-- A soft one more. -/
theorem HI.more (E : Env T call all bs base s0 n') (C : CX bs n' X) (H : HI T call all bs base s0 n' X hX q) {i : Nat} {o : Oper} (hi : i < n') (ho : all[i]? = some o) (hs : hard o = false) (hn : ¬ X i)
    {h' : Hp} (hb : ob h' (base + i) = ob (SS T call all bs base s0 (i + 1)).2 (base + i)) (hne : ∀ p, p ≠ base + i → ob h' p = ob hX p) (hnx : h'.next = hX.next) : HI T call all bs base s0 n' (fun k => X k ∨ k = i) h' q := by
  have hlen := E.le
  refine ⟨H.qle, H.qh, fun p hp hlt => ?_, by rw [hnx, H.next], fun p hp => ?_, fun j hj hlt => ?_, fun j hj hlt => ?_, fun j hj hx => ?_⟩
  · rw [← H.xp p hp hlt]
    refine ⟨fun h => h.elim id (fun e => ?_), .inl⟩
    subst e
    obtain ⟨o', h1, h2⟩ := hp
    rw [ho] at h1; cases h1; rw [hs] at h2; cases h2
  · rw [hne p (hp i (by omega)), H.out p hp]
  · by_cases e : j = i
    · subst e
      rw [hb, E.keepSeg q hlt H.qle (fun p h1 h2 h3 hbf => hn (C.cl p j ((H.xp p h1 (by have := H.qle; omega)).2 h3) hbf))]
    · rw [hne _ (by omega), H.r1 j (hj.resolve_right e) hlt]
  · by_cases e : j = i
    · subst e; exact hb
    · rw [hne _ (by omega), H.r2 j (hj.resolve_right e) hlt]
  · rw [hne _ (fun e => hx (.inr (by omega))), H.r3 j hj (fun h => hx (.inl h))]

theorem Env.stepSoft (E : Env T call all bs base s0 n') (C : CX bs n' X) (hf : ∀ s, WL T call all bs base s0 X s (frX.get .undef s)) (H : HI T call all bs base s0 n' X hX q) {i : Nat} {o : Oper} (hi : i < n') (ho : all[i]? = some o)
    (hs : hard o = false) (hn : ¬ X i) (hr : ∀ j, bef bs i j → X j) :
    ∃ v h', res1 T call (base + i) all o frX hX = .val v h' ∧ (∀ d, o.dst = some d → (SS T call all bs base s0 (i + 1)).1.get .undef d = v) ∧ HI T call all bs base s0 n' (fun k => X k ∨ k = i) h' q := by
  have hlen := E.le
  have hag := E.agree C hf (Nat.le_of_lt hi) ho hn hr
  obtain ⟨v, e1, e2, e3, e4, e5⟩ := E.soft hi ho hs
  have hv : ∀ d, o.dst = some d → (SS T call all bs base s0 (i + 1)).1.get .undef d = v := fun d hd => by rw [e2, putD_get, if_pos hd]
  have htr := E.trace i (Nat.le_of_lt hi)
  cases hrd : reads T o with
  | false =>
    rw [← res1_congr (T := T) (call := call) (base + i) all o (SS T call all bs base s0 i).2 hag] at e1
    rcases res1_soft (call := call) (base + i) all o hs hrd frX (SS T call all bs base s0 i).2 hX with ⟨u, f1, f2⟩ | ⟨x, u, h1, hx, hnw, f1, f2⟩ | ⟨n, f1⟩
    · rw [f1] at e1
      have eu : u = v := by injection e1
      have eh : (SS T call all bs base s0 i).2 = (SS T call all bs base s0 (i + 1)).2 := by injection e1
      subst eu
      refine ⟨u, hX, f2, hv, H.more E C hi ho hs hn ?_ (fun _ _ => rfl) rfl⟩
      rw [H.r3 i (by omega) hn, ← eh, htr.2 i (Nat.le_refl _) (by omega)]
    · rw [f1] at e1
      have eu : u = v := by injection e1
      have eh : h1 = (SS T call all bs base s0 (i + 1)).2 := by injection e1
      subst eu
      obtain ⟨h', hh'⟩ := new_ex x (H.r3 i (by omega) hn)
      refine ⟨u, h', f2 h' hh', hv, H.more E C hi ho hs hn ?_ (fun p hp => ob_new_ne hh' hp) ?_⟩
      · rw [(ob_newOb hh').2, if_pos rfl, ← eh, (ob_newOb hnw).2, if_pos rfl]
      · rw [newOb_next hh', if_neg]
        rw [H.next]
        have := (E.trace q H.qle).1
        omega
    · rw [f1] at e1; cases e1
  | true =>
    obtain ⟨es, d, hd⟩ := e5 hrd
    have hag2 := E.again i o d hi ho hs hrd hd
    have ha : AV.again T call all bs base ⟨i, o, (SS T call all bs base s0 i).1, (SS T call all bs base s0 (i + 1)).1.get .undef d⟩ (SS T call all bs base s0 q).2 = true := by
      have lastly : ∀ h, phases T call all bs base ⟨i, o, (SS T call all bs base s0 i).1, (SS T call all bs base s0 (i + 1)).1.get .undef d⟩ h (PL T call all bs base s0 q) = true → AV.again T call all bs base ⟨i, o, (SS T call all bs base s0 i).1, (SS T call all bs base s0 (i + 1)).1.get .undef d⟩ h = true := fun h hp =>
        phases_last T call all bs base s0 hp (fun p hp1 hp2 => by
          cases hb : hasB (nthN bs p) i with
          | false => rfl
          | true => exact absurd (C.cl p i ((H.xp p hp1 (by have := H.qle; omega)).2 hp2) hb) hn)
      by_cases eq : q = n'
      · rw [← eq] at hag2; exact lastly _ hag2
      · have hq := H.qh.resolve_left eq
        refine lastly _ (phases_back T call all bs base s0 hq n' _ (by have := H.qle; omega) hag2 (fun p h1 h2 h3 => ?_))
        cases hb : hasB (nthN bs i) p with
        | false => rfl
        | true => have := (H.xp p h1 h3).1 (hr p hb); omega
    unfold AV.again at ha
    simp only at ha
    split at ha
    · rename_i fr1 hm hone
      rw [hd] at ha
      simp only at ha
      obtain ⟨u, r1, r2⟩ := one_val hone
      have hu : u = (SS T call all bs base s0 (i + 1)).1.get .undef d := by
        have := beqV_eq _ _ ha
        rw [r2, putD_get, if_pos hd] at this
        exact this
      rw [hv d hd] at hu
      subst hu
      change res1 T call (base + i) all o (SS T call all bs base s0 i).1 _ = _ at r1
      rw [← res1_congr (T := T) (call := call) (base + i) all o _ hag] at r1
      have hmask : ∀ o', ob (mask base (nthN bs i) (lenO all) 0 (SS T call all bs base s0 q).2) o' = _ := mask_k base (nthN bs i) (lenO all) (SS T call all bs base s0 q).2
      have s : Sim (fun o' => ∃ j, j < all.length ∧ o' = base + j ∧ ¬ (bef bs i j ∧ j < q)) (mask base (nthN bs i) (lenO all) 0 (SS T call all bs base s0 q).2) hX := by
        refine ⟨by rw [mask_next, H.next], fun o' ho' => ?_, fun o' ⟨j, a, b, c⟩ => ⟨?_, ?_⟩⟩
        · by_cases hreg : ∃ j, j < all.length ∧ o' = base + j
          · obtain ⟨j, a, b⟩ := hreg
            have hj : bef bs i j ∧ j < q := Classical.byContradiction fun hh => ho' ⟨j, a, b, hh⟩
            rw [hmask, if_neg, b]
            · exact H.r1 j (hr j hj.1) hj.2
            · rintro ⟨⟨k, k1, k2, k3⟩, _⟩
              have : k = j := by omega
              subst this
              have := hj.1
              unfold bef at this; rw [k3] at this; cases this
          · rw [hmask, if_neg]
            · exact H.out o' (fun j hj e => hreg ⟨j, hj, e⟩)
            · rintro ⟨⟨k, k1, k2, k3⟩, _⟩
              exact hreg ⟨k, by rw [lenO_eq] at k1; exact k1, k2⟩
        · by_cases hfr : ob (SS T call all bs base s0 q).2 o' = .free
          · right; rw [hmask, if_neg (fun h => h.2 hfr)]; exact hfr
          · left
            rw [hmask, if_pos]
            refine ⟨⟨j, by rw [lenO_eq]; exact a, b, ?_⟩, hfr⟩
            cases hb : hasB (nthN bs i) j with
            | false => rfl
            | true =>
              exfalso
              have : ¬ j < q := fun h => c ⟨hb, h⟩
              exact hfr (by rw [b]; exact (E.trace q H.qle).2 j (by omega) (by omega))
        · rw [mask_next]; have := (E.trace q H.qle).1; omega
      rcases res1_read (call := call) (base + i) (base + all.length) all o hs hrd frX (mask base (nthN bs i) (lenO all) 0 (SS T call all bs base s0 q).2) with ⟨u', f1, f2⟩ | ⟨n, f1⟩
      · rw [f1] at r1
        have eu : u' = u := by injection r1
        subst eu
        have := res1_sim (T := T) E.sim s (nid := base + all.length) (by rintro ⟨j, a, b, c⟩; omega) all o frX
        rw [f2] at this
        obtain ⟨h2, g1, _, _⟩ := this
        rcases res1_read (call := call) (base + all.length) (base + i) all o hs hrd frX hX with ⟨u2, k1, k2⟩ | ⟨n, k1⟩
        · rw [k1] at g1
          have eu2 : u2 = u' := by injection g1
          subst eu2
          refine ⟨u2, hX, k2, hv, H.more E C hi ho hs hn ?_ (fun _ _ => rfl) rfl⟩
          rw [H.r3 i (by omega) hn, es, htr.2 i (Nat.le_refl _) (by omega)]
        · rw [k1] at g1; cases g1
      · rw [f1] at r1; cases r1
    · cases ha

/-- The hard one that is next: it is the first that is not done, and runs alike. -/
theorem Env.atHard (E : Env T call all bs base s0 n') (C : CX bs n' X) (H : HI T call all bs base s0 n' X hX q) {i : Nat} {o : Oper} (hi : i < n' ∨ (i = n' ∧ i < all.length)) (ho : all[i]? = some o)
    (hs : hard o = true) (hn : ¬ X i) (hr : ∀ j, bef bs i j → X j) :
    i = q ∧ Sim (fun o' => ∃ j, j < all.length ∧ o' = base + j ∧ j ≠ i ∧ ¬ bef bs i j) (mask base (nthN bs i) i 0 (SS T call all bs base s0 i).2) hX := by
  have hlen := E.le
  have hqle := H.qle
  have hiq : i = q := by
    rcases Nat.lt_trichotomy i q with h | h | h
    · exact absurd ((H.xp i ⟨o, ho, hs⟩ (by omega)).2 h) hn
    · exact h
    · have hqn : q < n' := by omega
      obtain ⟨o', h1, h2⟩ := H.qh.resolve_left (by omega)
      have := (H.xp q ⟨o', h1, h2⟩ hqn).1 (hr q (E.clash h1 ho h (clash_hard h2 hs)))
      omega
  refine ⟨hiq, by rw [mask_next, H.next, hiq], fun o' ho' => ?_, fun o' ⟨j, a, b, c, d⟩ => ⟨?_, ?_⟩⟩
  · by_cases hreg : ∃ j, j < all.length ∧ o' = base + j
    · obtain ⟨j, a, b⟩ := hreg
      rw [mask_k, b]
      by_cases hj : j = i
      · subst hj
        rw [if_neg, H.r3 j a hn, (E.trace j (by omega)).2 j (Nat.le_refl _) (by omega)]
        rintro ⟨⟨k, k1, k2, _⟩, _⟩; omega
      · have hbf : bef bs i j := Classical.byContradiction fun hh => ho' ⟨j, a, b, hj, hh⟩
        have hlt := E.bef_lt (by omega) hbf
        rw [if_neg, H.r1 j (hr j hbf) (by omega), hiq]
        rintro ⟨⟨k, k1, k2, k3⟩, _⟩
        have : k = j := by omega
        subst this
        unfold bef at hbf; rw [k3] at hbf; cases hbf
    · rw [mask_k, if_neg, H.out o' (fun j hj e => hreg ⟨j, hj, e⟩), hiq]
      rintro ⟨⟨k, k1, k2, k3⟩, _⟩
      exact hreg ⟨k, by omega, k2⟩
  · by_cases hfr : ob (SS T call all bs base s0 i).2 o' = .free
    · right; rw [mask_k, if_neg (fun h => h.2 hfr)]; exact hfr
    · left
      have hji : j < i := by
        rcases Nat.lt_or_ge j i with h | h
        · exact h
        · exact absurd (by rw [b]; exact (E.trace i (by omega)).2 j h (by omega)) hfr
      rw [mask_k, if_pos]
      refine ⟨⟨j, hji, b, ?_⟩, hfr⟩
      cases hb : hasB (nthN bs i) j with
      | false => rfl
      | true => exact absurd hb d
  · rw [mask_next]; have := (E.trace i (by omega)).1; omega

theorem Env.stepHard (E : Env T call all bs base s0 n') (C : CX bs n' X) (hf : ∀ s, WL T call all bs base s0 X s (frX.get .undef s)) (H : HI T call all bs base s0 n' X hX q) {i : Nat} {o : Oper} (hi : i < n') (ho : all[i]? = some o)
    (hs : hard o = true) (hn : ¬ X i) (hr : ∀ j, bef bs i j → X j) :
    ∃ v h' q', res1 T call (base + i) all o frX hX = .val v h' ∧ (∀ d, o.dst = some d → (SS T call all bs base s0 (i + 1)).1.get .undef d = v) ∧ HI T call all bs base s0 n' (fun k => X k ∨ k = i) h' q' := by
  have hlen := E.le
  have hag := E.agree C hf (Nat.le_of_lt hi) ho hn hr
  obtain ⟨hiq, s⟩ := E.atHard C H (.inl hi) ho hs hn hr
  obtain ⟨v, h1, e1, e2, e3⟩ := E.hardS hi ho hs
  have hv : ∀ d, o.dst = some d → (SS T call all bs base s0 (i + 1)).1.get .undef d = v := fun d hd => by rw [e2, putD_get, if_pos hd]
  rw [← res1_congr (T := T) (call := call) (base + i) all o _ hag] at e1
  have := res1_sim (T := T) E.sim s (nid := base + i) (by rintro ⟨j, a, b, c, d⟩; omega) all o frX
  rw [e1] at this
  obtain ⟨h', g1, s', k'⟩ := this
  obtain ⟨q', q1, q2, q3, q4⟩ := nextHard all n' (n' - (i + 1)) (i + 1) (by omega)
  obtain ⟨sn, so⟩ := E.softSeg (a := i + 1) q' q1 q2 q4
  refine ⟨v, h', q', g1, hv, q2, q3, fun p hp hlt => ?_, ?_, fun p hp => ?_, fun j hj hlt => ?_, fun j hj hlt => ?_, fun j hj hx => ?_⟩
  · constructor
    · rintro (h | h)
      · have := (H.xp p hp hlt).1 h; omega
      · omega
    · intro h
      by_cases e : p = i
      · exact .inr e
      · left
        rw [H.xp p hp hlt]
        rcases Nat.lt_or_ge p q with h5 | h5
        · exact h5
        · exact absurd hp (q4 p (by omega) h)
  · rw [sn, e3, unmask_next]; exact s'.next
  · rw [so p (fun j h1 h2 => hp j (by omega)), e3, unmask_k, if_neg, s'.same p]
    · rintro ⟨j, a, b, _⟩; exact hp j a b
    · rintro ⟨⟨j, a, b, _⟩, _⟩; exact hp j (by omega) b
  · -- an object of X, ahead of the new phase
    by_cases hji : j ≤ i
    · rw [so _ (fun k h1 h2 => by omega), e3, unmask_k]
      by_cases hbf : bef bs i j ∨ j = i
      · rw [if_neg, s'.same]
        · rintro ⟨k, a, b, c, d⟩
          have : k = j := by omega
          subst this
          rcases hbf with h | h
          · exact d h
          · exact c h
        · rintro ⟨⟨k, a, b, c⟩, _⟩
          have : k = j := by omega
          subst this
          rcases hbf with h | h
          · unfold bef at h; rw [c] at h; cases h
          · omega
      · have hnb : ¬ bef bs i j := fun h => hbf (.inl h)
        have hne : j ≠ i := fun h => hbf (.inr h)
        have hXj : X j := hj.resolve_right hne
        have hMj : ∃ k, k < all.length ∧ base + j = base + k ∧ k ≠ i ∧ ¬ bef bs i k := ⟨j, by omega, rfl, hne, hnb⟩
        have hx : ob hX (base + j) = ob (SS T call all bs base s0 i).2 (base + j) := by rw [H.r1 j hXj (by omega), hiq]
        rw [k' _ hMj, hx]
        by_cases hfr : ob (SS T call all bs base s0 i).2 (base + j) = .free
        · rw [if_neg (fun h => h.2 hfr)]
          -- free there, so free behind the masked run
          have hfm : ob (mask base (nthN bs i) i 0 (SS T call all bs base s0 i).2) (base + j) = .free := by rw [mask_k, if_neg (fun h => h.2 hfr)]; exact hfr
          have ss : Sim (fun o => o = base + j) (mask base (nthN bs i) i 0 (SS T call all bs base s0 i).2) (mask base (nthN bs i) i 0 (SS T call all bs base s0 i).2) :=
            ⟨rfl, fun _ _ => rfl, fun o e => ⟨.inr (by rw [e]; exact hfm), by rw [mask_next]; have := (E.trace i (by omega)).1; omega⟩⟩
          have := res1_sim (T := T) E.sim ss (nid := base + i) (by omega) all o frX
          rw [e1] at this
          obtain ⟨g', eg, _, kk⟩ := this
          cases eg
          rw [kk _ rfl, hfm, hfr]
        · rw [if_pos]
          refine ⟨⟨j, by omega, rfl, ?_⟩, hfr⟩
          cases hb : hasB (nthN bs i) j with
          | false => rfl
          | true => exact absurd hb hnb
    · have hXj : X j := hj.resolve_right (by omega)
      have hMj : ∃ k, k < all.length ∧ base + j = base + k ∧ k ≠ i ∧ ¬ bef bs i k := ⟨j, by omega, rfl, by omega, fun h => by have := E.bef_lt (by omega) h; omega⟩
      rw [k' _ hMj, H.r2 j hXj (by omega), E.keepSeg q' hlt q2 (fun p h1 h2 h3 => absurd h1 (q4 p (by omega) h3))]
  · have hXj : X j := hj.resolve_right (by omega)
    have hjl := C.lt j hXj
    have hMj : ∃ k, k < all.length ∧ base + j = base + k ∧ k ≠ i ∧ ¬ bef bs i k := ⟨j, by omega, rfl, by omega, fun h => by have := E.bef_lt (by omega) h; omega⟩
    rw [k' _ hMj, H.r2 j hXj (by omega)]
  · have hMj : ∃ k, k < all.length ∧ base + j = base + k ∧ k ≠ i ∧ ¬ bef bs i k := ⟨j, hj, rfl, fun e => hx (.inr e), fun h => hx (.inl (hr j h))⟩
    rw [k' _ hMj, H.r3 j hj (fun h => hx (.inl h))]
end
end Go.AV
namespace Go.AV
open Go
theorem WR.ext {ι F h h' w} (hw : WR ι F h w) (he : ∀ o, ob h' o = ob h o) : WR ι F h' w :=
  ⟨fun o h1 => hw.free o (by rw [← he]; exact h1), fun o p h1 => by rw [he]; exact hw.obj o p h1, fun o h1 h2 => hw.has o (by rw [← he]; exact h1) (by rw [← he]; exact h2),
    fun o o' p p' hne h1 h2 r1 r2 => hw.apart o o' p p' hne h1 h2 (by rw [← he]; exact r1) (by rw [← he]; exact r2), hw.old⟩
theorem Ext.drewN (ι F) (w : World) (d : Nat) : Ext ι F w ι F { w with drawn := d } := ⟨fun _ _ h => h, fun _ h => h, fun _ _ => rfl, Nat.le_refl _, rfl, rfl, rfl⟩
theorem WR.drewN {ι F h} {w : World} (hw : WR ι F h w) (d : Nat) : WR ι F h { w with drawn := d } :=
  ⟨hw.free, fun o p h1 => (hw.obj o p h1).mono (Ext.drewN ι F w d) (fun _ => rfl), hw.has, hw.apart, hw.old⟩
/-- Objects given up. -/
theorem WR.kills {ι F h h' w} (hw : WR ι F h w) (he : ∀ o, ob h' o = .dead ∨ ob h' o = ob h o) : WR ι F h' w := by
  have hr : ∀ o p, Real p (ob h' o) → Real p (ob h o) := fun o p hr => by
    rcases he o with e | e
    · rw [e] at hr; exact hr.elim
    · rw [e] at hr; exact hr
  refine ⟨fun o h1 => ?_, fun o p h1 => ?_, fun o h1 h2 => ?_, fun o o' p p' hne h1 h2 r1 r2 => hw.apart o o' p p' hne h1 h2 (hr _ _ r1) (hr _ _ r2), hw.old⟩
  · rcases he o with e | e
    · rw [e] at h1; cases h1
    · exact hw.free o (by rw [← e]; exact h1)
  · rcases he o with e | e
    · rw [e]; trivial
    · rw [e]; exact hw.obj o p h1
  · rcases he o with e | e
    · exact absurd e h2
    · exact hw.has o (by rw [← e]; exact h1) (by rw [← e]; exact h2)
theorem countP_lt {p p' : Nat → Bool} : ∀ (l : List Nat), (∀ x, p' x = true → p x = true) → (∃ x ∈ l, p x = true ∧ p' x = false) → l.countP p' < l.countP p
  | [], _, ⟨x, hx, _⟩ => by simp at hx
  | y :: t, hp, ⟨x, hx, h1, h2⟩ => by
    have hle : t.countP p' ≤ t.countP p := List.countP_mono_left (fun x _ => hp x)
    rw [List.countP_cons, List.countP_cons]
    rcases List.mem_cons.1 hx with rfl | hx
    · rw [h1, h2]; simp; omega
    · have := countP_lt t hp ⟨x, hx, h1, h2⟩
      by_cases hy : p' y = true
      · rw [hy, hp y hy]; omega
      · have : p' y = false := by simpa using hy
        rw [this]
        cases p y <;> simp <;> omega

def LX (listed : Array Bool) (j : Nat) : Prop := listed.getD j false = true
def unl (n : Nat) (listed : Array Bool) : Nat := (List.range n).countP (fun j => !listed.getD j false)
theorem LX_set {listed : Array Bool} {i : Nat} (hi : i < listed.size) : LX (listed.setIfInBounds i true) = fun k => LX listed k ∨ k = i := by
  funext k
  apply propext
  unfold LX
  by_cases e : k = i
  · subst e
    simp [Array.getElem?_setIfInBounds, hi]
  · have : (listed.setIfInBounds i true).getD k false = listed.getD k false := by
      simp [Array.getElem?_setIfInBounds_ne (Ne.symm e)]
    rw [this]
    simp [e]

section
variable {P : Program} {T : TypeId → TI} {call : CallT} {all : List Oper} {bs : List Nat} {base : Nat} {s0 : Fr × Hp} {n' : Nat}

theorem any_ok (hT : TOk P T) (hc : CallOk P call) (E : Env T call all bs base s0 n') {ops : Array Oper} (hall : ops.toList = all) {r : CO} {ι : Nat → Option Pl} {F : Nat → Prop} {w : World} {a : Act}
    (hk : okOps a.tmps.size all = true)
    (hr : (n' = all.length ∧ r = .nx (SS T call all bs base s0 n').1 (SS T call all bs base s0 n').2) ∨ (∃ o v h1, all[n']? = some o ∧ hard o = true ∧ res1 T call (base + n') all o (SS T call all bs base s0 n').1 (mask base (nthN bs n') n' 0 (SS T call all bs base s0 n').2) = .pan v h1 ∧
      r = .pan v (killAll all.length base h1) ∧ ∀ j, n' < j → j < all.length → bef bs j n')) :
    ∀ (fuel : Nat) (listed : Array Bool) (ι1 : Nat → Option Pl) (a1 : Act) (w1 : World) (frX : Fr) (hX : Hp) (q : Nat), listed.size = ops.size → unl ops.size listed ≤ fuel →
      Ext ι F w ι1 F w1 → WR ι1 F hX w1 → FR ι1 F w1 frX a1.tmps → a1.tmps.size = a.tmps.size → a1.defers = a.defers → CX bs n' (LX listed) →
      (∀ s, WL T call all bs base s0 (LX listed) s (frX.get .undef s)) → HI T call all bs base s0 n' (LX listed) hX q → wpAny P .any ops (CPost ι F w a r) fuel listed a1 w1 := by
  have hlen : ops.size = all.length := by rw [← hall]; simp
  have hat : ∀ j : Nat, ops[j]? = all[j]? := fun j => by rw [← hall]; simp
  have allOf : ∀ listed : Array Bool, listed.size = ops.size → Region.ready .any ops listed = [] → ∀ j, j < all.length → LX listed j := by
    intro listed hsz hre j
    induction j using Nat.strongRecOn with
    | _ j ih =>
      intro hj
      refine Classical.byContradiction fun hn => ?_
      have hj' : all[j]? = some all[j] := List.getElem?_eq_getElem hj
      have hf : listed.getD j false = false := by unfold LX at hn; simpa using hn
      have hlt : j < listed.size := by omega
      have hv : listed[j] = false := by simpa [Array.getD, hlt] using hf
      have : j ∈ Region.ready .any ops listed := by
        rw [mem_ready]
        refine ⟨by simp [Array.getD, hlt, hv], all[j], by rw [hat j]; exact hj', fun e he hb => ?_⟩
        have := E.edge hj' e (by simpa using he) hb
        exact ih e.on this (by omega)
      rw [hre] at this
      cases this
  have fin : ∀ (listed : Array Bool) (ι1 : Nat → Option Pl) (a1 : Act) (w1 : World) (frX : Fr) (hX : Hp) (q : Nat), listed.size = ops.size → Region.ready .any ops listed = [] →
      Ext ι F w ι1 F w1 → WR ι1 F hX w1 → FR ι1 F w1 frX a1.tmps → a1.tmps.size = a.tmps.size → a1.defers = a.defers → CX bs n' (LX listed) →
      (∀ s, WL T call all bs base s0 (LX listed) s (frX.get .undef s)) → HI T call all bs base s0 n' (LX listed) hX q → CPost ι F w a r .normal a1 w1 := by
    intro listed ι1 a1 w1 frX hX q hsz hre e1 hw hf h4 h5 C hW H
    have hA := allOf listed hsz hre
    rcases hr with ⟨hn, rfl⟩ | ⟨o, v, h1, ho, _⟩
    · have hq : q = n' := by
        refine Classical.byContradiction fun hne => ?_
        have hqn : q < n' := by have := H.qle; omega
        have := (H.xp q (H.qh.resolve_left hne) hqn).1 (hA q (by omega))
        omega
      subst hq
      refine ⟨rfl, ι1, e1, hw.ext (fun o => ?_), ⟨fun s => ?_⟩, h4, h5⟩
      · by_cases hreg : ∃ j, j < all.length ∧ o = base + j
        · obtain ⟨j, hj, rfl⟩ := hreg
          exact (H.r1 j (hA j hj) (by omega)).symm
        · exact (H.out o (fun j hj e => hreg ⟨j, hj, e⟩)).symm
      · have : (SS T call all bs base s0 q).1.get .undef s = frX.get .undef s := (E.frame s q (Nat.le_refl _)).uniq (hW s) (fun k o ho _ => ⟨fun h => hA k (by omega), fun h => C.lt k h⟩)
        rw [this]; exact hf.at_ s
    · exfalso
      have hlt : n' < all.length := (List.getElem?_eq_some_iff.1 ho).1
      have := C.lt n' (hA n' hlt)
      omega
  intro fuel
  induction fuel with
  | zero =>
    intro listed ι1 a1 w1 frX hX q hsz hu e1 hw hf h4 h5 C hW H
    have hre : Region.ready .any ops listed = [] := by
      cases hre : Region.ready .any ops listed with
      | nil => rfl
      | cons j t =>
        exfalso
        have hm : j ∈ Region.ready .any ops listed := by rw [hre]; simp
        obtain ⟨h1, o, h2, _⟩ := mem_ready.1 hm
        have hlt : j < ops.size := (Array.getElem?_eq_some_iff.1 h2).1
        have hl2 : j < listed.size := by omega
        have hv : listed[j] = false := by simpa [Array.getD, hl2] using h1
        unfold unl at hu
        have : 0 < (List.range ops.size).countP (fun j => !listed.getD j false) := List.countP_pos_iff.2 ⟨j, by simpa using hlt, by simp [Array.getD, hl2, hv]⟩
        omega
    exact ⟨hre, fin listed ι1 a1 w1 frX hX q hsz hre e1 hw hf h4 h5 C hW H⟩
  | succ fuel ih =>
    intro listed ι1 a1 w1 frX hX q hsz hu e1 hw hf h4 h5 C hW H
    refine ⟨fun hre => fin listed ι1 a1 w1 frX hX q hsz hre e1 hw hf h4 h5 C hW H, fun i hi => ?_⟩
    obtain ⟨h1, o, h2, h3⟩ := mem_ready.1 hi
    have hlt : i < ops.size := (Array.getElem?_eq_some_iff.1 h2).1
    have hl2 : i < listed.size := by omega
    have hv : listed[i] = false := by simpa [Array.getD, hl2] using h1
    have hnX : ¬ LX listed i := by unfold LX; simp [Array.getD, hl2, hv]
    have ho : all[i]? = some o := by rw [← hat]; exact h2
    have hrd : ∀ j, bef bs i j → LX listed j := by
      intro j hb
      obtain ⟨e, he1, he2, he3⟩ := E.bef_at ho hb
      have hx : LX listed e.on := h3 e (by simpa using he1) he2
      rcases he3 with rfl | he3
      · exact hx
      · exact C.cl _ _ hx he3
    have hu' : unl ops.size (listed.setIfInBounds i true) ≤ fuel := by
      have : unl ops.size (listed.setIfInBounds i true) < unl ops.size listed := by
        refine countP_lt _ (fun x hx => ?_) ⟨i, by simpa using hlt, by simp [Array.getD, hl2, hv], by simp [Array.getElem?_setIfInBounds, hl2]⟩
        by_cases e : x = i
        · subst e; simp [Array.getElem?_setIfInBounds, hl2] at hx
        · rw [getD_set_ne false (Ne.symm e)] at hx; exact hx
      omega
    have hdst : okDst a1.tmps.size o.dst = true := by rw [h4]; exact okOps_at hk i o ho
    have cl' : i < n' → CX bs n' (LX (listed.setIfInBounds i true)) := by
      intro hin
      rw [LX_set hl2]
      refine ⟨fun j k hj hb => ?_, fun j hj => ?_⟩
      · rcases hj with hj | rfl
        · exact .inl (C.cl j k hj hb)
        · exact .inl (hrd k hb)
      · rcases hj with hj | rfl
        · exact C.lt j hj
        · exact hin
    -- going on
    have go : i < n' → ∀ (v : V) (h' : Hp) (q' : Nat), res1 T call (base + i) all o frX hX = .val v h' → (∀ d, o.dst = some d → (SS T call all bs base s0 (i + 1)).1.get .undef d = v) →
        HI T call all bs base s0 n' (fun k => LX listed k ∨ k = i) h' q' → wpOp P ops (CPost ι F w a r) i (wpAny P .any ops (CPost ι F w a r) fuel (listed.setIfInBounds i true)) a1 w1 := by
      intro hin v h' q' hres hval H'
      have hone : one T call (base + i) ops.toList o frX hX = .nx (putD frX o.dst v) h' := by rw [hall, one_eq, hres]; rfl
      refine one_ok hT hc hw hf (base + i) h2 hdst _ _ (fun fr' h'' he a' w' hst => ?_) (fun u h'' he => ?_) ?_
      · rw [hone] at he
        cases he
        obtain ⟨ι', e2, hw', hf', hs', hd'⟩ := hst
        refine ih _ ι' a' w' _ h' q' (by simp [hsz]) hu' (e1.trans e2) hw' hf' (hs'.trans h4) (hd'.trans h5) (cl' hin) (fun s => ?_) (by rw [LX_set hl2]; exact H')
        rw [LX_set hl2]
        exact (hW s).more (u := v) ho hnX hval (fun hd => E.lastW C ho hnX hd)
      · rw [hone] at he; cases he
      · rw [hone]; trivial
    rcases hr with ⟨hn, rfl⟩ | ⟨o', v, h1', ho', hh', hpan, rfl, hlater⟩
    · have hin : i < n' := by omega
      cases hh : hard o with
      | false =>
        obtain ⟨v, h', k1, k2, k3⟩ := E.stepSoft C hW H hin ho hh hnX hrd
        exact go hin v h' q k1 k2 k3
      | true =>
        obtain ⟨v, h', q', k1, k2, k3⟩ := E.stepHard C hW H hin ho hh hnX hrd
        exact go hin v h' q' k1 k2 k3
    · have hn'l : n' < all.length := (List.getElem?_eq_some_iff.1 ho').1
      rcases Nat.lt_trichotomy i n' with hin | hin | hin
      · cases hh : hard o with
        | false =>
          obtain ⟨v, h', k1, k2, k3⟩ := E.stepSoft C hW H hin ho hh hnX hrd
          exact go hin v h' q k1 k2 k3
        | true =>
          obtain ⟨v, h', q', k1, k2, k3⟩ := E.stepHard C hW H hin ho hh hnX hrd
          exact go hin v h' q' k1 k2 k3
      · subst hin
        rw [ho] at ho'; cases ho'
        obtain ⟨hiq, s⟩ := E.atHard C H (.inr ⟨rfl, hn'l⟩) ho hh' hnX hrd
        rw [← res1_congr (T := T) (call := call) (base + i) all o _ (E.agree C hW (Nat.le_refl _) ho hnX hrd)] at hpan
        have := res1_sim (T := T) E.sim s (nid := base + i) (by rintro ⟨j, a, b, c, d⟩; omega) all o frX
        rw [hpan] at this
        obtain ⟨h'', g1, s', _⟩ := this
        have hone : one T call (base + i) ops.toList o frX hX = .pan v h'' := by rw [hall, one_eq, g1]; rfl
        refine one_ok hT hc hw hf (base + i) h2 hdst _ _ (fun fr' hp he => ?_) (fun u hp he e a' w' hpost => ?_) ?_
        · rw [hone] at he; cases he
        · rw [hone] at he
          cases he
          obtain ⟨c, ch, ι', rfl, e2, hw', hvr, hd'⟩ := hpost
          refine ⟨c, ch, ι', rfl, e1.trans e2, hw'.kills (fun o => ?_), hvr, hd'.trans h5⟩
          rw [killAll_ob]
          split
          · exact .inl rfl
          · right
            rename_i hne
            exact (s'.same o (by rintro ⟨j, a, b, _⟩; exact hne ⟨by omega, by omega⟩)).symm
        · rw [hone]; trivial
      · exfalso
        have := hrd n' (hlater i hin (by omega))
        have := C.lt n' this
        omega

/-- Drawn regions. -/
theorem drawn_ok (hm : P.follows .mixedOrders = true) (hT : TOk P T) (hc : CallOk P call) (hs : CallSim call) : DOk P (drawn T call) := by
  intro id ops ι F h w a fr hw hf hk hok
  unfold drawn at hok ⊢
  split at hok
  · exact hok.elim
  · rename_i hst
    split at hok
    · exact hok.elim
    · rename_i hfr
      have hfree : ∀ (n i : Nat), freeAll h n i = true → ∀ j, j < n → ob h (i + j) = .free := by
        intro n
        induction n with
        | zero => intro i _ j hj; omega
        | succ n ih =>
          intro i hi j hj
          simp only [freeAll] at hi
          split at hi
          · rename_i h0
            cases j with
            | zero => exact h0
            | succ j => have := ih (i + 1) hi j (by omega); rw [show i + (j + 1) = i + 1 + j by omega]; exact this
          · cases hi
      have hf0 := hfree _ _ hfr
      rw [lenO_eq] at hf0
      refine wp_region_any hm ?_
      generalize hall : ops.toList = all at *
      have hlen : ops.size = all.length := by rw [← hall]; simp
      have hspec := dops_spec T call all (befs [] all) h.next (fr, ⟨Nat.add h.next (Nat.add (lenO all) 1), h.t⟩) all 0 rfl
      change Spec T call all (befs [] all) h.next _ 0 (dops T call all (befs [] all) h.next 0 all fr ⟨Nat.add h.next (Nat.add (lenO all) 1), h.t⟩ [] []) at hspec
      have hnx : h.next + all.length < (⟨Nat.add h.next (Nat.add (lenO all) 1), h.t⟩ : Hp).next := by
        show h.next + all.length < h.next + (lenO all + 1)
        rw [lenO_eq]; omega
      have hrep : ∀ j, ¬ LX (Array.replicate ops.size false) j := fun j hj => by
        unfold LX at hj
        rw [Array.getD_eq_getD_getElem?, Array.getElem?_replicate] at hj
        split at hj <;> simp at hj
      have begin_ : ∀ (n' : Nat) (E : Env T call all (befs [] all) h.next (fr, ⟨Nat.add h.next (Nat.add (lenO all) 1), h.t⟩) n'), ∃ q,
          HI T call all (befs [] all) h.next (fr, ⟨Nat.add h.next (Nat.add (lenO all) 1), h.t⟩) n' (LX (Array.replicate ops.size false)) ⟨Nat.add h.next (Nat.add (lenO all) 1), h.t⟩ q := by
        intro n' E
        obtain ⟨q, q1, q2, q3, q4⟩ := nextHard all n' n' 0 (by omega)
        obtain ⟨sn, so⟩ := E.softSeg (a := 0) q q1 q2 q4
        refine ⟨q, q2, q3, fun p hp hlt => ⟨fun hx => absurd hx (hrep p), fun hlt' => absurd hp (q4 p (by omega) hlt')⟩, sn.symm, fun o hno => ?_, fun j hj => absurd hj (hrep j), fun j hj => absurd hj (hrep j), fun j hj _ => ?_⟩
        · have := E.le
          exact (so o (fun j _ h2 => hno j (by omega))).symm
        · exact hf0 j (by show j < all.length + 1; omega)
      have run : ∀ (n' : Nat) (r : CO) (E : Env T call all (befs [] all) h.next (fr, ⟨Nat.add h.next (Nat.add (lenO all) 1), h.t⟩) n'), _ → wpAny P .any ops (CPost ι F w a r) ops.size (Array.replicate ops.size false) a { w with drawn := w.drawn + 1 } :=
        fun n' r E hr => by
          obtain ⟨q, H⟩ := begin_ n' E
          have hun : unl ops.size (Array.replicate ops.size false) ≤ ops.size := by
            unfold unl
            exact Nat.le_trans List.countP_le_length (by simp)
          exact any_ok hT hc E hall hk hr ops.size _ ι a _ fr _ q (by simp) hun (Ext.drewN ι F w _) ((hw.ext (h' := ⟨Nat.add h.next (Nat.add (lenO all) 1), h.t⟩) (fun o => rfl)).drewN _) (hf.mono (Ext.drewN ι F w _)) rfl rfl
            ⟨fun j i hj => absurd hj (hrep j), fun j hj => absurd hj (hrep j)⟩ (fun s => .inl ⟨fun k o hk => absurd hk (hrep k), rfl⟩) H
      generalize dops T call all (befs [] all) h.next 0 all fr ⟨Nat.add h.next (Nat.add (lenO all) 1), h.t⟩ [] [] = d at hspec hok ⊢
      cases d with
      | nx fr1 h1 ps rs =>
        obtain ⟨g1, rfl, rfl, rfl, rfl⟩ := hspec
        simp only at hok ⊢
        split at hok
        · rename_i hag
          refine run all.length _ ⟨hst, rfl, Nat.le_refl _, fun j hj => g1 j (Nat.zero_le _) hj, fun j hj => hf0 j (by show j < all.length + 1; omega), hnx, hs, fun i o d hi ho hh hrd hd => ?_⟩ (.inl ⟨rfl, rfl⟩)
          exact allAgain_mem T call all (befs [] all) h.next hag _ (RL_mem T call all (befs [] all) h.next _ all.length i o d hi ho hh hrd hd)
        · exact hok.elim
      | pan k v hq h1 ps rs =>
        obtain ⟨g1, _, rfl, rfl, rfl, o, ho, hh, hone⟩ := hspec
        simp only at hok ⊢
        split at hok
        · rename_i hl
          split at hok
          · rename_i hag
            have hk' : k < all.length := (List.getElem?_eq_some_iff.1 ho).1
            refine run k _ ⟨hst, rfl, Nat.le_of_lt hk', fun j hj => g1 j (Nat.zero_le _) hj, fun j hj => hf0 j (by show j < all.length + 1; omega), hnx, hs, fun i o d hi ho hh hrd hd => ?_⟩ (.inr ⟨o, v, h1, ho, hh, one_pan hone, by rw [lenO_eq], fun j h1 h2 => ?_⟩)
            · exact allAgain_mem T call all (befs [] all) h.next hag _ (RL_mem T call all (befs [] all) h.next _ k i o d hi ho hh hrd hd)
            · obtain ⟨t, e, ht⟩ := befs_pre all []
              have hlb : (befs [] all).length = all.length := by rw [e]; simpa using ht
              have := later_at _ k (j - (k + 1)) hl (by rw [dropN'_eq, List.length_drop, hlb]; show j - (k + 1) < all.length - (k + 1); omega)
              unfold bef
              rw [nthN_eq, dropN'_eq] at this
              rw [nthN_eq, List.getD_eq_getElem?_getD]
              rw [List.getD_eq_getElem?_getD, List.getElem?_drop, show Nat.add k 1 + (j - (k + 1)) = j from Nat.add_sub_of_le h1] at this
              exact this
          · exact hok.elim
        · exact hok.elim
      | bad n => exact hok.elim
end
end Go.AV
