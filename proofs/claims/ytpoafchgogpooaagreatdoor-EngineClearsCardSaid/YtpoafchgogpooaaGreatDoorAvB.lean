/-
  The abstract machine: single operations are as the model does them. By an AI agent. Conditions: none beyond what each theorem states.
-/
import Derived.Test.YtpoafchgogpooaaGreatDoorAvA
import Derived.Lib.Strings
import Derived.Laws.Append
import Derived.Laws.AppendOwn
import Derived.Laws.Tables
set_option linter.unusedVariables false
set_option linter.unusedSimpArgs false
namespace Go.AV
open Go

def OpR (P : Program) (ι : Nat → Option Pl) (F : Nat → Prop) (h : Hp) (w : World) (r : Result Next) : Res → Prop
  | .val v h' => ∃ c w' ι', r = .ok (.value c) w' ∧ Ext ι F w ι' F w' ∧ WR ι' F h' w' ∧ VR ι' F w' v c
  | .non h' => ∃ w', r = .ok .skip w' ∧ Ext ι F w ι F w' ∧ WR ι F h' w'
  | .call f as h' => h' = h ∧ ∃ cs : Array Value, r = (callFunc f cs).run P w ∧ cs.size = as.length ∧ ∀ (j : Nat) (v : V) (x : Value), as[j]? = some v → cs[j]? = some x → VR ι F w v x
  | .pan v h' => h' = h ∧ ∃ c, r = .halt (.panic c) w ∧ VR ι F w v c
  | .bad _ => True

section
variable {P : Program} {T : TypeId → TI} {ι : Nat → Option Pl} {F : Nat → Prop} {h : Hp} {w : World} {a : Act} {fr : Fr}

theorem OpR.same {v c} (hw : WR ι F h w) (hv : VR ι F w v c) {r : Result Next} (hr : r = .ok (.value c) w) : OpR P ι F h w r (.val v h) :=
  ⟨c, w, ι, hr, Ext.refl _ _ _, hw, hv⟩

theorem ti_ok (hT : TOk P T) {t : TypeId} (h : (T t).d ≠ .other) : ∃ i d z, P.info? t = some i ∧ P.underlying t = some d ∧ i.size = (T t).size ∧ i.bytes = (T t).bytes ∧ i.zero = some z ∧
    (T t).zero = ofValues z.cells.toList ∧ allOne z.cells.toList = true ∧ (T t).zero.length = (T t).size ∧ DM d (T t).d := by
  rcases hT t with h' | h'
  · exact absurd h' h
  · exact h'.ex

theorem ti_zv (hT : TOk P T) {t : TypeId} (h : (T t).d ≠ .other) : ∃ i z, P.info? t = some i ∧ i.zero = some z ∧ valOf (T t) (T t).zero = ofValue z := by
  rcases hT t with h' | h'
  · exact absurd h' h
  · exact h'.zv

theorem run_isAgg {t : TypeId} {d : TypeDesc} {I : TI} (hu : P.underlying t = some d) (hd : DM d I.d) : (isAgg t).run P w = .ok (isAggT I) w := by
  unfold isAgg
  rw [Sem.run_bind, run_underlying hu w]
  cases d <;> cases hI : I.d <;> rw [hI] at hd <;> simp_all [DM, isAggT] <;> (rename_i k; cases k <;> simp_all [DM])

theorem run_zero {t : TypeId} {i : TypeInfo} {z : Value} (hi : P.info? t = some i) (hz : i.zero = some z) : (zeroValue t).run P w = .ok z w := by
  simp [zeroValue, run_typeInfo w hi, hz]

theorem run_size {t : TypeId} {i : TypeInfo} (hi : P.info? t = some i) : (sizeOf t).run P w = .ok i.size w := by
  simp [sizeOf, run_typeInfo w hi]

/-- A value read from cells that are told. -/
theorem valOf_ok {I : TI} {cs : List V} {x : Nat → Value} (hl : cs.length = szL I) (hx : ∀ (j : Nat) (u : V), cs[j]? = some u → VR ι F w u (x j)) (ho : ∀ j, j < szL I → (x j).oneCell' = true) :
    VR ι F w (valOf I cs) (if isAggT I then .agg (((List.range (szL I)).map x).toArray) else x 0) := by
  cases hI : isAggT I with
  | true =>
    simp only [valOf, hI, if_true]
    refine .agg (by simp [hl]) (fun j y hy => ?_) (fun j v y hv hy => ?_)
    · simp only [List.getElem?_toArray, List.getElem?_map, Option.map_eq_some_iff] at hy
      obtain ⟨q, h1, rfl⟩ := hy
      obtain ⟨h2, rfl⟩ := List.getElem?_eq_some_iff.1 h1
      simp at h2 ⊢
      exact ho j h2
    · simp only [List.getElem?_toArray, List.getElem?_map, Option.map_eq_some_iff] at hy
      obtain ⟨q, h1, rfl⟩ := hy
      obtain ⟨h2, rfl⟩ := List.getElem?_eq_some_iff.1 h1
      simp
      exact hx j v hv
  | false =>
    have : szL I = 1 := by simp [szL, hI]
    rw [this] at hl
    match cs, hl with
    | [v], _ => simpa [valOf, hI] using hx 0 v rfl

theorem run_loadVar_ok {t : TypeId} (hT : TOk P T) (hd : (T t).d ≠ .other) {b off : Nat} {x : Nat → Value}
    (hx : ∀ j, j < szL (T t) → w.cell? ⟨b, off + j, none⟩ = some (x j)) :
    (loadVar t ⟨b, off, none⟩).run P w = .ok (if isAggT (T t) then .agg (((List.range (szL (T t))).map x).toArray) else x 0) w := by
  obtain ⟨i, d, z, hi, hu, hs, _, _, _, _, _, hD⟩ := ti_ok hT hd
  unfold loadVar
  rw [Sem.run_bind, run_isAgg hu hD]
  simp only [Result.andThen_ok]
  cases hI : isAggT (T t) with
  | true =>
    have hsz : szL (T t) = i.size := by simp [szL, hI, hs]
    simp only [if_true, Sem.run_bind, run_size hi, Result.andThen_ok]
    rw [run_loadCells w ⟨b, off, none⟩ i.size x (fun j hj => by rw [add_flat]; exact hx j (by omega)), hsz]
    rfl
  | false =>
    have := hx 0 (by simp [szL, hI])
    simp only [Nat.add_zero] at this
    simp [this]

theorem ev_load (hT : TOk P T) (hw : WR ι F h w) (hf : FR ι F w fr a.tmps) (nid : Nat) {o : Oper} {t : TypeId} {x : Operand} (ho : o.op = .load t x) :
    OpR P ι F h w ((execOp a.eval o).run P w) (evOp std T nid fr h o) := by
  have hx := VR.arg hf x
  simp only [evOp, evPick, evAlloc, evBox, evBuild, evBuildS, evLoad, evStore, evNil, evBin, evUn, evConv, evMkI, evMkF, evSlice, evFAddr, evFld, evIAddr, evIdx, evExtr, evPan, evTA, evCallV, evCallB, ho, execOp, tiOf]
  split
  · trivial
  · rename_i hne
    split
    · rename_i cs hl
      obtain ⟨b, off, y, hp, hlen, hc, hr⟩ := loadN_ok hw hx hl
      refine OpR.same hw (valOf_ok hlen hr (fun j hj => (hc j hj).2)) ?_
      simp only [hp, Instr.loadAt, Instr.sureAddr, Sem.run_bind, Sem.run_pure, Result.andThen_ok]
      rw [run_loadVar_ok hT (fun e => hne e) (fun j hj => (hc j hj).1)]
      rfl
    · trivial

theorem ev_store (hT : TOk P T) (hw : WR ι F h w) (hf : FR ι F w fr a.tmps) (nid : Nat) {o : Oper} {t : TypeId} {x y : Operand} (ho : o.op = .store t x y) :
    OpR P ι F h w ((execOp a.eval o).run P w) (evOp std T nid fr h o) := by
  have hx := VR.arg hf x
  have hy := VR.arg hf y
  simp only [evOp, evPick, evAlloc, evBox, evBuild, evBuildS, evLoad, evStore, evNil, evBin, evUn, evConv, evMkI, evMkF, evSlice, evFAddr, evFld, evIAddr, evIdx, evExtr, evPan, evTA, evCallV, evCallB, ho, execOp, tiOf]
  split
  · trivial
  · rename_i hne
    obtain ⟨i, d, z, hi, hu, hs, _, _, _, _, _, hD⟩ := ti_ok hT (t := t) (fun e => hne e)
    split
    · rename_i vs hvs
      split
      · rename_i hlen
        obtain ⟨c1, c2, c3⟩ := cells_ok hy hvs
        split
        · rename_i h' hst
          obtain ⟨b, off, w', hp, hrun, ex, hw'⟩ := storeN_ok P hw hx (xs := (a.eval y).cells.toList) (by simpa using c1) c2 (fun j u x hu hx => (c3 j u x hu (by simpa using hx)).1) hst
          refine ⟨w', ?_, ex, hw'⟩
          have hl2 : (a.eval y).cells.size = i.size := by
            rw [c1, hs, ← lenV_eq]
            exact Nat.eq_of_beq_eq_true hlen
          simp only [hp, Instr.storeAt, Instr.sureAddr, Sem.run_bind, Sem.run_pure, Result.andThen_ok, storeVar, run_size hi, hl2]
          simp [hrun]
        · trivial
      · trivial
    · trivial

theorem ev_move (hw : WR ι F h w) (hf : FR ι F w fr a.tmps) (nid : Nat) {o : Oper} {x : Operand} (ho : o.op = .move x ∨ o.op = .assign x) :
    OpR P ι F h w ((execOp a.eval o).run P w) (evOp std T nid fr h o) := by
  rcases ho with ho | ho <;> (simp only [evOp, evPick, evAlloc, evBox, evBuild, evBuildS, evLoad, evStore, evNil, evBin, evUn, evConv, evMkI, evMkF, evSlice, evFAddr, evFld, evIAddr, evIdx, evExtr, evPan, evTA, evCallV, evCallB, ho, execOp]; exact OpR.same hw (VR.arg hf x) rfl)

theorem ev_pick (hw : WR ι F h w) (hf : FR ι F w fr a.tmps) (nid : Nat) {o : Oper} {c x y : Operand} (ho : o.op = .pick c x y) :
    OpR P ι F h w ((execOp a.eval o).run P w) (evOp std T nid fr h o) := by
  have hc := VR.arg hf c
  simp only [evOp, evPick, evAlloc, evBox, evBuild, evBuildS, evLoad, evStore, evNil, evBin, evUn, evConv, evMkI, evMkF, evSlice, evFAddr, evFld, evIAddr, evIdx, evExtr, evPan, evTA, evCallV, evCallB, ho, execOp]
  split
  · rename_i t ht
    rw [ht] at hc
    cases t <;> (generalize a.eval c = q at *; cases hc) <;> exact OpR.same hw (VR.arg hf _) (by simp [asBool])
  · trivial

theorem mkOb_ok {nid : Nat} {x : Ob} {v : V} {r : Result Next} (hw : WR ι F h w) (o : Obj) (p : Pl) (hb : p.b = w.heap.size) (hx : x ≠ .free)
    (hob : Ext ι F w (updI ι nid p) F (w.alloc o) → ObR (updI ι nid p) F (w.alloc o) p x)
    (c : Value) (hr : r = .ok (.value c) (w.alloc o)) (hv : VR (updI ι nid p) F (w.alloc o) v c) : OpR P ι F h w r (mkOb h nid x v) := by
  unfold mkOb
  split
  · rename_i h' hn
    obtain ⟨e, hw'⟩ := hw.new hn o p hb hob hx
    exact ⟨c, w.alloc o, updI ι nid p, hr, e, hw', hv⟩
  · trivial

/-- A fresh box. -/
theorem box_ok {nid : Nat} {p : Pl} {cs : List V} {c : Array Value} {t : TypeId} (hp : p = ⟨w.heap.size, 0, 0, 0, 0⟩) (hw : WR ι F h w) (hs : c.size = cs.length)
    (hr : ∀ (j : Nat) (v : V) (x : Value), cs[j]? = some v → c[j]? = some x → VR ι F w v x ∧ x.oneCell' = true)
    (e : Ext ι F w (updI ι nid p) F (w.alloc (.cells c t))) : ObR (updI ι nid p) F (w.alloc (.cells c t)) p (.box cs) := by
  subst hp
  refine ⟨rfl, by simp, fun hF => absurd (hw.old _ hF) (by simp), c, t, (0, 0), by simp only [World.alloc]; exact Array.getElem?_push_size, fun t _ => by simp, hs, fun j v x hv hx => ⟨(hr j v x hv hx).1.mono e, (hr j v x hv hx).2⟩⟩

theorem ev_alloc (hT : TOk P T) (hw : WR ι F h w) (nid : Nat) {o : Oper} {t : TypeId} (ho : o.op = .alloc t) :
    OpR P ι F h w ((execOp a.eval o).run P w) (evOp std T nid fr h o) := by
  simp only [evOp, evPick, evAlloc, evBox, evBuild, evBuildS, evLoad, evStore, evNil, evBin, evUn, evConv, evMkI, evMkF, evSlice, evFAddr, evFld, evIAddr, evIdx, evExtr, evPan, evTA, evCallV, evCallB, ho, execOp, tiOf]
  split
  · trivial
  · rename_i hne
    obtain ⟨i, d, z, hi, hu, hs, _, hz, hzz, hone, hlen, hD⟩ := ti_ok hT (t := t) (fun e => hne e)
    have hcs := VR.consts ι F w z.cells.toList
    rw [← hzz] at hcs
    refine mkOb_ok hw (.cells z.cells t) ⟨w.heap.size, 0, 0, 0, 0⟩ rfl (by simp) (fun e => box_ok rfl hw (by simpa using hcs.1) (fun j v x hv hx => ⟨hcs.2 j v x hv (by simpa using hx), ?_⟩) e)
      (.pointer (some ⟨w.heap.size, 0, none⟩)) ?_ (.bp (p := ⟨w.heap.size, 0, 0, 0, 0⟩) 0 (by simp [updI]))
    · exact allOne_at hone j x (by simpa using hx)
    · simp [Instr.alloc, run_zero hi hz, newVar, newRow]

theorem ev_box (hw : WR ι F h w) (hf : FR ι F w fr a.tmps) (nid : Nat) {o : Oper} {t : TypeId} {x : Operand} (ho : o.op = .box t x) :
    OpR P ι F h w ((execOp a.eval o).run P w) (evOp std T nid fr h o) := by
  have hx := VR.arg hf x
  simp only [evOp, evPick, evAlloc, evBox, evBuild, evBuildS, evLoad, evStore, evNil, evBin, evUn, evConv, evMkI, evMkF, evSlice, evFAddr, evFld, evIAddr, evIdx, evExtr, evPan, evTA, evCallV, evCallB, ho, execOp]
  split
  · rename_i cs hcs
    obtain ⟨c1, c2, c3⟩ := cells_ok hx hcs
    refine mkOb_ok hw (.cells (a.eval x).cells t) ⟨w.heap.size, 0, 0, 0, 0⟩ rfl (by simp) (fun e => box_ok rfl hw c1 c3 e)
      (.pointer (some ⟨w.heap.size, 0, none⟩)) ?_ (.bp (p := ⟨w.heap.size, 0, 0, 0, 0⟩) 0 (by simp [updI]))
    simp [Instr.box, newVar, newRow]
  · trivial
end
end Go.AV
namespace Go.AV
open Go
section
variable {P : Program} {T : TypeId → TI} {ι : Nat → Option Pl} {F : Nat → Prop} {h : Hp} {w : World} {a : Act} {fr : Fr}

theorem ev_nilc (hw : WR ι F h w) (hf : FR ι F w fr a.tmps) (nid : Nat) {o : Oper} {x : Operand} (ho : o.op = .nilCheck x) :
    OpR P ι F h w ((execOp a.eval o).run P w) (evOp std T nid fr h o) := by
  have hx := VR.arg hf x
  simp only [evOp, evPick, evAlloc, evBox, evBuild, evBuildS, evLoad, evStore, evNil, evBin, evUn, evConv, evMkI, evMkF, evSlice, evFAddr, evFld, evIAddr, evIdx, evExtr, evPan, evTA, evCallV, evCallB, ho, execOp]
  generalize arg fr x = v at hx ⊢; generalize a.eval x = c at hx ⊢
  have hx' := hx
  cases hx <;> first | exact True.intro | exact OpR.same hw hx' rfl

theorem ev_un (hw : WR ι F h w) (hf : FR ι F w fr a.tmps) (nid : Nat) {o : Oper} {op : UnOp} {t : TypeId} {x : Operand} (ho : o.op = .unOp op t x) :
    OpR P ι F h w ((execOp a.eval o).run P w) (evOp std T nid fr h o) := by
  have hx := VR.arg hf x
  simp only [evOp, evPick, evAlloc, evBox, evBuild, evBuildS, evLoad, evStore, evNil, evBin, evUn, evConv, evMkI, evMkF, evSlice, evFAddr, evFld, evIAddr, evIdx, evExtr, evPan, evTA, evCallV, evCallB, ho, execOp]
  generalize arg fr x = v at hx ⊢; generalize a.eval x = c at hx ⊢
  cases hx <;> cases op <;> first | exact True.intro | skip
  · rename_i b
    exact OpR.same hw (.bool _) (by cases b <;> simp [Op.unary, nb])
  · exact OpR.same hw (.int _ _) (by simp [Op.unary, Op.intArith, std])

theorem ev_ext (hw : WR ι F h w) (hf : FR ι F w fr a.tmps) (nid : Nat) {o : Oper} {n : Nat} {x : Operand} (ho : o.op = .extract x n) :
    OpR P ι F h w ((execOp a.eval o).run P w) (evOp std T nid fr h o) := by
  have hx := VR.arg hf x
  simp only [evOp, evPick, evAlloc, evBox, evBuild, evBuildS, evLoad, evStore, evNil, evBin, evUn, evConv, evMkI, evMkF, evSlice, evFAddr, evFld, evIAddr, evIdx, evExtr, evPan, evTA, evCallV, evCallB, ho, execOp]
  generalize arg fr x = v at hx ⊢; generalize a.eval x = c at hx ⊢
  cases hx with
  | @tup vs c hs hr =>
    simp only [nthQ_eq]
    split
    · rename_i v hv
      obtain ⟨hn, _⟩ := List.getElem?_eq_some_iff.1 hv
      have h1 : c[n]? = some (c[n]'(by omega)) := Array.getElem?_eq_getElem (by omega)
      exact OpR.same hw (hr n _ _ hv h1) (by simp [Instr.extract, h1])
    · trivial
  | _ => exact True.intro

theorem dm_nif {t : TypeId} {d : TypeDesc} {D' : D} (hD : DM d D') (h1 : D' ≠ .iface) : ∀ ms, d ≠ .interface ms := by
  intro ms e
  subst e
  cases D' <;> simp_all [DM]

theorem ev_mki (hT : TOk P T) (hw : WR ι F h w) (hf : FR ι F w fr a.tmps) (nid : Nat) {o : Oper} {t : TypeId} {x : Operand} (ho : o.op = .makeInterface t x) :
    OpR P ι F h w ((execOp a.eval o).run P w) (evOp std T nid fr h o) := by
  have hx := VR.arg hf x
  simp only [evOp, evPick, evAlloc, evBox, evBuild, evBuildS, evLoad, evStore, evNil, evBin, evUn, evConv, evMkI, evMkF, evSlice, evFAddr, evFld, evIAddr, evIdx, evExtr, evPan, evTA, evCallV, evCallB, ho, execOp, tiOf]
  split
  · trivial
  · trivial
  · rename_i h1 h2
    obtain ⟨i, d, z, hi, hu, _, _, _, _, _, _, hD⟩ := ti_ok hT (t := t) (fun e => h1 e)
    refine OpR.same hw (.ifc t hx) ?_
    simp only [Instr.makeInterface, Sem.run_bind, run_underlying hu w, Result.andThen_ok]
    have := dm_nif (t := t) hD (fun e => h2 e)
    cases d <;> first | rfl | exact absurd rfl (this _)

theorem args_ok (hf : FR ι F w fr a.tmps) (l : List Operand) : (args fr l).length = l.length ∧ ∀ (j : Nat) (v : V) (x : Value), (args fr l)[j]? = some v → (l.map a.eval)[j]? = some x → VR ι F w v x := by
  induction l with
  | nil => exact ⟨rfl, fun j v x hv => by simp [args] at hv⟩
  | cons y t ih =>
    refine ⟨by simp [args, ih.1], fun j v x hv hx => ?_⟩
    cases j with
    | zero =>
      simp [args] at hv hx
      subst hv; subst hx
      exact VR.arg hf y
    | succ j => exact ih.2 j v x (by simpa [args] using hv) (by simpa using hx)

theorem app2_eq (l m : List V) : app2 l m = l ++ m := by induction l <;> simp [app2, *]

theorem ev_mkf (hw : WR ι F h w) (hf : FR ι F w fr a.tmps) (nid : Nat) {o : Oper} {f : FuncId} {first caps : Array Operand} (ho : o.op = .makeFunc (.func f) first caps) :
    OpR P ι F h w ((execOp a.eval o).run P w) (evOp std T nid fr h o) := by
  simp only [evOp, evPick, evAlloc, evBox, evBuild, evBuildS, evLoad, evStore, evNil, evBin, evUn, evConv, evMkI, evMkF, evSlice, evFAddr, evFld, evIAddr, evIdx, evExtr, evPan, evTA, evCallV, evCallB, ho, execOp]
  split
  · rename_i he
    have h1 : first = #[] := by cases first; simp_all
    obtain ⟨l1, l2⟩ := args_ok hf caps.toList
    refine OpR.same hw (c := .func (.func f) #[] (caps.map a.eval)) (.fn f (by simp [l1]) (fun j v x hv hx => l2 j v x hv ?_)) ?_
    · rw [← Array.toList_map]; simpa using hx
    · simp [Instr.makeFunc, h1]
  · rename_i l hne
    split
    · rename_i hc
      have h2 : caps = #[] := by cases caps; simp_all
      obtain ⟨l1, l2⟩ := args_ok hf first.toList
      refine OpR.same hw (c := .func (.func f) (first.map a.eval) #[]) (.fb f (by simp [l1]) (fun j v x hv hx => l2 j v x hv ?_)) ?_
      · rw [← Array.toList_map]; simpa using hx
      · simp [Instr.makeFunc, h2]
    · trivial

theorem ev_mkm (hw : WR ι F h w) (nid : Nat) {o : Oper} {t : TypeId} (ho : o.op = .makeMap t none) :
    OpR P ι F h w ((execOp a.eval o).run P w) (evOp std T nid fr h o) := by
  simp only [evOp, evPick, evAlloc, evBox, evBuild, evBuildS, evLoad, evStore, evNil, evBin, evUn, evConv, evMkI, evMkF, evSlice, evFAddr, evFld, evIAddr, evIdx, evExtr, evPan, evTA, evCallV, evCallB, ho, execOp]
  refine mkOb_ok hw (.map #[] 0) ⟨w.heap.size, 0, 0, 0, 0⟩ rfl (by simp) (fun e => ⟨by simp, fun hF => absurd (hw.old _ hF) (by simp), #[], 0, ?_, rfl, fun i k v m hk => by simp at hk⟩)
    (.map (some w.heap.size)) (by simp [Instr.makeMap]) (.mp (p := ⟨w.heap.size, 0, 0, 0, 0⟩) (by simp [updI]))
  simp only [World.alloc]; exact Array.getElem?_push_size

theorem ev_panic (hw : WR ι F h w) (hf : FR ι F w fr a.tmps) (nid : Nat) {o : Oper} {x : Operand} (ho : o.op = .panic x) :
    OpR P ι F h w ((execOp a.eval o).run P w) (evOp std T nid fr h o) := by
  have hx := VR.arg hf x
  simp only [evOp, evPick, evAlloc, evBox, evBuild, evBuildS, evLoad, evStore, evNil, evBin, evUn, evConv, evMkI, evMkF, evSlice, evFAddr, evFld, evIAddr, evIdx, evExtr, evPan, evTA, evCallV, evCallB, ho, execOp]
  generalize arg fr x = v at hx ⊢; generalize a.eval x = c at hx ⊢
  cases hx with
  | ifc t hv => exact ⟨rfl, _, by simp [Instr.panic], .ifc t hv⟩
  | _ => exact True.intro

theorem fieldOff_at {fs : Array Field} {n : Nat} {o ft : Nat} (h : fieldOff (fs.toList.map (fun f => (f.name != "_", f.offset, f.type))) n = some (o, ft)) :
    ∃ f, fs[n]? = some f ∧ f.offset = o ∧ f.type = ft := by
  rw [← Array.getElem?_toList]
  generalize fs.toList = l at h ⊢
  induction l generalizing n with
  | nil => simp [fieldOff] at h
  | cons f t ih =>
    cases n with
    | zero =>
      simp [fieldOff] at h
      exact ⟨f, by simp, h.1, h.2⟩
    | succ n => simpa using ih (by simpa [fieldOff] using h)

theorem dm_strct {d : TypeDesc} {fs : List (Bool × Nat × TypeId)} (hD : DM d (.strct fs)) : ∃ gs, d = .struct gs ∧ fs = gs.toList.map (fun f => (f.name != "_", f.offset, f.type)) := by
  cases d with
  | struct gs => exact ⟨gs, rfl, by simpa [DM] using hD⟩
  | float k => cases k <;> simp [DM] at hD
  | _ => simp [DM] at hD
theorem dm_slice {d : TypeDesc} {e : TypeId} (hD : DM d (.slice e)) : d = .slice e := by
  cases d with
  | slice gs => simp [DM] at hD; rw [hD]
  | float k => cases k <;> simp [DM] at hD
  | _ => simp [DM] at hD
theorem dm_str {d : TypeDesc} (hD : DM d .str) : d = .string := by
  cases d with
  | string => rfl
  | float k => cases k <;> simp [DM] at hD
  | _ => simp [DM] at hD
theorem dm_int {d : TypeDesc} {k : IntKind} (hD : DM d (.int k)) : d = .int k := by
  cases d with
  | int gs => simp [DM] at hD; rw [hD]
  | float k => cases k <;> simp [DM] at hD
  | _ => simp [DM] at hD

theorem ev_fad (hT : TOk P T) (hw : WR ι F h w) (hf : FR ι F w fr a.tmps) (nid : Nat) {o : Oper} {t : TypeId} {n : Nat} {x : Operand} (ho : o.op = .fieldAddr t x n) :
    OpR P ι F h w ((execOp a.eval o).run P w) (evOp std T nid fr h o) := by
  have hx := VR.arg hf x
  simp only [evOp, evPick, evAlloc, evBox, evBuild, evBuildS, evLoad, evStore, evNil, evBin, evUn, evConv, evMkI, evMkF, evSlice, evFAddr, evFld, evIAddr, evIdx, evExtr, evPan, evTA, evCallV, evCallB, ho, execOp, tiOf]
  generalize arg fr x = v at hx ⊢; generalize a.eval x = c at hx ⊢
  split
  · rename_i fs hfs
    split
    · rename_i off ft hoff
      split
      · trivial
      · rename_i hne
        split
        · trivial
        · rename_i hsz
          obtain ⟨i, d, z, hi, hu, _, _, _, _, _, _, hD⟩ := ti_ok hT (t := t) (by rw [hfs]; simp)
          rw [hfs] at hD
          obtain ⟨gs, rfl, hgs⟩ := dm_strct hD
          rw [hgs] at hoff
          obtain ⟨f, hfn, rfl, rfl⟩ := fieldOff_at hoff
          obtain ⟨i2, d2, z2, hi2, hu2, hs2, _, _, _, _, _, hD2⟩ := ti_ok hT (t := f.type) (fun e => hne e)
          have hs0 : i2.size ≠ 0 := by
            rw [hs2]
            intro e
            rw [e] at hsz
            simp at hsz
          have key : ∀ (b off : Nat), (Instr.fieldAt t (.pointer (some ⟨b, off, none⟩)) n).run P w = .ok (.pointer (some ⟨b, off + f.offset, none⟩)) w := by
            intro b off
            simp only [Instr.fieldAt, Sem.run_bind, run_underlying hu w, Result.andThen_ok, hfn, Instr.sureAddr, Sem.run_pure, fieldPlace, run_size hi2, if_neg hs0, add_flat]
          cases hx with
          | @bp ob' p j hio =>
            refine OpR.same hw (.bp (j + f.offset) hio) ?_
            simp [key, Nat.add_assoc]
          | @ep ob' p i' j hio =>
            refine OpR.same hw (.ep i' (j + f.offset) hio) ?_
            simp [key, Nat.add_assoc]
          | @cp cs b off y hF hy hyo hr =>
            simp only
            split
            · rename_i cs' hc
              obtain ⟨c1, c2, c3⟩ := cut_at hc
              refine OpR.same hw (.cp b (off + f.offset) (fun j => y (f.offset + j)) hF (fun j hj => ?_) (fun j hj => hyo _ (by omega)) (fun j u hu => ?_)) (by simp [key])
              · rw [Nat.add_assoc]; exact hy _ (by omega)
              · have hlt : j < (T f.type).size := by rw [← c1]; exact (List.getElem?_eq_some_iff.1 hu).1
                exact hr _ u (by rw [← c3 j hlt]; exact hu)
            · trivial
          | _ => exact True.intro
    · trivial
  · trivial
end
end Go.AV
namespace Go.AV
open Go
section
variable {P : Program} {T : TypeId → TI} {ι : Nat → Option Pl} {F : Nat → Prop} {h : Hp} {w : World} {a : Act} {fr : Fr}

theorem ev_fld (hT : TOk P T) (hw : WR ι F h w) (hf : FR ι F w fr a.tmps) (nid : Nat) {o : Oper} {t : TypeId} {n : Nat} {x : Operand} (ho : o.op = .field t x n) :
    OpR P ι F h w ((execOp a.eval o).run P w) (evOp std T nid fr h o) := by
  have hx := VR.arg hf x
  simp only [evOp, evPick, evAlloc, evBox, evBuild, evBuildS, evLoad, evStore, evNil, evBin, evUn, evConv, evMkI, evMkF, evSlice, evFAddr, evFld, evIAddr, evIdx, evExtr, evPan, evTA, evCallV, evCallB, ho, execOp, tiOf]
  generalize arg fr x = v at hx ⊢; generalize a.eval x = c at hx ⊢
  cases hfs : (T t).d with
  | strct fs =>
    cases hx with
    | @agg cs c hs hone hr =>
      simp only
      split
      · rename_i off ft hoff
        split
        · trivial
        · rename_i hne
          split
          · rename_i cs' hc
            obtain ⟨i, d, z, hi, hu, _, _, _, _, _, _, hD⟩ := ti_ok hT (t := t) (by rw [hfs]; simp)
            rw [hfs] at hD
            obtain ⟨gs, rfl, hgs⟩ := dm_strct hD
            rw [hgs] at hoff
            obtain ⟨f, hfn, rfl, rfl⟩ := fieldOff_at hoff
            obtain ⟨i2, d2, z2, hi2, hu2, hs2, _, _, _, _, _, hD2⟩ := ti_ok hT (t := f.type) (fun e => hne e)
            obtain ⟨c1, c2, c3⟩ := cut_at hc
            have hget : ∀ j, j < szL (T f.type) → c[f.offset + j]? = some (c[f.offset + j]?.getD undef) := fun j hj => by
              rw [Array.getElem?_eq_getElem (by omega)]; rfl
            refine OpR.same hw (valOf_ok (x := fun j => c[f.offset + j]?.getD undef) c1 (fun j u hu => ?_) (fun j hj => hone _ _ (hget j hj))) ?_
            · have hlt : j < szL (T f.type) := by rw [← c1]; exact (List.getElem?_eq_some_iff.1 hu).1
              exact hr _ u _ (by rw [← c3 j hlt]; exact hu) (hget j hlt)
            · simp only [Instr.field, Sem.run_bind, run_underlying hu w, Result.andThen_ok, hfn, asAgg, Sem.run_pure, part, run_isAgg hu2 hD2]
              cases hI : isAggT (T f.type) with
              | true =>
                have hsz : szL (T f.type) = i2.size := by simp [szL, hI, hs2]
                simp only [if_true, Sem.run_bind, run_size hi2, Result.andThen_ok, Sem.run_pure]
                have : c.extract f.offset (f.offset + i2.size) = ((List.range (szL (T f.type))).map fun j => c[f.offset + j]?.getD undef).toArray := by
                  apply Array.ext
                  · simp [hsz]; omega
                  · intro j h1 h2
                    simp at h2
                    simp [Array.getElem_extract, Array.getElem?_eq_getElem (show f.offset + j < c.size by omega)]
                rw [this]
              | false =>
                have h1 : szL (T f.type) = 1 := by simp [szL, hI]
                have := hget 0 (by omega)
                simp only [Nat.add_zero] at this
                simp only [Bool.false_eq_true, if_false]
                rw [this]
                simp
          · trivial
      · trivial
    | _ => exact True.intro
  | _ => exact True.intro

theorem std_inb {i : Int} {n : Nat} (h : std .inb i n = true) : 0 ≤ i ∧ i < n := by simpa [std] using h
theorem std_le {i : Int} {n : Nat} (h : std .le i n = true) : 0 ≤ i ∧ i ≤ n := by simpa [std] using h

theorem isl_at {sz : Nat} {els : List (List V)} {c : Value} (hx : VR ι F w (.isl sz els) c) : ∃ (a : Option Addr) (cap : Nat), c = .slice a els.length cap ∧ els.length ≤ cap ∧
    ∀ (i : Nat) (e : List V), els[i]? = some e → e.length = sz ∧ ∃ (b off : Nat), a = some ⟨b, off, none⟩ ∧ VR ι F w (.cp e) (.pointer (some ⟨b, off + i * sz, none⟩)) := by
  cases hx with
  | isl a cap _ b off x hc hsz ha hy hr =>
    refine ⟨a, cap, rfl, hc, fun i e he => ?_⟩
    have hm := List.mem_of_getElem? he
    have hne : els ≠ [] := fun e' => by subst e'; cases hm
    have hl := hsz e hm
    have hi := (List.getElem?_eq_some_iff.1 he).1
    have hb : i * sz + sz ≤ els.length * sz := by
      have : (i + 1) * sz ≤ els.length * sz := Nat.mul_le_mul_right _ (by omega)
      rw [Nat.add_mul] at this; omega
    refine ⟨hl, b, off, (ha hne).1, .cp b (off + i * sz) (fun j => x (i * sz + j)) (ha hne).2 (fun j hj => ?_) (fun j hj => (hy hne _ (by omega)).2) (fun j v hv => hr i j e v he hv)⟩
    rw [Nat.add_assoc]
    exact (hy hne _ (by omega)).1

theorem ev_iad (hT : TOk P T) (hw : WR ι F h w) (hf : FR ι F w fr a.tmps) (nid : Nat) {o : Oper} {t : TypeId} {x i : Operand} (ho : o.op = .indexAddr t x i) :
    OpR P ι F h w ((execOp a.eval o).run P w) (evOp std T nid fr h o) := by
  have hx := VR.arg hf x
  have hi := VR.arg hf i
  simp only [evOp, evPick, evAlloc, evBox, evBuild, evBuildS, evLoad, evStore, evNil, evBin, evUn, evConv, evMkI, evMkF, evSlice, evFAddr, evFld, evIAddr, evIdx, evExtr, evPan, evTA, evCallV, evCallB, ho, execOp, tiOf]
  generalize arg fr x = v at hx ⊢; generalize a.eval x = c at hx ⊢
  generalize arg fr i = u at hi ⊢; generalize a.eval i = d at hi ⊢
  cases hd : (T t).d with
  | slice e =>
    obtain ⟨it, dt, z, hit, hut, _, _, _, _, _, _, hD⟩ := ti_ok hT (t := t) (by rw [hd]; simp)
    rw [hd] at hD
    have hdt := dm_slice hD
    subst hdt
    have hx0 := hx
    simp only
    split
    · trivial
    rename_i hoth
    have hoth : (T e).d ≠ .other := fun e' => hoth e'
    cases hx with
    | isl a' cap sz b off y hc hsz ha hy hr =>
      rename_i els
      cases hi with
      | int k n =>
        simp only
        split
        · rename_i hbe
          split
          · rename_i hin
            split
            · rename_i cs hg
              obtain ⟨h0, h1⟩ := std_inb hin
              have hg' : els[n.toNat]? = some cs := hg
              obtain ⟨a2, cap2, hc2, _, hall⟩ := isl_at hx0
              cases hc2
              obtain ⟨hl, b2, off2, ha2, hv⟩ := hall _ _ hg'
              have hse : sz = (T e).size := Nat.eq_of_beq_eq_true hbe
              refine OpR.same hw hv ?_
              subst ha2
              · obtain ⟨ie, de, ze, hie, _, hes, _⟩ := ti_ok hT hoth
                simp only [Instr.indexAt, asIntOf, Sem.run_bind, Sem.run_pure, Result.andThen_ok, run_underlying hut w]
                have : (0 ≤ n ∧ n < (els.length : Int)) := ⟨h0, h1⟩
                simp [this, run_size hie, add_flat, hes, hse]
            · trivial
          · trivial
        · trivial
      | _ => exact True.intro
    | osl off len cap a' hio hl hn hc ha hsm =>
      rename_i ob' p
      cases hi with
      | int k n =>
        simp only
        split
        · rename_i sz els hob
          split
          · rename_i hbe
            split
            · rename_i hin
              obtain ⟨h0, h1⟩ := std_inb hin
              have hse : sz = (T e).size := Nat.eq_of_beq_eq_true hbe
              have hobr := hw.obj _ p hio
              rw [hob] at hobr
              obtain ⟨hpsz, _⟩ := hobr
              refine OpR.same hw (.ep (off + n.toNat) 0 hio) ?_
              have ha' := ha.resolve_left (by omega)
              subst ha'
              · obtain ⟨ie, de, ze, hie, _, hes, _⟩ := ti_ok hT hoth
                simp only [Instr.indexAt, asIntOf, Sem.run_bind, Sem.run_pure, Result.andThen_ok, run_underlying hut w]
                have : (0 ≤ n ∧ n < (len : Int)) := ⟨h0, h1⟩
                simp [this, run_size hie, add_flat, hes, ← hse, hpsz, Nat.add_mul, Nat.add_assoc]
            · trivial
          · trivial
        · trivial
      | _ => exact True.intro
    | _ => exact True.intro
  | _ => exact True.intro
end
end Go.AV
namespace Go.AV
open Go
section
variable {P : Program} {T : TypeId → TI} {ι : Nat → Option Pl} {F : Nat → Prop} {h : Hp} {w : World} {a : Act} {fr : Fr}

theorem ev_idx (hT : TOk P T) (hw : WR ι F h w) (hf : FR ι F w fr a.tmps) (nid : Nat) {o : Oper} {t : TypeId} {x i : Operand} (ho : o.op = .index t x i) :
    OpR P ι F h w ((execOp a.eval o).run P w) (evOp std T nid fr h o) := by
  have hx := VR.arg hf x
  have hi := VR.arg hf i
  simp only [evOp, evPick, evAlloc, evBox, evBuild, evBuildS, evLoad, evStore, evNil, evBin, evUn, evConv, evMkI, evMkF, evSlice, evFAddr, evFld, evIAddr, evIdx, evExtr, evPan, evTA, evCallV, evCallB, ho, execOp, tiOf]
  generalize arg fr x = v at hx ⊢; generalize a.eval x = c at hx ⊢
  generalize arg fr i = u at hi ⊢; generalize a.eval i = d at hi ⊢
  cases hd : (T t).d with
  | str =>
    obtain ⟨it, dt, z, hit, hut, _, _, _, _, _, _, hD⟩ := ti_ok hT (t := t) (by rw [hd]; simp)
    rw [hd] at hD
    have hdt := dm_str hD
    subst hdt
    cases hx with
    | @str s l hs =>
      cases hi with
      | int k n =>
        simp only
        split
        · rename_i hin
          split
          · rename_i b hb
            obtain ⟨h0, h1⟩ := std_inb hin
            have hb' : l[n.toNat]?.map UInt8.toNat = some b := hb
            subst hs
            have hsz : s.size = s.data.toList.length := by rw [Array.length_toList]; rfl
            have h1' : n.toNat < s.size := by
              have : std .slen s.data.toList = s.data.toList.length := rfl
              omega
            have hget : s[n.toNat]? = some (s[n.toNat]'h1') := getElem?_pos s n.toNat h1'
            have hb2 : (s[n.toNat]'h1').toNat = b := by
              have : s.data.toList[n.toNat]? = some (s[n.toNat]'h1') := by
                rw [List.getElem?_eq_getElem (by omega)]; rfl
              rw [this] at hb'
              simpa using hb'
            refine OpR.same hw (.int _ _) ?_
            simp only [Instr.index, asIntOf, Sem.run_bind, Sem.run_pure, Result.andThen_ok, run_underlying hut w, h0, if_true, hget, hb2]
            rfl
          · trivial
        · trivial
      | _ => exact True.intro
    | _ => exact True.intro
  | _ => exact True.intro

theorem run_bound {c : Value} {k : IntKind} {n : Int} {y : Nat} (code : BoundsCode) (hc : c = .int k n) (h0 : 0 ≤ n) (h1 : n ≤ y) : (Instr.sliceBound c y code).run P w = .ok n.toNat w := by
  subst hc
  simp [Instr.sliceBound, asIntOf, h0, h1]

theorem bound_of (hf : FR ι F w fr a.tmps) {q : Operand} {k : IntKind} {n : Int} (h : arg fr q = .int k n) : a.eval q = .int k n := by
  have := VR.arg hf q
  rw [h] at this
  generalize a.eval q = c at *
  cases this
  rfl

theorem run_bounds (hf : FR ι F w fr a.tmps) (isS : Bool) (len cap : Nat) (hlc : len ≤ cap) (lo hi : Option Operand) {kl km : IntKind} {l m : Int}
    (hl : (match lo with | some l => arg fr l | none => V.int .i64 0) = .int kl l) (hm : (match hi with | some m => arg fr m | none => V.int .i64 (std .ofN len)) = .int km m)
    (h1 : 0 ≤ m ∧ m ≤ cap) (h2 : 0 ≤ l ∧ l ≤ m.toNat) : (Instr.sliceBounds isS len cap (lo.map a.eval) (hi.map a.eval) none).run P w = .ok (l.toNat, m.toNat, cap) w := by
  cases hi with
  | none =>
    simp only [std, V.int.injEq] at hm
    obtain ⟨_, rfl⟩ := hm
    cases lo with
    | none =>
      simp only [V.int.injEq] at hl
      obtain ⟨_, rfl⟩ := hl
      simp [Instr.sliceBounds]
    | some q =>
      simp only [Instr.sliceBounds, Sem.run_bind, Sem.run_pure, Result.andThen_ok, Option.map_none, Option.map_some, run_bound (P := P) (w := w) (y := len) _ (bound_of hf hl) h2.1 (by omega)]
      simp
  | some r =>
    cases lo with
    | none =>
      simp only [V.int.injEq] at hl
      obtain ⟨_, rfl⟩ := hl
      simp only [Instr.sliceBounds, Sem.run_bind, Sem.run_pure, Result.andThen_ok, Option.map_none, Option.map_some, run_bound (P := P) (w := w) (y := cap) _ (bound_of hf hm) h1.1 (by omega)]
      simp
    | some q =>
      simp only [Instr.sliceBounds, Sem.run_bind, Sem.run_pure, Result.andThen_ok, Option.map_some, run_bound (P := P) (w := w) (y := cap) _ (bound_of hf hm) h1.1 (by omega),
        run_bound (P := P) (w := w) (y := m.toNat) _ (bound_of hf hl) h2.1 h2.2]

theorem isl_sub {sz : Nat} {els : List (List V)} {c : Value} (hx : VR ι F w (.isl sz els) c) (l m : Nat) (hl : l ≤ m) (hm : m ≤ els.length) : ∃ (a : Option Addr) (cap : Nat), c = .slice a els.length cap ∧ els.length ≤ cap ∧
    VR ι F w (.isl sz ((els.take m).drop l)) (.slice (if cap = l then a else a.map (·.add (l * sz))) (m - l) (cap - l)) := by
  cases hx with
  | isl a cap _ b off x hc hsz ha hy hr =>
    refine ⟨a, cap, rfl, hc, ?_⟩
    have hlen : ((els.take m).drop l).length = m - l := by simp; omega
    rw [← hlen]
    have hsub : ∀ i e, ((els.take m).drop l)[i]? = some e → els[l + i]? = some e := by
      intro i e he
      rw [List.getElem?_drop, List.getElem?_take] at he
      split at he
      · exact he
      · cases he
    refine .isl _ (cap - l) sz b (off + l * sz) (fun t => x (l * sz + t)) (by omega) (fun e he => ?_) (fun hne => ?_) (fun hne t ht => ?_) (fun i j e v he hv => ?_)
    · obtain ⟨i, hi⟩ := List.getElem?_of_mem he
      exact hsz e (List.mem_of_getElem? (hsub i e hi))
    · have hpos : 0 < ((els.take m).drop l).length := List.length_pos_iff.2 hne
      have hne' : els ≠ [] := fun e => by subst e; simp at hpos
      obtain ⟨h1, h2⟩ := ha hne'
      refine ⟨?_, h2⟩
      rw [if_neg (by omega), h1]
      simp [add_flat]
    · have hpos : 0 < ((els.take m).drop l).length := List.length_pos_iff.2 hne
      have hne' : els ≠ [] := fun e => by subst e; simp at hpos
      have hb : l * sz + t < els.length * sz := by
        rw [hlen] at ht
        have : (m - l) * sz + l * sz ≤ els.length * sz := by rw [← Nat.add_mul]; exact Nat.mul_le_mul_right _ (by omega)
        omega
      have := hy hne' (l * sz + t) hb
      rw [show off + l * sz + t = off + (l * sz + t) by omega]
      exact this
    · have := hr (l + i) j e v (hsub i e he) hv
      rw [Nat.add_mul, Nat.add_assoc] at this
      exact this

theorem ev_slice (hT : TOk P T) (hw : WR ι F h w) (hf : FR ι F w fr a.tmps) (nid : Nat) {o : Oper} {t : TypeId} {x : Operand} {lo hi : Option Operand} (ho : o.op = .slice t x lo hi none) :
    OpR P ι F h w ((execOp a.eval o).run P w) (evOp std T nid fr h o) := by
  have hx := VR.arg hf x
  simp only [evOp, evPick, evAlloc, evBox, evBuild, evBuildS, evLoad, evStore, evNil, evBin, evUn, evConv, evMkI, evMkF, evSlice, evFAddr, evFld, evIAddr, evIdx, evExtr, evPan, evTA, evCallV, evCallB, ho, execOp, tiOf]
  split
  · rename_i kl l hl
    generalize arg fr x = v at hx ⊢; generalize a.eval x = c at hx ⊢
    cases hd : (T t).d with
    | str =>
      obtain ⟨it, dt, z, hit, hut, _, _, _, _, _, _, hD⟩ := ti_ok hT (t := t) (by rw [hd]; simp)
      rw [hd] at hD
      have hdt := dm_str hD
      subst hdt
      cases hx with
      | @str s q hs =>
        simp only
        split
        · rename_i km m hm
          split
          · rename_i h1
            split
            · rename_i h2
              have h1' := std_le h1
              have h2' : 0 ≤ l ∧ l ≤ (m.toNat : Int) := std_le h2
              subst hs
              have hsz : s.size = s.data.toList.length := by rw [Array.length_toList]; rfl
              have hsl : std .slen s.data.toList = s.size := by rw [hsz]; rfl
              have hrb := run_bounds (P := P) (w := w) hf false s.size s.size (Nat.le_refl _) lo hi hl (by rw [← hm, hsl]; cases hi <;> rfl) (by rw [← hsl]; exact h1') h2'
              refine OpR.same hw (c := .string (s.extract l.toNat m.toNat)) (.str ?_) ?_
              · rw [Lib.extract_data]
                exact (List.drop_take ..).symm
              · simp only [Option.map_none, Instr.sliceAt, Sem.run_bind, run_underlying hut w, Result.andThen_ok, Instr.slice]
                simp [hrb]
            · trivial
          · trivial
        · trivial
      | _ => exact True.intro
    | slice e =>
      obtain ⟨it, dt, z, hit, hut, _, _, _, _, _, _, hD⟩ := ti_ok hT (t := t) (by rw [hd]; simp)
      rw [hd] at hD
      have hdt := dm_slice hD
      subst hdt
      have hx0 := hx
      cases hx with
      | isl a' cap sz b off y hc hsz ha hy hr =>
        rename_i els
        simp only
        split
        · trivial
        rename_i hoth
        have hoth : (T e).d ≠ .other := fun e' => hoth e'
        split
        · rename_i km m hm
          split
          · rename_i hbe
            split
            · rename_i h1
              split
              · rename_i h2
                have h1' := std_le h1
                have h2' : 0 ≤ l ∧ l ≤ (m.toNat : Int) := std_le h2
                have hse : sz = (T e).size := Nat.eq_of_beq_eq_true hbe
                have hlen : std .len els = els.length := rfl
                obtain ⟨ie, de, ze, hie, _, hes, _⟩ := ti_ok hT hoth
                have hrb := run_bounds (P := P) (w := w) hf true els.length cap hc lo hi hl (by rw [← hm, hlen]; cases hi <;> rfl) ⟨h1'.1, by rw [hlen] at h1'; omega⟩ h2'
                obtain ⟨a2, cap2, hc2, _, hv⟩ := isl_sub hx0 l.toNat m.toNat (by omega) (by rw [hlen] at h1'; omega)
                cases hc2
                refine OpR.same hw hv ?_
                simp only [Option.map_none, Instr.sliceAt, Sem.run_bind, run_underlying hut w, Result.andThen_ok, Instr.slice, hrb]
                simp [run_size hie, hes, hse]
              · trivial
            · trivial
          · trivial
        · trivial
      | nils =>
        simp only
        split
        · trivial
        rename_i hoth
        have hoth : (T e).d ≠ .other := fun e' => hoth e'
        split
        · rename_i km m hm
          split
          · rename_i h1
            split
            · rename_i h2
              have h1' := std_le h1
              have h2' : 0 ≤ l ∧ l ≤ (m.toNat : Int) := std_le h2
              have hrb := run_bounds (P := P) (w := w) hf true 0 0 (Nat.le_refl _) lo hi hl (by rw [← hm]; cases hi <;> rfl) h1' h2'
              have q1 : m.toNat = 0 := by omega
              have q2 : l.toNat = 0 := by omega
              obtain ⟨ie, de, ze, hie, _, hes, _⟩ := ti_ok hT hoth
              refine OpR.same hw (c := .slice none 0 0) .nils ?_
              simp only [Option.map_none, Instr.sliceAt, Sem.run_bind, run_underlying hut w, Result.andThen_ok, Instr.slice, hrb]
              simp [run_size hie, q1, q2]
            · trivial
          · trivial
        · trivial
      | osl off len cap a' hio hl' hn hc ha hsm =>
        rename_i ob' p
        simp only
        split
        · trivial
        rename_i hoth
        have hoth : (T e).d ≠ .other := fun e' => hoth e'
        split
        · rename_i km m hm
          split
          · rename_i sz els hob
            split
            · rename_i hbe
              split
              · rename_i h1
                split
                · rename_i h2
                  have h2' : 0 ≤ l ∧ l ≤ (m.toNat : Int) := std_le h2
                  have hse : sz = (T e).size := Nat.eq_of_beq_eq_true hbe
                  obtain ⟨ie, de, ze, hie, _, hes, _⟩ := ti_ok hT hoth
                  have hobr := hw.obj _ p hio
                  rw [hob] at hobr
                  have hpsz : p.sz = sz := hobr.1
                  have hpn : els.length = p.n := hobr.2.1.1
                  have hpc : els.length ≤ p.cap := hobr.2.1.2
                  clear hobr
                  have h1' : 0 ≤ m ∧ m ≤ (cap : Int) ∧ off + m.toNat ≤ p.n := by
                    split at h1
                    · rename_i h1a
                      have := std_le h1a
                      omega
                    · have := std_le (n := std .nsub (std .len els) off) h1
                      have e1 : (std .nsub (std .len els) off : Nat) = els.length - off := rfl
                      rw [e1] at this
                      omega
                  have hrb := run_bounds (P := P) (w := w) hf true len cap hl' lo hi hl (by rw [← hm]; cases hi <;> rfl) ⟨h1'.1, h1'.2.1⟩ h2'
                  have q1 : l.toNat ≤ m.toNat := by omega
                  have q3 : m.toNat - l.toNat ≤ cap - l.toNat := by omega
                  have q4 : off + l.toNat + (cap - l.toNat) = p.cap := by omega
                  refine OpR.same hw (c := .slice (if cap = l.toNat then a' else a'.map (·.add (l.toNat * sz))) (m.toNat - l.toNat) (cap - l.toNat))
                    (.osl (off + l.toNat) (m.toNat - l.toNat) (cap - l.toNat) _ hio q3 (by omega) q4 ?_ (by split <;> simpa using hsm)) ?_
                  · by_cases hcl : cap = l.toNat
                    · exact .inl (by omega)
                    · refine .inr ?_
                      rw [if_neg hcl]
                      rw [ha.resolve_left (by omega)]
                      simp [add_flat, hpsz, Nat.add_mul, Nat.add_assoc]
                  · simp only [Option.map_none, Instr.sliceAt, Sem.run_bind, run_underlying hut w, Result.andThen_ok, Instr.slice, hrb]
                    simp [run_size hie, hes, hse]
                · trivial
              · trivial
            · trivial
          · trivial
        · trivial
      | _ => exact True.intro
    | _ => exact True.intro
  · trivial

theorem ev_slice3 (hT : TOk P T) (hw : WR ι F h w) (hf : FR ι F w fr a.tmps) (nid : Nat) {o : Oper} {t : TypeId} {x ql qm qu : Operand} (ho : o.op = .slice t x (some ql) (some qm) (some qu)) :
    OpR P ι F h w ((execOp a.eval o).run P w) (evOp std T nid fr h o) := by
  have hx := VR.arg hf x
  simp only [evOp, evSlice3, ho, execOp, tiOf]
  generalize arg fr x = v at hx ⊢; generalize a.eval x = c at hx ⊢
  split
  · rename_i e ob' off len hd
    obtain ⟨it, dt, z, hit, hut, _, _, _, _, _, _, hD⟩ := ti_ok hT (t := t) (by rw [hd]; simp)
    rw [hd] at hD
    have hdt := dm_slice hD
    subst hdt
    cases hx with
    | osl _ _ cap a' hio hl' hn hc ha hsm =>
      split
      · trivial
      · rename_i hoth
        obtain ⟨ie, de, ze, hie, _, hes, _⟩ := ti_ok hT (t := e) (fun e' => hoth e')
        split
        · rename_i k1 l k2 m k3 u hl hm hu
          split
          · rename_i h1 h2 h3
            have h1' := std_le h1
            have h2' := std_le h2
            have h3' := std_le h3
            simp only [std] at h2' h3'
            have hrb : (Instr.sliceBounds true len cap (some (a.eval ql)) (some (a.eval qm)) (some (a.eval qu))).run P w = .ok (l.toNat, m.toNat, u.toNat) w := by
              simp only [Instr.sliceBounds, Sem.run_bind, Sem.run_pure, Result.andThen_ok, run_bound (P := P) (w := w) (y := cap) _ (bound_of hf hu) h1'.1 (by omega),
                run_bound (P := P) (w := w) (y := u.toNat) _ (bound_of hf hm) h2'.1 h2'.2, run_bound (P := P) (w := w) (y := m.toNat) _ (bound_of hf hl) h3'.1 h3'.2]
            refine OpR.same hw (.undef (.slice (if u.toNat = l.toNat then a' else a'.map (·.add (l.toNat * ie.size))) (m.toNat - l.toNat) (u.toNat - l.toNat))) ?_
            simp only [Option.map_some, Instr.sliceAt, Sem.run_bind, run_underlying hut w, Result.andThen_ok, Instr.slice, hrb]
            simp [run_size hie]
          · trivial
        · trivial
  · trivial
end
end Go.AV
namespace Go.AV
open Go
section
variable {P : Program} {T : TypeId → TI} {ι : Nat → Option Pl} {F : Nat → Prop} {h : Hp} {w : World} {a : Act} {fr : Fr}

theorem ev_call (hw : WR ι F h w) (hf : FR ι F w fr a.tmps) (nid : Nat) {o : Oper} {f : Operand} {as : Array Operand} {ts : Array TypeId} (ho : o.op = .call { callee := .value f, args := as, argTypes := ts }) :
    OpR P ι F h w ((execOp a.eval o).run P w) (evOp std T nid fr h o) := by
  have hx := VR.arg hf f
  simp only [evOp, evPick, evAlloc, evBox, evBuild, evBuildS, evLoad, evStore, evNil, evBin, evUn, evConv, evMkI, evMkF, evSlice, evFAddr, evFld, evIAddr, evIdx, evExtr, evPan, evTA, evCallV, evCallB, ho, execOp]
  generalize arg fr f = v at hx ⊢; generalize hc : a.eval f = c at hx ⊢
  cases hx with
  | @fn caps cs g hs hr =>
    obtain ⟨l1, l2⟩ := args_ok hf as.toList
    refine ⟨rfl, as.map a.eval ++ cs, ?_, ?_, fun j v x hv hx => ?_⟩
    · simp [resolve, Deferred.ofValue, invoke, hc]
    · rw [app2_eq]; simp [l1, hs]
    · rw [app2_eq] at hv
      rw [Array.getElem?_append] at hx
      rw [List.getElem?_append] at hv
      simp only [Array.size_map] at hx
      rw [l1] at hv
      simp only [Array.length_toList] at hv
      split at hx
      · rename_i hlt
        rw [if_pos hlt] at hv
        refine l2 j v x hv ?_
        rw [← Array.toList_map]; simpa using hx
      · rename_i hlt
        rw [if_neg hlt] at hv
        exact hr _ v x hv hx
  | @fb first cs g hs hr =>
    obtain ⟨l1, l2⟩ := args_ok hf as.toList
    refine ⟨rfl, cs ++ as.map a.eval, ?_, ?_, fun j v x hv hx => ?_⟩
    · simp [resolve, Deferred.ofValue, invoke, hc]
    · rw [app2_eq]; simp [l1, hs]
    · rw [app2_eq] at hv
      rw [Array.getElem?_append] at hx
      rw [List.getElem?_append] at hv
      rw [← hs] at hv
      split at hx
      · rename_i hlt
        rw [if_pos hlt] at hv
        exact hr _ v x hv hx
      · rename_i hlt
        rw [if_neg hlt] at hv
        refine l2 _ v x hv ?_
        rw [← Array.toList_map]; simpa using hx
  | _ => exact True.intro

theorem args_cons {as : Array Operand} {v : V} {r : List V} (h : args fr as.toList = v :: r) : ∃ x t, as.toList = x :: t ∧ arg fr x = v ∧ args fr t = r := by
  cases hl : as.toList with
  | nil => rw [hl] at h; simp [args] at h
  | cons x t => rw [hl] at h; simp [args] at h; exact ⟨x, t, rfl, h.1, h.2⟩
theorem args_one {as : Array Operand} {v : V} (h : args fr as.toList = [v]) : ∃ x, as = #[x] ∧ arg fr x = v := by
  obtain ⟨x, t, h1, h2, h3⟩ := args_cons h
  cases t with
  | nil => exact ⟨x, by cases as; simp_all, h2⟩
  | cons y t => simp [args] at h3
theorem args_two {as : Array Operand} {u v : V} (h : args fr as.toList = [u, v]) : ∃ x y, as = #[x, y] ∧ arg fr x = u ∧ arg fr y = v := by
  obtain ⟨x, t, h1, h2, h3⟩ := args_cons h
  cases t with
  | nil => simp [args] at h3
  | cons y t =>
    simp [args] at h3
    cases t with
    | nil => exact ⟨x, y, by cases as; simp_all, h2, h3.1⟩
    | cons z t => simp [args] at h3

theorem ts_cons {ts : Array TypeId} {t : TypeId} {r : List TypeId} (h : ts.toList = t :: r) : ts[0]? = some t := by
  rw [← Array.getElem?_toList, h]; rfl
theorem ts_cons2 {ts : Array TypeId} {t u : TypeId} {r : List TypeId} (h : ts.toList = t :: u :: r) : ts[1]? = some u := by
  rw [← Array.getElem?_toList, h]; rfl

theorem ev_len (hT : TOk P T) (hw : WR ι F h w) (hf : FR ι F w fr a.tmps) {as : Array Operand} {ts : Array TypeId} {ty : TypeId} {x : V} {t : TypeId} {r : List TypeId} (h1 : args fr as.toList = [x]) (h2 : ts.toList = t :: r) :
    OpR P ι F h w (((Builtin.len_ ts ty (as.map a.eval)).run P w).andThen fun c w' => .ok (.value c) w') (match (generalizing := false) (T t).d, x with
      | .str, .str s => .val (.int .i64 (std .ofN (std .slen s))) h
      | .slice _, .isl _ els => .val (.int .i64 (std .ofN (std .len els))) h
      | .slice _, .nils => .val (.int .i64 0) h
      | .slice _, .osl _ _ n => .val (.int .i64 (std .ofN n)) h
      | _, _ => .bad 22) := by
  obtain ⟨q, rfl, hq⟩ := args_one h1
  have hx := VR.arg hf q
  rw [hq] at hx
  generalize hc : a.eval q = c at hx
  have ht0 := ts_cons h2
  cases hd : (T t).d with
  | str =>
    obtain ⟨it, dt, z, hit, hut, _, _, _, _, _, _, hD⟩ := ti_ok hT (t := t) (by rw [hd]; simp)
    rw [hd] at hD
    have hdt := dm_str hD
    subst hdt
    cases hx with
    | @str s l hs =>
      refine OpR.same hw (.int _ _) ?_
      subst hs
      have : std .ofN (std .slen s.data.toList) = (s.size : Int) := by simp only [std]; rw [Array.length_toList]; rfl
      simp [Builtin.len_, ht0, hc, run_underlying hut w, goInt, this]
    | _ => exact True.intro
  | slice e =>
    obtain ⟨it, dt, z, hit, hut, _, _, _, _, _, _, hD⟩ := ti_ok hT (t := t) (by rw [hd]; simp)
    rw [hd] at hD
    have hdt := dm_slice hD
    subst hdt
    cases hx with
    | nils => exact OpR.same hw (.int _ _) (by simp [Builtin.len_, ht0, hc, run_underlying hut w, goInt])
    | isl => exact OpR.same hw (.int _ _) (by simp [Builtin.len_, ht0, hc, run_underlying hut w, goInt, std])
    | osl => exact OpR.same hw (.int _ _) (by simp [Builtin.len_, ht0, hc, run_underlying hut w, goInt, std])
    | _ => exact True.intro
  | _ => exact True.intro

theorem two_ints (hf : FR ι F w fr a.tmps) {as : Array Operand} {k k' : IntKind} {m n : Int} (h1 : args fr as.toList = [.int k m, .int k' n]) : as.map a.eval = #[.int k m, .int k' n] := by
  obtain ⟨q, r, rfl, hq, hr⟩ := args_two h1
  have e1 := bound_of hf hq
  have e2 := bound_of hf hr
  simp [e1, e2]

theorem ev_tas (hT : TOk P T) (hw : WR ι F h w) (hf : FR ι F w fr a.tmps) (nid : Nat) {o : Oper} {u t : TypeId} {x : Operand} (ho : o.op = .typeAssert x u t true) :
    OpR P ι F h w ((execOp a.eval o).run P w) (evOp std T nid fr h o) := by
  have hx := VR.arg hf x
  simp only [evOp, evPick, evAlloc, evBox, evBuild, evBuildS, evLoad, evStore, evNil, evBin, evUn, evConv, evMkI, evMkF, evSlice, evFAddr, evFld, evIAddr, evIdx, evExtr, evPan, evTA, evCallV, evCallB, ho, execOp, tiOf]
  generalize arg fr x = v at hx ⊢; generalize a.eval x = c at hx ⊢
  split
  · trivial
  · trivial
  · rename_i h1 h2
    obtain ⟨i, d, z, hi, hu, hs, _, hz, hzz, hone, hlen, hD⟩ := ti_ok hT (t := t) (fun e => h1 e)
    have hnif := dm_nif (t := t) hD (fun e => h2 e)
    have hzero : VR ι F w (valOf (T t) (T t).zero) z := by
      obtain ⟨i2, z2, g1, g2, g3⟩ := ti_zv hT (t := t) (fun e => h1 e)
      rw [hi] at g1
      cases g1
      rw [hz] at g2
      cases g2
      rw [g3]
      exact .const ..
    have pair : ∀ {v c b}, VR ι F w v c → VR ι F w (.tup [v, .bool b]) (.tuple #[c, .bool b]) := fun {v c b} hv =>
      .tup rfl (fun j v x hv' hx => by
        match j with
        | 0 => simp at hv' hx; subst hv'; subst hx; exact hv
        | 1 => simp at hv' hx; subst hv'; subst hx; exact .bool _
        | j + 2 => simp at hv')
    have hm : ∀ (t' : TypeId) (y : Value), (Instr.typeAssert (.iface t' y) u t true).run P w = if t' = t then .ok (.tuple #[y, .bool true]) w else .ok (.tuple #[z, .bool false]) w := by
      intro t' y
      simp only [Instr.typeAssert, Sem.run_bind, run_underlying hu w, Result.andThen_ok]
      cases d <;> first | exact absurd rfl (hnif _) | (by_cases e : t' = t <;> simp [e, run_zero hi hz])
    have hm2 : (Instr.typeAssert .nilIface u t true).run P w = .ok (.tuple #[z, .bool false]) w := by
      simp only [Instr.typeAssert, Sem.run_bind, run_underlying hu w, Result.andThen_ok]
      cases d <;> first | exact absurd rfl (hnif _) | simp [run_zero hi hz]
    cases hx with
    | ifc t' hv =>
      simp only
      split
      · rename_i hb
        have e := Nat.eq_of_beq_eq_true hb
        exact OpR.same hw (pair hv) (by simp [hm, e])
      · rename_i hb
        have e : t' ≠ t := fun e => by subst e; simp at hb
        exact OpR.same hw (pair hzero) (by simp [hm, e])
    | nili => exact OpR.same hw (pair hzero) (by simp [hm2])
    | _ => exact True.intro
end
end Go.AV
namespace Go.AV
open Go
section
variable {P : Program} {T : TypeId → TI} {ι : Nat → Option Pl} {F : Nat → Prop} {h : Hp} {w : World} {a : Act} {fr : Fr}

theorem range_getD {n : Nat} {x : Nat → Value} {j : Nat} (hj : j < n) : (((List.range n).map x))[j]? = some (x j) := by simp [hj]

/-- The cells of what is appended, copied, turned into a text. -/
theorem elsOf_ok (P : Program) (hw : WR ι F h w) {v : V} {c : Value} (hv : VR ι F w v c) {sz : Nat} {els : List (List V)} (he : elsOf std h sz v = some els) :
    (∀ w', (Builtin.lenOf c).run P w' = .ok els.length w') ∧ (∀ e ∈ els, e.length = sz) ∧ ∃ xs : List Value, xs.length = els.length * sz ∧
      (∀ w', w'.heap = w.heap → (Builtin.firstCells sz els.length c).run P w' = .ok xs.toArray w') ∧ (∀ x ∈ xs, x.oneCell' = true) ∧
      ∀ (i j : Nat) (e : List V) (v : V) (x : Value), els[i]? = some e → e[j]? = some v → xs[i * sz + j]? = some x → VR ι F w v x := by
  have cellw : ∀ (w' : World), w'.heap = w.heap → ∀ p, w'.cell? p = w.cell? p := fun w' hh p => by simp [World.cell?, hh]
  cases hv with
  | nils =>
    simp only [elsOf, Option.some.injEq] at he
    subst he
    exact ⟨fun w' => by simp [Builtin.lenOf], fun e he => (by cases he), [], by simp, fun w' _ => by simp [Builtin.firstCells], (fun x hx => by cases hx), (fun i j e v x hi => by simp at hi)⟩
  | @str s l hs =>
    simp only [elsOf] at he
    split at he
    · rename_i hb
      have hsz := Nat.eq_of_beq_eq_true hb
      subst hsz
      simp only [Option.some.injEq] at he
      subst he
      subst hs
      have hlen : (std .bytes s.data.toList).length = s.size := by simp only [std, List.length_map, Array.length_toList]; rfl
      refine ⟨fun w' => by simp [Builtin.lenOf, hlen], fun e he => ?_, s.data.toList.map fun b => .int .u8 b.toNat, by rw [hlen]; simp, fun w' _ => ?_, fun x hx => ?_, fun i j e v x hi hj hx => ?_⟩
      · simp only [std, List.mem_map] at he
        obtain ⟨b, _, rfl⟩ := he
        rfl
      · simp only [Builtin.firstCells, Sem.run_pure]
        rw [hlen]
        congr 1
        apply Array.ext'
        rw [Array.toList_map, Lib.extract_data]
        have h1 : (s.data.toList.drop 0).take (s.size - 0) = s.data.toList := by
          rw [List.drop_zero, List.take_of_length_le (by rw [Array.length_toList]; exact Nat.le_refl _)]
        rw [h1]
      · simp only [List.mem_map] at hx
        obtain ⟨b, _, rfl⟩ := hx
        rfl
      · simp only [std, List.getElem?_map, Option.map_eq_some_iff] at hi hx
        obtain ⟨b, hb1, rfl⟩ := hi
        obtain ⟨b2, hb2, rfl⟩ := hx
        cases j with
        | zero =>
          rw [show i * 1 + 0 = i by omega] at hb2
          simp only [List.getElem?_cons_zero, Option.some.injEq] at hj
          rw [hb1] at hb2
          cases hb2
          subst hj
          exact .int _ _
        | succ j => simp at hj
    · cases he
  | @isl els0 ad cap sz' b off x hc hsz ha hy hr =>
    simp only [elsOf] at he
    split at he
    · rename_i hb
      have hsz' := Nat.eq_of_beq_eq_true hb
      subst hsz'
      simp only [Option.some.injEq] at he
      subst he
      refine ⟨fun w' => by simp [Builtin.lenOf], hsz, ?_⟩
      by_cases hne : els0 = []
      · subst hne
        refine ⟨[], by simp, fun w' _ => ?_, (fun x hx => by cases hx), (fun i j e v x hi => by simp at hi)⟩
        cases ad with
        | none => simp [Builtin.firstCells]
        | some ad => simp [Builtin.firstCells, loadCells, loadCellsFrom]
      · obtain ⟨h1, h2⟩ := ha hne
        subst h1
        refine ⟨(List.range (els0.length * sz')).map x, by simp, fun w' hh => ?_, fun y hy' => ?_, fun i j e v y hi hj hy' => ?_⟩
        · simp only [Builtin.firstCells]
          exact run_loadCells w' ⟨b, off, none⟩ (els0.length * sz') x (fun t ht => by rw [add_flat, cellw w' hh]; exact (hy hne t ht).1)
        · simp only [List.mem_map, List.mem_range] at hy'
          obtain ⟨t, ht, rfl⟩ := hy'
          exact (hy hne t ht).2
        · have hlt : i * sz' + j < els0.length * sz' := by
            have := (List.getElem?_eq_some_iff.1 hy').1
            simpa using this
          rw [range_getD hlt] at hy'
          cases hy'
          exact hr i j e v hi hj
    · cases he
  | @osl o p off len cap ad hio hl hn hc ha =>
    simp only [elsOf] at he
    have hob := hw.obj o p hio
    cases hoo : ob h o <;> rw [hoo] at he hob <;> simp only [reduceCtorEq] at he
    rename_i s es
    split at he
    · rename_i hb
      have hsz' := Nat.eq_of_beq_eq_true hb
      subst hsz'
      simp only [Option.some.injEq] at he
      obtain ⟨hpsz, ⟨hpn, hcap⟩, hall, hrow⟩ := hob
      have hels : els = (es.take (off + len)).drop off := he.symm
      have hlen : els.length = len := by rw [hels]; simp; omega
      have hsub : ∀ i e, els[i]? = some e → es[off + i]? = some e := by
        intro i e hi
        rw [hels, List.getElem?_drop, List.getElem?_take] at hi
        split at hi
        · exact hi
        · cases hi
      refine ⟨fun w' => by simp [Builtin.lenOf, hlen], fun e he => ?_, ?_⟩
      · obtain ⟨i, hi⟩ := List.getElem?_of_mem he
        exact hall e (List.mem_of_getElem? (hsub i e hi))
      · by_cases h0 : len = 0
        · have : els = [] := List.eq_nil_of_length_eq_zero (by omega)
          rw [this]
          refine ⟨[], by simp, fun w' _ => ?_, (fun x hx => by cases hx), (fun i j e v x hi => by simp at hi)⟩
          cases ad with
          | none => simp [Builtin.firstCells]
          | some ad => simp [Builtin.firstCells, loadCells, loadCellsFrom]
        · have had := ha.resolve_left (by omega)
          subst had
          rcases hrow with h1 | ⟨_, _, cc, e, fr', hcc, _, hroom, hr⟩
          · omega
          · have hin : ∀ t, t < len * s → p.off + (off * s + t) < cc.size := fun t ht => by
              have : (off + len) * s ≤ p.cap * s := Nat.mul_le_mul_right _ (by omega)
              rw [Nat.add_mul] at this
              omega
            have hget : ∀ t, t < len * s → cc[p.off + (off * s + t)]? = some (cc[p.off + (off * s + t)]?.getD undef) := fun t ht => by
              rw [Array.getElem?_eq_getElem (hin t ht)]; rfl
            have hone : ∀ t, t < len * s → (cc[p.off + (off * s + t)]?.getD undef).oneCell' = true := fun t ht => by
              have hs0 : 0 < s := by
                rcases Nat.eq_zero_or_pos s with h | h
                · subst h; simp at ht
                · exact h
              have hi1 : t / s < len := (Nat.div_lt_iff_lt_mul hs0).2 ht
              have hi2 : off + t / s < es.length := by omega
              have hi3 : t % s < s := Nat.mod_lt _ hs0
              have e1 : es[off + t / s]? = some (es[off + t / s]'hi2) := List.getElem?_eq_getElem hi2
              have l1 := hall _ (List.mem_of_getElem? e1)
              have e2 : (es[off + t / s]'hi2)[t % s]? = some ((es[off + t / s]'hi2)[t % s]'(by omega)) := List.getElem?_eq_getElem (by omega)
              refine (hr (off + t / s) (t % s) _ _ _ e1 e2 ?_).2
              rw [Nat.add_mul, Nat.add_assoc, show t / s * s + t % s = t by rw [Nat.mul_comm]; exact Nat.div_add_mod t s]
              exact hget t ht
            refine ⟨(List.range (len * s)).map fun t => cc[p.off + (off * s + t)]?.getD undef, by simp [hlen], fun w' hh => ?_, fun y hy' => ?_, fun i j e v y hi hj hy' => ?_⟩
            · simp only [Builtin.firstCells, hlen]
              refine run_loadCells w' ⟨p.b, p.off + off * p.sz, none⟩ (len * s) _ (fun t ht => ?_)
              rw [add_flat, cellw w' hh, cell_row hcc, hpsz, Nat.add_assoc]
              exact hget t ht
            · simp only [List.mem_map, List.mem_range] at hy'
              obtain ⟨t, ht, rfl⟩ := hy'
              exact hone t ht
            · have hlt : i * s + j < len * s := by
                have := (List.getElem?_eq_some_iff.1 hy').1
                simpa using this
              rw [range_getD hlt] at hy'
              cases hy'
              have := hget _ hlt
              rw [show p.off + (off * s + (i * s + j)) = p.off + ((off + i) * s + j) by rw [Nat.add_mul]; omega] at this ⊢
              exact (hr (off + i) j e v _ (hsub i e hi) hj this).1
    · cases he
  | _ => simp [elsOf] at he
end
end Go.AV
namespace Go.AV
open Go
section
variable {P : Program} {T : TypeId → TI} {ι : Nat → Option Pl} {F : Nat → Prop} {h : Hp} {w : World} {a : Act} {fr : Fr}

theorem Ext.drew (ι F w) : Ext ι F w ι F w.drew := ⟨fun _ _ h => h, fun _ h => h, fun _ _ => rfl, Nat.le_refl _, rfl, rfl, rfl⟩
theorem WR.drew (hw : WR ι F h w) : WR ι F h w.drew := by
  have e := Ext.drew ι F w
  exact ⟨hw.free, fun o p h => (hw.obj o p h).mono e (fun _ => rfl), hw.has, hw.apart, hw.old⟩

theorem append_room (t u ty e : TypeId) (i : TypeInfo) (d : TypeDesc) {ts : Array TypeId} (h0 : ts[0]? = some t) (h1 : ts[1]? = some u) (ht : P.underlying t = some (.slice e)) (hu : P.underlying u = some d)
    (hd : (∃ e', d = .slice e') ∨ d = .string) (hi : P.info? e = some i) (base : Option Addr) (sLen sCap n : Nat) (x : Value) (hn : ∀ w', (Builtin.lenOf x).run P w' = .ok n w')
    (xs : List Value) (hx : ∀ w', w'.heap = w.heap → (Builtin.firstCells i.size n x).run P w' = .ok xs.toArray w') (hroom : sLen + n ≤ sCap) (w' : World)
    (hs : base = none ∧ w' = w ∨ ∃ ad, base = some ad ∧ (storeCells (ad.add (sLen * i.size)) xs).run P w = .ok () w') :
    (Builtin.append_ ts ty #[.slice base sLen sCap, x]).run P w = .ok (.slice base (sLen + n) sCap) w' := by
  have hx' := hx w rfl
  rcases hs with ⟨rfl, rfl⟩ | ⟨ad, rfl, hs⟩
  · rcases hd with ⟨e', rfl⟩ | rfl <;> simp [Builtin.append_, h0, h1, run_underlying ht, run_underlying hu, run_size hi, hn, hroom, hx']
  · rcases hd with ⟨e', rfl⟩ | rfl <;> simp [Builtin.append_, h0, h1, run_underlying ht, run_underlying hu, run_size hi, hn, hroom, hx', hs]

theorem append_grow (t u ty e : TypeId) (i : TypeInfo) (z : Value) (d : TypeDesc) {ts : Array TypeId} (h0 : ts[0]? = some t) (h1 : ts[1]? = some u) (ht : P.underlying t = some (.slice e)) (hu : P.underlying u = some d)
    (hd : (∃ e', d = .slice e') ∨ d = .string) (hi : P.info? e = some i) (hz : i.zero = some z) (base : Option Addr) (sLen sCap n : Nat) (x : Value) (hn : ∀ w', (Builtin.lenOf x).run P w' = .ok n w')
    (xs ss : List Value) (hx : ∀ w', w'.heap = w.heap → (Builtin.firstCells i.size n x).run P w' = .ok xs.toArray w')
    (hs : ∀ w', w'.heap = w.heap → (Builtin.firstCells i.size sLen (.slice base sLen sCap)).run P w' = .ok ss.toArray w')
    (hroom : sCap < sLen + n) (hb : (sLen + n) * i.bytes ≤ 140737488355328) (h32 : sLen + n ≤ 4294967296) :
    (Builtin.append_ ts ty #[.slice base sLen sCap, x]).run P w = .ok (.slice (some ⟨w.heap.size, 0, none⟩) (sLen + n) (grownCap w (sLen + n) sCap e))
      (w.drew.alloc (.cells ((ss ++ xs).toArray ++ Builtin.zeroCells z.cells (grownCap w (sLen + n) sCap e - (sLen + n))) e)) := by
  have hx' := hx w.drew rfl
  have hs' := hs w.drew rfl
  have hn1 : ¬ (sLen + n ≤ sCap) := by omega
  have h63' : ¬ (9223372036854775807 < ((sLen : Int) + (n : Int))) := by omega
  have hfit := growslice_fits hroom hb
  have h48' : ¬ (281474976710656 < Builtin.nextslicecap (sLen + n) sCap * i.bytes) := by omega
  rcases hd with ⟨e', rfl⟩ | rfl <;> simp [Builtin.append_, h0, h1, run_underlying ht, run_underlying hu, sizeOf, typeInfo, zeroValue, hi, hz, hn, hn1, h63', h48', Question.forced, hx', hs', newRow, grownCap]
  all_goals (congr 2; apply Array.ext'; simp [List.append_assoc])

/-- A new object without room, in no block. -/
theorem mkOb_empty {nid sz : Nat} {v : V} {r : Result Next} (hw : WR ι F h w) (p : Pl) (hp : p.cap = 0) (hn : p.n = 0) (hsz : p.sz = sz) (c : Value) (hr : r = .ok (.value c) w)
    (hv : VR (updI ι nid p) F w v c) : OpR P ι F h w r (mkOb h nid (.arr sz []) v) := by
  unfold mkOb
  split
  · rename_i h' hnew
    obtain ⟨hf, hob⟩ := ob_newOb hnew
    have hik := hw.free nid hf
    have e : Ext ι F w (updI ι nid p) F w := ⟨fun o q hq => by
      unfold updI; rw [if_neg (fun e => by subst e; rw [hik] at hq; cases hq)]; exact hq, fun _ h => h, fun _ _ => rfl, Nat.le_refl _, rfl, rfl, rfl⟩
    refine ⟨c, w, updI ι nid p, hr, e, hw.upd nid e (fun o q hne h' => ?_) (fun _ _ _ _ _ => rfl) (fun o hne => by rw [hob, if_neg hne]) (fun q hq => ?_) (fun _ => ⟨p, by simp [updI]⟩)
      (fun hfr => by rw [hob, if_pos rfl] at hfr; cases hfr) (fun q hq hr' => ?_), hv⟩
    · unfold updI at h'; rw [if_neg hne] at h'; exact h'
    · simp only [updI, if_true, Option.some.injEq] at hq
      subst hq
      rw [hob, if_pos rfl]
      exact ⟨hsz, ⟨by simp [hn], by simp⟩, by simp, .inl hp⟩
    · simp only [updI, if_true, Option.some.injEq] at hq
      subst hq
      rw [hob, if_pos rfl] at hr'
      exact absurd hp hr'
  · trivial

/-- A row of elements in a new block. -/
theorem arr_ok {nid sz cap : Nat} {els : List (List V)} {xs : List Value} {zs : Array Value} {e : TypeId} (hw : WR ι F h w) (hlen : xs.length = els.length * sz) (hall : ∀ e ∈ els, e.length = sz) (hcap : els.length ≤ cap)
    (hz : zs.size = (cap - els.length) * sz) (hone : ∀ x ∈ xs, x.oneCell' = true)
    (hr : ∀ (i j : Nat) (e : List V) (v : V) (x : Value), els[i]? = some e → e[j]? = some v → xs[i * sz + j]? = some x → VR ι F w v x) (w0 : World) (hw0 : w0.heap.size = w.heap.size) (hF : ∀ b, F b → b < w0.heap.size)
    (ex : Ext ι F w (updI ι nid ⟨w.heap.size, 0, sz, els.length, cap⟩) F (w0.alloc (.cells (xs.toArray ++ zs) e))) :
    ObR (updI ι nid ⟨w.heap.size, 0, sz, els.length, cap⟩) F (w0.alloc (.cells (xs.toArray ++ zs) e)) ⟨w.heap.size, 0, sz, els.length, cap⟩ (.arr sz els) := by
  refine ⟨rfl, ⟨rfl, hcap⟩, hall, .inr ⟨by simp [hw0], fun hF' => absurd (hF _ hF') (by simp [hw0]), xs.toArray ++ zs, e, (0, 0), ?_, fun t _ => by simp, ?_, fun i j l v x hi hj hx => ?_⟩⟩
  · simp only [World.alloc, ← hw0]; exact Array.getElem?_push_size
  · simp [hlen, hz, ← Nat.add_mul]
    rw [show els.length + (cap - els.length) = cap by omega]
    exact Nat.le_refl _
  · have hjl : j < sz := by
      have := hall l (List.mem_of_getElem? hi)
      have := (List.getElem?_eq_some_iff.1 hj).1
      omega
    have hil : i < els.length := (List.getElem?_eq_some_iff.1 hi).1
    have hlt : i * sz + j < xs.length := by
      have : (i + 1) * sz ≤ els.length * sz := Nat.mul_le_mul_right _ (by omega)
      rw [Nat.add_mul] at this; omega
    simp only [Nat.zero_add] at hx
    rw [Array.getElem?_append_left (by simpa using hlt)] at hx
    have hx' : xs[i * sz + j]? = some x := by simpa using hx
    exact ⟨(hr i j l v x hi hj hx').mono ex, hone x (List.mem_of_getElem? hx')⟩

end
end Go.AV
namespace Go.AV
open Go
section
variable {P : Program} {T : TypeId → TI} {ι : Nat → Option Pl} {F : Nat → Prop} {h : Hp} {w : World} {a : Act} {fr : Fr}

theorem putRows_get {els new : List (List V)} {k : Nat} (hl : k + new.length ≤ els.length) (i : Nat) :
    (putRows std els k new)[i]? = if k ≤ i ∧ i < k + new.length then new[i - k]? else els[i]? := by
  have e : putRows std els k new = els.take k ++ (new ++ els.drop (k + new.length)) := by simp [putRows, std]
  rw [e]
  have ht : (els.take k).length = k := by simp; omega
  rcases Nat.lt_or_ge i k with h1 | h1
  · rw [List.getElem?_append_left (by omega), List.getElem?_take, if_pos h1, if_neg (by omega)]
  · rw [List.getElem?_append_right (by omega), ht]
    rcases Nat.lt_or_ge i (k + new.length) with h2 | h2
    · rw [List.getElem?_append_left (by omega), if_pos ⟨h1, h2⟩]
    · rw [List.getElem?_append_right (by omega), List.getElem?_drop, if_neg (by omega)]
      congr 1; omega

theorem putRows_length {els new : List (List V)} {k : Nat} (hl : k + new.length ≤ els.length) : (putRows std els k new).length = els.length := by
  have e : putRows std els k new = els.take k ++ (new ++ els.drop (k + new.length)) := by simp [putRows, std]
  rw [e]; simp; omega

/-- The same object again. -/
theorem WR.again (hw : WR ι F h w) {o : Nat} (hnf : ob h o ≠ .free) {x : Ob} (hx : ob h o = x) : WR ι F (setOb h o x) w := by
  have hob' : ∀ q, ob (setOb h o x) q = ob h q := fun q => by
    rw [ob_setOb h o q _ hnf]
    split
    · subst q; exact hx.symm
    · rfl
  exact ⟨fun q hq => hw.free q (by rw [← hob' q]; exact hq), fun q p hq => by rw [hob']; exact hw.obj q p hq, fun q h1 h2 => hw.has q (by rw [← hob' q]; exact h1) (by rw [← hob' q]; exact h2),
    fun q q' p p' hne h1 h2 h3 h4 => hw.apart q q' p p' hne h1 h2 (by rw [← hob' q]; exact h3) (by rw [← hob' q']; exact h4), hw.old⟩

/-- Rows laid over those from k on. -/
theorem put_rows (P : Program) (hw : WR ι F h w) {o : Nat} {p : Pl} {k sz : Nat} {els new : List (List V)} {xs : List Value} (hi : ι o = some p) (hob : ob h o = .arr sz els) (hn : k + new.length ≤ els.length)
    (hxl : xs.length = new.length * sz) (hall : ∀ e ∈ new, e.length = sz) (hone : ∀ x ∈ xs, x.oneCell' = true)
    (hx : ∀ (i j : Nat) (e : List V) (v : V) (x : Value), new[i]? = some e → e[j]? = some v → xs[i * sz + j]? = some x → VR ι F w v x) :
    ∃ w' : World, (storeCells ⟨p.b, p.off + k * p.sz, none⟩ xs).run P w = .ok () w' ∧ Ext ι F w ι F w' ∧ WR ι F (setOb h o (.arr sz (putRows std els k new))) w' := by
  have ho := hw.obj o p hi
  rw [hob] at ho
  obtain ⟨hsz, ⟨hpn, hcap⟩, hall', hrow⟩ := ho
  have hnf : ob h o ≠ .free := by rw [hob]; simp
  rcases hrow with h0' | ⟨hb1, hb2, c, e, fr, hc', ht, hroom, hr⟩
  · have h1 : new = [] := List.eq_nil_of_length_eq_zero (by omega)
    subst h1
    have h2 : xs = [] := List.eq_nil_of_length_eq_zero (by simpa using hxl)
    subst h2
    refine ⟨w, rfl, Ext.refl .., hw.again hnf ?_⟩
    rw [hob]
    congr 1
    apply List.ext_getElem?
    intro i
    rw [putRows_get hn, if_neg (by simp)]
  have hmul : k * sz + new.length * sz ≤ p.cap * sz := by
    have : (k + new.length) * sz ≤ p.cap * sz := Nat.mul_le_mul_right _ (by omega)
    rw [Nat.add_mul] at this; omega
  by_cases hc0 : p.cap = 0
  · have h1 : new = [] := List.eq_nil_of_length_eq_zero (by omega)
    subst h1
    have h2 : xs = [] := List.eq_nil_of_length_eq_zero (by simpa using hxl)
    subst h2
    refine ⟨w, rfl, Ext.refl .., hw.again hnf ?_⟩
    rw [hob]
    congr 1
    apply List.ext_getElem?
    intro i
    rw [putRows_get hn, if_neg (by simp)]
  obtain ⟨w', c', r1, r2, r3, r4, r5, r6, r7, r8, r9⟩ := storeCells_ok P p.b (p.off + k * p.sz) xs 0 w c e fr hc' ht (by rw [hxl, hsz]; omega) hone
  have ex : Ext ι F w ι F w' := ⟨fun _ _ h => h, fun _ h => h, fun b hb => r5 b (fun e => hb2 (e ▸ hb)), by omega, r7, r8, r9⟩
  have hreal : Real p (ob h o) := by rw [hob]; exact hc0
  have hob' : ∀ q, ob (setOb h o (.arr sz (putRows std els k new))) q = if q = o then .arr sz (putRows std els k new) else ob h q := fun q => ob_setOb h o q _ hnf
  refine ⟨w', r1, ex, hw.upd o ex (fun _ _ _ h => h) (fun q pq hne hiq hrq => r5 _ ?_) (fun q hne => by rw [hob', if_neg hne]) (fun p' hp' => ?_)
    (fun _ => ⟨p, hi⟩) (fun hfr => by rw [hob', if_pos rfl] at hfr; cases hfr) (fun p' hp' hrp q pq hne hiq hrq => ?_)⟩
  · exact hw.apart q o pq p hne hiq hi hrq hreal
  · rw [hi] at hp'; cases hp'
    rw [hob', if_pos rfl]
    refine ⟨hsz, ⟨by rw [putRows_length hn]; exact hpn, by rw [putRows_length hn]; exact hcap⟩, fun l hl' => ?_, .inr ⟨by omega, hb2, c', e, fr, r2, by rw [r3]; exact ht, by omega, fun i' j' l u x hi' hj' hx' => ?_⟩⟩
    · obtain ⟨i, hi'⟩ := List.mem_iff_getElem?.1 hl'
      rw [putRows_get hn] at hi'
      split at hi'
      · exact hall l (List.mem_of_getElem? hi')
      · exact hall' l (List.mem_of_getElem? hi')
    · rw [putRows_get hn] at hi'
      rw [r4, hxl] at hx'
      by_cases hin : k ≤ i' ∧ i' < k + new.length
      · rw [if_pos hin] at hi'
        have hj'lt : j' < sz := by
          have := hall l (List.mem_of_getElem? hi')
          have := (List.getElem?_eq_some_iff.1 hj').1
          omega
        have hmul2 : (i' - k) * sz + k * sz = i' * sz := by rw [← Nat.add_mul]; congr 1; omega
        have hmul3 : (i' - k) * sz + sz ≤ new.length * sz := by
          have : (i' - k + 1) * sz ≤ new.length * sz := Nat.mul_le_mul_right _ (by omega)
          rw [Nat.add_mul] at this; omega
        rw [if_pos (by rw [hsz]; omega)] at hx'
        rw [show p.off + (i' * sz + j') - (p.off + k * p.sz + 0) = (i' - k) * sz + j' by rw [hsz]; omega] at hx'
        exact ⟨(hx (i' - k) j' l u x hi' hj' hx').mono ex, hone x (List.mem_of_getElem? hx')⟩
      · rw [if_neg hin] at hi'
        have hj'lt : j' < sz := by
          have := hall' l (List.mem_of_getElem? hi')
          have := (List.getElem?_eq_some_iff.1 hj').1
          omega
        have hno : ¬ (p.off + k * p.sz + 0 ≤ p.off + (i' * sz + j') ∧ p.off + (i' * sz + j') < p.off + k * p.sz + 0 + new.length * sz) := by
          rw [hsz]
          rintro ⟨q1, q2⟩
          apply hin
          refine ⟨?_, ?_⟩
          · rcases Nat.lt_or_ge i' k with h' | h'
            · have : (i' + 1) * sz ≤ k * sz := Nat.mul_le_mul_right _ (by omega)
              rw [Nat.add_mul] at this; omega
            · exact h'
          · rcases Nat.lt_or_ge i' (k + new.length) with h' | h'
            · exact h'
            · have : (k + new.length) * sz ≤ i' * sz := Nat.mul_le_mul_right _ h'
              rw [Nat.add_mul] at this; omega
        rw [if_neg hno] at hx'
        exact ⟨(hr i' j' l u x hi' hj' hx').1.mono ex, (hr i' j' l u x hi' hj' hx').2⟩
  · rw [hi] at hp'; cases hp'
    exact hw.apart o q p pq (fun e => hne e.symm) hi hiq hreal hrq
end
end Go.AV
namespace Go.AV
open Go
section
variable {P : Program} {T : TypeId → TI} {ι : Nat → Option Pl} {F : Nat → Prop} {h : Hp} {w : World} {a : Act} {fr : Fr}

theorem OpR.anyh {h1 h2 h3 : Hp} {nid : Nat} {x : Ob} {v : V} {r : Result Next} (h' : OpR P ι F h1 w r (mkOb h3 nid x v)) : OpR P ι F h2 w r (mkOb h3 nid x v) := by
  unfold mkOb at h' ⊢
  split
  · rename_i q hq; rw [hq] at h'; exact h'
  · trivial

theorem roomy_ok {bytes n : Nat} (h : roomy std bytes n = true) : bytes ≤ 1024 ∧ n ≤ 4294967296 := by
  unfold roomy at h
  split at h
  · rename_i hb
    exact ⟨Nat.le_of_ble_eq_true hb, by simpa [std] using h⟩
  · cases h

theorem size_zeroCells' (z : Array Value) (n : Nat) : (Builtin.zeroCells z n).size = n * z.size := by simp [Builtin.zeroCells]

/-- The tail of an append that takes a new row. -/
theorem append_new {nid sz : Nat} {old new : List (List V)} {ss xs : List Value} {h2 : Hp} {r : Result Next} {z : Array Value} {e : TypeId} {cap : Nat} (hw : WR ι F h2 w)
    (ho : (∀ e ∈ old, e.length = sz) ∧ ss.length = old.length * sz ∧ (∀ x ∈ ss, x.oneCell' = true) ∧
      ∀ (i j : Nat) (e : List V) (v : V) (x : Value), old[i]? = some e → e[j]? = some v → ss[i * sz + j]? = some x → VR ι F w v x)
    (hn : (∀ e ∈ new, e.length = sz) ∧ xs.length = new.length * sz ∧ (∀ x ∈ xs, x.oneCell' = true) ∧
      ∀ (i j : Nat) (e : List V) (v : V) (x : Value), new[i]? = some e → e[j]? = some v → xs[i * sz + j]? = some x → VR ι F w v x)
    (hcap : old.length + new.length ≤ cap) (hz : z.size = sz)
    (hr : r = .ok (.value (.slice (some ⟨w.heap.size, 0, none⟩) (old.length + new.length) cap)) (w.drew.alloc (.cells ((ss ++ xs).toArray ++ Builtin.zeroCells z (cap - (old.length + new.length))) e))) :
    OpR P ι F h2 w r (mkOb h2 nid (.arr sz (old ++ new)) (.osl nid 0 (old.length + new.length))) := by
  have hwd := hw.drew
  have ed := Ext.drew ι F w
  have hlen : (old ++ new).length = old.length + new.length := List.length_append
  have key := arr_ok (nid := nid) (sz := sz) (cap := cap) (els := old ++ new) (xs := ss ++ xs) (zs := Builtin.zeroCells z (cap - (old.length + new.length))) (e := e) hw
    (by simp [ho.2.1, hn.2.1, Nat.add_mul]) (fun l hl => (List.mem_append.1 hl).elim (ho.1 l) (hn.1 l)) (by omega) (by rw [size_zeroCells', hz, hlen])
    (fun x hx => (List.mem_append.1 hx).elim (ho.2.2.1 x) (hn.2.2.1 x)) (fun i j l v x hi hj hx => ?_) w.drew rfl hw.old
  · have := mkOb_ok (P := P) (nid := nid) (x := .arr sz (old ++ new)) (v := .osl nid 0 (old.length + new.length)) (r := r) hwd
      (.cells ((ss ++ xs).toArray ++ Builtin.zeroCells z (cap - (old.length + new.length))) e) ⟨w.heap.size, 0, sz, (old ++ new).length, cap⟩ rfl (by simp)
      (fun e' => key (ed.trans e')) _ hr (.osl (p := ⟨w.heap.size, 0, sz, (old ++ new).length, cap⟩) 0 _ cap _ (by simp [updI]) hcap (by simp) (by simp) (.inr (by simp)) rfl)
    unfold mkOb at this ⊢
    split
    · rename_i h' hnew
      rw [hnew] at this
      obtain ⟨c, w', ι', h1, h3, h4, h5⟩ := this
      exact ⟨c, w', ι', h1, ed.trans h3, h4, h5⟩
    · trivial
  · rw [List.getElem?_append] at hi
    split at hi
    · rename_i hlt
      have hjl : j < sz := by
        have := ho.1 l (List.mem_of_getElem? hi)
        have := (List.getElem?_eq_some_iff.1 hj).1
        omega
      have : i * sz + j < ss.length := by
        have : (i + 1) * sz ≤ old.length * sz := Nat.mul_le_mul_right _ (by omega)
        rw [Nat.add_mul] at this
        rw [ho.2.1]; omega
      rw [List.getElem?_append_left this] at hx
      exact ho.2.2.2 i j l v x hi hj hx
    · rename_i hge
      have hge' : old.length ≤ i := by omega
      have h1 : ss.length ≤ i * sz + j := by
        have : old.length * sz ≤ i * sz := Nat.mul_le_mul_right _ hge'
        rw [ho.2.1]; omega
      rw [List.getElem?_append_right h1] at hx
      refine hn.2.2.2 (i - old.length) j l v x hi hj ?_
      rw [← hx]
      congr 1
      rw [ho.2.1, Nat.sub_mul]
      have : old.length * sz ≤ i * sz := Nat.mul_le_mul_right _ hge'
      omega

theorem rows_mono {ι' F' w'} {sz : Nat} {els : List (List V)} {xs : List Value} (ex : Ext ι F w ι' F' w')
    (hr : ∀ (i j : Nat) (e : List V) (v : V) (x : Value), els[i]? = some e → e[j]? = some v → xs[i * sz + j]? = some x → VR ι F w v x) :
    ∀ (i j : Nat) (e : List V) (v : V) (x : Value), els[i]? = some e → e[j]? = some v → xs[i * sz + j]? = some x → VR ι' F' w' v x :=
  fun i j e v x hi hj hx => (hr i j e v x hi hj hx).mono ex

theorem ev_append (hT : TOk P T) (hw : WR ι F h w) (hf : FR ι F w fr a.tmps) (nid : Nat) {as : Array Operand} {ts : Array TypeId} {ty : TypeId} {s x : V} {t u e : TypeId} {r : List TypeId}
    (h1 : args fr as.toList = [s, x]) (h2 : ts.toList = t :: u :: r) (hd : (T t).d = .slice e) (hu : (match (T u).d with | .slice _ => true | .str => true | _ => false) = true) (he : (T e).d ≠ .other) :
    OpR P ι F h w (((Builtin.append_ ts ty (as.map a.eval)).run P w).andThen fun c w' => .ok (.value c) w') (match (generalizing := false) elsOf std h (T e).size x with
          | some new => match (generalizing := false) s with
            | .nils => match new with
              | [] => .val .nils h
              | _ => match roomy std (T e).bytes (std .len new) with
                | true => mkOb h nid (.arr (T e).size new) (.osl nid 0 (std .len new))
                | false => .bad 21
            | .osl o off len => match ob h o with
              | .arr sz els => match Nat.beq sz (T e).size with
                | true => match Nat.ble (std .nadd off (std .nadd len (std .len new))) (std .len els) with
                  | true => .val (.osl o off (std .nadd len (std .len new))) (setOb h o (.arr sz (putRows std els (std .nadd off len) new)))
                  | false => match roomy std (T e).bytes (std .nadd len (std .len new)) with
                  | true => mkOb (setOb h o .dead) nid (.arr sz (std .app (std .sub els off (std .nadd off len)) new)) (.osl nid 0 (std .nadd len (std .len new)))
                  | false => .bad 21
                | false => .bad 21
              | _ => .bad 21
            | _ => .bad 21
          | none => .bad 21) := by
  obtain ⟨q1, q2, rfl, hq1, hq2⟩ := args_two h1
  have hs := VR.arg hf q1
  have hx := VR.arg hf q2
  rw [hq1] at hs
  rw [hq2] at hx
  have ht0 := ts_cons h2
  have ht1 := ts_cons2 h2
  obtain ⟨it, dt, zt, hit, hut, _, _, _, _, _, _, hD⟩ := ti_ok hT (t := t) (by rw [hd]; simp)
  rw [hd] at hD
  have hdt := dm_slice hD
  subst hdt
  obtain ⟨du, hudu, hdu⟩ : ∃ du, P.underlying u = some du ∧ ((∃ e', du = .slice e') ∨ du = .string) := by
    obtain ⟨iu, du, zu, hiu, huu, _, _, _, _, _, _, hDu⟩ := ti_ok hT (t := u) (fun e => by rw [e] at hu; simp at hu)
    refine ⟨du, huu, ?_⟩
    split at hu
    · rename_i e' h'
      rw [h'] at hDu
      exact .inl ⟨e', dm_slice hDu⟩
    · rename_i h'
      rw [h'] at hDu
      exact .inr (dm_str hDu)
    · cases hu
  obtain ⟨ie, de, ze, hie, hue, hes, hby, hze, hzz, _, hzl, hDe⟩ := ti_ok hT he
  have hzs : ze.cells.size = (T e).size := by
    have := (VR.consts ι F w ze.cells.toList).1
    rw [← hzz, hzl] at this
    simpa using this
  split
  · rename_i new hnew
    obtain ⟨hlo, hall, xs, hxl, hxf, hxo, hxr⟩ := elsOf_ok P hw hx hnew
    have hsz : std .len new = new.length := rfl
    simp only [List.map_toArray, List.map_cons, List.map_nil]
    generalize hc1 : a.eval q1 = c1 at hs
    generalize hc2 : a.eval q2 = c2 at hx hlo hxf
    rw [← hes] at hxf
    cases hs with
    | nils =>
      simp only
      split
      · have hx0 : xs = [] := List.eq_nil_of_length_eq_zero (by rw [hxl]; simp)
        refine OpR.same hw (c := .slice none 0 0) .nils ?_
        rw [append_room t u ty e ie du ht0 ht1 hut hudu hdu hie none 0 0 0 c2 (by simpa using hlo) xs (by simpa using hxf) (by omega) w (.inl ⟨rfl, rfl⟩)]
        rfl
      · rename_i hne
        have h0 : new ≠ [] := fun e => hne e
        split
        · rename_i hroom
          obtain ⟨hb, h32⟩ := roomy_ok hroom
          rw [hsz] at h32
          have hpos : 0 < new.length := List.length_pos_iff.2 h0
          have hg := append_grow t u ty e ie ze du ht0 ht1 hut hudu hdu hie hze none 0 0 new.length c2 hlo xs [] hxf (fun w' _ => by simp [Builtin.firstCells]) (by omega)
            (by rw [hby, Nat.zero_add]; have : new.length * (T e).bytes ≤ 4294967296 * 1024 := Nat.mul_le_mul h32 hb; omega) (by omega)
          have := append_new (P := P) (nid := nid) (r := ((Builtin.append_ ts ty #[.slice none 0 0, c2]).run P w).andThen fun c w' => .ok (.value c) w') (old := []) (ss := []) (cap := grownCap w (0 + new.length) 0 e) (z := ze.cells) (e := e) hw
            ⟨by simp, by simp, by simp, fun i j e v x hi => by simp at hi⟩ ⟨hall, hxl, hxo, hxr⟩ (by simpa using grownCap_ge w (0 + new.length) 0 e) hzs (by rw [hg]; simp)
          simpa [hsz] using this
        · trivial
    | @osl o p off len cap ad hio hl hn hc ha hsm =>
      simp only
      split
      · rename_i sz els hob
        split
        · rename_i hbe
          have hse : sz = (T e).size := Nat.eq_of_beq_eq_true hbe
          subst hse
          split
          · rename_i hin
            have hin' : off + (len + new.length) ≤ els.length := Nat.le_of_ble_eq_true hin
            have hobr := hw.obj o p hio
            rw [hob] at hobr
            obtain ⟨hpsz, ⟨hpn, hpcap⟩, hpall, hprow⟩ := hobr
            have hfit : len + new.length ≤ cap := by omega
            obtain ⟨w1, g1, g2, g3⟩ := put_rows P hw (k := off + len) (new := new) (xs := xs) hio hob (by omega) hxl hall hxo hxr
            have hadd : std .nadd off len = off + len := rfl
            have hadd2 : std .nadd len (std .len new) = len + new.length := rfl
            rw [hadd, hadd2]
            have hout : VR ι F w1 (.osl o off (len + new.length)) (.slice ad (len + new.length) cap) := .osl off (len + new.length) cap ad hio hfit (by omega) hc ha hsm
            by_cases hc0 : cap = 0
            · have hx0 : xs = [] := List.eq_nil_of_length_eq_zero (by rw [hxl, show new.length = 0 by omega]; simp)
              subst hx0
              cases ad with
              | none => cases hsm
              | some ad =>
                have hw1 : w1 = w := by
                  have : (storeCells ⟨p.b, p.off + (off + len) * p.sz, none⟩ []).run P w = .ok () w := rfl
                  rw [this] at g1; cases g1; rfl
                subst hw1
                rw [append_room t u ty e ie du ht0 ht1 hut hudu hdu hie (some ad) len cap new.length c2 hlo [] hxf hfit w1 (.inr ⟨ad, rfl, rfl⟩)]
                exact ⟨_, w1, ι, rfl, g2, g3, hout⟩
            · have had := ha.resolve_left hc0
              subst had
              rw [append_room t u ty e ie du ht0 ht1 hut hudu hdu hie _ len cap new.length c2 hlo xs hxf hfit w1 (.inr ⟨_, rfl, by rw [add_flat, hes, ← hpsz]; rw [show p.off + off * p.sz + len * p.sz = p.off + (off + len) * p.sz by rw [Nat.add_mul]; omega]; exact g1⟩)]
              exact ⟨_, w1, ι, rfl, g2, g3, hout⟩
          split
          · rename_i hroom
            obtain ⟨hb, h32⟩ := roomy_ok hroom
            have h32' : len + new.length ≤ 4294967296 := h32
            have hvs : VR ι F w (.osl o off len) (.slice ad len cap) := .osl off len cap ad hio hl hn hc ha hsm
            have hels : elsOf std h (T e).size (.osl o off len) = some ((els.take (off + len)).drop off) := by
              simp only [elsOf, hob, hbe]; rfl
            obtain ⟨hlo2, hall2, ss, hssl, hsf, hso, hsr⟩ := elsOf_ok P hw hvs hels
            have hobr := hw.obj o p hio
            rw [hob] at hobr
            obtain ⟨hpsz, ⟨hpn, hpcap⟩, hpall, hprow⟩ := hobr
            have hol : ((els.take (off + len)).drop off).length = len := by simp; omega
            have hnf : ob h o ≠ .free := by rw [hob]; simp
            have hk := hw.kill o hnf
            have eqv : (Res.bad 0 = Res.bad 0) := rfl
            show OpR P ι F h w _ (mkOb (setOb h o .dead) nid (.arr (T e).size ((els.take (off + len)).drop off ++ new)) (.osl nid 0 (len + new.length)))
            by_cases hfit : len + new.length ≤ cap
            · have hroomrun := fun w1 h' => append_room (w := w) t u ty e ie du ht0 ht1 hut hudu hdu hie ad len cap new.length c2 hlo xs hxf hfit w1 h'
              by_cases hc0 : cap = 0
              · have hn0 : new = [] := List.eq_nil_of_length_eq_zero (by omega)
                have hl0 : len = 0 := by omega
                have hx0 : xs = [] := List.eq_nil_of_length_eq_zero (by rw [hxl, hn0]; simp)
                have ho0 : (els.take (off + len)).drop off = [] := List.eq_nil_of_length_eq_zero (by omega)
                rw [ho0, hn0, List.append_nil]
                have hnl : len + ([] : List (List V)).length = 0 := by simp [hl0]
                rw [hnl]
                refine OpR.anyh (h1 := setOb h o .dead) (mkOb_empty hk ⟨0, 0, (T e).size, 0, 0⟩ rfl rfl rfl (.slice ad 0 0) ?_ ?_)
                · have := hroomrun w (by cases ad with | none => exact .inl ⟨rfl, rfl⟩ | some ad => exact .inr ⟨ad, rfl, by rw [hx0]; rfl⟩)
                  rw [this, hl0, hn0, hc0]
                  rfl
                · exact .osl (p := ⟨0, 0, (T e).size, 0, 0⟩) 0 0 0 ad (by simp [updI]) (by omega) (by simp) (by simp) (.inl rfl) hsm
              · have had := ha.resolve_left hc0
                rcases hprow with hp0 | ⟨hb1, hb2, cc, et, fz, hcc, hth, hrm, hrr⟩
                · omega
                · have hin : (off + cap) * (T e).size ≤ p.cap * (T e).size := Nat.mul_le_mul_right _ (Nat.le_of_eq hc)
                  have hin2 : (len + new.length) * (T e).size ≤ cap * (T e).size := Nat.mul_le_mul_right _ hfit
                  rw [Nat.add_mul] at hin hin2
                  obtain ⟨w1, c1', r1, r2, r3, r4, r5, r6, r7, r8, r9⟩ := storeCells_ok P p.b (p.off + off * p.sz + len * (T e).size) xs 0 w cc et fz hcc hth (by rw [hpsz, hxl]; omega) hxo
                  have ew : Ext ι F w ι F w1 := ⟨fun _ _ h => h, fun _ h => h, fun b hb => r5 b (fun e => hb2 (e ▸ hb)), by omega, r7, r8, r9⟩
                  have hres := hroomrun w1 (.inr ⟨_, had, by rw [add_flat, hes]; exact r1⟩)
                  rw [hres]
                  unfold mkOb
                  split
                  · rename_i h' hnew'
                    obtain ⟨hf', hob'⟩ := ob_newOb hnew'
                    have hik := hk.free nid hf'
                    have hno : nid ≠ o := fun e => by subst e; rw [hio] at hik; cases hik
                    have hkob : ∀ q, ob (setOb h o .dead) q = if q = o then .dead else ob h q := fun q => ob_setOb h o q _ hnf
                    have ei : Ext ι F w (updI ι nid ⟨p.b, p.off + off * (T e).size, (T e).size, len + new.length, cap⟩) F w1 :=
                      ⟨fun q pq hq => by unfold updI; rw [if_neg (fun e => by subst e; rw [hik] at hq; cases hq)]; exact hq, fun _ h => h, ew.same, ew.size, ew.os, ew.out, ew.tape⟩
                    refine ⟨_, w1, _, rfl, ei, hk.upd nid ei (fun q pq hne hq => ?_) (fun q pq hne hiq hrq => ?_) (fun q hne => by rw [hob', if_neg hne]) (fun pq hq => ?_)
                      (fun _ => ⟨⟨p.b, p.off + off * (T e).size, (T e).size, len + new.length, cap⟩, by simp [updI]⟩) (fun hfr => by rw [hob', if_pos rfl] at hfr; cases hfr) (fun pq hq hrp q pq' hne hiq hrq => ?_), .osl (p := ⟨p.b, p.off + off * (T e).size, (T e).size, len + new.length, cap⟩) 0 _ cap _ (by simp [updI]) hfit (by simp) (by simp) (.inr (by rw [had, hpsz]; simp)) hsm⟩
                    · unfold updI at hq; rw [if_neg hne] at hq; exact hq
                    · refine r5 _ ?_
                      rw [hkob] at hrq
                      split at hrq
                      · exact hrq.elim
                      · rename_i hqo
                        exact hw.apart q o pq p hqo hiq hio hrq (by rw [hob]; show p.cap ≠ 0; omega)
                    · simp only [updI, if_true, Option.some.injEq] at hq
                      subst hq
                      rw [hob', if_pos rfl]
                      have hlen2 : ((els.take (off + len)).drop off ++ new).length = len + new.length := by rw [List.length_append, hol]
                      refine ⟨rfl, ⟨hlen2, by rw [hlen2]; exact hfit⟩, fun l hl' => (List.mem_append.1 hl').elim (hall2 l) (hall l), .inr ⟨by rw [r6]; exact hb1, hb2, c1', et, fz, r2, by rw [r3]; exact hth, by rw [r3]; show p.off + off * (T e).size + cap * (T e).size ≤ cc.size; omega, fun i j l v y hi hj hy => ?_⟩⟩
                      have hjl : j < (T e).size := by
                        have h1 := (List.getElem?_eq_some_iff.1 hj).1
                        have h2 := (List.mem_append.1 (List.mem_of_getElem? hi)).elim (hall2 l) (hall l)
                        omega
                      rw [r4] at hy
                      rw [List.getElem?_append, hol] at hi
                      split at hi
                      · rename_i hlt
                        have hb3 : i * (T e).size + (T e).size ≤ len * (T e).size := by
                          have : (i + 1) * (T e).size ≤ len * (T e).size := Nat.mul_le_mul_right _ (by omega)
                          rw [Nat.add_mul] at this; omega
                        rw [if_neg (by show ¬ (p.off + off * p.sz + len * (T e).size + 0 ≤ p.off + off * (T e).size + (i * (T e).size + j) ∧ _); rw [hpsz]; omega)] at hy
                        rw [List.getElem?_drop, List.getElem?_take] at hi
                        split at hi
                        · have := hrr (off + i) j l v y hi hj (by rw [← hy]; congr 1; show _ = p.off + off * (T e).size + (i * (T e).size + j); rw [Nat.add_mul]; omega)
                          exact ⟨this.1.mono ei, this.2⟩
                        · cases hi
                      · rename_i hge
                        have hi2 : i - len < new.length := (List.getElem?_eq_some_iff.1 hi).1
                        have hb3 : len * (T e).size ≤ i * (T e).size := Nat.mul_le_mul_right _ (by omega)
                        have hb4 : (i - len) * (T e).size + (T e).size ≤ new.length * (T e).size := by
                          have : (i - len + 1) * (T e).size ≤ new.length * (T e).size := Nat.mul_le_mul_right _ (by omega)
                          rw [Nat.add_mul] at this; omega
                        have hb5 : (i - len) * (T e).size = i * (T e).size - len * (T e).size := Nat.sub_mul ..
                        rw [if_pos (by show p.off + off * p.sz + len * (T e).size + 0 ≤ p.off + off * (T e).size + (i * (T e).size + j) ∧ _ < _; rw [hpsz, hxl]; show _ ∧ p.off + off * (T e).size + (i * (T e).size + j) < _; omega)] at hy
                        have hy2 : xs[(i - len) * (T e).size + j]? = some y := by
                          rw [← hy]; congr 1
                          show _ = p.off + off * (T e).size + (i * (T e).size + j) - _
                          rw [hpsz]; omega
                        exact ⟨(hxr (i - len) j l v y hi hj hy2).mono ei, hxo y (List.mem_of_getElem? hy2)⟩
                    · simp only [updI, if_true, Option.some.injEq] at hq
                      subst hq
                      rw [hkob] at hrq
                      split at hrq
                      · exact hrq.elim
                      · rename_i hqo
                        exact fun e => hw.apart q o pq' p hqo hiq hio hrq (by rw [hob]; show p.cap ≠ 0; omega) e.symm
                  · trivial
            · have hg := append_grow t u ty e ie ze du ht0 ht1 hut hudu hdu hie hze ad len cap new.length c2 hlo xs ss hxf (fun w' hw' => by rw [hes]; have := hsf w' hw'; rw [hol] at this; exact this) (by omega)
                (by rw [hby]; have : (len + new.length) * (T e).bytes ≤ 4294967296 * 1024 := Nat.mul_le_mul h32' hb; omega) (by omega)
              have := append_new (P := P) (nid := nid) (r := ((Builtin.append_ ts ty #[.slice ad len cap, c2]).run P w).andThen fun c w' => .ok (.value c) w') (old := (els.take (off + len)).drop off) (ss := ss)
                (cap := grownCap w (len + new.length) cap e) (z := ze.cells) (e := e) hk ⟨hall2, hssl, hso, hsr⟩ ⟨hall, hxl, hxo, hxr⟩ (by rw [hol]; exact grownCap_ge w _ cap e) hzs (by rw [hg, hol]; simp)
              rw [hol] at this
              unfold mkOb at this ⊢
              split
              · rename_i h' hnew'
                rw [hnew'] at this
                obtain ⟨c, w', ι', g1, g2, g3, g4⟩ := this
                exact ⟨c, w', ι', g1, g2, g3, g4⟩
              · trivial
          · trivial
        · trivial
      · trivial
    | _ => exact True.intro
  · trivial
end
end Go.AV
namespace Go.AV
open Go
section
variable {P : Program} {T : TypeId → TI} {ι : Nat → Option Pl} {F : Nat → Prop} {h : Hp} {w : World} {a : Act} {fr : Fr}

/-- A row of cells is as told. -/
structure CR (ι : Nat → Option Pl) (F : Nat → Prop) (w : World) (cs : List V) (c : Array Value) : Prop where
  size : c.size = cs.length
  one : ∀ x ∈ c.toList, x.oneCell' = true
  at_ : ∀ (j : Nat) (v : V) (x : Value), cs[j]? = some v → c[j]? = some x → VR ι F w v x

theorem foldl_lay (off : Nat) : ∀ (vs : List Value) (k : Nat) (cells : Array Value), off + k + vs.length ≤ cells.size →
    ∀ t, ((vs.zipIdx k).foldl (fun cs (x : Value × Nat) => cs.setIfInBounds (off + x.2) x.1) cells)[t]? = if off + k ≤ t ∧ t < off + k + vs.length then vs[t - (off + k)]? else cells[t]?
  | [], k, cells, _, t => by simp; intro h1 h2; omega
  | v :: vs, k, cells, hl, t => by
    simp only [List.length_cons] at hl
    rw [List.zipIdx_cons, List.foldl_cons, foldl_lay off vs (k + 1) _ (by simp; omega) t, Array.getElem?_setIfInBounds]
    by_cases ht : t = off + k
    · subst ht
      rw [if_neg (by omega), if_pos rfl, if_pos (by omega), if_pos (by simp)]
      simp
    · by_cases hin : off + k ≤ t ∧ t < off + k + (v :: vs).length
      · rw [if_pos (by simp at hin; omega), if_pos hin, show t - (off + k) = (t - (off + (k + 1))) + 1 by omega]
        simp
      · rw [if_neg (by simp at hin; omega), if_neg hin, if_neg (fun e => ht e.symm)]
theorem foldl_size (off : Nat) : ∀ (vs : List Value) (k : Nat) (cells : Array Value), ((vs.zipIdx k).foldl (fun cs (x : Value × Nat) => cs.setIfInBounds (off + x.2) x.1) cells).size = cells.size
  | [], _, _ => by simp
  | v :: vs, k, cells => by rw [List.zipIdx_cons, List.foldl_cons, foldl_size off vs (k + 1)]; simp

theorem fill_ok (place : Nat → Nat × Nat) (place' : Nat → Option (Nat × Nat)) (hp : ∀ i, (place i).2 ≠ 0 → place' i = some (place i)) : ∀ (vs : List (Nat × V)) (cs : List (Nat × Value)) (zs : List V) (z : Array Value) (r : List V),
    vs.length = cs.length → (∀ (k : Nat) (v : Nat × V) (c : Nat × Value), vs[k]? = some v → cs[k]? = some c → v.1 = c.1 ∧ VR ι F w v.2 c.2) → CR ι F w zs z → fill zs place vs = some r →
    ∃ r', Instr.fill place' z cs = some r' ∧ CR ι F w r r'
  | [], [], zs, z, r, _, _, hz, hf => by simp only [fill, Option.some.injEq] at hf; subst hf; exact ⟨z, rfl, hz⟩
  | (i, v) :: vs, (i', c) :: cs, zs, z, r, hl, hr, hz, hf => by
    obtain ⟨h1, h2⟩ := hr 0 (i, v) (i', c) rfl rfl
    simp only at h1 h2
    subst h1
    simp only [fill] at hf
    cases hcl : v.cells with
    | none => rw [hcl] at hf; cases hf
    | some cl =>
      rw [hcl] at hf
      simp only at hf
      cases hb0 : Nat.beq (place i).2 0 with
      | true => rw [hb0] at hf; cases hf
      | false =>
      rw [hb0] at hf
      simp only at hf
      cases hb : Nat.beq (lenV cl) (place i).2 with
      | false => rw [hb] at hf; cases hf
      | true =>
        rw [hb] at hf
        simp only at hf
        have hlen : cl.length = (place i).2 := by rw [← lenV_eq]; exact Nat.eq_of_beq_eq_true hb
        cases hly : lay zs (place i).1 cl with
        | none => rw [hly] at hf; cases hf
        | some zs' =>
          rw [hly] at hf
          simp only at hf
          obtain ⟨l1, l2, l3⟩ := lay_at hly
          obtain ⟨c1, c2, c3⟩ := cells_ok h2 hcl
          have hpl := hp i (fun e => by rw [e] at hb0; simp at hb0)
          have hfits : (place i).1 + c.cells.size ≤ z.size := by rw [c1, hz.size]; exact l2
          have hz' : CR ι F w zs' (c.cells.zipIdx.foldl (fun cs (x : Value × Nat) => cs.setIfInBounds ((place i).1 + x.2) x.1) z) := by
            have hfl : c.cells.zipIdx.foldl (fun cs (x : Value × Nat) => cs.setIfInBounds ((place i).1 + x.2) x.1) z = (c.cells.toList.zipIdx 0).foldl (fun cs (x : Value × Nat) => cs.setIfInBounds ((place i).1 + x.2) x.1) z := by
              rw [← Array.foldl_toList, Array.toList_zipIdx]
            have hat : ∀ t, (c.cells.zipIdx.foldl (fun cs (x : Value × Nat) => cs.setIfInBounds ((place i).1 + x.2) x.1) z)[t]? = if (place i).1 ≤ t ∧ t < (place i).1 + c.cells.size then c.cells[t - (place i).1]? else z[t]? := by
              intro t
              rw [hfl, foldl_lay _ _ _ _ (by simpa using hfits)]
              simp
            refine ⟨by rw [hfl, foldl_size, hz.size, l1], fun x hx => ?_, fun j u x hu hx => ?_⟩
            · obtain ⟨t, ht⟩ := List.getElem?_of_mem hx
              rw [Array.getElem?_toList, hat t] at ht
              split at ht
              · exact c2 x (by rw [← Array.getElem?_toList] at ht; exact List.mem_of_getElem? ht)
              · exact hz.one x (by rw [← Array.getElem?_toList] at ht; exact List.mem_of_getElem? ht)
            · rw [hat j] at hx
              rw [l3 j] at hu
              by_cases hin : (place i).1 ≤ j ∧ j < (place i).1 + cl.length
              · rw [if_pos hin] at hu
                rw [if_pos (by rw [c1]; exact hin)] at hx
                exact (c3 _ u x hu hx).1
              · rw [if_neg hin] at hu
                rw [if_neg (by rw [c1]; exact hin)] at hx
                exact hz.at_ j u x hu hx
          obtain ⟨r', h3, h4⟩ := fill_ok place place' hp vs cs zs' _ r (by simpa using hl) (fun k v c hv hc => hr (k + 1) v c (by simpa using hv) (by simpa using hc)) hz' hf
          refine ⟨r', ?_, h4⟩
          rw [Instr.fill, hpl]
          simp only
          rw [if_neg (by simp only [Bool.or_eq_true, decide_eq_true_eq, not_or]; exact ⟨by rw [c1, hlen]; simp, by omega⟩)]
          exact h3
  | [], _ :: _, _, _, _, hl, _, _, _ => by simp at hl
  | _ :: _, [], _, _, _, hl, _, _, _ => by simp at hl

theorem parts_ok (hf : FR ι F w fr a.tmps) (l : List (Nat × Operand)) : (parts fr l).length = (l.map fun (i, x) => (i, a.eval x)).length ∧ ∀ (k : Nat) (v : Nat × V) (c : Nat × Value),
    (parts fr l)[k]? = some v → (l.map fun (i, x) => (i, a.eval x))[k]? = some c → v.1 = c.1 ∧ VR ι F w v.2 c.2 := by
  induction l with
  | nil => exact ⟨rfl, fun k v c hv => by simp [parts] at hv⟩
  | cons y t ih =>
    obtain ⟨i, y⟩ := y
    refine ⟨by simpa [parts] using ih.1, fun k v c hv hc => ?_⟩
    cases k with
    | zero =>
      simp [parts] at hv hc
      subst hv; subst hc
      exact ⟨rfl, VR.arg hf y⟩
    | succ k => exact ih.2 k v c (by simpa [parts] using hv) (by simpa using hc)

theorem zero_cr {t : TypeId} {z : Value} (h1 : (T t).zero = ofValues z.cells.toList) (h2 : allOne z.cells.toList = true) : CR ι F w (T t).zero z.cells := by
  have hcs := VR.consts ι F w z.cells.toList
  rw [← h1] at hcs
  refine ⟨by simpa using hcs.1, fun x hx => ?_, fun j v x hv hx => hcs.2 j v x hv (by simpa using hx)⟩
  obtain ⟨j, hj⟩ := List.getElem?_of_mem hx
  exact allOne_at h2 j x hj

theorem places_ok (hT : TOk P T) : ∀ (gs : List Field), knownFs T (gs.map (fun (f : Field) => (f.name != "_", f.offset, f.type))) = true →
    ∃ pl, gs.mapM (fun f => (P.info? f.type).map fun i => (f.offset, i.size)) = some pl ∧ ∀ n,
      (match fieldOff (gs.map (fun (f : Field) => (f.name != "_", f.offset, f.type))) n with | some (o, t) => (o, (T t).size) | none => (0, 0)).2 ≠ 0 →
      pl[n]? = some (match fieldOff (gs.map (fun (f : Field) => (f.name != "_", f.offset, f.type))) n with | some (o, t) => (o, (T t).size) | none => (0, 0))
  | [], _ => ⟨[], rfl, fun n h => by simp [fieldOff] at h⟩
  | f :: gs, hk => by
    simp only [List.map_cons, knownFs, tiOf] at hk
    cases ho : isOther (T f.type).d with
    | true => rw [ho] at hk; cases hk
    | false =>
      rw [ho] at hk
      simp only at hk
      obtain ⟨pl, h1, h2⟩ := places_ok hT gs hk
      obtain ⟨i, d, z, hi, hu, hs, _⟩ := ti_ok hT (t := f.type) (fun e => by rw [e] at ho; cases ho)
      refine ⟨(f.offset, i.size) :: pl, by simp [hi, h1], fun n hn => ?_⟩
      cases n with
      | zero => simp [fieldOff, hs]
      | succ n => simpa [fieldOff] using h2 n (by simpa [fieldOff] using hn)

theorem ev_build (hT : TOk P T) (hw : WR ι F h w) (hf : FR ι F w fr a.tmps) (nid : Nat) {o : Oper} {t : TypeId} {ps : Array (Nat × Operand)} (ho : o.op = .build t ps) :
    OpR P ι F h w ((execOp a.eval o).run P w) (evOp std T nid fr h o) := by
  simp only [evOp, evPick, evAlloc, evBox, evBuild, evBuildS, evLoad, evStore, evNil, evBin, evUn, evConv, evMkI, evMkF, evSlice, evFAddr, evFld, evIAddr, evIdx, evExtr, evPan, evTA, evCallV, evCallB, ho, execOp, tiOf]
  split
  · rename_i fs hfs
    split
    · rename_i hk
      split
      · rename_i cs hfill
        obtain ⟨i, d, z, hi, hu, hs, _, hz, hzz, hone, hlen, hD⟩ := ti_ok hT (t := t) (by rw [hfs]; simp)
        rw [hfs] at hD
        obtain ⟨gs, rfl, hgs⟩ := dm_strct hD
        subst hgs
        obtain ⟨pl, h1, h2⟩ := places_ok hT gs.toList hk
        obtain ⟨p1, p2⟩ := parts_ok hf ps.toList
        obtain ⟨r', r1, r2⟩ := fill_ok (ι := ι) (F := F) (w := w) _ (fun n => pl[n]?) (fun n hn => h2 n hn) _ _ _ _ _ p1 p2 (zero_cr hzz hone) hfill
        refine OpR.same hw (c := .agg r') (.agg r2.size (fun j x hx => r2.one x ?_) r2.at_) ?_
        · rw [← Array.getElem?_toList] at hx; exact List.mem_of_getElem? hx
        · have hb : P.built t (ps.map fun (i, x) => (i, a.eval x)).toList = some r' := by
            simp only [Program.built, hi, hu, hz, h1]
            rw [Array.toList_map, ← r1]
            congr 1
            funext n
            simp
          simp [run_build w t _ _ hb]
      · trivial
    · trivial
  · trivial
end
end Go.AV
