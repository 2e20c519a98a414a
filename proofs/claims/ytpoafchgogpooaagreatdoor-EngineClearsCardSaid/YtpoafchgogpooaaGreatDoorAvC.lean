/-
  The abstract machine: operators, conversions, maps; all operations. By an AI agent. Conditions: none beyond what each theorem states.
-/
import Derived.Test.YtpoafchgogpooaaGreatDoorAvB
import Derived.Laws.StructEq
import Derived.MapKept
import Derived.Laws.BitsLemmas
import Derived.Laws.BytesString
import Derived.Laws.IdiomStrings
import Derived.Laws.AppendOwn
set_option linter.unusedVariables false
set_option linter.unusedSimpArgs false
namespace Go.AV
open Go
section
variable {P : Program} {T : TypeId → TI} {ι : Nat → Option Pl} {F : Nat → Prop} {h : Hp} {w : World} {a : Act} {fr : Fr}

theorem sameK_eq {k k' : IntKind} (h : sameK k k' = true) : k = k' := by cases k <;> cases k' <;> first | rfl | cases h
theorem beqB_eq (a b : Bool) : beqB a b = (a == b) := by cases a <;> cases b <;> rfl
theorem nb_eq (a : Bool) : nb a = !a := by cases a <;> rfl

theorem dm_ptr {d : TypeDesc} {e : TypeId} (hD : DM d (.ptr e)) : d = .pointer e := by
  cases d with
  | pointer gs => simp [DM] at hD; rw [hD]
  | float k => cases k <;> simp [DM] at hD
  | _ => simp [DM] at hD
theorem dm_bool {d : TypeDesc} (hD : DM d .bool) : d = .bool := by
  cases d with
  | bool => rfl
  | float k => cases k <;> simp [DM] at hD
  | _ => simp [DM] at hD
theorem dm_func {d : TypeDesc} (hD : DM d .func) : ∃ x y z, d = .func x y z := by
  cases d with
  | func x y z => exact ⟨x, y, z, rfl⟩
  | float k => cases k <;> simp [DM] at hD
  | _ => simp [DM] at hD
theorem dm_iface {d : TypeDesc} (hD : DM d .iface) : ∃ x, d = .interface x := by
  cases d with
  | interface x => exact ⟨x, rfl⟩
  | float k => cases k <;> simp [DM] at hD
  | _ => simp [DM] at hD

theorem guard_ok (op : BinOp) (t : TypeId) (xo yo : Operand) {p q : Value} (hp : (p = .nilIface → q = .nilIface → isConstO xo = true ∨ isConstO yo = true)) (hq : ∀ cs, p ≠ .agg cs) :
    (eqGuard op t xo yo p q).run P w = .ok () w := by
  unfold eqGuard
  cases op <;> simp <;> (
    split
    · rcases hp rfl rfl with h | h
      · cases xo <;> simp [isConstO] at h; simp
      · cases yo <;> simp [isConstO] at h; cases xo <;> simp
    · exact absurd rfl (hq _)
    · rfl)

theorem bin_int {op : BinOp} {t : TypeId} {d : D} {c : Bool} {k k' : IntKind} {m n : Int} {v : V} (hv : binV std op d c (.int k m) (.int k' n) = some v) :
    ∃ z, (binOp op t (.int k m) (.int k' n)).run P w = .ok z w ∧ VR ι F w v z := by
  cases op <;> simp only [binV] at hv
  case shl | shr =>
    split at hv
    · rename_i z hz
      cases hv
      simp only [std] at hz
      split at hz
      · cases hz
      · rename_i hn
        cases hz
        exact ⟨_, by simp [binOp, Op.shift, hn], .int _ _⟩
    · cases hv
  all_goals
    split at hv
    · rename_i hk
      cases sameK_eq hk
      first
      | (cases hv
         first
         | exact ⟨_, by simp [binOp, Op.intArith, Op.intBits, Op.intCmp, std], .int _ _⟩
         | exact ⟨.bool _, by simp [binOp, Op.intArith, Op.intBits, Op.intCmp, std], .bool _⟩
         | (refine ⟨_, ?_, .int _ _⟩; simp [binOp, Op.intArith, Op.intBits, Op.intCmp, std]; done)
         | (refine ⟨_, ?_, .bool _⟩; simp [binOp, Op.intArith, Op.intBits, Op.intCmp, std]; done))
      | (split at hv
         · rename_i z hz
           cases hv
           simp only [std] at hz
           split at hz
           · cases hz
           · rename_i hn
             cases hz
             (refine ⟨_, ?_, .int _ _⟩; simp [binOp, Op.intDiv, hn]; done)
         · cases hv)
    · cases hv

theorem bin_flt {op : BinOp} {t : TypeId} {d : D} {c : Bool} {m n : Nat} {v : V} (hv : binV std op d c (.flt m) (.flt n) = some v) :
    ∃ z, (binOp op t (.float .f64 m) (.float .f64 n)).run P w = .ok z w ∧ VR ι F w v z := by
  cases op <;> simp only [binV, reduceCtorEq] at hv
  case add | sub | mul | quo =>
    split at hv
    · rename_i z hz
      cases hv
      simp only [std] at hz
      exact ⟨_, by simp [binOp, Op.floatArith, hz], .flt _⟩
    · cases hv
  all_goals
    cases hv
    exact ⟨_, by simp [binOp, Op.floatCmp]; rfl, .bool _⟩

theorem bin_str {op : BinOp} {t : TypeId} {d : D} {c : Bool} {m n : ByteArray} {v : V} (hv : binV std op d c (.str m.data.toList) (.str n.data.toList) = some v) :
    ∃ z, (binOp op t (.string m) (.string n)).run P w = .ok z w ∧ VR ι F w v z := by
  have e1 : m.toList = m.data.toList := ByteArray.toList_eq m
  have e2 : n.toList = n.data.toList := ByteArray.toList_eq n
  cases op <;> simp only [binV, reduceCtorEq] at hv
  case add =>
    split at hv
    · rename_i hle
      cases hv
      have hle' : m.data.toList.length + n.data.toList.length ≤ 4611686018427387904 := of_decide_eq_true hle
      refine ⟨.string (m ++ n), ?_, .str ?_⟩
      · have hs : ¬ ((m.size + n.size : Nat) : Int) > IntKind.i64.max := by
          simp only [Array.length_toList] at hle'
          have h1 : m.size = m.data.size := rfl
          have h2 : n.size = n.data.size := rfl
          have : IntKind.i64.max = 9223372036854775807 := by decide
          rw [this, h1, h2]; omega
        simp only [binOp, Op.stringOp]
        rw [if_neg hs]; rfl
      · simp [std]
    · cases hv
  all_goals
    cases hv
    refine ⟨.bool _, ?_, .bool _⟩
    simp only [binOp, Op.stringOp, e1, e2, std]; rfl


set_option maxHeartbeats 2000000 in
theorem eqV_ok (hT : TOk P T) {t : TypeId} {c : Bool} {x y : V} {p q : Value} (hx : VR ι F w x p) (hy : VR ι F w y q) {b : Bool} (he : eqV std (T t).d c x y = some b) :
    (Op.equal t p q).run P w = .ok b w ∧ (p = .nilIface → q = .nilIface → c = true) ∧ (∀ cs, p ≠ .agg cs) ∧ (∀ op, op = .eql ∨ op = .neq → binOp op t p q = (do pure (.bool (xor (← Op.equal t p q) (op matches .neq))))) := by
  have hd : (T t).d ≠ .other := by
    intro e
    rw [e] at he
    simp [eqV] at he
  obtain ⟨it, d, z, hit, hu, _, _, _, _, _, _, hD⟩ := ti_ok hT hd
  obtain ⟨N, hN⟩ : ∃ n, Op.maxDepth = n + 1 := ⟨9999, rfl⟩
  have hE : ∀ p q, Op.equal t p q = Op.equalIn (N + 1) t p q := fun _ _ => by unfold Op.equal; rw [hN]
  generalize (T t).d = D at he hD hd
  unfold eqV at he
  split at he
  all_goals first
    | (cases he; done)
    | skip
  all_goals
    first
    | (cases hx; cases hy
       first
       | (cases he)
       | (split at he
          · cases he
          · cases he)
       first
       | have hdd := dm_bool hD
       | have hdd := dm_ptr hD
       | have hdd := dm_slice hD
       | (obtain ⟨_, _, _, hdd⟩ := dm_func hD)
       | (obtain ⟨_, hdd⟩ := dm_iface hD)
       subst hdd
       refine ⟨?_, ?_, ?_, ?_⟩
       · rw [hE]; simp [Op.equalIn, run_underlying hu w, beqB_eq]
       · simp
       · simp
       · rintro op (rfl | rfl) <;> simp [binOp])
    | skip
  case h_10 =>
    cases hx
    cases hy with
    | isl a cap sz bb off y hc hsz ha hxx hr =>
      split at he
      · rename_i hin
        cases he
        have hin' := std_inb hin
        have hne : ‹List (List V)› ≠ [] := fun e => by rw [e] at hin'; exact absurd hin'.2 (by decide)
        obtain ⟨rfl, _⟩ := ha hne
        have hdd := dm_slice hD
        subst hdd
        refine ⟨?_, ?_, ?_, ?_⟩
        · rw [hE]; simp [Op.equalIn, run_underlying hu w]
        · simp
        · simp
        · rintro op (rfl | rfl) <;> simp [binOp]
      · cases he
  case h_11 =>
    cases hy
    cases hx with
    | isl a cap sz bb off y hc hsz ha hxx hr =>
      split at he
      · rename_i hin
        cases he
        have hin' := std_inb hin
        have hne : ‹List (List V)› ≠ [] := fun e => by rw [e] at hin'; exact absurd hin'.2 (by decide)
        obtain ⟨rfl, _⟩ := ha hne
        have hdd := dm_slice hD
        subst hdd
        refine ⟨?_, ?_, ?_, ?_⟩
        · rw [hE]; simp [Op.equalIn, run_underlying hu w]
        · simp
        · simp
        · rintro op (rfl | rfl) <;> simp [binOp]
      · cases he
  case h_12 =>
    cases hx
    cases hy with
    | osl off len cap a hio hl hn hc ha hs =>
      cases he
      have hdd := dm_slice hD
      subst hdd
      cases a with
      | none => cases hs
      | some a =>
        refine ⟨?_, ?_, ?_, ?_⟩
        · rw [hE]; simp [Op.equalIn, run_underlying hu w]
        · simp
        · simp
        · rintro op (rfl | rfl) <;> simp [binOp]
  case h_13 =>
    cases hy
    cases hx with
    | osl off len cap a hio hl hn hc ha hs =>
      cases he
      have hdd := dm_slice hD
      subst hdd
      cases a with
      | none => cases hs
      | some a =>
        refine ⟨?_, ?_, ?_, ?_⟩
        · rw [hE]; simp [Op.equalIn, run_underlying hu w]
        · simp
        · simp
        · rintro op (rfl | rfl) <;> simp [binOp]
  case h_19 =>
    cases hx; cases hy
    split at he
    · cases he
      obtain ⟨_, hdd⟩ := dm_iface hD
      subst hdd
      refine ⟨?_, ?_, ?_, ?_⟩
      · rw [hE]; simp [Op.equalIn, run_underlying hu w]
      · simp
      · simp
      · rintro op (rfl | rfl) <;> simp [binOp]
    · cases he

theorem rcmpI_ok {op : BinOp} {l1 h1 l2 h2 m n : Int} {b : Bool} (h : rcmpI std op l1 h1 l2 h2 = some b) (a1 : l1 ≤ m) (a2 : m ≤ h1) (b1 : l2 ≤ n) (b2 : n ≤ h2) :
    std .cm op m n = b ∧ ∀ (d : D) (c : Bool) (k : IntKind), binV std op d c (.int k m) (.int k n) = some (.bool (std .cm op m n)) := by
  have hk : ∀ k : IntKind, sameK k k = true := fun k => by cases k <;> rfl
  cases op <;> simp only [rcmpI, reduceCtorEq] at h
  all_goals
    refine ⟨?_, fun d c k => by simp only [binV, hk]⟩
    simp only [std] at h ⊢
    split at h
    · rename_i hc
      cases h
      simp only [decide_eq_true_eq] at hc
      simp
      omega
    · split at h
      · rename_i hc
        cases h
        simp only [decide_eq_true_eq] at hc
        simp
        omega
      · cases h

theorem bin_rng {op : BinOp} {t : TypeId} {x y : V} {p q : Value} {b : Bool} (hx : VR ι F w x p) (hy : VR ι F w y q) (h : rcmp std op x y = some b) :
    (∃ z, (binOp op t p q).run P w = .ok z w ∧ VR ι F w (.bool b) z) ∧ (p = .nilIface → False) ∧ (∀ cs, p ≠ .agg cs) := by
  have key : ∀ (k k' : IntKind) (l1 h1 l2 h2 m n : Int), sameK k k' = true → rcmpI std op l1 h1 l2 h2 = some b → l1 ≤ m → m ≤ h1 → l2 ≤ n → n ≤ h2 →
      ∃ z, (binOp op t (.int k m) (.int k' n)).run P w = .ok z w ∧ VR ι F w (.bool b) z := by
    intro k k' l1 h1 l2 h2 m n hk hr a1 a2 b1 b2
    have := sameK_eq hk
    subst this
    obtain ⟨e1, e2⟩ := rcmpI_ok hr a1 a2 b1 b2
    have := bin_int (t := t) (d := .bool) (c := false) (P := P) (ι := ι) (F := F) (w := w) (e2 .bool false k)
    rw [e1] at this
    exact this
  unfold rcmp at h
  split at h
  · cases hx with
    | rng _ _ _ a1 a2 =>
      cases hy with
      | int _ _ =>
        split at h
        · rename_i hk; exact ⟨key _ _ _ _ _ _ _ _ hk h a1 a2 (Int.le_refl _) (Int.le_refl _), by simp, by simp⟩
        · cases h
  · cases hx with
    | int _ _ =>
      cases hy with
      | rng _ _ _ b1 b2 =>
        split at h
        · rename_i hk; exact ⟨key _ _ _ _ _ _ _ _ hk h (Int.le_refl _) (Int.le_refl _) b1 b2, by simp, by simp⟩
        · cases h
  · cases hx with
    | rng _ _ _ a1 a2 =>
      cases hy with
      | rng _ _ _ b1 b2 =>
        split at h
        · rename_i hk; exact ⟨key _ _ _ _ _ _ _ _ hk h a1 a2 b1 b2, by simp, by simp⟩
        · cases h
  · cases h

theorem ev_binS (hT : TOk P T) (hw : WR ι F h w) (hf : FR ι F w fr a.tmps) {op : BinOp} {t : TypeId} {x y : Operand} :
    OpR P ι F h w ((bind (bind (eqGuard op t x y (a.eval x) (a.eval y)) (fun _ => binOp op t (a.eval x) (a.eval y))) (fun c => pure (Next.value c)) : Sem Next).run P w)
      (match binV std op (T t).d (match isConstO x with | true => true | false => isConstO y) (arg fr x) (arg fr y) with
        | some v => .val v h
        | none => .bad 7) := by
  have hx := VR.arg hf x
  have hy := VR.arg hf y
  split
  · rename_i v hv
    generalize hc : (match isConstO x with | true => true | false => isConstO y) = c at hv
    have hc' : c = true → isConstO x = true ∨ isConstO y = true := by
      intro e
      rw [e] at hc
      split at hc
      · rename_i h'; exact .inl h'
      · exact .inr hc
    generalize arg fr x = vx at hx hv; generalize a.eval x = p at hx ⊢
    generalize arg fr y = vy at hy hv; generalize a.eval y = q at hy ⊢
    suffices hs : ∃ z, (binOp op t p q).run P w = .ok z w ∧ VR ι F w v z ∧ (p = .nilIface → q = .nilIface → isConstO x = true ∨ isConstO y = true ∧ True ∨ ¬ (op = .eql ∨ op = .neq)) ∧ ((∀ cs, p ≠ .agg cs) ∨ ¬ (op = .eql ∨ op = .neq)) by
      obtain ⟨z, hz, hvz, hn, ha⟩ := hs
      refine OpR.same hw hvz ?_
      have hg : (eqGuard op t x y p q).run P w = .ok () w := by
        by_cases hop : op = .eql ∨ op = .neq
        · refine guard_ok op t x y (fun h1 h2 => ?_) (ha.resolve_right (fun h' => h' hop))
          rcases hn h1 h2 with h' | h' | h'
          · exact .inl h'
          · exact .inr h'.1
          · exact absurd hop h'
        · unfold eqGuard
          cases op <;> simp at hop ⊢
      simp [hg, hz]
    have gen : ∀ D, (∃ z, (binOp op t p q).run P w = .ok z w ∧ VR ι F w v z) → (p = .nilIface → False) → (∀ cs, p ≠ .agg cs) → D = (T t).d → ∃ z, (binOp op t p q).run P w = .ok z w ∧ VR ι F w v z ∧ (p = .nilIface → q = .nilIface → isConstO x = true ∨ isConstO y = true ∧ True ∨ ¬ (op = .eql ∨ op = .neq)) ∧ ((∀ cs, p ≠ .agg cs) ∨ ¬ (op = .eql ∨ op = .neq)) := by
      rintro D ⟨z, h1, h2⟩ h3 h4 _
      exact ⟨z, h1, h2, fun e _ => absurd e (fun e => h3 e), .inl h4⟩
    have old := hv
    unfold binV at hv
    split at hv
    · cases hx; cases hy
      exact gen _ (bin_int old) (by simp) (by simp) rfl
    · cases hx; cases hy
      exact gen _ (bin_flt old) (by simp) (by simp) rfl
    · rename_i l1 l2
      cases hx with
      | str h1 => cases hy with
        | str h2 =>
          subst h1; subst h2
          exact gen _ (bin_str old) (by simp) (by simp) rfl
    · rename_i n1 n2 n3
      split at hv
      · rename_i b hb
        cases hv
        obtain ⟨g1, g2, g3⟩ := bin_rng (t := t) (P := P) hx hy hb
        exact gen _ g1 g2 g3 rfl
      · split at hv
        · rename_i b hb hno
          cases hv
          obtain ⟨e1, e2, e3, e4⟩ := eqV_ok hT hx hy hb
          refine ⟨.bool b, ?_, .bool _, fun h1 h2 => ?_, .inl e3⟩
          · rw [e4 .eql (.inl rfl)]
            simp [e1]
          · rcases hc' (e2 h1 h2) with h' | h'
            · exact .inl h'
            · exact .inr (.inl ⟨h', trivial⟩)
        · rename_i b hb hno
          cases hv
          obtain ⟨e1, e2, e3, e4⟩ := eqV_ok hT hx hy hb
          refine ⟨.bool (!b), ?_, by rw [nb_eq]; exact .bool _, fun h1 h2 => ?_, .inl e3⟩
          · rw [e4 .neq (.inr rfl)]
            simp [e1]
          · rcases hc' (e2 h1 h2) with h' | h'
            · exact .inl h'
            · exact .inr (.inl ⟨h', trivial⟩)
        · cases hv
  · trivial
end
end Go.AV
namespace Go.AV
open Go Go.MapKept
section
variable {P : Program} {T : TypeId → TI} {ι : Nat → Option Pl} {F : Nat → Prop} {h : Hp} {w : World} {a : Act} {fr : Fr}

/-- Scalars. -/
def Sc : D → Bool
  | .bool | .int _ | .str => true
  | _ => false
theorem eq1_sc {d : D} {x y : V} {b : Bool} (h : eq1 std d x y = some b) : Sc d = true := by
  unfold eq1 at h
  split at h <;> first | rfl | cases h

theorem eq1_ok (hT : TOk P T) {t : TypeId} {x y : V} {p q : Value} (hx : VR ι F w x p) (hy : VR ι F w y q) {b : Bool} (he : eq1 std (T t).d x y = some b) (n : Nat) :
    (Op.equalIn (n + 1) t p q).run P w = .ok b w := by
  have hd : (T t).d ≠ .other := by
    intro e
    rw [e] at he
    simp [eq1] at he
  obtain ⟨it, d, z, hit, hu, _, _, _, _, _, _, hD⟩ := ti_ok hT hd
  generalize (T t).d = D at he hD hd
  unfold eq1 at he
  split at he
  · cases hx; cases hy; cases he
    have hdd := dm_bool hD; subst hdd
    rw [run_equalIn_bool' w n t _ _ hu, beqB_eq]
  · rename_i k1 k a k' b'
    cases hx; cases hy
    split at he
    · rename_i hk
      have hdd := dm_int hD; subst hdd
      have hkk := sameK_eq hk; subst hkk
      cases he
      rw [run_equalIn_int w n t _ _ _ _ hu]
      rfl
    · cases he
  · rename_i s1 s2
    cases hx with
    | str h1 =>
      cases hy with
      | str h2 =>
        have hdd := dm_str hD; subst hdd
        cases he
        rw [run_equalIn_string w n t _ _ hu, ByteArray.toList_eq, ByteArray.toList_eq, h1, h2]
        rfl
  · cases he

theorem plain_of (hT : TOk P T) {t : TypeId} (h : Sc (T t).d = true) : P.plainKey t = true := by
  have hd : (T t).d ≠ .other := by intro e; rw [e] at h; cases h
  obtain ⟨it, d, z, hit, hu, _, _, _, _, _, _, hD⟩ := ti_ok hT hd
  generalize (T t).d = D at h hD
  unfold Program.plainKey
  rw [hu]
  cases D with
  | bool => rw [dm_bool hD]
  | int k => rw [dm_int hD]
  | str => rw [dm_str hD]
  | _ => cases h

theorem cell_some {c : Array Value} {cs : List V} (hs : c.size = cs.length) {j : Nat} {v : V} (h : cs[j]? = some v) : ∃ x, c[j]? = some x := by
  have := (List.getElem?_eq_some_iff.1 h).1
  exact ⟨c[j]'(by omega), by simp⟩

theorem eqFs_ok (hT : TOk P T) (n : Nat) {cs ds : List V} {c d : Array Value} (hc : c.size = cs.length) (hd : d.size = ds.length) (hcr : ∀ (j : Nat) (v : V) (x : Value), cs[j]? = some v → c[j]? = some x → VR ι F w v x)
    (hdr : ∀ (j : Nat) (v : V) (x : Value), ds[j]? = some v → d[j]? = some x → VR ι F w v x) : ∀ (gs : List Field) (b : Bool), eqFs std T (gs.map (fun f => (f.name != "_", f.offset, f.type))) cs ds = some b →
      (Op.eqFields (n + 1) c d gs).run P w = .ok b w
  | [], b, h => by simp [eqFs] at h; subst h; simp [Op.eqFields]
  | f :: gs, b, h => by
    simp only [List.map_cons, eqFs] at h
    split at h
    · rename_i hn
      have hn' : f.name ≠ "_" := by simpa using hn
      split at h
      · rename_i x y hx hy
        rw [nthQ_eq] at hx hy
        obtain ⟨p, hp⟩ := cell_some hc hx
        obtain ⟨q, hq⟩ := cell_some hd hy
        split at h
        · rename_i e he
          have hpl := plain_of hT (eq1_sc he)
          have h1 := eq1_ok hT (hcr _ _ _ hx hp) (hdr _ _ _ hy hq) he n
          simp only [Op.eqFields, hn', ne_eq, not_false_eq_true, if_true, Sem.run_bind, run_part_plain w hpl hp, run_part_plain w hpl hq, Result.andThen_ok, h1]
          cases e with
          | true =>
            simp only at h
            simp only [Bool.not_true, Bool.false_eq_true, if_false]
            exact eqFs_ok hT n hc hd hcr hdr gs b h
          | false =>
            cases h
            simp
        · cases h
      · cases h
    · cases h

theorem eqT_ok (hT : TOk P T) {t : TypeId} {x y : V} {p q : Value} (hx : VR ι F w x p) (hy : VR ι F w y q) {b : Bool} (he : eqT std T t x y = some b) : (Op.equal t p q).run P w = .ok b w := by
  unfold Op.equal
  obtain ⟨N, hN⟩ : ∃ n, Op.maxDepth = n + 1 + 1 := ⟨9998, rfl⟩
  rw [hN]
  unfold eqT at he
  simp only [tiOf] at he
  split at he
  · rename_i fs hd
    split at he
    · rename_i hq
      split at he
      · rename_i cs ds
        have hne : (T t).d ≠ .other := by rw [hd]; simp
        obtain ⟨it, dd, z, hit, hu, _, _, _, _, _, _, hD⟩ := ti_ok hT hne
        rw [hd] at hD
        obtain ⟨gs, rfl, rfl⟩ := dm_strct hD
        have hk := ((hT t).resolve_left hne).eqk hq
        cases hx with
        | agg hs ho hr =>
          cases hy with
          | agg hs' ho' hr' =>
            have hfo : P.fieldsOf t = gs := by unfold Program.fieldsOf; rw [hu]
            rw [run_equalIn_struct w (N + 1) t _ _ (by rw [hfo]; exact hu) hk.1, hfo]
            exact eqFs_ok hT N hs hs' hr hr' gs.toList b he
      · cases he
    · cases he
  · exact eq1_ok hT hx hy he (N + 1)

theorem checkFs_ok (hT : TOk P T) (em : Bool) (n : Nat) {cs : List V} {c : Array Value} (hc : c.size = cs.length) (hcr : ∀ (j : Nat) (v : V) (x : Value), cs[j]? = some v → c[j]? = some x → VR ι F w v x) :
    ∀ (gs : List Field), eqFs std T (gs.map (fun f => (f.name != "_", f.offset, f.type))) cs cs = some true →
      (forIn (m := Sem) gs PUnit.unit (fun f _ => if f.name ≠ "_" then (do Instr.checkKey em (n + 1) f.type (← part f.type c f.offset); pure (ForInStep.yield PUnit.unit)) else pure (ForInStep.yield PUnit.unit))).run P w = .ok PUnit.unit w
  | [], _ => by simp
  | f :: gs, h => by
    simp only [List.map_cons, eqFs] at h
    split at h
    · rename_i hn
      have hn' : f.name ≠ "_" := by simpa using hn
      split at h
      · rename_i x y hx hy
        rw [nthQ_eq] at hx hy
        obtain ⟨p, hp⟩ := cell_some hc hx
        split at h
        · rename_i e he
          have hpl := plain_of hT (eq1_sc he)
          cases e with
          | false => cases h
          | true =>
            simp only at h
            have h1 : (Instr.checkKey em (n + 1) f.type p).run P w = .ok () w := by
              have hsc : Sc (T f.type).d = true := eq1_sc he
              have hne : (T f.type).d ≠ .other := by intro e; rw [e] at hsc; cases hsc
              obtain ⟨it, d, z, hit, hu, _, _, _, _, _, _, hD⟩ := ti_ok hT hne
              unfold Instr.checkKey
              simp only [Sem.run_bind, run_underlying hu, Result.andThen_ok]
              generalize (T f.type).d = D at hsc hD
              cases D with
              | bool => rw [dm_bool hD]; simp
              | int k => rw [dm_int hD]; simp
              | str => rw [dm_str hD]; simp
              | _ => cases hsc
            have ih := checkFs_ok hT em n hc hcr gs h
            simp only [List.forIn_cons, Sem.run_bind]
            rw [if_pos hn']
            simp only [Sem.run_bind, run_part_plain w hpl hp, Result.andThen_ok, h1, Sem.run_pure]
            exact ih
        · cases h
      · cases h
    · cases h

theorem key_ok (hT : TOk P T) (em : Bool) {t : TypeId} {x : V} {p : Value} (hx : VR ι F w x p) (he : eqT std T t x x = some true) : (Instr.checkKey em 10000 t p).run P w = .ok () w := by
  obtain ⟨N, hN⟩ : ∃ n, 10000 = n + 1 + 1 := ⟨9998, rfl⟩
  rw [hN]
  unfold eqT at he
  simp only [tiOf] at he
  split at he
  · rename_i fs hd
    split at he
    · rename_i hq
      split at he
      · rename_i cs ds
        have hne : (T t).d ≠ .other := by rw [hd]; simp
        obtain ⟨it, dd, z, hit, hu, _, _, _, _, _, _, hD⟩ := ti_ok hT hne
        rw [hd] at hD
        obtain ⟨gs, rfl, rfl⟩ := dm_strct hD
        cases hx with
        | agg hs ho hr =>
          have := checkFs_ok hT em N hs hr gs.toList he
          unfold Instr.checkKey
          simp only [Sem.run_bind, run_underlying hu, Result.andThen_ok]
          rw [← Array.forIn_toList]
          exact (congrArg (fun r : Result PUnit => r.andThen fun _ w' => (pure () : Sem Unit).run P w') this).trans rfl
      · cases he
    · cases he
  · have hsc := eq1_sc he
    have hne : (T t).d ≠ .other := by intro e; rw [e] at hsc; cases hsc
    obtain ⟨it, d, z, hit, hu, _, _, _, _, _, _, hD⟩ := ti_ok hT hne
    unfold Instr.checkKey
    simp only [Sem.run_bind, run_underlying hu, Result.andThen_ok]
    generalize (T t).d = D at hsc hD
    cases D with
    | bool => rw [dm_bool hD]; simp
    | int k => rw [dm_int hD]; simp
    | str => rw [dm_str hD]; simp
    | _ => cases hsc

/-- Entries as told. -/
def EsR (ι : Nat → Option Pl) (F : Nat → Prop) (w : World) (es : List (V × V)) (en : List MapEntry) : Prop :=
  en.length = es.length ∧ ∀ (i : Nat) (k v : V) (m : MapEntry), es[i]? = some (k, v) → en[i]? = some m → VR ι F w k m.key ∧ VR ι F w v m.val
def FR' (ι : Nat → Option Pl) (F : Nat → Prop) (w : World) : Option (Nat × V) → Option (Nat × Value) → Prop
  | none, none => True
  | some (i, v), some (j, c) => i = j ∧ VR ι F w v c
  | _, _ => False
theorem EsR.tail {e : V × V} {es : List (V × V)} {m : MapEntry} {en : List MapEntry} (h : EsR ι F w (e :: es) (m :: en)) : EsR ι F w es en :=
  ⟨by simpa using h.1, fun i k v m' h1 h2 => h.2 (i + 1) k v m' (by simpa using h1) (by simpa using h2)⟩

theorem findA_ok (hT : TOk P T) {t : TypeId} {k : V} {kc : Value} (hk : VR ι F w k kc) : ∀ (es : List (V × V)) (en : List MapEntry) (i : Nat) (r : Option (Nat × V)), EsR ι F w es en → findK std T t k i es = some r →
    ∃ r', (Instr.findAsking t kc en i).run P w = .ok r' w ∧ FR' ι F w r r'
  | [], [], i, r, _, h => by simp [findK] at h; subst h; exact ⟨none, by simp [Instr.findAsking], trivial⟩
  | [], _ :: _, i, r, hE, _ => by simp [EsR] at hE
  | _ :: _, [], i, r, hE, _ => by simp [EsR] at hE
  | (x, v) :: es, m :: en, i, r, hE, h => by
    simp only [findK] at h
    obtain ⟨h1, h2⟩ := hE.2 0 x v m rfl rfl
    split at h
    · rename_i e he
      have := eqT_ok hT hk h1 he
      simp only [Instr.findAsking, Sem.run_bind, this, Result.andThen_ok]
      cases e with
      | true => cases h; exact ⟨some (i, m.val), by simp, rfl, h2⟩
      | false =>
        obtain ⟨r', h3, h4⟩ := findA_ok hT hk es en (i + 1) r hE.tail h
        exact ⟨r', by simpa using h3, h4⟩
    · cases h
theorem findN_ok (hT : TOk P T) {t : TypeId} {d : TypeDesc} (hu : P.underlying t = some d) (hsc : Sc (T t).d = true) {k : V} {kc : Value} (hk : VR ι F w k kc) :
    ∀ (es : List (V × V)) (en : List MapEntry) (i : Nat) (r : Option (Nat × V)), EsR ι F w es en → findK std T t k i es = some r → ∃ r', Instr.findNow d kc en i = some r' ∧ FR' ι F w r r'
  | [], [], i, r, _, h => by simp [findK] at h; subst h; exact ⟨none, by simp [Instr.findNow], trivial⟩
  | [], _ :: _, i, r, hE, _ => by simp [EsR] at hE
  | _ :: _, [], i, r, hE, _ => by simp [EsR] at hE
  | (x, v) :: es, m :: en, i, r, hE, h => by
    simp only [findK] at h
    obtain ⟨h1, h2⟩ := hE.2 0 x v m rfl rfl
    split at h
    · rename_i e he
      have hsame : Instr.sameNow d kc m.key = some e := by
        have hne : (T t).d ≠ .other := by intro e; rw [e] at hsc; cases hsc
        obtain ⟨it, d', z, hit, hu', _, _, _, _, _, _, hD⟩ := ti_ok hT hne
        rw [hu] at hu'
        cases hu'
        unfold eqT at he
        simp only [tiOf] at he
        generalize (T t).d = D at he hD hsc hne
        generalize m.key = mk at h1
        split at he
        · cases hsc
        · unfold eq1 at he
          split at he
          · cases hk; cases h1; cases he
            rw [dm_bool hD]
            simp [Instr.sameNow, beqB_eq]
          · cases hk; cases h1
            split at he
            · rename_i hkk
              cases he
              rw [dm_int hD]
              have := sameK_eq hkk
              subst this
              simp only [Instr.sameNow, if_true, std]
            · cases he
          · cases hk with
            | str e1 =>
              cases h1 with
              | str e2 =>
                cases he
                rw [dm_str hD]
                simp only [Instr.sameNow, std]
                rw [beq_toListBytes, ByteArray.toList_eq, ByteArray.toList_eq, e1, e2]
          · cases he
      simp only [Instr.findNow, hsame]
      cases e with
      | true => cases h; exact ⟨some (i, m.val), rfl, rfl, h2⟩
      | false =>
        obtain ⟨r', h3, h4⟩ := findN_ok hT hu hsc hk es en (i + 1) r hE.tail h
        exact ⟨r', by simpa using h3, h4⟩
    · cases h
theorem findK_ok (hT : TOk P T) {t : TypeId} {k : V} {kc : Value} (hk : VR ι F w k kc) (hkk : eqT std T t k k = some true) {es : List (V × V)} {en : List MapEntry} {r : Option (Nat × V)} (hE : EsR ι F w es en)
    (h : findK std T t k 0 es = some r) : ∃ r', (Instr.findKey t kc en).run P w = .ok r' w ∧ FR' ι F w r r' := by
  have hne : (T t).d ≠ .other := by
    intro e
    unfold eqT at hkk
    simp only [tiOf, e, eq1] at hkk
    cases hkk
  obtain ⟨it, d, z, hit, hu, _, _, _, _, _, _, hD⟩ := ti_ok hT hne
  unfold Instr.findKey
  simp only [Sem.run_bind, run_underlying hu, Result.andThen_ok]
  by_cases hsc : Sc (T t).d = true
  · obtain ⟨r', h1, h2⟩ := findN_ok hT hu hsc hk es en 0 r hE h
    exact ⟨r', by simp [h1], h2⟩
  · cases hf : Instr.findNow d kc en 0 with
    | none =>
      obtain ⟨r', h1, h2⟩ := findA_ok hT hk es en 0 r hE h
      exact ⟨r', by simpa using h1, h2⟩
    | some q =>
      -- only where there is no entry
      cases es with
      | nil =>
        have : en = [] := by have := hE.1; simpa using this
        subst this
        simp [findK] at h
        subst h
        simp [Instr.findNow] at hf
        subst hf
        exact ⟨none, by simp, trivial⟩
      | cons x es =>
        cases en with
        | nil => simp [EsR] at hE
        | cons m en =>
          exfalso
          simp only [Instr.findNow] at hf
          have : Instr.sameNow d kc m.key = none := by
            unfold eqT at hkk
            simp only [tiOf] at hkk
            split at hkk
            · rename_i fs hd
              rw [hd] at hD
              obtain ⟨gs, rfl, _⟩ := dm_strct hD
              rfl
            · exact absurd (eq1_sc hkk) hsc
          rw [this] at hf
          cases hf
end
end Go.AV
namespace Go.AV
open Go
section
variable {P : Program} {T : TypeId → TI} {ι : Nat → Option Pl} {F : Nat → Prop} {h : Hp} {w : World} {a : Act} {fr : Fr}

theorem dropN_eq (n : Nat) (l : List V) : dropN n l = l.drop n := by
  induction n generalizing l with
  | zero => cases l <;> rfl
  | succ n ih => cases l with
    | nil => rfl
    | cons v t => simp [dropN, ih]
theorem rows_at {sz : Nat} : ∀ {n : Nat} {cs : List V} {els : List (List V)}, rows sz n cs = some els →
    els.length = n ∧ (∀ e ∈ els, e.length = sz) ∧ cs.length = n * sz ∧ ∀ (i j : Nat) (e : List V) (v : V), els[i]? = some e → e[j]? = some v → cs[i * sz + j]? = some v
  | 0, [], els, h => by simp only [rows, Option.some.injEq] at h; subst h; simp
  | 0, _ :: _, els, h => by simp [rows] at h
  | n + 1, cs, els, h => by
    simp only [rows] at h
    split at h
    · rename_i r t hr ht
      cases h
      obtain ⟨c1, c0, c2⟩ := cut_at hr
      obtain ⟨i1, i2, i3, i4⟩ := rows_at ht
      rw [dropN_eq] at i3 i4
      have hrl : r.length = sz := c1
      have hle : sz ≤ cs.length := by omega
      refine ⟨by simp [i1], fun e he => ?_, ?_, fun i j e v hi hj => ?_⟩
      · rcases List.mem_cons.1 he with rfl | he
        · exact hrl
        · exact i2 e he
      · simp only [List.length_drop] at i3
        rw [Nat.add_mul]; omega
      · cases i with
        | zero =>
          simp at hi
          subst hi
          have hlt : j < sz := by
            rcases Nat.lt_or_ge j r.length with h' | h'
            · omega
            · rw [List.getElem?_eq_none h'] at hj; cases hj
          have := c2 j hlt
          rw [Nat.zero_add] at this
          rw [Nat.zero_mul, Nat.zero_add, ← this]; exact hj
        | succ i =>
          have := i4 i j e v (by simpa using hi) hj
          rw [List.getElem?_drop] at this
          rw [show (i + 1) * sz + j = sz + (i * sz + j) by rw [Nat.add_mul]; omega]
          exact this
    · cases h

/-- A new row of elements. -/
theorem newArr {nid sz n : Nat} {els : List (List V)} {cs : List V} {c : Array Value} {e : TypeId} {r : Result Next} (hw : WR ι F h w) (hc : CR ι F w cs c)
    (hn : els.length = n) (hall : ∀ x ∈ els, x.length = sz) (hl : cs.length = n * sz) (hat : ∀ (i j : Nat) (x : List V) (v : V), els[i]? = some x → x[j]? = some v → cs[i * sz + j]? = some v)
    (hr : r = .ok (.value (.slice (some ⟨w.heap.size, 0, none⟩) n n)) (w.alloc (.cells c e))) :
    OpR P ι F h w r (mkOb h nid (.arr sz els) (.osl nid 0 n)) := by
  refine mkOb_ok hw (.cells c e) ⟨w.heap.size, 0, sz, n, n⟩ rfl (by simp) (fun ed => ⟨rfl, ⟨by simpa using hn, by simp [hn]⟩, hall, .inr ⟨by simp, fun hF => absurd (hw.old _ hF) (by simp), c, e, (0, 0), ?_, fun t ht => by omega, ?_, ?_⟩⟩) _ hr
    (.osl (p := ⟨w.heap.size, 0, sz, n, n⟩) 0 n n _ (by simp [updI]) (Nat.le_refl _) (by simp) (by simp) (.inr (by simp)) rfl)
  · simp only [World.alloc]; exact Array.getElem?_push_size
  · simp [hc.size, hl]
  · intro i j x v y hi hj hy
    simp only [Nat.zero_add] at hy
    refine ⟨(hc.at_ _ v y (hat i j x v hi hj) hy).mono ed, hc.one y ?_⟩
    rw [← Array.getElem?_toList] at hy; exact List.mem_of_getElem? hy

theorem flatN_at {zs : List V} {z : Array Value} (hz : CR ι F w zs z) : ∀ n, CR ι F w (flatN zs n) ((Array.range (n * z.size)).map (fun t => z[t % z.size]!))
  | 0 => ⟨by simp [flatN], fun x hx => by simp at hx, fun j v x hv => by simp [flatN] at hv⟩
  | n + 1 => by
    have ih := flatN_at hz n
    have hs := hz.size
    have hsz : (flatN zs n).length = n * z.size := by have := ih.size; simpa using this.symm
    have hmod : ∀ t, t < (n + 1) * z.size → t % z.size < z.size := fun t ht => Nat.mod_lt _ (by
      rcases Nat.eq_zero_or_pos z.size with h0 | h0
      · rw [h0] at ht; simp at ht
      · exact h0)
    refine ⟨by simp [flatN, app2_eq, hsz, ← hs, Nat.add_mul, Nat.add_comm], fun x hx => ?_, fun j v x hv hx => ?_⟩
    · simp only [Array.toList_map, List.mem_map, Array.toList_range, List.mem_range] at hx
      obtain ⟨t, ht, rfl⟩ := hx
      have := hmod t ht
      exact hz.one _ (by rw [getElem!_pos z _ this]; exact Array.getElem_mem_toList this)
    · simp only [flatN, app2_eq] at hv
      rw [Array.getElem?_map] at hx
      have hjlt : j < (n + 1) * z.size := by
        rcases Nat.lt_or_ge j ((n + 1) * z.size) with h' | h'
        · exact h'
        · rw [Array.getElem?_eq_none (by simpa using h')] at hx; simp at hx
      rw [Array.getElem?_eq_getElem (by simpa using hjlt)] at hx
      simp only [Option.map_some, Option.some.injEq, Array.getElem_range] at hx
      subst hx
      have hm := hmod j hjlt
      rw [getElem!_pos z _ hm]
      rw [List.getElem?_append] at hv
      split at hv
      · rename_i hlt
        rw [← hs] at hlt
        refine hz.at_ j v _ hv ?_
        rw [Array.getElem?_eq_getElem (by omega)]
        simp [Nat.mod_eq_of_lt hlt]
      · rename_i hge
        rw [← hs] at hge hv
        refine ih.at_ (j - z.size) v _ hv ?_
        have hlt2 : j - z.size < n * z.size := by rw [Nat.add_mul] at hjlt; omega
        rw [Array.getElem?_map, Array.getElem?_eq_getElem (by simpa using hlt2)]
        simp only [Option.map_some, Array.getElem_range, Option.some.injEq]
        have hm2 : (j - z.size) % z.size = j % z.size := by
          have : j = (j - z.size) + z.size := by omega
          rw [this, Nat.add_mod_right, Nat.add_sub_cancel]
        rw [hm2, getElem!_pos z _ hm]

theorem ev_buildS (hT : TOk P T) (hw : WR ι F h w) (hf : FR ι F w fr a.tmps) (nid : Nat) {o : Oper} {t : TypeId} {n : Nat} {ps : Array (Nat × Operand)} (ho : o.op = .buildSlice t n ps) :
    OpR P ι F h w ((execOp a.eval o).run P w) (evOp std T nid fr h o) := by
  simp only [evOp, evBuildS, ho, execOp, tiOf]
  split
  · rename_i e hd
    obtain ⟨it, dt, zt, hit, hut, _, _, _, _, _, _, hD⟩ := ti_ok hT (t := t) (by rw [hd]; simp)
    rw [hd] at hD
    have hdt := dm_slice hD
    subst hdt
    split
    · trivial
    · rename_i hne
      obtain ⟨ie, de, ze, hie, hue, hes, hby, hze, hzz, hone, hzl, hDe⟩ := ti_ok hT (t := e) (fun e' => hne e')
      have hz0 := zero_cr (ι := ι) (F := F) (w := w) hzz hone
      have hzs : ze.cells.size = (T e).size := by
        rw [hz0.size, hzl]
      split
      · rename_i hle
        have hle' : n * (T e).size ≤ 16777216 := Nat.le_of_ble_eq_true hle
        split
        · rename_i cs hfill
          split
          · rename_i els hrows
            obtain ⟨r1, r2, r3, r4⟩ := rows_at hrows
            obtain ⟨p1, p2⟩ := parts_ok hf ps.toList
            obtain ⟨c', q1, q2⟩ := fill_ok (ι := ι) (F := F) (w := w) _ (fun i => some (i * (T e).size, (T e).size)) (fun i hi => rfl) _ _ _ _ _ p1 p2 (flatN_at hz0 n) hfill
            refine newArr hw q2 r1 r2 r3 r4 (e := e) ?_
            have hsz : ie.size = ze.cells.size := by rw [hes, hzs]
            have hnle : ¬ n * ie.size > 2 ^ 24 := by rw [hes]; omega
            have hps : (ps.map fun (i, x) => (i, a.eval x)).toList = ps.toList.map fun (i, x) => (i, a.eval x) := Array.toList_map ..
            rw [← hzs] at q1
            have q1' : Instr.fill (fun i => some (i * ze.cells.size, ze.cells.size)) ((Array.range (n * ze.cells.size)).map (fun t => ze.cells[t % ze.cells.size]!)) (ps.map fun (i, x) => (i, a.eval x)).toList = some c' := by
              rw [hps]; exact q1
            generalize (ps.map fun (i, x) => (i, a.eval x)) = pv at q1' ⊢
            rw [hsz] at hnle
            by_cases h0 : n * ze.cells.size = 0
            · rw [h0] at q1'
              have e0 : (Array.range 0).map (fun t => ze.cells[t % ze.cells.size]!) = #[] := by simp
              have e1 : (Array.range 0).map (fun t => (#[] : Array Value)[t % (#[] : Array Value).size]!) = #[] := by simp
              rw [e0] at q1'
              simp only [Instr.buildSlice, Sem.run_bind, run_underlying hut w, Result.andThen_ok, run_size hie, hsz]
              rw [if_neg hnle]
              simp only [h0, if_true, Sem.run_pure, Sem.run_bind, Result.andThen_ok, e1, q1']
              simp [newRow]
            · simp only [Instr.buildSlice, Sem.run_bind, run_underlying hut w, Result.andThen_ok, run_size hie, hsz]
              rw [if_neg hnle]
              simp only [h0, if_false, Sem.run_pure, Sem.run_bind, Result.andThen_ok, run_zero hie hze, q1']
              simp [newRow]
          · trivial
        · trivial
      · trivial
  · trivial

theorem rep_at {zs : List V} {sz : Nat} (hz : zs.length = sz) : ∀ n, (rep zs n).length = n ∧ (∀ e ∈ rep zs n, e.length = sz) ∧ (flatN zs n).length = n * sz ∧
    ∀ (i j : Nat) (e : List V) (v : V), (rep zs n)[i]? = some e → e[j]? = some v → (flatN zs n)[i * sz + j]? = some v
  | 0 => by simp [rep, flatN]
  | n + 1 => by
    obtain ⟨h1, h2, h3, h4⟩ := rep_at hz n
    refine ⟨by simp [rep, h1], fun e he => ?_, by simp [flatN, app2_eq, h3, hz, Nat.add_mul, Nat.add_comm], fun i j e v hi hj => ?_⟩
    · rcases List.mem_cons.1 he with rfl | he
      · exact hz
      · exact h2 e he
    · simp only [flatN, app2_eq]
      cases i with
      | zero =>
        simp [rep] at hi
        subst hi
        rw [Nat.zero_mul, Nat.zero_add, List.getElem?_append_left]
        · exact hj
        · rcases Nat.lt_or_ge j zs.length with h' | h'
          · exact h'
          · rw [List.getElem?_eq_none h'] at hj; cases hj
      | succ i =>
        have := h4 i j e v (by simpa [rep] using hi) hj
        rw [show (i + 1) * sz + j = zs.length + (i * sz + j) by rw [hz, Nat.add_mul]; omega, List.getElem?_append_right (by omega)]
        simpa using this

theorem wrap_small {n : Int} (h0 : 0 ≤ n) (h1 : n ≤ 1048576) : IntKind.i64.wrap n = n := by
  rw [IntKind.wrap_i64]; omega

theorem run_askRoom (n : Nat) : (askRoom n).run P w = .ok () w := by unfold askRoom; split <;> simp

theorem ev_makeS (hT : TOk P T) (hw : WR ι F h w) (hf : FR ι F w fr a.tmps) (nid : Nat) {o : Oper} {t : TypeId} {x y : Operand} (ho : o.op = .makeSlice t x y) :
    OpR P ι F h w ((execOp a.eval o).run P w) (evOp std T nid fr h o) := by
  have hx := VR.arg hf x
  have hy := VR.arg hf y
  simp only [evOp, evMakeS, ho, execOp, tiOf]
  split
  · rename_i e hd
    obtain ⟨it, dt, zt, hit, hut, _, _, _, _, _, _, hD⟩ := ti_ok hT (t := t) (by rw [hd]; simp)
    rw [hd] at hD
    have hdt := dm_slice hD
    subst hdt
    split
    · trivial
    · rename_i hne
      obtain ⟨ie, de, ze, hie, hue, hes, hby, hze, hzz, hone, hzl, hDe⟩ := ti_ok hT (t := e) (fun e' => hne e')
      have hz0 := zero_cr (ι := ι) (F := F) (w := w) hzz hone
      have hzs : ze.cells.size = (T e).size := by rw [hz0.size, hzl]
      generalize arg fr x = vx at hx ⊢; generalize a.eval x = cx at hx ⊢
      generalize arg fr y = vy at hy ⊢; generalize a.eval y = cy at hy ⊢
      split
      · rename_i _ _ k1 m k2 c
        cases hx; cases hy
        split
        · rename_i hm hc
          split
          · rename_i hmc hb
            obtain ⟨m0, m1⟩ := std_le hm
            obtain ⟨c0, c1⟩ := std_le hc
            have hmc' : m = c := by have := Nat.eq_of_beq_eq_true hmc; simp only [std] at this; omega
            subst hmc'
            have hb' : (T e).bytes ≤ 1024 := Nat.le_of_ble_eq_true hb
            have hN : std .toN m = m.toNat := rfl
            rw [hN]
            obtain ⟨r1, r2, r3, r4⟩ := rep_at (zs := (T e).zero) hzl m.toNat
            refine newArr hw (flatN_at hz0 m.toNat) r1 r2 r3 r4 (e := e) ?_
            have hw1 := wrap_small m0 m1
            have hbig : ¬ ((ie.bytes : Int) * m > 2 ^ 48) := by
              rw [hby]
              have : ((T e).bytes : Int) * m ≤ 1024 * 1048576 := Int.mul_le_mul (by omega) m1 m0 (by omega)
              omega
            have t1 : (decide (m < 0) || decide ((ie.bytes : Int) * m > 2 ^ 48)) = false := by simp; omega
            have hsz : ie.size = ze.cells.size := by rw [hes, hzs]
            simp only [Instr.makeSlice, Sem.run_bind, run_underlying hut w, Result.andThen_ok, asInt, asIntOf, Sem.run_pure, run_typeInfo w hie, hw1]
            rw [if_neg (by rw [t1]; simp; omega)]
            simp only [Sem.run_bind, run_askRoom, Result.andThen_ok, run_size hie, hsz]
            by_cases h0 : m.toNat * ze.cells.size = 0
            · have e1 : (Array.range 0).map (fun t => (#[] : Array Value)[t % (#[] : Array Value).size]!) = #[] := by simp
              have e0 : (Array.range 0).map (fun t => ze.cells[t % ze.cells.size]!) = #[] := by simp
              simp only [h0, if_true, Sem.run_pure, Sem.run_bind, Result.andThen_ok, e1]
              simp [newRow, e0]
            · simp only [h0, if_false, Sem.run_pure, Sem.run_bind, Result.andThen_ok, run_zero hie hze]
              simp [newRow]
          · trivial
        · trivial
      · trivial
  · trivial
end
end Go.AV
namespace Go.AV
open Go
section
variable {P : Program} {T : TypeId → TI} {ι : Nat → Option Pl} {F : Nat → Prop} {h : Hp} {w : World} {a : Act} {fr : Fr}

theorem clr_eq (els : List (List V)) (off len : Nat) (zs : List V) : clr std els off len zs = els.take off ++ (rep zs len ++ els.drop (off + len)) := by
  simp [clr, std]

theorem rep_get {zs : List V} (n i : Nat) : (rep zs n)[i]? = if i < n then some zs else none := by
  induction n generalizing i with
  | zero => simp [rep]
  | succ n ih => cases i with
    | zero => simp [rep]
    | succ i => simp [rep, ih]

theorem clr_get {els : List (List V)} {off len : Nat} {zs : List V} (hl : off + len ≤ els.length) (i : Nat) :
    (clr std els off len zs)[i]? = if off ≤ i ∧ i < off + len then some zs else els[i]? := by
  have hr : ∀ n, (rep zs n).length = n := fun n => by induction n with | zero => rfl | succ n ih => simp [rep, ih]
  rw [clr_eq]
  have ht : (els.take off).length = off := by simp; omega
  rcases Nat.lt_or_ge i off with h1 | h1
  · rw [List.getElem?_append_left (by omega), List.getElem?_take, if_pos h1, if_neg (by omega)]
  · rw [List.getElem?_append_right (by omega), ht]
    rcases Nat.lt_or_ge i (off + len) with h2 | h2
    · rw [List.getElem?_append_left (by rw [hr]; omega), rep_get, if_pos (by omega), if_pos ⟨h1, h2⟩]
    · rw [List.getElem?_append_right (by rw [hr]; omega), hr, List.getElem?_drop, if_neg (by omega)]
      congr 1; omega

theorem clr_length {els : List (List V)} {off len : Nat} {zs : List V} (hl : off + len ≤ els.length) : (clr std els off len zs).length = els.length := by
  have hr : ∀ n, (rep zs n).length = n := fun n => by induction n with | zero => rfl | succ n ih => simp [rep, ih]
  rw [clr_eq]
  simp [hr]; omega

/-- Zeros laid over len rows from off on. -/
theorem clear_rows (P : Program) (hw : WR ι F h w) {o : Nat} {p : Pl} {off len cap sz : Nat} {els : List (List V)} (hi : ι o = some p) (hob : ob h o = .arr sz els) (hl : len ≤ cap) (hn : off + len ≤ p.n) (hc : off + cap ≤ p.cap)
    (h0 : len ≠ 0) {zs : List V} {z : Array Value} (hz : CR ι F w zs z) (hzl : zs.length = sz) :
    ∃ w' : World, (storeCells ⟨p.b, p.off + off * p.sz, none⟩ (Builtin.zeroCells z len).toList).run P w = .ok () w' ∧ Ext ι F w ι F w' ∧ WR ι F (setOb h o (.arr sz (clr std els off len zs))) w' := by
  have ho := hw.obj o p hi
  rw [hob] at ho
  obtain ⟨hsz, ⟨hpn, hcap⟩, hall, hrow⟩ := ho
  rcases hrow with h0' | ⟨hb1, hb2, c, e, fr, hc', ht, hroom, hr⟩
  · omega
  have hzsz : z.size = sz := by rw [hz.size, hzl]
  have hf := flatN_at hz len
  have hcells : Builtin.zeroCells z len = (Array.range (len * z.size)).map (fun t => z[t % z.size]!) := rfl
  rw [← hcells] at hf
  obtain ⟨k1, k2, k3, k4⟩ := rep_at (zs := zs) hzl len
  have hlen : (Builtin.zeroCells z len).toList.length = len * sz := by rw [Array.length_toList, hf.size, k3]
  have hmul : off * sz + len * sz ≤ p.cap * sz := by
    have : (off + len) * sz ≤ p.cap * sz := Nat.mul_le_mul_right _ (by omega)
    rw [Nat.add_mul] at this; omega
  obtain ⟨w', c', r1, r2, r3, r4, r5, r6, r7, r8, r9⟩ := storeCells_ok P p.b (p.off + off * p.sz) (Builtin.zeroCells z len).toList 0 w c e fr hc' ht (by rw [hlen, hsz]; omega) (fun v hv => hf.one v hv)
  have ex : Ext ι F w ι F w' := ⟨fun _ _ h => h, fun _ h => h, fun b hb => r5 b (fun e => hb2 (e ▸ hb)), by omega, r7, r8, r9⟩
  have hnf : ob h o ≠ .free := by rw [hob]; simp
  have hreal : Real p (ob h o) := by rw [hob]; show p.cap ≠ 0; omega
  have hob' : ∀ q, ob (setOb h o (.arr sz (clr std els off len zs))) q = if q = o then .arr sz (clr std els off len zs) else ob h q := fun q => ob_setOb h o q _ hnf
  refine ⟨w', r1, ex, hw.upd o ex (fun _ _ _ h => h) (fun q pq hne hiq hrq => r5 _ ?_) (fun q hne => by rw [hob', if_neg hne]) (fun p' hp' => ?_)
    (fun _ => ⟨p, hi⟩) (fun hfr => by rw [hob', if_pos rfl] at hfr; cases hfr) (fun p' hp' hrp q pq hne hiq hrq => ?_)⟩
  · exact hw.apart q o pq p hne hiq hi hrq hreal
  · rw [hi] at hp'; cases hp'
    rw [hob', if_pos rfl]
    have hle : off + len ≤ els.length := by omega
    refine ⟨hsz, ⟨by rw [clr_length hle]; exact hpn, by rw [clr_length hle]; exact hcap⟩, fun l hl' => ?_, .inr ⟨by omega, hb2, c', e, fr, r2, by rw [r3]; exact ht, by omega, fun i' j' l u x hi' hj' hx' => ?_⟩⟩
    · obtain ⟨i, hi'⟩ := List.mem_iff_getElem?.1 hl'
      rw [clr_get hle] at hi'
      split at hi'
      · cases hi'; exact hzl
      · exact hall l (List.mem_of_getElem? hi')
    · rw [clr_get hle] at hi'
      rw [r4, hlen] at hx'
      by_cases hin : off ≤ i' ∧ i' < off + len
      · rw [if_pos hin] at hi'
        cases hi'
        have hj'lt : j' < sz := by
          have := (List.getElem?_eq_some_iff.1 hj').1
          omega
        have hmul2 : (i' - off) * sz + off * sz = i' * sz := by rw [← Nat.add_mul]; congr 1; omega
        have hmul3 : (i' - off) * sz + sz ≤ len * sz := by
          have : (i' - off + 1) * sz ≤ len * sz := Nat.mul_le_mul_right _ (by omega)
          rw [Nat.add_mul] at this; omega
        rw [if_pos (by rw [hsz]; omega)] at hx'
        rw [show p.off + (i' * sz + j') - (p.off + off * p.sz + 0) = (i' - off) * sz + j' by rw [hsz]; omega] at hx'
        have hfl := k4 (i' - off) j' zs u (by rw [rep_get, if_pos (by omega)]) hj'
        exact ⟨(hf.at_ _ u x hfl (by simpa using hx')).mono ex, hf.one x (List.mem_of_getElem? hx')⟩
      · rw [if_neg hin] at hi'
        have hj'lt : j' < sz := by
          have := hall l (List.mem_of_getElem? hi')
          have := (List.getElem?_eq_some_iff.1 hj').1
          omega
        have hno : ¬ (p.off + off * p.sz + 0 ≤ p.off + (i' * sz + j') ∧ p.off + (i' * sz + j') < p.off + off * p.sz + 0 + len * sz) := by
          rw [hsz]
          rintro ⟨q1, q2⟩
          apply hin
          refine ⟨?_, ?_⟩
          · rcases Nat.lt_or_ge i' off with h' | h'
            · have : (i' + 1) * sz ≤ off * sz := Nat.mul_le_mul_right _ (by omega)
              rw [Nat.add_mul] at this; omega
            · exact h'
          · rcases Nat.lt_or_ge i' (off + len) with h' | h'
            · exact h'
            · have : (off + len) * sz ≤ i' * sz := Nat.mul_le_mul_right _ h'
              rw [Nat.add_mul] at this; omega
        rw [if_neg hno] at hx'
        exact ⟨(hr i' j' l u x hi' hj' hx').1.mono ex, (hr i' j' l u x hi' hj' hx').2⟩
  · rw [hi] at hp'; cases hp'
    exact hw.apart o q p pq (fun e => hne e.symm) hi hiq hreal hrq

/-- The built-in 'clear' on a row. -/
theorem ev_clear (hT : TOk P T) (hw : WR ι F h w) {x : V} {c : Value} (hx : VR ι F w x c) {t e : TypeId} (hd : (T t).d = .slice e) (hne : (T e).d ≠ .other) {ty : TypeId} (ts : List TypeId) :
    match (generalizing := false) x with
    | .nils => (Builtin.clear_ (t :: ts).toArray ty #[c]).run P w = .ok (.tuple #[]) w
    | .osl o off len => ∀ sz els, ob h o = .arr sz els → sz = (T e).size → ∃ w', (Builtin.clear_ (t :: ts).toArray ty #[c]).run P w = .ok (.tuple #[]) w' ∧ Ext ι F w ι F w' ∧ WR ι F (setOb h o (.arr sz (clr std els off len (T e).zero))) w'
    | _ => True := by
  obtain ⟨it, dt, zt, hit, hut, _, _, _, _, _, _, hD⟩ := ti_ok hT (t := t) (by rw [hd]; simp)
  rw [hd] at hD
  have hdt := dm_slice hD
  subst hdt
  obtain ⟨ie, de, ze, hie, hue, hes, hby, hze, hzz, hone, hzl, hDe⟩ := ti_ok hT (t := e) hne
  have hz0 := zero_cr (ι := ι) (F := F) (w := w) hzz hone
  cases hx with
  | nils => simp [Builtin.clear_, run_underlying hut w]
  | @osl o p off len cap ad hi hl hn hc ha hs =>
    intro sz els hob hsz
    by_cases h0 : len = 0
    · subst h0
      have hid : clr std els off 0 (T e).zero = els := by
        have hk := hw.obj o p hi
        rw [hob] at hk
        obtain ⟨_, ⟨hpn, _⟩, _, _⟩ := hk
        apply List.ext_getElem?
        intro i
        rw [clr_get (by omega), if_neg (by omega)]
      rw [hid]
      have hsame : WR ι F (setOb h o (.arr sz els)) w := by
        have hnf : ob h o ≠ .free := by rw [hob]; simp
        have hob' : ∀ q, ob (setOb h o (.arr sz els)) q = ob h q := fun q => by
          rw [ob_setOb h o q _ hnf]
          split
          · subst q; exact hob.symm
          · rfl
        exact ⟨fun q hq => hw.free q (by rw [← hob' q]; exact hq), fun q p hq => by rw [hob']; exact hw.obj q p hq, fun q h1 h2 => hw.has q (by rw [← hob' q]; exact h1) (by rw [← hob' q]; exact h2),
          fun q q' p p' hne h1 h2 h3 h4 => hw.apart q q' p p' hne h1 h2 (by rw [← hob' q]; exact h3) (by rw [← hob' q']; exact h4), hw.old⟩
      refine ⟨w, ?_, Ext.refl .., hsame⟩
      cases ad with
      | none => cases hs
      | some ad => simp [Builtin.clear_, run_underlying hut w]
    · obtain ⟨w', r1, ex, hw'⟩ := clear_rows P hw (len := len) (cap := cap) (off := off) hi hob hl hn (Nat.le_of_eq hc) h0 hz0 (by rw [hzl, hsz])
      refine ⟨w', ?_, ex, hw'⟩
      rcases ha with ha | ha
      · omega
      · subst ha
        obtain ⟨m, rfl⟩ : ∃ m, len = m + 1 := ⟨len - 1, by omega⟩
        simp [Builtin.clear_, run_underlying hut w, run_zero hie hze, r1]
  | _ => trivial
end
end Go.AV
namespace Go.AV
open Go
section
variable {P : Program} {T : TypeId → TI} {ι : Nat → Option Pl} {F : Nat → Prop} {h : Hp} {w : World} {a : Act} {fr : Fr}

theorem dm_flt {d : TypeDesc} (hD : DM d .flt) : d = .float .f64 := by
  cases d with
  | float k => cases k <;> simp [DM] at hD; rfl
  | _ => simp [DM] at hD

/-- A text's bytes in a new row. -/
theorem bytes_new {nid : Nat} {bs : ByteArray} {e : TypeId} {r : Result Next} (hw : WR ι F h w)
    (hr : r = .ok (.value (.slice (some ⟨w.heap.size, 0, none⟩) bs.size (grownCap w bs.size 0 e)))
      (w.drew.alloc (.cells (bytesRow bs (grownCap w bs.size 0 e)) e ((bytesRow bs (grownCap w bs.size 0 e)).size, (bytesRow bs (grownCap w bs.size 0 e)).size + 1)))) :
    OpR P ι F h w r (mkOb h nid (.arr 1 (std .bytes bs.data.toList)) (.osl nid 0 (std .slen bs.data.toList))) := by
  have hcap := grownCap_ge w bs.size 0 e
  generalize grownCap w bs.size 0 e = cap at hr hcap
  have hwd := hw.drew
  have ed := Ext.drew ι F w
  have hlen : (std .bytes bs.data.toList).length = bs.size := by simp only [std, List.length_map, Array.length_toList]; rfl
  have hsl : std .slen bs.data.toList = bs.size := by simp only [std, Array.length_toList]; rfl
  have hrs : (bytesRow bs cap).size = cap := by
    have h0 : bs.data.size = bs.size := rfl
    simp [bytesRow, h0]; omega
  have hat : ∀ i, i < bs.size → (bytesRow bs cap)[i]? = some (.int .u8 (bs.data.toList.getD i 0).toNat) := by
    intro i hi
    have h0 : bs.data.size = bs.size := rfl
    have hi' : i < bs.data.size := by omega
    unfold bytesRow
    rw [Array.getElem?_append_left (by simpa using hi'), Array.getElem?_map, Array.getElem?_eq_getElem hi', Option.map_some, List.getD_eq_getElem?_getD, Array.getElem?_toList, Array.getElem?_eq_getElem hi', Option.getD_some]
  rw [hsl]
  have := mkOb_ok (P := P) (nid := nid) (x := .arr 1 (std .bytes bs.data.toList)) (v := .osl nid 0 bs.size) (r := r) hwd
    (.cells (bytesRow bs cap) e ((bytesRow bs cap).size, (bytesRow bs cap).size + 1)) ⟨w.heap.size, 0, 1, bs.size, cap⟩ rfl (by simp)
    (fun e' => ⟨rfl, ⟨hlen, by rw [hlen]; exact hcap⟩, fun l hl => by
        simp only [std, List.mem_map] at hl
        obtain ⟨b, _, rfl⟩ := hl
        rfl, .inr ⟨by simp, fun hF' => absurd (hw.old _ hF') (by simp), bytesRow bs cap, e, ((bytesRow bs cap).size, (bytesRow bs cap).size + 1), by show (w.heap.push _)[w.heap.size]? = _; simp, fun t ht => by simp only; omega, by rw [hrs]; simp, fun i j l v x hi hj hx => by
          simp only [std] at hi
          rw [List.getElem?_map] at hi
          cases hb : bs.data.toList[i]? with
          | none => rw [hb] at hi; simp at hi
          | some b =>
            rw [hb] at hi
            simp only [Option.map_some, Option.some.injEq] at hi
            subst hi
            have hil : i < bs.size := by
              have := (List.getElem?_eq_some_iff.1 hb).1
              rw [Array.length_toList] at this; exact this
            cases j with
            | zero =>
              simp at hj hx
              subst hj
              rw [hat i hil] at hx
              cases hx
              rw [List.getD_eq_getElem?_getD, hb]
              exact ⟨.int _ _, rfl⟩
            | succ j => simp at hj⟩⟩) _ hr (.osl (p := ⟨w.heap.size, 0, 1, bs.size, cap⟩) 0 _ cap _ (by simp [updI]) hcap (by simp) (by simp) (.inr (by simp)) rfl)
  unfold mkOb at this ⊢
  split
  · rename_i h' hnew
    rw [hnew] at this
    obtain ⟨c, w', ι', h1, h3, h4, h5⟩ := this
    exact ⟨c, w', ι', h1, ed.trans h3, h4, h5⟩
  · trivial

theorem push_fold (ns : List Int) : ∀ s : ByteArray, (ns.foldl (fun r n => r.push (UInt8.ofNat n.toNat)) s).data.toList = s.data.toList ++ ns.map (fun n => UInt8.ofNat n.toNat) := by
  induction ns with
  | nil => intro s; simp
  | cons n t ih => intro s; rw [List.foldl_cons, ih]; simp [ByteArray.push]
theorem bstr_at : ∀ {els : List (List V)} {bs : List UInt8}, bstrL els = some bs → ∀ {xs : List Value}, xs.length = els.length → (∀ (i : Nat) (v : V) (x : Value), els[i]? = some [v] → xs[i]? = some x → VR ι F w v x) →
    ∃ ns : List Int, xs = ns.map (Value.int .u8) ∧ (ns.foldl (fun r n => r.push (UInt8.ofNat n.toNat)) ByteArray.empty).data.toList = bs := by
  have key : ∀ {els : List (List V)} {bs : List UInt8}, bstrL els = some bs → ∀ {xs : List Value}, xs.length = els.length → (∀ (i : Nat) (v : V) (x : Value), els[i]? = some [v] → xs[i]? = some x → VR ι F w v x) →
      ∃ ns : List Int, xs = ns.map (Value.int .u8) ∧ ns.map (fun n => UInt8.ofNat n.toNat) = bs := by
    intro els
    induction els with
    | nil => intro bs h xs hl _; simp [bstrL] at h; subst h; exact ⟨[], by simpa using hl, rfl⟩
    | cons c r ih =>
      intro bs h xs hl hat
      simp only [bstrL] at h
      split at h
      · rename_i n
        split at h
        · rename_i t ht
          cases h
          cases xs with
          | nil => simp at hl
          | cons x xs =>
            obtain ⟨ns, e1, e2⟩ := ih ht (xs := xs) (by simpa using hl) (fun i v x h1 h2 => hat (i + 1) v x (by simpa using h1) (by simpa using h2))
            have := hat 0 _ x rfl rfl
            cases this
            exact ⟨n :: ns, by rw [e1]; rfl, by rw [List.map_cons, e2]⟩
        · cases h
      · cases h
  intro els bs h xs hl hat
  obtain ⟨ns, e1, e2⟩ := key h hl hat
  exact ⟨ns, e1, by rw [push_fold, e2]; simp⟩

theorem ev_conv (hT : TOk P T) (hw : WR ι F h w) (hf : FR ι F w fr a.tmps) (nid : Nat) {o : Oper} {s t : TypeId} {x : Operand} (ho : o.op = .convert s t x) :
    OpR P ι F h w ((execOp a.eval o).run P w) (evOp std T nid fr h o) := by
  have hx := VR.arg hf x
  simp only [evOp, evConv, ho, execOp, tiOf]
  generalize arg fr x = v at hx ⊢; generalize a.eval x = c at hx ⊢
  split
  · trivial
  · rename_i e hsl
    split
    · rename_i h8 hst hns
      split
      · rename_i els hels
        split
        · rename_i bs hbs
          have hde : (T e).d = .int .u8 := by
            generalize (T e).d = D at h8
            cases D with
            | int k => cases k <;> first | rfl | cases h8
            | _ => cases h8
          have hdt : (T t).d = .str := by
            generalize (T t).d = D at hst
            cases D <;> first | rfl | cases hst
          obtain ⟨is, ds, zs, his, hus, _, _, _, _, _, _, hDs⟩ := ti_ok hT (t := s) (by rw [hsl]; simp)
          rw [hsl] at hDs
          cases dm_slice hDs
          obtain ⟨ie, de, ze, hie, hue, _, _, _, _, _, _, hDe⟩ := ti_ok hT (t := e) (by rw [hde]; simp)
          rw [hde] at hDe
          cases dm_int hDe
          obtain ⟨it, dt, zt, hit, hut, _, _, _, _, _, _, hDt⟩ := ti_ok hT (t := t) (by rw [hdt]; simp)
          rw [hdt] at hDt
          cases dm_str hDt
          obtain ⟨k1, k2, xs, k3, k4, k5, k6⟩ := elsOf_ok P hw hx hels
          obtain ⟨ns, n1, n2⟩ := bstr_at hbs (xs := xs) (by rw [k3, Nat.mul_one]) (fun i v x h1 h2 => k6 i 0 [v] v x h1 rfl (by rw [Nat.mul_one]; exact h2))
          have hsl : ∃ a cap, c = .slice a els.length cap := by
            cases hx with
            | str => cases hns
            | nils => simp only [elsOf, Option.some.injEq] at hels; subst hels; exact ⟨_, _, rfl⟩
            | isl a cap sz b off x hc hsz ha hx' hr =>
              simp only [elsOf] at hels
              split at hels
              · cases hels; exact ⟨_, _, rfl⟩
              · cases hels
            | osl off len cap a hi hl hn hc ha hs =>
              have := k1 w
              simp only [Builtin.lenOf, Sem.run_pure, Result.ok.injEq, and_true] at this
              exact ⟨a, cap, by rw [this]⟩
            | _ => simp [elsOf] at hels
          obtain ⟨ad, cap, rfl⟩ := hsl
          have hrun : (Conv.bytesToString (.slice ad els.length cap)).run P w = .ok (.string (ns.foldl (fun r n => r.push (UInt8.ofNat n.toNat)) ByteArray.empty)) w := by
            have h4 := k4 w rfl
            cases ad with
            | none =>
              simp only [Builtin.firstCells, Sem.run_pure, Result.ok.injEq, and_true] at h4
              have : xs = [] := by have := congrArg Array.toList h4; simpa using this.symm
              subst this
              have : ns = [] := by simpa using n1.symm
              subst this
              simp [Conv.bytesToString]
            | some a =>
              simp only [Builtin.firstCells, Nat.mul_one] at h4
              exact run_bytesToString w a els.length cap ns (by rw [h4, n1])
          refine OpR.same hw (.str (s := ns.foldl (fun r n => r.push (UInt8.ofNat n.toNat)) ByteArray.empty) ?_) ?_
          · rw [n2]
          · simp only [Sem.run_bind, convert, run_underlying hus w, run_underlying hut w, run_underlying hue w, Result.andThen_ok, hrun, Sem.run_pure]
        · trivial
      · trivial
    · trivial
  · rename_i hns hnsl
    obtain ⟨is, ds, zs, his, hus, _, _, _, _, _, _, hDs⟩ := ti_ok hT (t := s) (fun e => hns e)
    have hus' := run_underlying hus w
    split
    · rename_i k k' n hd
      obtain ⟨it, dt, zt, hit, hut, _, _, _, _, _, _, hD⟩ := ti_ok hT (t := t) (by rw [hd]; simp)
      rw [hd] at hD
      cases dm_int hD
      cases hx
      exact OpR.same hw (.int _ _) (by simp [convert, hus', run_underlying hut w, Conv.intToInt]; rfl)
    · rename_i k' n hd
      obtain ⟨it, dt, zt, hit, hut, _, _, _, _, _, _, hD⟩ := ti_ok hT (t := t) (by rw [hd]; simp)
      rw [hd] at hD
      cases dm_flt hD
      cases hx
      exact OpR.same hw (.flt _) (by simp [convert, hus', run_underlying hut w, Conv.intToFloat]; rfl)
    · rename_i k b hd
      obtain ⟨it, dt, zt, hit, hut, _, _, _, _, _, _, hD⟩ := ti_ok hT (t := t) (by rw [hd]; simp)
      rw [hd] at hD
      cases dm_int hD
      cases hx
      split
      · rename_i n hn
        simp only [std] at hn
        split at hn
        · rename_i m hm
          split at hn
          · rename_i hin
            cases hn
            exact OpR.same hw (.int _ _) (by simp [convert, hus', run_underlying hut w, Conv.floatToInt, hm, hin])
          · cases hn
        · cases hn
      · trivial
    · rename_i l hd
      obtain ⟨it, dt, zt, hit, hut, _, _, _, _, _, _, hD⟩ := ti_ok hT (t := t) (by rw [hd]; simp)
      rw [hd] at hD
      cases dm_str hD
      cases hx with
      | str hs =>
        exact OpR.same hw (.str hs) (by simp [convert, hus', run_underlying hut w])
    · rename_i e b hd
      split
      · rename_i h8 hst hle
        have hde : (T e).d = .int .u8 := by
          generalize (T e).d = D at h8
          cases D with
          | int k => cases k <;> first | rfl | cases h8
          | _ => cases h8
        have hds : (T s).d = .str := by
          generalize (T s).d = D at hst
          cases D <;> first | rfl | cases hst
        obtain ⟨it, dt, zt, hit, hut, _, _, _, _, _, _, hD⟩ := ti_ok hT (t := t) (by rw [hd]; simp)
        rw [hd] at hD
        cases dm_slice hD
        obtain ⟨ie, de, ze, hie, hue, _, _, _, _, _, _, hDe⟩ := ti_ok hT (t := e) (by rw [hde]; simp)
        rw [hde] at hDe
        cases dm_int hDe
        rw [hds] at hDs
        cases dm_str hDs
        cases hx with
        | @str bs _ hs =>
          subst hs
          exact bytes_new (e := e) hw (by simp only [Sem.run_bind, run_bytes_of_string w s t e bs hus hut hue, Result.andThen_ok, Sem.run_pure])
      · trivial
    · trivial

theorem two_flts (hf : FR ι F w fr a.tmps) {as : Array Operand} {m n : Nat} (h1 : args fr as.toList = [.flt m, .flt n]) : as.map a.eval = #[.float .f64 m, .float .f64 n] := by
  obtain ⟨q, r, rfl, hq, hr⟩ := args_two h1
  have e1 := VR.arg hf q
  have e2 := VR.arg hf r
  rw [hq] at e1
  rw [hr] at e2
  generalize h3 : a.eval q = x at e1
  generalize h4 : a.eval r = y at e2
  cases e1; cases e2
  simp [h3, h4]

theorem ev_callB (hT : TOk P T) (hw : WR ι F h w) (hf : FR ι F w fr a.tmps) (nid : Nat) {o : Oper} {b : Builtin} {as : Array Operand} {ts : Array TypeId} (ho : o.op = .call { callee := .builtin b, args := as, argTypes := ts }) :
    OpR P ι F h w ((execOp a.eval o).run P w) (evOp std T nid fr h o) := by
  simp only [evOp, evCallB, ho, execOp, tiOf]
  split
  · rename_i x t r h1 h2
    have := ev_len (ty := o.type) hT hw hf h1 h2
    have e : (do let d ← resolve a.eval { callee := .builtin .len, args := as, argTypes := ts } o.type; invoke d.target d.args : Sem Next).run P w = (((Builtin.len_ ts o.type (as.map a.eval)).run P w).andThen fun c w' => .ok (.value c) w') := by
      simp [resolve, invoke, builtin]
    rw [e]; exact this
  · rename_i s x t u r h1 h2
    split
    · rename_i e hd hu
      split
      · trivial
      · rename_i hne
        have := ev_append (ty := o.type) hT hw hf nid h1 h2 hd hu (fun e' => hne e')
        have e : (do let d ← resolve a.eval { callee := .builtin .append, args := as, argTypes := ts } o.type; invoke d.target d.args : Sem Next).run P w = (((Builtin.append_ ts o.type (as.map a.eval)).run P w).andThen fun c w' => .ok (.value c) w') := by
          simp [resolve, invoke, builtin]
        rw [e]; exact this
    · trivial
  · rename_i x t r h1 h2
    obtain ⟨q, rfl, hq⟩ := args_one h1
    have hx := VR.arg hf q
    rw [hq] at hx
    have hts : ts = (t :: r).toArray := by rw [← h2]
    split
    · rename_i e hd
      split
      · trivial
      · rename_i hne
        have key := ev_clear (ty := o.type) hT hw hx hd (fun e' => hne e') r
        rw [← hts] at key
        have er : (do let d ← resolve a.eval { callee := .builtin .clear, args := #[q], argTypes := ts } o.type; invoke d.target d.args : Sem Next).run P w = (((Builtin.clear_ ts o.type #[a.eval q]).run P w).andThen fun c w' => .ok (.value c) w') := by
          simp [resolve, invoke, builtin]
        rw [er]
        split
        · rw [key]
          exact OpR.same hw (.tup (by simp) (fun j v x hv hx => by simp at hv)) rfl
        · rename_i ob' off len
          split
          · rename_i sz els hob
            split
            · rename_i hb
              obtain ⟨w', k1, k2, k3⟩ := key sz els hob (Nat.eq_of_beq_eq_true hb)
              rw [k1]
              exact ⟨.tuple #[], w', ι, rfl, k2, k3, .tup (by simp) (fun j v x hv hx => by simp at hv)⟩
            · trivial
          · trivial
        · trivial
    · trivial
  · rename_i m n _ h1
    split
    · rename_i c hc
      refine OpR.same hw (.flt c) ?_
      simp only [std] at hc
      have h2 := two_flts hf h1
      simp only [resolve, invoke, builtin, h2, Sem.run_bind, Sem.run_pure, Result.andThen_ok, Builtin.max_, List.foldlM, Builtin.max2]
      split at hc
      · cases hc
      all_goals (rename_i ho'; cases hc; simp [ho'])
    · trivial
  · rename_i m n _ h1
    split
    · rename_i c hc
      refine OpR.same hw (.flt c) ?_
      simp only [std] at hc
      have h2 := two_flts hf h1
      simp only [resolve, invoke, builtin, h2, Sem.run_bind, Sem.run_pure, Result.andThen_ok, Builtin.min_, List.foldlM, Builtin.min2]
      split at hc
      · cases hc
      all_goals (rename_i ho'; cases hc; simp [ho'])
    · trivial
  · rename_i h1
    refine OpR.same hw (.int _ _) ?_
    have h2 := two_ints hf h1
    simp only [resolve, invoke, builtin, h2, Sem.run_bind, Sem.run_pure, Result.andThen_ok, Builtin.max_, List.foldlM, Builtin.max2, std]
    split
    · rename_i hlt; simp [hlt]
    · rename_i hlt; simp [show decide _ = false from decide_eq_false hlt]
  · rename_i h1
    refine OpR.same hw (.int _ _) ?_
    have h2 := two_ints hf h1
    simp only [resolve, invoke, builtin, h2, Sem.run_bind, Sem.run_pure, Result.andThen_ok, Builtin.min_, List.foldlM, Builtin.min2, std]
    split
    · rename_i hlt; simp [hlt]
    · rename_i hlt; simp [show decide _ = false from decide_eq_false hlt]
  · trivial
end
end Go.AV
namespace Go.AV
open Go Go.MapKept
section
variable {P : Program} {T : TypeId → TI} {ι : Nat → Option Pl} {F : Nat → Prop} {h : Hp} {w : World} {a : Act} {fr : Fr}

theorem eqT_agg {t : TypeId} {x y : V} {b : Bool} {fs : List (Bool × Nat × TypeId)} (hd : (T t).d = .strct fs) (h : eqT std T t x y = some b) : (T t).eq = true ∧ ∃ cs ds, x = .agg cs ∧ y = .agg ds := by
  unfold eqT at h
  simp only [tiOf, hd] at h
  split at h
  · rename_i hq
    split at h
    · exact ⟨hq, _, _, rfl, rfl⟩
    · cases h
  · cases h

theorem ev_bin (hT : TOk P T) (hw : WR ι F h w) (hf : FR ι F w fr a.tmps) (nid : Nat) {o : Oper} {op : BinOp} {t u : TypeId} {x y : Operand} (ho : o.op = .binOp op t x y u) :
    OpR P ι F h w ((execOp a.eval o).run P w) (evOp std T nid fr h o) := by
  simp only [evOp, evBin, ho, execOp, tiOf]
  split
  · rename_i hst
    have hfs : ∃ fs, (T t).d = .strct fs := by
      generalize (T t).d = D at hst
      cases D <;> first | exact ⟨_, rfl⟩ | cases hst
    obtain ⟨fs, hd⟩ := hfs
    have hx := VR.arg hf x
    have hy := VR.arg hf y
    have key : ∀ b, eqT std T t (arg fr x) (arg fr y) = some b → (eqGuard op t x y (a.eval x) (a.eval y)).run P w = .ok () w ∧ ∃ cs ds, a.eval x = .agg cs ∧ a.eval y = .agg ds ∧ (Op.equalIn 10000 t (.agg cs) (.agg ds)).run P w = .ok b w := by
      intro b hb
      have h1 := eqT_ok hT hx hy hb
      obtain ⟨hq, cs, ds, e1, e2⟩ := eqT_agg hd hb
      have hk := ((hT t).resolve_left (by rw [hd]; simp)).eqk hq
      rw [e1] at hx
      rw [e2] at hy
      generalize a.eval x = p at hx h1 ⊢
      generalize a.eval y = q at hy h1 ⊢
      cases hx with
      | agg s1 o1 r1 =>
        cases hy with
        | agg s2 o2 r2 =>
          exact ⟨run_eqGuard_agg w op t x y _ _ hk.2, _, _, rfl, rfl, h1⟩
    split
    · rename_i b hb
      obtain ⟨g, cs, ds, e1, e2, e3⟩ := key b hb
      refine OpR.same hw (.bool b) ?_
      simp only [Sem.run_bind, g, Result.andThen_ok]
      rw [e1, e2, run_eql_struct, e3]
      rfl
    · rename_i b hb
      obtain ⟨g, cs, ds, e1, e2, e3⟩ := key b hb
      refine OpR.same hw (.bool (nb b)) ?_
      simp only [Sem.run_bind, g, Result.andThen_ok]
      rw [e1, e2, run_neq_struct, e3, nb_eq]
      rfl
    · trivial
  · exact ev_binS hT hw hf

theorem esOf_ok (P : Program) (hw : WR ι F h w) {v : V} {c : Value} (hv : VR ι F w v c) {es : List (V × V)} (he : esOf h v = some es) :
    ∃ en : Array MapEntry, EsR ι F w es en.toList ∧ ((c = .map none ∧ en = #[]) ∨ ∃ r clk, c = .map (some r) ∧ w.heap[r]? = some (.map en clk)) := by
  cases hv with
  | nilm => simp only [esOf, Option.some.injEq] at he; subst he; exact ⟨#[], ⟨rfl, fun i k v m h1 _ => by simp at h1⟩, .inl ⟨rfl, rfl⟩⟩
  | @mp o p hi =>
    simp only [esOf] at he
    have ho := hw.obj o p hi
    cases hob : ob h o <;> rw [hob] at he ho <;> simp only [reduceCtorEq] at he
    cases he
    obtain ⟨h1, h2, en, clk, h3, h4, h5⟩ := ho
    exact ⟨en, ⟨by simpa using h4, fun i k v m hk hm => h5 i k v m hk (by simpa using hm)⟩, .inr ⟨_, _, rfl, h3⟩⟩
  | _ => simp [esOf] at he

theorem dm_map {d : TypeDesc} {k e : TypeId} (hD : DM d (.map k e)) : d = .map k e := by
  cases d with
  | map k' e' => obtain ⟨h1, h2⟩ := hD; rw [h1, h2]
  | float f => cases f <;> cases hD
  | _ => cases hD

theorem zero_vr (hT : TOk P T) {t : TypeId} (h : (T t).d ≠ .other) : ∃ z, (zeroValue t).run P w = .ok z w ∧ VR ι F w (valOf (T t) (T t).zero) z := by
  obtain ⟨i, z, h1, h2, h3⟩ := ti_zv hT h
  exact ⟨z, run_zero h1 h2, by rw [h3]; exact .const _ _ _ z⟩

theorem ev_look (hT : TOk P T) (hw : WR ι F h w) (hf : FR ι F w fr a.tmps) (nid : Nat) {o : Oper} {t : TypeId} {m k : Operand} {ok : Bool} (ho : o.op = .lookup t m k ok) :
    OpR P ι F h w ((execOp a.eval o).run P w) (evOp std T nid fr h o) := by
  have hm := VR.arg hf m
  have hk := VR.arg hf k
  simp only [evOp, evLook, ho, execOp, tiOf]
  split
  · rename_i kt et hd
    obtain ⟨it, d, z, hit, hu, _, _, _, _, _, _, hD⟩ := ti_ok hT (t := t) (by rw [hd]; simp)
    rw [hd] at hD
    have hdd := dm_map hD
    subst hdd
    split
    · trivial
    · rename_i hne
      split
      · rename_i es hes hkk
        obtain ⟨en, hE, hrun⟩ := esOf_ok P hw hm hes
        split
        · rename_i r hr
          obtain ⟨r', h1, h2⟩ := findK_ok hT hk hkk hE hr
          obtain ⟨zc, hz1, hz2⟩ := zero_vr (ι := ι) (F := F) (w := w) hT (t := et) (fun e => hne e)
          have hck := key_ok hT en.isEmpty hk hkk
          have hl : ∀ (c : Value) (b : Bool), ((∃ j, r' = some (j, c)) ∧ b = true ∨ r' = none ∧ (zeroValue et).run P w = .ok c w ∧ b = false) →
              ((do pure (Next.value (← Instr.lookup t (a.eval m) (a.eval k) ok)) : Sem Next).run P w = .ok (.value (if ok then .tuple #[c, .bool b] else c)) w) := by
            intro c b hcb
            rcases hrun with ⟨e1, e2⟩ | ⟨q, clk, e1, e2⟩
            · rw [e1]
              subst e2
              rcases hcb with ⟨⟨j, e3⟩, e4⟩ | ⟨e3, hz, e4⟩
              · rw [e3] at h1
                simp only [Instr.lookup, Sem.run_bind, run_underlying hu, Result.andThen_ok, Sem.run_pure, hck, h1, e4]
              · rw [e3] at h1
                simp only [Instr.lookup, Sem.run_bind, run_underlying hu, Result.andThen_ok, Sem.run_pure, hck, h1, hz, e4]
            · rw [e1]
              rcases hcb with ⟨⟨j, e3⟩, e4⟩ | ⟨e3, hz, e4⟩
              · rw [e3] at h1
                simp only [Instr.lookup, Sem.run_bind, run_underlying hu, run_getObj_map e2, Result.andThen_ok, Sem.run_pure, hck, h1, e4]
              · rw [e3] at h1
                simp only [Instr.lookup, Sem.run_bind, run_underlying hu, run_getObj_map e2, Result.andThen_ok, Sem.run_pure, hck, h1, hz, e4]
          have tup : ∀ (v : V) (c : Value) (b : Bool), VR ι F w v c → VR ι F w (match (generalizing := false) ok with | true => .tup [v, .bool b] | false => v) (if ok then .tuple #[c, .bool b] else c) := by
            intro v c b hv
            cases ok with
            | true =>
              refine .tup rfl (fun j u x hu hx => ?_)
              match j, hu, hx with
              | 0, hu, hx => simp at hu hx; subst hu; subst hx; exact hv
              | 1, hu, hx => simp at hu hx; subst hu; subst hx; exact .bool b
              | j + 2, hu, hx => simp at hu
            | false => exact hv
          split
          · rename_i i v
            match r', h2 with
            | some (j, c), ⟨e, hv⟩ => exact OpR.same hw (tup v c true hv) (hl c true (.inl ⟨⟨j, rfl⟩, rfl⟩))
          · match r', h2 with
            | none, _ => exact OpR.same hw (tup _ zc false hz2) (hl zc false (.inr ⟨rfl, hz1, rfl⟩))
        · trivial
      · trivial
  · trivial

theorem setN_eq (l : List (V × V)) (i : Nat) (v : V × V) : setN l i v = l.set i v := by
  induction l generalizing i with
  | nil => simp [setN]
  | cons x t ih => cases i <;> simp [setN, ih]
theorem snocP_eq (l : List (V × V)) (v : V × V) : snocP l v = l ++ [v] := by induction l <;> simp [snocP, *]
theorem nthP_eq (l : List (V × V)) (i : Nat) (k v : V) (h : l[i]? = some (k, v)) : nthP l i = k := by
  induction l generalizing i with
  | nil => simp at h
  | cons x t ih => cases i with
    | zero => simp at h; simp [nthP, h]
    | succ i => simpa [nthP] using ih i (by simpa using h)

theorem same1_ok {x y : V} {p q : Value} (hx : VR ι F w x p) (hy : VR ι F w y q) (h : same1 std x y = true) (n : Nat) : Instr.sameBits n p q = true := by
  unfold same1 at h
  split at h
  · cases hx; cases hy; rw [beqB_eq] at h; simpa [Instr.sameBits] using h
  · cases hx; cases hy
    split at h
    · rename_i hk
      have := sameK_eq hk
      subst this
      have : (_ == _) = true := h
      simp [Instr.sameBits]
      simpa using this
    · cases h
  · cases hx with
    | str h1 => cases hy with
      | str h2 =>
        have h3 : (_ == _) = true := h
        simp only [Instr.sameBits]
        rw [beq_toListBytes, ByteArray.toList_eq, ByteArray.toList_eq, h1, h2]
        exact h3
  · cases h
theorem sames_ok (n : Nat) : ∀ {xs ys : List V} {ps qs : List Value}, ps.length = xs.length → qs.length = ys.length → (∀ (j : Nat) (v : V) (x : Value), xs[j]? = some v → ps[j]? = some x → VR ι F w v x) →
    (∀ (j : Nat) (v : V) (x : Value), ys[j]? = some v → qs[j]? = some x → VR ι F w v x) → sames std xs ys = true → ps.length = qs.length ∧ ((ps.zip qs).all fun (x, y) => Instr.sameBits n x y) = true
  | [], [], ps, qs, h1, h2, _, _, _ => by
    have : ps = [] := by simpa using h1
    have : qs = [] := by simpa using h2
    subst_vars; simp
  | x :: xs, y :: ys, [], qs, h1, _, _, _, _ => by simp at h1
  | x :: xs, y :: ys, p :: ps, [], _, h2, _, _, _ => by simp at h2
  | x :: xs, y :: ys, p :: ps, q :: qs, h1, h2, h3, h4, h => by
    simp only [sames] at h
    split at h
    · rename_i hs
      obtain ⟨e1, e2⟩ := sames_ok n (xs := xs) (ys := ys) (ps := ps) (qs := qs) (by simpa using h1) (by simpa using h2) (fun j v x a b => h3 (j + 1) v x (by simpa using a) (by simpa using b))
        (fun j v x a b => h4 (j + 1) v x (by simpa using a) (by simpa using b)) h
      have := same1_ok (h3 0 x p rfl rfl) (h4 0 y q rfl rfl) hs n
      refine ⟨by simp [e1], ?_⟩
      simp only [List.zip_cons_cons, List.all_cons, this, e2, Bool.and_self]
    · cases h
  | [], _ :: _, _, _, _, _, _, _, h => by cases h
  | _ :: _, [], _, _, _, _, _, _, h => by cases h
theorem sameV_ok {x y : V} {p q : Value} (hx : VR ι F w x p) (hy : VR ι F w y q) (h : sameV std x y = true) (n : Nat) : Instr.sameBits (n + 1) p q = true := by
  unfold sameV at h
  split at h
  · cases hx with
    | agg s1 o1 r1 => cases hy with
      | agg s2 o2 r2 =>
        obtain ⟨e1, e2⟩ := sames_ok n (by rw [Array.length_toList]; exact s1) (by rw [Array.length_toList]; exact s2) (fun j v x a b => r1 j v x a (by simpa using b)) (fun j v x a b => r2 j v x a (by simpa using b)) h
        simp only [Instr.sameBits, Bool.and_eq_true]
        exact ⟨by simpa using e1, e2⟩
  · exact same1_ok hx hy h (n + 1)

theorem findK_at {t : TypeId} {k : V} : ∀ {es : List (V × V)} {s i : Nat} {v : V}, findK std T t k s es = some (some (i, v)) → s ≤ i ∧ ∃ a, es[i - s]? = some (a, v)
  | [], s, i, v, h => by simp [findK] at h
  | (a, u) :: r, s, i, v, h => by
    simp only [findK] at h
    split at h
    · split at h
      · cases h; exact ⟨Nat.le_refl _, a, by simp⟩
      · obtain ⟨h1, b, h2⟩ := findK_at h
        have h1' : s + 1 ≤ i := h1
        refine ⟨by omega, b, ?_⟩
        rw [show i - s = (i - (s + 1)) + 1 by omega]
        simpa using h2
    · cases h

theorem ev_mapU (hT : TOk P T) (hw : WR ι F h w) (hf : FR ι F w fr a.tmps) (nid : Nat) {o : Oper} {t : TypeId} {m k x : Operand} (ho : o.op = .mapUpdate t m k x) :
    OpR P ι F h w ((execOp a.eval o).run P w) (evOp std T nid fr h o) := by
  have hm := VR.arg hf m
  have hk := VR.arg hf k
  have hx := VR.arg hf x
  simp only [evOp, evMapU, ho, execOp, tiOf]
  split
  · rename_i kt et hd
    obtain ⟨it, d, z, hit, hu, _, _, _, _, _, _, hD⟩ := ti_ok hT (t := t) (by rw [hd]; simp)
    rw [hd] at hD
    have hdd := dm_map hD
    subst hdd
    split
    · rename_i q hq
      rw [hq] at hm
      generalize a.eval m = cm at hm ⊢
      cases hm with
      | @mp q p hi =>
        split
        · rename_i es hes hkk
          have hob := hw.obj q p hi
          rw [hes] at hob
          obtain ⟨b1, b2, en, clk, b3, b4, b5⟩ := hob
          have hE : EsR ι F w es en.toList := ⟨by simpa using b4, fun i k v m hk hm => b5 i k v m hk (by simpa using hm)⟩
          have hck := key_ok hT false hk hkk
          -- the world behind it
          have fin : ∀ (es' : List (V × V)) (en' : Array MapEntry) (clk' : Nat), en'.size = es'.length → (∀ (i : Nat) (k v : V) (m : MapEntry), es'[i]? = some (k, v) → en'[i]? = some m → VR ι F w k m.key ∧ VR ι F w v m.val) →
              Ext ι F w ι F { w with heap := w.heap.setIfInBounds p.b (.map en' clk') } ∧ WR ι F (setOb h q (.map es')) { w with heap := w.heap.setIfInBounds p.b (.map en' clk') } := by
            intro es' en' clk' hs hat
            obtain ⟨k1, k2⟩ := heap_set (o' := .map en' clk') b3
            have e : Ext ι F w ι F { w with heap := w.heap.setIfInBounds p.b (.map en' clk') } :=
              ⟨fun _ _ h => h, fun _ h => h, fun b hb => k2 b (fun e => b2 (e ▸ hb)), by simp, rfl, rfl, rfl⟩
            refine ⟨e, hw.upd q e (fun _ _ _ h => h) (fun o' p' hne hio hr => k2 _ (fun e' => ?_)) (fun o' hne => by rw [ob_setOb', if_neg hne]) (fun p' hp' => ?_) (fun _ => ⟨p, hi⟩) (fun hfr => ?_) (fun p' hp' _ o' p'' hne hio hr => ?_)⟩
            · exact hw.apart o' q p' p hne hio hi hr (by rw [hes]; trivial) e'
            · rw [hi] at hp'
              cases hp'
              rw [ob_setOb', if_pos rfl]
              refine ⟨by simpa using b1, b2, en', clk', k1, hs, fun i k v m h1 h2 => ?_⟩
              obtain ⟨v1, v2⟩ := hat i k v m h1 h2
              exact ⟨v1.mono e, v2.mono e⟩
            · rw [ob_setOb', if_pos rfl] at hfr; cases hfr
            · rw [hi] at hp'
              cases hp'
              exact hw.apart q o' p p'' (fun e => hne e.symm) hi hio (by rw [hes]; trivial) hr
          split
          · rename_i r hr
            obtain ⟨r', h1, h2⟩ := findK_ok hT hk hkk hE hr
            split
            · rename_i i v
              split
              · rename_i hsv
                obtain ⟨hle, a0, hat0⟩ := findK_at hr
                rw [Nat.sub_zero] at hat0
                match r', h2 with
                | some (j, c), ⟨e, hv⟩ =>
                  subst e
                  have hlt : i < es.length := (List.getElem?_eq_some_iff.1 hat0).1
                  obtain ⟨me, hme⟩ : ∃ me, en[i]? = some me := ⟨en[i]'(by omega), by simp⟩
                  have hvk := (b5 i a0 v me hat0 hme).1
                  rw [nthP_eq es i a0 v hat0] at hsv
                  have hsb : Instr.sameBits 10000 me.key (a.eval k) = true := sameV_ok hvk hk hsv 9999
                  obtain ⟨e1, w1⟩ := fin (es.set i (arg fr k, arg fr x)) (en.modify i fun e => { e with key := a.eval k, val := a.eval x }) clk (by simp [b4]) (fun j k' v' m h1 h2 => by
                    rw [List.getElem?_set] at h1
                    rw [Array.getElem?_modify] at h2
                    by_cases hji : i = j
                    · subst hji
                      rw [if_pos rfl, if_pos hlt] at h1
                      rw [if_pos rfl, hme] at h2
                      cases h1
                      cases h2
                      exact ⟨hk, hx⟩
                    · rw [if_neg hji] at h1 h2
                      exact b5 j k' v' m h1 h2)
                  refine ⟨_, ?_, e1, by rw [setN_eq]; exact w1⟩
                  simp only [Instr.mapUpdate, Sem.run_bind, run_underlying hu, run_getObj_map b3, hck, h1, Result.andThen_ok, hme, Option.map_some, Option.getD_some, Instr.keyThatStays, hsb, if_true, Sem.run_pure,
                    run_setObj_map _ b3]
              · trivial
            · match r', h2 with
              | none, _ =>
                obtain ⟨e1, w1⟩ := fin (es ++ [(arg fr k, arg fr x)]) (en.push { key := a.eval k, val := a.eval x, born := clk }) (clk + 1) (by simp [b4]) (fun j k' v' m h1 h2 => by
                  rw [Array.getElem?_push] at h2
                  by_cases hj : j = en.size
                  · subst hj
                    rw [if_pos rfl] at h2
                    cases h2
                    rw [b4, List.getElem?_append_right (Nat.le_refl _)] at h1
                    simp at h1
                    obtain ⟨rfl, rfl⟩ := h1
                    exact ⟨hk, hx⟩
                  · rw [if_neg hj] at h2
                    have hlt : j < en.size := (Array.getElem?_eq_some_iff.1 h2).1
                    rw [List.getElem?_append_left (by omega)] at h1
                    exact b5 j k' v' m h1 h2)
                refine ⟨_, ?_, e1, by rw [snocP_eq]; exact w1⟩
                simp only [Instr.mapUpdate, Sem.run_bind, run_underlying hu, run_getObj_map b3, hck, h1, Result.andThen_ok, run_setObj_map _ b3, Sem.run_pure]
          · trivial
        · trivial
    · trivial
  · trivial
end
end Go.AV
namespace Go.AV
open Go
section
variable {P : Program} {T : TypeId → TI} {ι : Nat → Option Pl} {F : Nat → Prop} {h : Hp} {w : World} {a : Act} {fr : Fr}

/-- Each operation is as told. -/
theorem evOp_ok (hT : TOk P T) (hw : WR ι F h w) (hf : FR ι F w fr a.tmps) (nid : Nat) (o : Oper) :
    OpR P ι F h w ((execOp a.eval o).run P w) (evOp std T nid fr h o) := by
  cases ho : o.op with
  | move x => exact ev_move hw hf nid (.inl ho)
  | assign x => exact ev_move hw hf nid (.inr ho)
  | pick c x y => exact ev_pick hw hf nid ho
  | alloc t => exact ev_alloc hT hw nid ho
  | box t x => exact ev_box hw hf nid ho
  | build t ps => exact ev_build hT hw hf nid ho
  | buildSlice t n ps => exact ev_buildS hT hw hf nid ho
  | load t x => exact ev_load hT hw hf nid ho
  | store t x y => exact ev_store hT hw hf nid ho
  | nilCheck x => exact ev_nilc hw hf nid ho
  | binOp op t x y u => exact ev_bin hT hw hf nid ho
  | unOp op t x => exact ev_un hw hf nid ho
  | convert s t x => exact ev_conv hT hw hf nid ho
  | makeInterface t x => exact ev_mki hT hw hf nid ho
  | makeFunc f first caps => cases f with
    | func f => exact ev_mkf hw hf nid ho
    | _ => simp only [evOp, ho]; trivial
  | makeMap t r => cases r with
    | none => exact ev_mkm hw nid ho
    | some r => simp only [evOp, ho]; trivial
  | makeSlice t n c => exact ev_makeS hT hw hf nid ho
  | slice t x lo hi mx => cases mx with
    | none => exact ev_slice hT hw hf nid ho
    | some m => cases lo with
      | none => simp only [evOp, ho]; trivial
      | some l => cases hi with
        | none => simp only [evOp, ho]; trivial
        | some u => exact ev_slice3 hT hw hf nid ho
  | fieldAddr t x n => exact ev_fad hT hw hf nid ho
  | field t x n => exact ev_fld hT hw hf nid ho
  | indexAddr t x i => exact ev_iad hT hw hf nid ho
  | index t x i => exact ev_idx hT hw hf nid ho
  | extract x n => exact ev_ext hw hf nid ho
  | panic x => exact ev_panic hw hf nid ho
  | typeAssert x u t ok => cases ok with
    | true => exact ev_tas hT hw hf nid ho
    | false => simp only [evOp, ho]; trivial
  | lookup t m k ok => exact ev_look hT hw hf nid ho
  | mapUpdate t m k x => exact ev_mapU hT hw hf nid ho
  | call c =>
    obtain ⟨f, as, ts⟩ := c
    cases f with
    | value f => exact ev_call hw hf nid ho
    | builtin b => exact ev_callB hT hw hf nid ho
    | invoke r m => simp only [evOp, ho]; trivial
  | _ => simp only [evOp, ho]; trivial
end
end Go.AV
