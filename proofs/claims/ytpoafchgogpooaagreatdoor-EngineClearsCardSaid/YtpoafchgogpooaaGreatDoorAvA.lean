/-
  The abstract machine: its values, heap, operations, and how they stand to the model (definitions and first lemmas). By an AI agent. Conditions: none beyond what each theorem states.
-/
import Derived.Calls
import Derived.Laws.Sem
import Derived.Laws.World
import Derived.Laws.Cells
import Derived.Laws.Entries
import Derived.ChangeKeysEq
import Derived.Laws.Rows
set_option linter.unusedVariables false
set_option linter.unusedSimpArgs false
namespace Go.AV

inductive V where
  | undef
  | bool (b : Bool)
  | int (k : IntKind) (n : Int)
  | rng (k : IntKind) (lo hi : Int)
  | flt (bits : Nat)
  | str (s : List UInt8)
  | nilp
  | bp (o j : Nat)
  | ep (o i j : Nat)
  | cp (cs : List V)
  | nils
  | isl (sz : Nat) (els : List (List V))
  | osl (o off len : Nat)
  | nilm
  | mp (o : Nat)
  | fn (f : FuncId) (caps : List V)
  | fb (f : FuncId) (first : List V)
  | nilf
  | ifc (t : TypeId) (v : V)
  | nili
  | agg (cs : List V)
  | tup (vs : List V)
  deriving Inhabited

inductive Ob where
  | free
  | dead
  | box (cs : List V)
  | arr (sz : Nat) (els : List (List V))
  | map (es : List (V × V))
  | raw (x : Obj)
  deriving Inhabited

/-- What is known of a type. -/
inductive D where
  | bool | int (k : IntKind) | flt | str | ptr (e : TypeId) | slice (e : TypeId) | arr (n : Nat) (e : TypeId) | map (k e : TypeId) | func
  | strct (fs : List (Bool × Nat × TypeId)) | iface | other
  deriving Inhabited
structure TI where
  d : D
  size : Nat
  bytes : Nat
  zero : List V
  eq : Bool := false
instance : Inhabited TI := ⟨⟨.other, 0, 0, [], false⟩⟩
inductive Tr where
  | nil
  | node (l : Tr) (k : Nat) (v : TI) (r : Tr)
def Tr.find : Tr → Nat → Option TI
  | .nil, _ => none
  | .node l k v r, n => match Nat.ble n k, Nat.beq n k with
    | true, true => some v
    | true, false => l.find n
    | false, _ => r.find n

inductive Tag | ar | dv | sh | cm | fa | fc | inb | le | toN | ofN | len | get | set | app | sub | slen | sget | sapp | ssub | scm | nadd | nsub | nle | wr | mget | mput | bytes | bstr | fmax | fmin | cpy | i2f | f2i
@[reducible] def Ty : Tag → Type
  | .ar => BinOp → IntKind → Int → Int → Int
  | .dv => BinOp → IntKind → Int → Int → Option Int
  | .sh => BinOp → IntKind → Int → Int → Option Int
  | .cm => BinOp → Int → Int → Bool
  | .fa => BinOp → Nat → Nat → Option Nat
  | .fc => BinOp → Nat → Nat → Bool
  | .inb => Int → Nat → Bool
  | .le => Int → Nat → Bool
  | .toN => Int → Nat
  | .ofN => Nat → Int
  | .len => List (List V) → Nat
  | .get => List (List V) → Nat → Option (List V)
  | .set => List (List V) → Nat → List V → List (List V)
  | .app => List (List V) → List (List V) → List (List V)
  | .sub => List (List V) → Nat → Nat → List (List V)
  | .slen => List UInt8 → Nat
  | .sget => List UInt8 → Nat → Option Nat
  | .sapp => List UInt8 → List UInt8 → List UInt8
  | .ssub => List UInt8 → Nat → Nat → List UInt8
  | .scm => BinOp → List UInt8 → List UInt8 → Bool
  | .nadd => Nat → Nat → Nat
  | .nsub => Nat → Nat → Nat
  | .nle => Nat → Nat → Bool
  | .wr => IntKind → Int → Int
  | .mget => List (V × V) → V → Option (Option V)
  | .mput => List (V × V) → V → V → Option (List (V × V))
  | .bytes => List UInt8 → List (List V)
  | .bstr => List (List V) → Option (List UInt8)
  | .fmax => Nat → Nat → Option Nat
  | .fmin => Nat → Nat → Option Nat
  | .cpy => List (List V) → Nat → Nat → List (List V) → List (List V)
  | .i2f => Int → Nat
  | .f2i => IntKind → Nat → Option Int

def nth : List V → Nat → V
  | [], _ => .undef
  | v :: _, 0 => v
  | _ :: t, n + 1 => nth t n
def nthQ : List V → Nat → Option V
  | [], _ => none
  | v :: _, 0 => some v
  | _ :: t, n + 1 => nthQ t n
def put : List V → Nat → V → List V
  | [], _, _ => []
  | _ :: t, 0, v => v :: t
  | u :: t, n + 1, v => u :: put t n v
inductive Tree (α : Type) where
  | leaf
  | node (l : Tree α) (x : α) (r : Tree α)
  deriving Inhabited
noncomputable def Tree.get {α : Type} (d : α) (t : Tree α) : Nat → α :=
  Tree.rec (motive := fun _ => Nat → α) (fun _ => d)
    (fun _ x _ gl gr k => Bool.rec (motive := fun _ => α) (Bool.rec (motive := fun _ => α) (gr (Nat.div k 2)) (gl (Nat.sub (Nat.div k 2) 1)) (Nat.beq (Nat.mod k 2) 0)) x (Nat.beq k 0)) t
/-- A tree with one leaf's place filled: so deep. -/
noncomputable def Tree.sing {α : Type} (d : α) (n : Nat) (v : α) : Nat → Tree α :=
  Nat.rec (motive := fun _ => Nat → Tree α) (fun _ => .leaf)
    (fun _ g k => Bool.rec (motive := fun _ => Tree α) (Bool.rec (motive := fun _ => Tree α) (.node .leaf d (g (Nat.div k 2))) (.node (g (Nat.sub (Nat.div k 2) 1)) d .leaf) (Nat.beq (Nat.mod k 2) 0)) (.node .leaf v .leaf) (Nat.beq k 0)) n
noncomputable def Tree.set {α : Type} (d : α) (t : Tree α) : Nat → α → Tree α :=
  Tree.rec (motive := fun _ => Nat → α → Tree α) (fun k v => Tree.sing d (Nat.add k 1) v k)
    (fun l x r sl sr k v => Bool.rec (motive := fun _ => Tree α) (Bool.rec (motive := fun _ => Tree α) (.node l x (sr (Nat.div k 2) v)) (.node (sl (Nat.sub (Nat.div k 2) 1) v) x r) (Nat.beq (Nat.mod k 2) 0)) (.node l v r) (Nat.beq k 0)) t
structure Hp where
  next : Nat
  t : Tree Ob
  deriving Inhabited
noncomputable def ob (h : Hp) (o : Nat) : Ob := h.t.get .free o
noncomputable def setOb (h : Hp) (o : Nat) (x : Ob) : Hp := match h with | ⟨n, t⟩ => ⟨n, t.set .free o x⟩
noncomputable def newOb (h : Hp) (o : Nat) (x : Ob) : Option Hp := match h with | ⟨n, t⟩ => match t.get .free o with | .free => some ⟨match Nat.beq o n with | true => Nat.add n 1 | false => n, t.set .free o x⟩ | _ => none
def lenOb (h : Hp) : Nat := h.next
abbrev Fr := Tree V
noncomputable def frame : Nat → Fr → List V → Fr
  | _, t, [] => t
  | n, t, v :: r => frame (Nat.add n 1) (t.set .undef n v) r
/-- The cells from j on, so many; none: there are not so many. -/
def cut : List V → Nat → Nat → Option (List V)
  | _, 0, 0 => some []
  | v :: t, 0, n + 1 => match cut t 0 n with | some r => some (v :: r) | none => none
  | [], 0, _ + 1 => none
  | _ :: t, j + 1, n => cut t j n
  | [], _ + 1, _ => none
/-- Cells laid over from j on. -/
def lay : List V → Nat → List V → Option (List V)
  | t, 0, [] => some t
  | _ :: t, 0, v :: vs => match lay t 0 vs with | some r => some (v :: r) | none => none
  | [], 0, _ :: _ => none
  | u :: t, j + 1, vs => match lay t j vs with | some r => some (u :: r) | none => none
  | [], _ + 1, _ => none
/-- The cells that a value fills; none: it is not known. -/
def V.cells : V → Option (List V)
  | .agg cs => some cs
  | .undef => none
  | .tup _ => none
  | v => some [v]
def lenV : List V → Nat
  | [] => 0
  | _ :: t => lenV t + 1

def oneC : Value → Bool
  | .agg _ => false
  | .tuple _ => false
  | _ => true
def allOne : List Value → Bool
  | [] => true
  | v :: t => match oneC v with | true => allOne t | false => false
mutual
def ofValue : Value → V
  | .bool b => .bool b
  | .int k n => .int k n
  | .float .f64 b => .flt b
  | .string s => .str s.data.toList
  | .pointer none => .nilp
  | .slice none 0 0 => .nils
  | .map none => .nilm
  | .nilFunc => .nilf
  | .nilIface => .nili
  | .agg ⟨cs⟩ => match allOne cs with | true => .agg (ofValues cs) | false => .undef
  | .tuple ⟨[]⟩ => .tup []
  | _ => .undef
def ofValues : List Value → List V
  | [] => []
  | v :: t => ofValue v :: ofValues t
end
noncomputable def arg (fr : Fr) : Operand → V
  | .tmp t => Tree.get .undef fr t
  | .const v => ofValue v
  | .func f => .fn f []
  | .global _ => .undef

inductive Res where
  | val (v : V) (h : Hp)
  | non (h : Hp)
  | call (f : FuncId) (args : List V) (h : Hp)
  | pan (v : V) (h : Hp)
  | bad (n : Nat)

section
variable (A : ∀ t, Ty t) (T : TypeId → TI)

/-- Memory behind a pointer: n cells. -/
noncomputable def loadN (h : Hp) (n : Nat) : V → Option (List V)
  | .cp cs => cut cs 0 n
  | .bp o j => match ob h o with
    | .box cs => cut cs j n
    | _ => none
  | .ep o i j => match ob h o with
    | .arr _ els => match A .get els i with
      | some cs => cut cs j n
      | none => none
    | _ => none
  | _ => none
noncomputable def storeN (h : Hp) (vs : List V) : V → Option (Hp)
  | .bp o j => match ob h o with
    | .box cs => match lay cs j vs with
      | some cs => some (setOb h o (.box cs))
      | none => none
    | _ => none
  | .ep o i j => match ob h o with
    | .arr sz els => match A .get els i with
      | some cs => match lay cs j vs with
        | some cs => some (setOb h o (.arr sz (A .set els i cs)))
        | none => none
      | none => none
    | _ => none
  | _ => none
def tiOf (t : TypeId) : TI := T t
def Tr.ti (T : Tr) (t : TypeId) : TI := match T.find t with | some i => i | none => default
def isAggT (i : TI) : Bool := match i.d with | .strct _ => true | .arr _ _ => true | _ => false
def valOf (i : TI) (cs : List V) : V := match isAggT i, cs with
  | true, cs => .agg cs
  | false, v :: _ => v
  | false, [] => .undef
def szL (i : TI) : Nat := match isAggT i with | true => i.size | false => 1
def fill (cs : List V) (places : Nat → Nat × Nat) : List (Nat × V) → Option (List V)
  | [] => some cs
  | (i, v) :: r => match v.cells with
    | some vs => match Nat.beq (places i).2 0 with
      | true => none
      | false => match Nat.beq (lenV vs) (places i).2 with
        | true => match lay cs (places i).1 vs with
          | some cs => fill cs places r
          | none => none
        | false => none
    | none => none
def fieldOff : List (Bool × Nat × TypeId) → Nat → Option (Nat × TypeId)
  | [], _ => none
  | (_, o, t) :: _, 0 => some (o, t)
  | _ :: r, n + 1 => fieldOff r n
def isOther : D → Bool
  | .other => true
  | _ => false
def knownFs : List (Bool × Nat × TypeId) → Bool
  | [] => true
  | (_, _, t) :: r => match isOther (tiOf T t).d with | true => false | false => knownFs r
def rep (cs : List V) : Nat → List (List V)
  | 0 => []
  | n + 1 => cs :: rep cs n
def app2 : List V → List V → List V
  | [], b => b
  | v :: t, b => v :: app2 t b
def flatN (cs : List V) : Nat → List V
  | 0 => []
  | n + 1 => app2 cs (flatN cs n)
def dropN : Nat → List V → List V
  | 0, l => l
  | _ + 1, [] => []
  | n + 1, _ :: t => dropN n t
/-- So many rows of so many cells. -/
def rows (sz : Nat) : Nat → List V → Option (List (List V))
  | 0, [] => some []
  | 0, _ :: _ => none
  | n + 1, cs => match cut cs 0 sz, rows sz n (dropN sz cs) with
    | some r, some t => some (r :: t)
    | _, _ => none
noncomputable def args (fr : Fr) : List Operand → List V
  | [] => []
  | x :: r => arg fr x :: args fr r
noncomputable def parts (fr : Fr) : List (Nat × Operand) → List (Nat × V)
  | [] => []
  | (i, x) :: r => (i, arg fr x) :: parts fr r
/-- The elements of a slice whose elements have so many cells (or of a text's bytes). -/
noncomputable def elsOf (h : Hp) (sz : Nat) : V → Option (List (List V))
  | .nils => some []
  | .isl s els => match Nat.beq s sz with | true => some els | false => none
  | .osl o off len => match ob h o with
    | .arr s els => match Nat.beq s sz with | true => some (A .sub els off (A .nadd off len)) | false => none
    | _ => none
  | .str s => match Nat.beq sz 1 with | true => some (A .bytes s) | false => none
  | _ => none

def sameK : IntKind → IntKind → Bool
  | .i8, .i8 | .i16, .i16 | .i32, .i32 | .i64, .i64 | .u8, .u8 | .u16, .u16 | .u32, .u32 | .u64, .u64 => true
  | _, _ => false
def nb : Bool → Bool | true => false | false => true
def beqB : Bool → Bool → Bool
  | true, b => b
  | false, b => nb b
/-- Two values of one scalar type. -/
def eq1 (d : D) (x y : V) : Option Bool :=
  match d, x, y with
  | .bool, .bool a, .bool b => some (beqB a b)
  | .int _, .int k a, .int k' b => match sameK k k' with | true => some (A .cm .eql a b) | false => none
  | .str, .str a, .str b => some (A .scm .eql a b)
  | _, _, _ => none
/-- '==' but on numbers and texts; c: one of them is a constant. -/
def eqV (d : D) (c : Bool) (x y : V) : Option Bool :=
  match d, x, y with
  | .bool, .bool a, .bool b => some (beqB a b)
  | .ptr _, .nilp, .nilp => some true
  | .ptr _, .nilp, .bp _ _ | .ptr _, .nilp, .ep _ _ _ | .ptr _, .nilp, .cp _ | .ptr _, .bp _ _, .nilp | .ptr _, .ep _ _ _, .nilp | .ptr _, .cp _, .nilp => some false
  | .slice _, .nils, .nils => some true
  | .slice _, .nils, .isl _ els | .slice _, .isl _ els, .nils => match A .inb 0 (A .len els) with | true => some false | false => none
  | .slice _, .nils, .osl _ _ _ | .slice _, .osl _ _ _, .nils => some false
  | .func, .nilf, .nilf => some true
  | .func, .nilf, .fn _ _ | .func, .fn _ _, .nilf | .func, .nilf, .fb _ _ | .func, .fb _ _, .nilf => some false
  | .iface, .nili, .nili => match c with | true => some true | false => none
  | .iface, .nili, .ifc _ _ | .iface, .ifc _ _, .nili => some false
  | _, _, _ => none

/-- Two ranges of numbers compared. -/
def rcmpI (op : BinOp) (l1 h1 l2 h2 : Int) : Option Bool := match op with
  | .lss => match A .cm .lss h1 l2 with | true => some true | false => match A .cm .geq l1 h2 with | true => some false | false => none
  | .leq => match A .cm .leq h1 l2 with | true => some true | false => match A .cm .gtr l1 h2 with | true => some false | false => none
  | .gtr => match A .cm .gtr l1 h2 with | true => some true | false => match A .cm .leq h1 l2 with | true => some false | false => none
  | .geq => match A .cm .geq l1 h2 with | true => some true | false => match A .cm .lss h1 l2 with | true => some false | false => none
  | .eql => match A .cm .lss h1 l2 with | true => some false | false => match A .cm .gtr l1 h2 with | true => some false | false => none
  | .neq => match A .cm .lss h1 l2 with | true => some true | false => match A .cm .gtr l1 h2 with | true => some true | false => none
  | _ => none
def rcmp (op : BinOp) (x y : V) : Option Bool :=
  match x, y with
  | .rng k lo hi, .int k' b => match sameK k k' with | true => rcmpI A op lo hi b b | false => none
  | .int k a, .rng k' lo hi => match sameK k k' with | true => rcmpI A op a a lo hi | false => none
  | .rng k lo hi, .rng k' lo' hi' => match sameK k k' with | true => rcmpI A op lo hi lo' hi' | false => none
  | _, _ => none
def binV (op : BinOp) (d : D) (c : Bool) (x y : V) : Option V :=
  match x, y with
  | .int k a, .int k' b => match op with
    | .shl | .shr => match A .sh op k a b with | some c => some (.int k c) | none => none
    | _ => match sameK k k' with
      | true => match op with
        | .add | .sub | .mul | .and | .or | .xor | .andNot => some (.int k (A .ar op k a b))
        | .quo | .rem => match A .dv op k a b with | some c => some (.int k c) | none => none
        | _ => some (.bool (A .cm op a b))
      | false => none
  | .flt a, .flt b => match op with
    | .add | .sub | .mul | .quo => match A .fa op a b with | some c => some (.flt c) | none => none
    | .eql | .neq | .lss | .leq | .gtr | .geq => some (.bool (A .fc op a b))
    | _ => none
  | .str a, .str b => match op with
    | .add => match A .nle (A .nadd (A .slen a) (A .slen b)) 4611686018427387904 with | true => some (.str (A .sapp a b)) | false => none
    | .eql | .neq | .lss | .leq | .gtr | .geq => some (.bool (A .scm op a b))
    | _ => none
  | x, y => match rcmp A op x y with
    | some b => some (.bool b)
    | none => match op, eqV A d c x y with
      | .eql, some b => some (.bool b)
      | .neq, some b => some (.bool (nb b))
      | _, _ => none
def isConstO : Operand → Bool
  | .const _ => true
  | _ => false
/-- Room for an append: elements of few bytes, few of them. -/
def roomy (bytes : Nat) (n : Nat) : Bool := match Nat.ble bytes 1024 with | true => A .nle n 4294967296 | false => false

/-- A new object, and what leads to it. -/
noncomputable def mkOb (h : Hp) (nid : Nat) (x : Ob) (v : V) : Res := match newOb h nid x with | some h => .val v h | none => .bad 40

noncomputable def evPick (nid : Nat) (fr : Fr) (h : Hp) (c : Operand) (a : Operand) (b : Operand) : Res := match arg fr c with
    | .bool t => match t with
      | true => .val (arg fr a) h
      | false => .val (arg fr b) h
    | _ => .bad 1
noncomputable def evAlloc (nid : Nat) (fr : Fr) (h : Hp) (t : TypeId) : Res := match (tiOf T t).d with
    | .other => .bad 42
    | _ => mkOb h nid (.box (tiOf T t).zero) (.bp nid 0)
noncomputable def evBox (nid : Nat) (fr : Fr) (h : Hp) (x : Operand) : Res := match (arg fr x).cells with
    | some cs => mkOb h nid (.box cs) (.bp nid 0)
    | none => .bad 41
noncomputable def evBuild (nid : Nat) (fr : Fr) (h : Hp) (t : TypeId) (ps : Array (Nat × Operand)) : Res :=
    match (tiOf T t).d with
    | .strct fs => match knownFs T fs with
      | true => match fill (tiOf T t).zero (fun n => match fieldOff fs n with | some (o, t) => (o, (tiOf T t).size) | none => (0, 0)) (parts fr ps.toList) with
        | some cs => .val (.agg cs) h
        | none => .bad 2
      | false => .bad 2
    | _ => .bad 2
noncomputable def evBuildS (nid : Nat) (fr : Fr) (h : Hp) (t : TypeId) (n : Nat) (ps : Array (Nat × Operand)) : Res := match (tiOf T t).d with
    | .slice e => match (tiOf T e).d with
      | .other => .bad 3
      | _ => match Nat.ble (n * (tiOf T e).size) 16777216 with
        | true => match fill (flatN (tiOf T e).zero n) (fun i => (i * (tiOf T e).size, (tiOf T e).size)) (parts fr ps.toList) with
          | some cs => match rows (tiOf T e).size n cs with
            | some els => mkOb h nid (.arr (tiOf T e).size els) (.osl nid 0 n)
            | none => .bad 3
          | none => .bad 3
        | false => .bad 3
    | _ => .bad 3
noncomputable def evLoad (nid : Nat) (fr : Fr) (h : Hp) (t : TypeId) (x : Operand) : Res := match (tiOf T t).d with
    | .other => .bad 4
    | _ => match loadN A h (szL (tiOf T t)) (arg fr x) with
      | some cs => .val (valOf (tiOf T t) cs) h
      | none => .bad 4
noncomputable def evStore (nid : Nat) (fr : Fr) (h : Hp) (t : TypeId) (x : Operand) (y : Operand) : Res := match (tiOf T t).d with
    | .other => .bad 5
    | _ => match (arg fr y).cells with
      | some vs => match Nat.beq (lenV vs) (tiOf T t).size with
        | true => match storeN A h vs (arg fr x) with
          | some h => .non h
          | none => .bad 5
        | false => .bad 5
      | none => .bad 5
noncomputable def evNil (nid : Nat) (fr : Fr) (h : Hp) (x : Operand) : Res := match arg fr x with
    | .bp o j => .val (.bp o j) h
    | .ep o i j => .val (.ep o i j) h
    | .cp cs => .val (.cp cs) h
    | .fn f cs => .val (.fn f cs) h
    | .fb f cs => .val (.fb f cs) h
    | _ => .bad 6
/-- '==' on a struct's cells: fields that are numbers, texts, bools. -/
def eqFs : List (Bool × Nat × TypeId) → List V → List V → Option Bool
  | [], _, _ => some true
  | (b, o, t) :: r, xs, ys => match b with
    | true => match nthQ xs o, nthQ ys o with
      | some x, some y => match eq1 A (tiOf T t).d x y with
        | some e => (match e with | true => eqFs r xs ys | false => some false)
        | none => none
      | _, _ => none
    | false => none
def eqT (t : TypeId) (x y : V) : Option Bool := match (tiOf T t).d with
  | .strct fs => match (tiOf T t).eq with
    | true => match x, y with
      | .agg a, .agg b => eqFs A T fs a b
      | _, _ => none
    | false => none
  | d => eq1 A d x y
def isStrct : D → Bool
  | .strct _ => true
  | _ => false
noncomputable def evBin (nid : Nat) (fr : Fr) (h : Hp) (op : BinOp) (t : TypeId) (x : Operand) (y : Operand) : Res := match isStrct (tiOf T t).d with
  | true => match op, eqT A T t (arg fr x) (arg fr y) with
    | .eql, some b => .val (.bool b) h
    | .neq, some b => .val (.bool (nb b)) h
    | _, _ => .bad 7
  | false => match binV A op (tiOf T t).d (match isConstO x with | true => true | false => isConstO y) (arg fr x) (arg fr y) with
    | some v => .val v h
    | none => .bad 7
noncomputable def evUn (nid : Nat) (fr : Fr) (h : Hp) (op : UnOp) (x : Operand) : Res := match op, arg fr x with
    | .not, .bool b => .val (.bool (nb b)) h
    | .neg, .int k n => .val (.int k (A .ar .sub k 0 n)) h
    | _, _ => .bad 8
/-- The bytes of cells. -/
def bstrL : List (List V) → Option (List UInt8)
  | [] => some []
  | c :: r => match c with
    | [.int .u8 n] => match bstrL r with
      | some t => some (UInt8.ofNat n.toNat :: t)
      | none => none
    | _ => none
def isU8 : D → Bool
  | .int .u8 => true
  | _ => false
def isStr : D → Bool
  | .str => true
  | _ => false
def notStr : V → Bool
  | .str _ => false
  | _ => true
noncomputable def evConv (nid : Nat) (fr : Fr) (h : Hp) (s : TypeId) (t : TypeId) (x : Operand) : Res := match (tiOf T s).d with
    | .other => .bad 9
    | .slice e => match isU8 (tiOf T e).d, isStr (tiOf T t).d, notStr (arg fr x) with
      | true, true, true => match elsOf A h 1 (arg fr x) with
        | some els => match bstrL els with
          | some s => .val (.str s) h
          | none => .bad 9
        | none => .bad 9
      | _, _, _ => .bad 9
    | _ => match (tiOf T t).d, arg fr x with
      | .int k, .int _ n => .val (.int k (A .wr k n)) h
      | .flt, .int _ n => .val (.flt (A .i2f n)) h
      | .int k, .flt b => match A .f2i k b with
        | some n => .val (.int k n) h
        | none => .bad 9
      | .str, .str s => .val (.str s) h
      | .slice e, .str b => match isU8 (tiOf T e).d, isStr (tiOf T s).d, A .nle (A .slen b) 1048576 with
        | true, true, true => mkOb h nid (.arr 1 (A .bytes b)) (.osl nid 0 (A .slen b))
        | _, _, _ => .bad 9
      | _, _ => .bad 9
noncomputable def evMkI (nid : Nat) (fr : Fr) (h : Hp) (t : TypeId) (x : Operand) : Res := match (tiOf T t).d with
    | .other => .bad 43
    | .iface => .bad 43
    | _ => .val (.ifc t (arg fr x)) h
noncomputable def evMkF (nid : Nat) (fr : Fr) (h : Hp) (f : FuncId) (first : Array Operand) (caps : Array Operand) : Res := match first.toList with
    | [] => .val (.fn f (args fr caps.toList)) h
    | a => match caps.toList with
      | [] => .val (.fb f (args fr a)) h
      | _ => .bad 10
noncomputable def evSlice (nid : Nat) (fr : Fr) (h : Hp) (t : TypeId) (x : Operand) (lo : Option Operand) (hi : Option Operand) : Res := match match lo with | some l => arg fr l | none => .int .i64 0 with
    | .int _ l => match (tiOf T t).d, arg fr x with
      | .str, .str s => match match hi with | some m => arg fr m | none => .int .i64 (A .ofN (A .slen s)) with
        | .int _ m => match A .le m (A .slen s) with
          | true => match A .le l (A .toN m) with
            | true => .val (.str (A .ssub s (A .toN l) (A .toN m))) h
            | false => .bad 11
          | false => .bad 11
        | _ => .bad 11
      | .slice e, .isl sz els => match (tiOf T e).d with
        | .other => .bad 12
        | _ => match match hi with | some m => arg fr m | none => .int .i64 (A .ofN (A .len els)) with
        | .int _ m => match Nat.beq sz (tiOf T e).size with
          | true => match A .le m (A .len els) with
            | true => match A .le l (A .toN m) with
              | true => .val (.isl sz (A .sub els (A .toN l) (A .toN m))) h
              | false => .bad 12
            | false => .bad 12
          | false => .bad 12
        | _ => .bad 12
      | .slice e, .nils => match (tiOf T e).d with
        | .other => .bad 13
        | _ => match match hi with | some m => arg fr m | none => .int .i64 0 with
        | .int _ m => match A .le m 0 with
          | true => match A .le l (A .toN m) with
            | true => .val .nils h
            | false => .bad 13
          | false => .bad 13
        | _ => .bad 13
      | .slice e, .osl o off len => match (tiOf T e).d with
        | .other => .bad 13
        | _ => match match hi with | some m => arg fr m | none => .int .i64 (A .ofN len) with
        | .int _ m => match ob h o with
          | .arr sz els => match Nat.beq sz (tiOf T e).size with
            | true => match (match A .le m len with | true => true | false => A .le m (A .nsub (A .len els) off)) with
              | true => match A .le l (A .toN m) with
                | true => .val (.osl o (A .nadd off (A .toN l)) (A .nsub (A .toN m) (A .toN l))) h
                | false => .bad 13
              | false => .bad 13
            | false => .bad 13
          | _ => .bad 13
        | _ => .bad 13
      | _, _ => .bad 14
    | _ => .bad 14
/-- 's[l:m:u]': it fits; what it is is not told. -/
noncomputable def evSlice3 (fr : Fr) (h : Hp) (t : TypeId) (x l m u : Operand) : Res := match (tiOf T t).d, arg fr x with
    | .slice e, .osl _ _ len => match (tiOf T e).d with
      | .other => .bad 14
      | _ => match arg fr l, arg fr m, arg fr u with
        | .int _ l, .int _ m, .int _ u => match A .le u len, A .le m (A .toN u), A .le l (A .toN m) with
          | true, true, true => .val .undef h
          | _, _, _ => .bad 14
        | _, _, _ => .bad 14
    | _, _ => .bad 14
noncomputable def evFAddr (nid : Nat) (fr : Fr) (h : Hp) (t : TypeId) (x : Operand) (n : Nat) : Res := match (tiOf T t).d with
    | .strct fs => match fieldOff fs n with
      | some (o, ft) => match (tiOf T ft).d with
        | .other => .bad 15
        | _ => match Nat.beq (tiOf T ft).size 0 with
          | true => .bad 15
          | false => match arg fr x with
            | .bp b j => .val (.bp b (j + o)) h
            | .ep b i j => .val (.ep b i (j + o)) h
            | .cp cs => match cut cs o (tiOf T ft).size with
              | some cs => .val (.cp cs) h
              | none => .bad 15
            | _ => .bad 15
      | none => .bad 15
    | _ => .bad 15
noncomputable def evFld (nid : Nat) (fr : Fr) (h : Hp) (t : TypeId) (x : Operand) (n : Nat) : Res := match (tiOf T t).d, arg fr x with
    | .strct fs, .agg cs => match fieldOff fs n with
      | some (o, ft) => match (tiOf T ft).d with
        | .other => .bad 16
        | _ => match cut cs o (szL (tiOf T ft)) with
          | some cs => .val (valOf (tiOf T ft) cs) h
          | none => .bad 16
      | none => .bad 16
    | _, _ => .bad 16
noncomputable def evIAddr (nid : Nat) (fr : Fr) (h : Hp) (t : TypeId) (x : Operand) (i : Operand) : Res := match (tiOf T t).d with
    | .slice e => match (tiOf T e).d with
      | .other => .bad 17
      | _ => match arg fr x, arg fr i with
      | .isl sz els, .int _ i => match Nat.beq sz (tiOf T e).size with
        | true => match A .inb i (A .len els) with
          | true => match A .get els (A .toN i) with
            | some cs => .val (.cp cs) h
            | none => .bad 17
          | false => .bad 17
        | false => .bad 17
      | .osl o off len, .int _ i => match ob h o with
        | .arr sz _ => match Nat.beq sz (tiOf T e).size with
          | true => match A .inb i len with
            | true => .val (.ep o (A .nadd off (A .toN i)) 0) h
            | false => .bad 17
          | false => .bad 17
        | _ => .bad 17
      | _, _ => .bad 17
    | _ => .bad 17
noncomputable def evIdx (nid : Nat) (fr : Fr) (h : Hp) (t : TypeId) (x : Operand) (i : Operand) : Res := match (tiOf T t).d, arg fr x, arg fr i with
    | .str, .str s, .int _ i => match A .inb i (A .slen s) with
      | true => match A .sget s (A .toN i) with
        | some b => .val (.int .u8 (A .ofN b)) h
        | none => .bad 18
      | false => .bad 18
    | _, _, _ => .bad 18
noncomputable def evExtr (nid : Nat) (fr : Fr) (h : Hp) (x : Operand) (n : Nat) : Res := match arg fr x with
    | .tup vs => match nthQ vs n with
      | some v => .val v h
      | none => .bad 19
    | _ => .bad 19
noncomputable def evPan (nid : Nat) (fr : Fr) (h : Hp) (x : Operand) : Res := match arg fr x with
    | .ifc t v => .pan (.ifc t v) h
    | _ => .bad 44
noncomputable def evTA (nid : Nat) (fr : Fr) (h : Hp) (x : Operand) (t : TypeId) : Res := match (tiOf T t).d with
    | .other => .bad 45
    | .iface => .bad 45
    | _ => match arg fr x with
      | .ifc u v => match Nat.beq u t with
        | true => .val (.tup [v, .bool true]) h
        | false => .val (.tup [valOf (tiOf T t) (tiOf T t).zero, .bool false]) h
      | .nili => .val (.tup [valOf (tiOf T t) (tiOf T t).zero, .bool false]) h
      | _ => .bad 45
noncomputable def evCallV (nid : Nat) (fr : Fr) (h : Hp) (f : Operand) (xs : Array Operand) : Res := match arg fr f with
    | .fn f caps => .call f (app2 (args fr xs.toList) caps) h
    | .fb f first => .call f (app2 first (args fr xs.toList)) h
    | _ => .bad 20
/-- Rows laid over those from i on. -/
def putRows (els : List (List V)) (i : Nat) (new : List (List V)) : List (List V) := A .app (A .sub els 0 i) (A .app new (A .sub els (A .nadd i (A .len new)) (A .len els)))
/-- Rows from off on, len of them, turned into zeros. -/
def clr (els : List (List V)) (off len : Nat) (zs : List V) : List (List V) := A .app (A .sub els 0 off) (A .app (rep zs len) (A .sub els (A .nadd off len) (A .len els)))
noncomputable def evCallB (nid : Nat) (fr : Fr) (h : Hp) (b : Builtin) (xs : Array Operand) (ts : Array TypeId) : Res := match b, args fr xs.toList, ts.toList with
    | .len, [x], t :: _ => match (tiOf T t).d, x with
      | .str, .str s => .val (.int .i64 (A .ofN (A .slen s))) h
      | .slice _, .isl _ els => .val (.int .i64 (A .ofN (A .len els))) h
      | .slice _, .nils => .val (.int .i64 0) h
      | .slice _, .osl _ _ n => .val (.int .i64 (A .ofN n)) h
      | _, _ => .bad 22
    | .append, [s, x], t :: u :: _ => match (tiOf T t).d, (match (tiOf T u).d with | .slice _ => true | .str => true | _ => false) with
      | .slice e, true => match (tiOf T e).d with
        | .other => .bad 21
        | _ => match elsOf A h (tiOf T e).size x with
          | some new => match s with
            | .nils => match new with | [] => .val .nils h | _ => match roomy A (tiOf T e).bytes (A .len new) with
              | true => mkOb h nid (.arr (tiOf T e).size new) (.osl nid 0 (A .len new))
              | false => .bad 21
            | .osl o off len => match ob h o with
              | .arr sz els => match Nat.beq sz (tiOf T e).size with
                | true => match Nat.ble (A .nadd off (A .nadd len (A .len new))) (A .len els) with
                  | true => .val (.osl o off (A .nadd len (A .len new))) (setOb h o (.arr sz (putRows A els (A .nadd off len) new)))
                  | false => match roomy A (tiOf T e).bytes (A .nadd len (A .len new)) with
                  | true => mkOb (setOb h o .dead) nid (.arr sz (A .app (A .sub els off (A .nadd off len)) new)) (.osl nid 0 (A .nadd len (A .len new)))
                  | false => .bad 21
                | false => .bad 21
              | _ => .bad 21
            | _ => .bad 21
          | none => .bad 21
      | _, _ => .bad 21
    | .clear, [x], t :: _ => match (tiOf T t).d with
      | .slice e => match (tiOf T e).d with
        | .other => .bad 22
        | _ => match x with
          | .nils => .val (.tup []) h
          | .osl o off len => match ob h o with
            | .arr sz els => match Nat.beq sz (tiOf T e).size with
              | true => .val (.tup []) (setOb h o (.arr sz (clr A els off len (tiOf T e).zero)))
              | false => .bad 22
            | _ => .bad 22
          | _ => .bad 22
      | _ => .bad 22
    | .max, [.flt a, .flt b], _ => match A .fmax a b with | some c => .val (.flt c) h | none => .bad 22
    | .min, [.flt a, .flt b], _ => match A .fmin a b with | some c => .val (.flt c) h | none => .bad 22
    | .max, [.int k a, .int _ b], _ => .val (.int k (match A .cm .gtr b a with | true => b | false => a)) h
    | .min, [.int k a, .int _ b], _ => .val (.int k (match A .cm .lss b a with | true => b | false => a)) h
    | _, _, _ => .bad 22
noncomputable def evMakeS (nid : Nat) (fr : Fr) (h : Hp) (t : TypeId) (n c : Operand) : Res := match (tiOf T t).d with
    | .slice e => match (tiOf T e).d with
      | .other => .bad 46
      | _ => match arg fr n, arg fr c with
        | .int _ n, .int _ c => match A .le n 1048576, A .le c 1048576 with
          | true, true => match Nat.beq (A .toN n) (A .toN c), Nat.ble (tiOf T e).bytes 1024 with
            | true, true => mkOb h nid (.arr (tiOf T e).size (rep (tiOf T e).zero (A .toN n))) (.osl nid 0 (A .toN n))
            | _, _ => .bad 46
          | _, _ => .bad 46
        | _, _ => .bad 46
    | _ => .bad 46
/-- Where a key stands, and what it leads to. -/
def findK (t : TypeId) (k : V) : Nat → List (V × V) → Option (Option (Nat × V))
  | _, [] => some none
  | i, (a, v) :: r => match eqT A T t k a with
    | some e => (match e with | true => some (some (i, v)) | false => findK t k (Nat.add i 1) r)
    | none => none
def setN : List (V × V) → Nat → (V × V) → List (V × V)
  | [], _, _ => []
  | _ :: t, 0, v => v :: t
  | u :: t, n + 1, v => u :: setN t n v
def snocP : List (V × V) → (V × V) → List (V × V)
  | [], x => [x]
  | v :: t, x => v :: snocP t x
def nthP : List (V × V) → Nat → V
  | [], _ => .undef
  | v :: _, 0 => v.1
  | _ :: t, n + 1 => nthP t n
/-- The same scalars. -/
def same1 : V → V → Bool
  | .bool a, .bool b => beqB a b
  | .int k a, .int k' b => match sameK k k' with | true => A .cm .eql a b | false => false
  | .str a, .str b => A .scm .eql a b
  | _, _ => false
def sames : List V → List V → Bool
  | [], [] => true
  | x :: s, y :: t => match same1 A x y with | true => sames s t | false => false
  | _, _ => false
def sameV : V → V → Bool
  | .agg a, .agg b => sames A a b
  | x, y => same1 A x y
noncomputable def esOf (h : Hp) : V → Option (List (V × V))
  | .nilm => some []
  | .mp o => match ob h o with | .map es => some es | _ => none
  | _ => none
noncomputable def evLook (nid : Nat) (fr : Fr) (h : Hp) (t : TypeId) (m k : Operand) (ok : Bool) : Res := match (tiOf T t).d with
  | .map kt et => match (tiOf T et).d with
    | .other => .bad 24
    | _ => match esOf h (arg fr m), eqT A T kt (arg fr k) (arg fr k) with
      | some es, some true => match findK A T kt (arg fr k) 0 es with
        | some r => match r with
          | some (_, v) => .val (match ok with | true => .tup [v, .bool true] | false => v) h
          | none => .val (match ok with | true => .tup [valOf (tiOf T et) (tiOf T et).zero, .bool false] | false => valOf (tiOf T et) (tiOf T et).zero) h
        | none => .bad 24
      | _, _ => .bad 24
  | _ => .bad 24
noncomputable def evMapU (nid : Nat) (fr : Fr) (h : Hp) (t : TypeId) (m k x : Operand) : Res := match (tiOf T t).d with
  | .map kt _ => match arg fr m with
    | .mp o => match ob h o, eqT A T kt (arg fr k) (arg fr k) with
      | .map es, some true => match findK A T kt (arg fr k) 0 es with
        | some r => match r with
          | some (i, _) => match sameV A (nthP es i) (arg fr k) with
            | true => .non (setOb h o (.map (setN es i (arg fr k, arg fr x))))
            | false => .bad 25
          | none => .non (setOb h o (.map (snocP es (arg fr k, arg fr x))))
        | none => .bad 25
      | _, _ => .bad 25
    | _ => .bad 25
  | _ => .bad 25
noncomputable def evOp (nid : Nat) (fr : Fr) (h : Hp) (o : Oper) : Res :=
  match o.op with
  | .move x => .val (arg fr x) h
  | .assign x => .val (arg fr x) h
  | .pick c a b => evPick  nid fr h c a b
  | .alloc t => evAlloc T nid fr h t
  | .box _ x => evBox  nid fr h x
  | .build t ps => evBuild T nid fr h t ps
  | .buildSlice t n ps => evBuildS T nid fr h t n ps
  | .load t x => evLoad A T nid fr h t x
  | .store t x y => evStore A T nid fr h t x y
  | .nilCheck x => evNil  nid fr h x
  | .binOp op t x y _ => evBin A T nid fr h op t x y
  | .unOp op _ x => evUn A  nid fr h op x
  | .convert s t x => evConv A T nid fr h s t x
  | .makeInterface t x => evMkI T nid fr h t x
  | .makeFunc (.func f) first caps => evMkF  nid fr h f first caps
  | .makeSlice t n c => evMakeS A T nid fr h t n c
  | .makeMap _ none => mkOb h nid (.map []) (.mp nid)
  | .slice t x lo hi none => evSlice A T nid fr h t x lo hi
  | .slice t x (some l) (some m) (some u) => evSlice3 A T fr h t x l m u
  | .fieldAddr t x n => evFAddr T nid fr h t x n
  | .field t x n => evFld T nid fr h t x n
  | .indexAddr t x i => evIAddr A T nid fr h t x i
  | .index t x i => evIdx A T nid fr h t x i
  | .extract x n => evExtr  nid fr h x n
  | .lookup t m k ok => evLook A T nid fr h t m k ok
  | .mapUpdate t m k x => evMapU A T nid fr h t m k x
  | .panic x => evPan  nid fr h x
  | .typeAssert x _ t true => evTA T nid fr h x t
  | .call { callee := .value f, args := as, .. } => evCallV  nid fr h f as
  | .call { callee := .builtin b, args := as, argTypes := ts } => evCallB A T nid fr h b as ts
  | _ => .bad 23

noncomputable def putD (fr : Fr) : Option Nat → V → Fr
  | none, _ => fr
  | some d, v => Tree.set .undef fr d v
def dstOf : List Oper → Nat → Option Nat
  | [], _ => none
  | o :: _, 0 => o.dst
  | _ :: t, n + 1 => dstOf t n
/-- Is an operation to be done? -/
inductive Wt | yes | no | bad
noncomputable def wantV (all : List Oper) (fr : Fr) : Option (Nat × Bool) → Wt
  | none => .yes
  | some (j, w) => match dstOf all j with
    | some d => match Tree.get .undef fr d with
      | .bool b => match w with
        | true => (match b with | true => .yes | false => .no)
        | false => (match b with | true => .no | false => .yes)
      | .tup [] => .no
      | _ => .bad
    | none => .bad

end
end Go.AV
namespace Go.AV

/-- Where an object lies: its block, where it begins there, an element's cells, for how many elements there is room. -/
structure Pl where
  b : Nat
  off : Nat
  sz : Nat
  n : Nat
  cap : Nat

/-- A value of the machine is as told. -/
inductive VR (ι : Nat → Option Pl) (F : Nat → Prop) (w : World) : V → Value → Prop
  | undef (c) : VR ι F w .undef c
  | bool (b) : VR ι F w (.bool b) (.bool b)
  | int (k n) : VR ι F w (.int k n) (.int k n)
  | rng (k lo hi) {n : Int} (h1 : lo ≤ n) (h2 : n ≤ hi) : VR ι F w (.rng k lo hi) (.int k n)
  | flt (b) : VR ι F w (.flt b) (.float .f64 b)
  | str {s : ByteArray} {l} (h : s.data.toList = l) : VR ι F w (.str l) (.string s)
  | nilp : VR ι F w .nilp (.pointer none)
  | bp {o p} (j : Nat) (h : ι o = some p) : VR ι F w (.bp o j) (.pointer (some ⟨p.b, p.off + j, none⟩))
  | ep {o p} (i j : Nat) (h : ι o = some p) : VR ι F w (.ep o i j) (.pointer (some ⟨p.b, p.off + (i * p.sz + j), none⟩))
  | cp {cs : List V} (b off : Nat) (x : Nat → Value) (hF : F b) (hx : ∀ j, j < cs.length → w.cell? ⟨b, off + j, none⟩ = some (x j))
      (ho : ∀ j, j < cs.length → (x j).oneCell' = true) (hr : ∀ (j : Nat) (v : V), cs[j]? = some v → VR ι F w v (x j)) : VR ι F w (.cp cs) (.pointer (some ⟨b, off, none⟩))
  | nils : VR ι F w .nils (.slice none 0 0)
  | isl {els : List (List V)} (a : Option Addr) (cap sz b off : Nat) (x : Nat → Value) (hc : els.length ≤ cap) (hsz : ∀ e ∈ els, e.length = sz)
      (ha : els ≠ [] → a = some ⟨b, off, none⟩ ∧ F b) (hx : els ≠ [] → ∀ t, t < els.length * sz → w.cell? ⟨b, off + t, none⟩ = some (x t) ∧ (x t).oneCell' = true)
      (hr : ∀ (i j : Nat) (e : List V) (v : V), els[i]? = some e → e[j]? = some v → VR ι F w v (x (i * sz + j))) : VR ι F w (.isl sz els) (.slice a els.length cap)
  | osl {o p} (off len cap : Nat) (a : Option Addr) (h : ι o = some p) (hl : len ≤ cap) (hn : off + len ≤ p.n) (hc : off + cap = p.cap)
      (ha : cap = 0 ∨ a = some ⟨p.b, p.off + off * p.sz, none⟩) (hs : a.isSome = true) : VR ι F w (.osl o off len) (.slice a len cap)
  | nilm : VR ι F w .nilm (.map none)
  | mp {o p} (h : ι o = some p) : VR ι F w (.mp o) (.map (some p.b))
  | fn {caps : List V} {c : Array Value} (f : FuncId) (hs : c.size = caps.length) (hr : ∀ (j : Nat) (v : V) (x : Value), caps[j]? = some v → c[j]? = some x → VR ι F w v x) :
      VR ι F w (.fn f caps) (.func (.func f) #[] c)
  | fb {first : List V} {c : Array Value} (f : FuncId) (hs : c.size = first.length) (hr : ∀ (j : Nat) (v : V) (x : Value), first[j]? = some v → c[j]? = some x → VR ι F w v x) :
      VR ι F w (.fb f first) (.func (.func f) c #[])
  | nilf : VR ι F w .nilf .nilFunc
  | ifc {v c} (t) (h : VR ι F w v c) : VR ι F w (.ifc t v) (.iface t c)
  | nili : VR ι F w .nili .nilIface
  | agg {cs : List V} {c : Array Value} (hs : c.size = cs.length) (ho : ∀ (j : Nat) (x : Value), c[j]? = some x → x.oneCell' = true) (hr : ∀ (j : Nat) (v : V) (x : Value), cs[j]? = some v → c[j]? = some x → VR ι F w v x) : VR ι F w (.agg cs) (.agg c)
  | tup {cs : List V} {c : Array Value} (hs : c.size = cs.length) (hr : ∀ (j : Nat) (v : V) (x : Value), cs[j]? = some v → c[j]? = some x → VR ι F w v x) : VR ι F w (.tup cs) (.tuple c)

/-- A later world: what lay where lies there, what may not change has not. -/
structure Ext (ι : Nat → Option Pl) (F : Nat → Prop) (w : World) (ι' : Nat → Option Pl) (F' : Nat → Prop) (w' : World) : Prop where
  at_ : ∀ o p, ι o = some p → ι' o = some p
  keeps : ∀ b, F b → F' b
  same : ∀ b, F b → w'.heap[b]? = w.heap[b]?
  size : w.heap.size ≤ w'.heap.size
  os : w'.os = w.os
  out : w'.output = w.output
  tape : w'.tape = w.tape

theorem Ext.refl (ι F w) : Ext ι F w ι F w := ⟨fun _ _ h => h, fun _ h => h, fun _ _ => rfl, Nat.le_refl _, rfl, rfl, rfl⟩
theorem Ext.trans {ι F w ι' F' w' ι'' F'' w''} (h : Ext ι F w ι' F' w') (k : Ext ι' F' w' ι'' F'' w'') : Ext ι F w ι'' F'' w'' :=
  ⟨fun o p e => k.at_ o p (h.at_ o p e), fun b e => k.keeps b (h.keeps b e), fun b e => (k.same b (h.keeps b e)).trans (h.same b e), Nat.le_trans h.size k.size,
    k.os.trans h.os, k.out.trans h.out, k.tape.trans h.tape⟩

theorem cell_same {w w' : World} {b o : Nat} (h : w'.heap[b]? = w.heap[b]?) : w'.cell? ⟨b, o, none⟩ = w.cell? ⟨b, o, none⟩ := by
  simp only [World.cell?, h]

theorem VR.mono {ι F w ι' F' w'} (e : Ext ι F w ι' F' w') {v c} (h : VR ι F w v c) : VR ι' F' w' v c := by
  induction h with
  | undef c => exact .undef c
  | bool b => exact .bool b
  | int k n => exact .int k n
  | rng k lo hi h1 h2 => exact .rng k lo hi h1 h2
  | flt b => exact .flt b
  | str h => exact .str h
  | nilp => exact .nilp
  | bp j h => exact .bp j (e.at_ _ _ h)
  | ep i j h => exact .ep i j (e.at_ _ _ h)
  | cp b off x hF hx ho hr ih => exact .cp b off x (e.keeps _ hF) (fun j hj => by rw [cell_same (e.same b hF)]; exact hx j hj) ho ih
  | nils => exact .nils
  | isl a cap sz b off x hc hsz ha hx hr ih =>
    exact .isl a cap sz b off x hc hsz (fun hn => ⟨(ha hn).1, e.keeps _ (ha hn).2⟩) (fun hn t ht => by rw [cell_same (e.same b (ha hn).2)]; exact hx hn t ht) ih
  | osl off len cap a h hl hn hc ha hs => exact .osl off len cap a (e.at_ _ _ h) hl hn hc ha hs
  | nilm => exact .nilm
  | mp h => exact .mp (e.at_ _ _ h)
  | fn f hs hr ih => exact .fn f hs ih
  | fb f hs hr ih => exact .fb f hs ih
  | nilf => exact .nilf
  | ifc t h ih => exact .ifc t ih
  | nili => exact .nili
  | agg hs ho hr ih => exact .agg hs ho ih
  | tup hs hr ih => exact .tup hs ih

/-- No cell of a row may be frozen. -/
def Thawed (fr : Nat × Nat) (n : Nat) : Prop := ∀ t, t < n → ¬ (fr.1 ≤ t ∧ t < fr.2)

/-- An object lies in memory. -/
def ObR (ι : Nat → Option Pl) (F : Nat → Prop) (w : World) (p : Pl) : Ob → Prop
  | .free => False
  | .dead => True
  | .box cs => p.off = 0 ∧ p.b < w.heap.size ∧ ¬ F p.b ∧ ∃ (c : Array Value) (e : TypeId) (fr : Nat × Nat), w.heap[p.b]? = some (.cells c e fr) ∧ Thawed fr c.size ∧ c.size = cs.length ∧
      ∀ (j : Nat) (v : V) (x : Value), cs[j]? = some v → c[j]? = some x → VR ι F w v x ∧ x.oneCell' = true
  | .arr sz els => p.sz = sz ∧ (els.length = p.n ∧ els.length ≤ p.cap) ∧ (∀ e ∈ els, e.length = sz) ∧ (p.cap = 0 ∨ (p.b < w.heap.size ∧ ¬ F p.b ∧ ∃ (c : Array Value) (e : TypeId) (fr : Nat × Nat),
      w.heap[p.b]? = some (.cells c e fr) ∧ Thawed fr c.size ∧ p.off + p.cap * sz ≤ c.size ∧
      ∀ (i j : Nat) (e : List V) (v : V) (x : Value), els[i]? = some e → e[j]? = some v → c[p.off + (i * sz + j)]? = some x → VR ι F w v x ∧ x.oneCell' = true))
  | .map es => p.b < w.heap.size ∧ ¬ F p.b ∧ ∃ (en : Array MapEntry) (clk : Nat), w.heap[p.b]? = some (.map en clk) ∧ en.size = es.length ∧
      ∀ (i : Nat) (k v : V) (m : MapEntry), es[i]? = some (k, v) → en[i]? = some m → VR ι F w k m.key ∧ VR ι F w v m.val
  | .raw x => p.b < w.heap.size ∧ ¬ F p.b ∧ w.heap[p.b]? = some x

def Real (p : Pl) : Ob → Prop
  | .free | .dead => False
  | .arr _ _ => p.cap ≠ 0
  | _ => True

structure WR (ι : Nat → Option Pl) (F : Nat → Prop) (h : Hp) (w : World) : Prop where
  free : ∀ o, ob h o = .free → ι o = none
  obj : ∀ o p, ι o = some p → ObR ι F w p (ob h o)
  has : ∀ o, ob h o ≠ .free → ob h o ≠ .dead → ∃ p, ι o = some p
  apart : ∀ o o' p p', o ≠ o' → ι o = some p → ι o' = some p' → Real p (ob h o) → Real p' (ob h o') → p.b ≠ p'.b
  old : ∀ b, F b → b < w.heap.size

/-- A frame's slots. -/
structure FR (ι : Nat → Option Pl) (F : Nat → Prop) (w : World) (fr : Fr) (t : Array Value) : Prop where
  at_ : ∀ (i : Nat), VR ι F w (fr.get .undef i) (t.getD i undef)

theorem FR.mono {ι F w ι' F' w' fr t} (e : Ext ι F w ι' F' w') (h : FR ι F w fr t) : FR ι' F' w' fr t :=
  ⟨fun i => (h.at_ i).mono e⟩

theorem nthQ_eq (l : List V) (i : Nat) : nthQ l i = l[i]? := by
  induction l generalizing i with
  | nil => rfl
  | cons v t ih => cases i with
    | zero => rfl
    | succ i => simpa [nthQ] using ih i

namespace Tree
theorem beq0 {k : Nat} (h : k ≠ 0) : Nat.beq k 0 = false := by
  cases k with
  | zero => exact absurd rfl h
  | succ k => rfl
theorem get_leaf {α : Type} (d : α) (k : Nat) : (Tree.leaf : Tree α).get d k = d := rfl
theorem get_node {α : Type} (d : α) (l : Tree α) (x : α) (r : Tree α) (k : Nat) :
    (Tree.node l x r).get d k = if k = 0 then x else if k % 2 = 0 then l.get d (k / 2 - 1) else r.get d (k / 2) := by
  show Bool.rec (motive := fun _ => α) (Bool.rec (motive := fun _ => α) (r.get d (k / 2)) (l.get d (k / 2 - 1)) (Nat.beq (k % 2) 0)) x (Nat.beq k 0) = _
  by_cases h : k = 0
  · subst h; rfl
  · rw [if_neg h, beq0 h]
    show Bool.rec (motive := fun _ => α) (r.get d (k / 2)) (l.get d (k / 2 - 1)) (Nat.beq (k % 2) 0) = _
    by_cases h2 : k % 2 = 0
    · rw [if_pos h2, h2]; rfl
    · rw [if_neg h2, beq0 h2]
theorem sing_succ {α : Type} (d : α) (n : Nat) (v : α) (k : Nat) :
    sing d (n + 1) v k = if k = 0 then .node .leaf v .leaf else if k % 2 = 0 then .node (sing d n v (k / 2 - 1)) d .leaf else .node .leaf d (sing d n v (k / 2)) := by
  show Bool.rec (motive := fun _ => Tree α) (Bool.rec (motive := fun _ => Tree α) (.node .leaf d (sing d n v (k / 2))) (.node (sing d n v (k / 2 - 1)) d .leaf) (Nat.beq (k % 2) 0)) (.node .leaf v .leaf) (Nat.beq k 0) = _
  by_cases h : k = 0
  · subst h; rfl
  · rw [if_neg h, beq0 h]
    show Bool.rec (motive := fun _ => Tree α) (.node .leaf d (sing d n v (k / 2))) (.node (sing d n v (k / 2 - 1)) d .leaf) (Nat.beq (k % 2) 0) = _
    by_cases h2 : k % 2 = 0
    · rw [if_pos h2, h2]; rfl
    · rw [if_neg h2, beq0 h2]
theorem set_node {α : Type} (d : α) (l : Tree α) (x : α) (r : Tree α) (k : Nat) (v : α) :
    (Tree.node l x r).set d k v = if k = 0 then .node l v r else if k % 2 = 0 then .node (l.set d (k / 2 - 1) v) x r else .node l x (r.set d (k / 2) v) := by
  show Bool.rec (motive := fun _ => Tree α) (Bool.rec (motive := fun _ => Tree α) (.node l x (r.set d (k / 2) v)) (.node (l.set d (k / 2 - 1) v) x r) (Nat.beq (k % 2) 0)) (.node l v r) (Nat.beq k 0) = _
  by_cases h : k = 0
  · subst h; rfl
  · rw [if_neg h, beq0 h]
    show Bool.rec (motive := fun _ => Tree α) (.node l x (r.set d (k / 2) v)) (.node (l.set d (k / 2 - 1) v) x r) (Nat.beq (k % 2) 0) = _
    by_cases h2 : k % 2 = 0
    · rw [if_pos h2, h2]; rfl
    · rw [if_neg h2, beq0 h2]
theorem get_sing {α : Type} (d : α) (v : α) : ∀ (n k j : Nat), k < n → (sing d n v k).get d j = if j = k then v else d := by
  intro n
  induction n with
  | zero => intro k j hk; omega
  | succ n ih =>
    intro k j hk
    rw [sing_succ]
    by_cases h : k = 0
    · subst h
      rw [if_pos rfl, get_node]
      by_cases hj : j = 0
      · simp [hj]
      · rw [if_neg hj, if_neg hj]; split <;> rfl
    · rw [if_neg h]
      by_cases h2 : k % 2 = 0
      · rw [if_pos h2, get_node]
        by_cases hj : j = 0
        · rw [if_pos hj, if_neg (by omega)]
        · rw [if_neg hj]
          by_cases hj2 : j % 2 = 0
          · rw [if_pos hj2, ih _ _ (by omega)]
            by_cases hjk : j = k
            · rw [if_pos hjk, if_pos (by omega)]
            · rw [if_neg hjk, if_neg (by omega)]
          · rw [if_neg hj2, if_neg (by intro e; subst e; omega)]; rfl
      · rw [if_neg h2, get_node]
        by_cases hj : j = 0
        · rw [if_pos hj, if_neg (by omega)]
        · rw [if_neg hj]
          by_cases hj2 : j % 2 = 0
          · rw [if_pos hj2, if_neg (by intro e; subst e; omega)]; rfl
          · rw [if_neg hj2, ih _ _ (by omega)]
            by_cases hjk : j = k
            · rw [if_pos hjk, if_pos (by omega)]
            · rw [if_neg hjk, if_neg (by omega)]
theorem get_set {α : Type} (d : α) (v : α) (t : Tree α) : ∀ (k j : Nat), (t.set d k v).get d j = if j = k then v else t.get d j := by
  induction t with
  | leaf =>
    intro k j
    show (sing d (k + 1) v k).get d j = _
    rw [get_sing d v (k + 1) k j (by omega)]; rfl
  | node l x r ihl ihr =>
    intro k j
    rw [set_node, get_node]
    by_cases h : k = 0
    · subst h
      rw [if_pos rfl, get_node]
      by_cases hj : j = 0
      · simp [hj]
      · simp [hj]
    · rw [if_neg h]
      by_cases h2 : k % 2 = 0
      · rw [if_pos h2, get_node]
        by_cases hj : j = 0
        · rw [if_pos hj, if_pos hj, if_neg (by omega)]
        · rw [if_neg hj, if_neg hj]
          by_cases hj2 : j % 2 = 0
          · rw [if_pos hj2, if_pos hj2, ihl]
            by_cases hjk : j = k
            · rw [if_pos hjk, if_pos (by omega)]
            · rw [if_neg hjk, if_neg (by omega)]
          · rw [if_neg hj2, if_neg hj2, if_neg (by intro e; subst e; omega)]
      · rw [if_neg h2, get_node]
        by_cases hj : j = 0
        · rw [if_pos hj, if_pos hj, if_neg (by omega)]
        · rw [if_neg hj, if_neg hj]
          by_cases hj2 : j % 2 = 0
          · rw [if_pos hj2, if_pos hj2, if_neg (by intro e; subst e; omega)]
          · rw [if_neg hj2, if_neg hj2, ihr]
            by_cases hjk : j = k
            · rw [if_pos hjk, if_pos (by omega)]
            · rw [if_neg hjk, if_neg (by omega)]
end Tree
theorem ob_setOb' (h : Hp) (i j : Nat) (v : Ob) : ob (setOb h i v) j = if j = i then v else ob h j := by
  cases h; exact Tree.get_set _ _ _ _ _
theorem ob_setOb (h : Hp) (i j : Nat) (v : Ob) (_ : ob h i ≠ .free) : ob (setOb h i v) j = if j = i then v else ob h j := ob_setOb' h i j v
theorem ob_newOb {h : Hp} {i : Nat} {x : Ob} {h' : Hp} (hn : newOb h i x = some h') : ob h i = .free ∧ ∀ j, ob h' j = if j = i then x else ob h j := by
  obtain ⟨n, t⟩ := h
  simp only [newOb] at hn
  split at hn
  · rename_i hf
    cases hn
    exact ⟨hf, fun j => Tree.get_set _ _ _ _ _⟩
  · cases hn

theorem oneC_eq (v : Value) : oneC v = v.oneCell' := by cases v <;> rfl
theorem allOne_at {cs : List Value} (h : allOne cs = true) (j : Nat) (x : Value) (hx : cs[j]? = some x) : x.oneCell' = true := by
  induction cs generalizing j with
  | nil => simp at hx
  | cons v t ih =>
    simp only [allOne] at h
    cases hv : oneC v with
    | false => rw [hv] at h; cases h
    | true =>
      rw [hv] at h
      cases j with
      | zero => simp at hx; subst hx; rw [← oneC_eq]; exact hv
      | succ j => exact ih h j (by simpa using hx)
mutual
theorem VR.const (ι F w) : ∀ v : Value, VR ι F w (ofValue v) v
  | .bool b => by simpa [ofValue] using VR.bool b
  | .int k n => by simpa [ofValue] using VR.int k n
  | .float .f64 b => by simpa [ofValue] using VR.flt b
  | .float .f32 b => by simpa [ofValue] using VR.undef _
  | .complex .. => by simpa [ofValue] using VR.undef _
  | .string s => by simpa [ofValue] using VR.str rfl
  | .pointer none => by simpa [ofValue] using VR.nilp
  | .pointer (some _) => by simpa [ofValue] using VR.undef _
  | .slice none 0 0 => by simpa [ofValue] using VR.nils
  | .slice none (_ + 1) _ => by simpa [ofValue] using VR.undef _
  | .slice none 0 (_ + 1) => by simpa [ofValue] using VR.undef _
  | .slice (some _) _ _ => by simpa [ofValue] using VR.undef _
  | .map none => by simpa [ofValue] using VR.nilm
  | .map (some _) => by simpa [ofValue] using VR.undef _
  | .chan _ => by simpa [ofValue] using VR.undef _
  | .func .. => by simpa [ofValue] using VR.undef _
  | .nilFunc => by simpa [ofValue] using VR.nilf
  | .iface .. => by simpa [ofValue] using VR.undef _
  | .nilIface => by simpa [ofValue] using VR.nili
  | .agg ⟨cs⟩ => by
    have := VR.consts ι F w cs
    cases hA : allOne cs with
    | false => rw [show ofValue (.agg ⟨cs⟩) = .undef by simp [ofValue, hA]]; exact .undef _
    | true =>
      rw [show ofValue (.agg ⟨cs⟩) = .agg (ofValues cs) by simp [ofValue, hA]]
      exact .agg (by simpa using this.1) (fun j x hx => allOne_at hA j x (by simpa using hx)) (fun j v x hv hx => this.2 j v x hv (by simpa using hx))
  | .tuple ⟨[]⟩ => by
    rw [show ofValue (.tuple ⟨[]⟩) = .tup [] by simp [ofValue]]
    exact .tup rfl (fun j v x hv hx => by simp at hv)
  | .tuple ⟨_ :: _⟩ => by simpa [ofValue] using VR.undef _
theorem VR.consts (ι F w) : ∀ cs : List Value, cs.length = (ofValues cs).length ∧ ∀ (j : Nat) (v : V) (x : Value), (ofValues cs)[j]? = some v → cs[j]? = some x → VR ι F w v x
  | [] => ⟨by simp [ofValues], fun j v x hv hx => by simp at hx⟩
  | c :: t => by
    have h1 := VR.const ι F w c
    have h2 := VR.consts ι F w t
    refine ⟨by simp [ofValues, h2.1], fun j v x hv hx => ?_⟩
    cases j with
    | zero =>
      simp [ofValues] at hv hx
      subst hv; subst hx
      exact h1
    | succ j => exact h2.2 j v x (by simpa [ofValues] using hv) (by simpa using hx)
end

theorem VR.arg {ι F w fr} {a : Act} (h : FR ι F w fr a.tmps) (x : Operand) : VR ι F w (arg fr x) (a.eval x) := by
  cases x with
  | tmp t => exact h.at_ t
  | const v => exact .const _ _ _ v
  | global g => exact .undef _
  | func f => exact .fn f rfl (fun j v x hv _ => by simp at hv)

theorem FR.put {ι F w fr} {a : Act} (h : FR ι F w fr a.tmps) {v x} (hv : VR ι F w v x) (d : Option Tmp) (hd : ∀ k, d = some k → k < a.tmps.size) : FR ι F w (putD fr d v) (a.put d x).tmps := by
  cases d with
  | none => exact h
  | some d =>
    refine ⟨fun i => ?_⟩
    simp only [putD, Act.put, Tree.get_set]
    rw [Array.getD_eq_getD_getElem?]
    by_cases hi : i = d
    · subst hi
      rw [Array.getElem?_setIfInBounds]
      simpa [hd i rfl] using hv
    · rw [Array.getElem?_setIfInBounds_ne (fun e => hi e.symm), if_neg hi, ← Array.getD_eq_getD_getElem?]
      exact h.at_ i
end Go.AV
namespace Go.AV

def std : ∀ t, Ty t
  | .ar => fun op k x y => match op with
    | .add => k.wrap (x + y)
    | .sub => k.wrap (x - y)
    | .mul => k.wrap (x * y)
    | .and => k.wrap (BitVec.ofInt k.bits x &&& BitVec.ofInt k.bits y).toNat
    | .or => k.wrap (BitVec.ofInt k.bits x ||| BitVec.ofInt k.bits y).toNat
    | .xor => k.wrap (BitVec.ofInt k.bits x ^^^ BitVec.ofInt k.bits y).toNat
    | .andNot => k.wrap (BitVec.ofInt k.bits x &&& ~~~ BitVec.ofInt k.bits y).toNat
    | _ => 0
  | .dv => fun op k x y => if y = 0 then none else match op with
    | .quo => some (k.wrap (x.tdiv y))
    | .rem => some (x.tmod y)
    | _ => none
  | .sh => fun op k x y => if y < 0 then none else match op with
    | .shl => some (k.wrap (x * 2 ^ min y.toNat k.bits))
    | .shr => some (x.fdiv (2 ^ min y.toNat k.bits))
    | _ => none
  | .cm => fun op x y => match op with
    | .eql => x == y
    | .neq => x != y
    | .lss => decide (x < y)
    | .leq => decide (x ≤ y)
    | .gtr => decide (x > y)
    | .geq => decide (x ≥ y)
    | _ => false
  | .fa => fun op x y => match op with
    | .add => FloatKind.f64.format.add x y
    | .sub => FloatKind.f64.format.sub x y
    | .mul => FloatKind.f64.format.mul x y
    | .quo => FloatKind.f64.format.div x y
    | _ => none
  | .fc => fun op x y => match op with
    | .eql => FloatKind.f64.format.order x y == some .eq
    | .neq => FloatKind.f64.format.order x y != some .eq
    | .lss => FloatKind.f64.format.order x y == some .lt
    | .leq => FloatKind.f64.format.order x y == some .lt || FloatKind.f64.format.order x y == some .eq
    | .gtr => FloatKind.f64.format.order x y == some .gt
    | .geq => FloatKind.f64.format.order x y == some .gt || FloatKind.f64.format.order x y == some .eq
    | _ => false
  | .inb => fun i n => decide (0 ≤ i ∧ i < n)
  | .le => fun i n => decide (0 ≤ i ∧ i ≤ n)
  | .toN => Int.toNat
  | .ofN => fun n => (n : Int)
  | .len => List.length
  | .get => fun l i => l[i]?
  | .set => fun l i v => l.set i v
  | .app => fun a b => a ++ b
  | .sub => fun l a b => (l.take b).drop a
  | .slen => List.length
  | .sget => fun l i => l[i]?.map UInt8.toNat
  | .sapp => fun a b => a ++ b
  | .ssub => fun l a b => (l.take b).drop a
  | .scm => fun op x y => match op with
    | .eql => x == y
    | .neq => !(x == y)
    | .lss => Op.bytesLess x y
    | .leq => Op.bytesLess x y || x == y
    | .gtr => !(Op.bytesLess x y || x == y)
    | .geq => !(Op.bytesLess x y)
    | _ => false
  | .nadd => fun a b => a + b
  | .nsub => fun a b => a - b
  | .nle => fun a b => decide (a ≤ b)
  | .wr => fun k n => k.wrap n
  | .mget => fun _ _ => none
  | .mput => fun _ _ _ => none
  | .bytes => fun s => s.map fun b => [.int .u8 b.toNat]
  | .bstr => fun l => l.mapM fun
    | [.int .u8 n] => some (UInt8.ofNat n.toNat)
    | _ => none
  | .fmax => fun x y => match FloatKind.f64.format.order x y with
    | none => none
    | some .lt => some y
    | some .gt => some x
    | some .eq => some (if (FloatKind.f64.decode x).neg then y else x)
  | .fmin => fun x y => match FloatKind.f64.format.order x y with
    | none => none
    | some .lt => some x
    | some .gt => some y
    | some .eq => some (if (FloatKind.f64.decode x).neg then x else y)
  | .cpy => fun l a n new => l.take a ++ new.take n ++ l.drop (a + min n new.length)
  | .i2f => fun n => FloatKind.f64.nearest n
  | .f2i => fun k b => match (FloatKind.f64.decode b).toInt .zero with
    | some n => if k.min ≤ n ∧ n ≤ k.max then some n else none
    | none => none

/-- What is told of types is so. -/
def DM : TypeDesc → D → Prop
  | .bool, .bool => True
  | .int k, .int k' => k = k'
  | .float .f64, .flt => True
  | .string, .str => True
  | .pointer e, .ptr e' => e = e'
  | .slice e, .slice e' => e = e'
  | .array n e, .arr n' e' => n = n' ∧ e = e'
  | .map k e, .map k' e' => k = k' ∧ e = e'
  | .func _ _ _, .func => True
  | .struct fs, .strct l => l = fs.toList.map (fun f => (f.name != "_", f.offset, f.type))
  | .interface _, .iface => True
  | _, _ => False

structure TI.Ok (P : Program) (t : TypeId) (I : TI) : Prop where
  ex : ∃ i d z, P.info? t = some i ∧ P.underlying t = some d ∧ i.size = I.size ∧ i.bytes = I.bytes ∧ i.zero = some z ∧ I.zero = ofValues z.cells.toList ∧
    allOne z.cells.toList = true ∧ I.zero.length = I.size ∧ DM d I.d
  zv : ∃ i z, P.info? t = some i ∧ i.zero = some z ∧ valOf I I.zero = ofValue z
  eqk : I.eq = true → P.stoodInHeld t = false ∧ P.eqGuardType P.depth t = false
def TOk (P : Program) (T : TypeId → TI) : Prop := ∀ t, (T t).d = .other ∨ (T t).Ok P t

theorem lenV_eq (l : List V) : lenV l = l.length := by induction l <;> simp [lenV, *]
theorem cut_at {cs : List V} {j n : Nat} {r : List V} (h : cut cs j n = some r) : r.length = n ∧ j + n ≤ cs.length ∧ ∀ i, i < n → r[i]? = cs[j + i]? := by
  induction cs generalizing j n r with
  | nil =>
    cases j <;> cases n <;> simp [cut] at h
    subst h
    exact ⟨rfl, by simp, fun i hi => by omega⟩
  | cons v t ih =>
    cases j with
    | zero =>
      cases n with
      | zero => simp [cut] at h; subst h; exact ⟨rfl, by simp, fun i hi => by omega⟩
      | succ n =>
        simp only [cut] at h
        cases hr : cut t 0 n with
        | none => rw [hr] at h; cases h
        | some q =>
          rw [hr] at h
          simp only [Option.some.injEq] at h
          subst h
          obtain ⟨h1, h2, h3⟩ := ih hr
          refine ⟨by simp [h1], by simp; omega, fun i hi => ?_⟩
          cases i with
          | zero => simp
          | succ i => have := h3 i (by omega); simpa using this
    | succ j =>
      simp only [cut] at h
      obtain ⟨h1, h2, h3⟩ := ih h
      refine ⟨h1, by simp; omega, fun i hi => ?_⟩
      have := h3 i hi
      rw [this, show j + 1 + i = (j + i) + 1 by omega]
      simp
theorem lay_at {cs : List V} {j : Nat} {vs r : List V} (h : lay cs j vs = some r) : r.length = cs.length ∧ j + vs.length ≤ cs.length ∧
    ∀ i, r[i]? = if j ≤ i ∧ i < j + vs.length then vs[i - j]? else cs[i]? := by
  induction cs generalizing j vs r with
  | nil =>
    cases j <;> cases vs <;> simp [lay] at h
    subst h
    exact ⟨rfl, by simp, fun i => by simp⟩
  | cons v t ih =>
    cases j with
    | zero =>
      cases vs with
      | nil => simp [lay] at h; subst h; exact ⟨rfl, by simp, fun i => by simp⟩
      | cons u us =>
        simp only [lay] at h
        cases hr : lay t 0 us with
        | none => rw [hr] at h; cases h
        | some q =>
          rw [hr] at h
          simp only [Option.some.injEq] at h
          subst h
          obtain ⟨h1, h2, h3⟩ := ih hr
          refine ⟨by simp [h1], by simp; simpa using h2, fun i => ?_⟩
          cases i with
          | zero => simp
          | succ i => have := h3 i; simpa using this
    | succ j =>
      simp only [lay] at h
      cases hr : lay t j vs with
      | none => rw [hr] at h; cases h
      | some q =>
        rw [hr] at h
        simp only [Option.some.injEq] at h
        subst h
        obtain ⟨h1, h2, h3⟩ := ih hr
        refine ⟨by simp [h1], by simp; omega, fun i => ?_⟩
        cases i with
        | zero => simp
        | succ i =>
          have := h3 i
          simp only [List.getElem?_cons_succ, this]
          by_cases hi : j ≤ i ∧ i < j + vs.length
          · rw [if_pos hi, if_pos (by omega)]
            congr 1
            omega
          · rw [if_neg hi, if_neg (by omega)]

theorem cell_row {w : World} {b : Nat} {c : Array Value} {e : TypeId} {fr : Nat × Nat} (h : w.heap[b]? = some (.cells c e fr)) (j : Nat) : w.cell? ⟨b, j, none⟩ = c[j]? := by
  simp [World.cell?, h]

/-- What is read behind a pointer. -/
theorem loadN_ok {ι F h w} (hw : WR ι F h w) {v c} (hv : VR ι F w v c) {n cs} (hl : loadN std h n v = some cs) :
    ∃ (b off : Nat) (x : Nat → Value), c = .pointer (some ⟨b, off, none⟩) ∧ cs.length = n ∧ (∀ j, j < n → w.cell? ⟨b, off + j, none⟩ = some (x j) ∧ (x j).oneCell' = true) ∧
      ∀ (j : Nat) (u : V), cs[j]? = some u → VR ι F w u (x j) := by
  cases hv with
  | cp b off x hF hx ho hr =>
    simp only [loadN] at hl
    obtain ⟨h1, h2, h3⟩ := cut_at hl
    refine ⟨b, off, x, rfl, h1, fun j hj => ⟨hx j (by omega), ho j (by omega)⟩, fun j u hu => ?_⟩
    have hlt : j < n := by rw [← h1]; exact (List.getElem?_eq_some_iff.1 hu).1
    rw [h3 j hlt, Nat.zero_add] at hu
    exact hr j u hu
  | @bp o p j hi =>
    simp only [loadN] at hl
    have ho := hw.obj o p hi
    cases hob : ob h o <;> rw [hob] at hl ho <;> simp only [reduceCtorEq] at hl
    rename_i bs
    obtain ⟨h0, _, _, c, e, fr, hc, _, hs, hr⟩ := ho
    obtain ⟨h1, h2, h3⟩ := cut_at hl
    have hget : ∀ i, i < n → ∃ y, c[j + i]? = some y := fun i hi => ⟨c[j + i]'(by omega), by rw [Array.getElem?_eq_getElem]⟩
    refine ⟨p.b, p.off + j, fun i => c[j + i]?.getD undef, rfl, h1, fun i hi => ?_, fun i u hu => ?_⟩
    · obtain ⟨y, hy⟩ := hget i hi
      rw [show p.off + j + i = j + i by omega, cell_row hc]
      simp only [hy, Option.getD_some, true_and]
      have hlt : j + i < bs.length := by omega
      exact (hr (j + i) _ y (List.getElem?_eq_getElem hlt) hy).2
    · have hlt : i < n := by rw [← h1]; exact (List.getElem?_eq_some_iff.1 hu).1
      obtain ⟨y, hy⟩ := hget i hlt
      simp only [hy, Option.getD_some]
      exact (hr (j + i) u y (by rw [← h3 i hlt]; exact hu) hy).1
  | @ep o p i j hi =>
    simp only [loadN] at hl
    have ho := hw.obj o p hi
    cases hob : ob h o <;> rw [hob] at hl ho <;> simp only [reduceCtorEq] at hl
    rename_i sz els
    cases hg : std .get els i with
    | none => rw [hg] at hl; cases hl
    | some es =>
      rw [hg] at hl
      simp only at hl
      have hg' : els[i]? = some es := hg
      obtain ⟨h1, h2, h3⟩ := cut_at hl
      obtain ⟨hsz, ⟨_, hcap⟩, hall, hrow⟩ := ho
      have hes : es.length = sz := hall es (List.mem_of_getElem? hg')
      have hilt : i < els.length := (List.getElem?_eq_some_iff.1 hg').1
      rcases hrow with h0 | ⟨_, _, c, e, fr, hc, _, hroom, hr⟩
      · omega
      · have hmul : i * sz + sz ≤ p.cap * sz := by
          have : (i + 1) * sz ≤ p.cap * sz := Nat.mul_le_mul_right _ (by omega)
          rw [Nat.add_mul] at this; omega
        have hget : ∀ t, t < n → ∃ y, c[p.off + (i * sz + (j + t))]? = some y := fun t ht => ⟨c[p.off + (i * sz + (j + t))]'(by omega), by rw [Array.getElem?_eq_getElem]⟩
        refine ⟨p.b, p.off + (i * p.sz + j), fun t => c[p.off + (i * sz + (j + t))]?.getD undef, rfl, h1, fun t ht => ?_, fun t u hu => ?_⟩
        · obtain ⟨y, hy⟩ := hget t ht
          rw [show p.off + (i * p.sz + j) + t = p.off + (i * sz + (j + t)) by rw [hsz]; omega, cell_row hc]
          simp only [hy, Option.getD_some, true_and]
          exact (hr i (j + t) es _ y hg' (List.getElem?_eq_getElem (by omega)) hy).2
        · have hlt : t < n := by rw [← h1]; exact (List.getElem?_eq_some_iff.1 hu).1
          obtain ⟨y, hy⟩ := hget t hlt
          simp only [hy, Option.getD_some]
          exact (hr i (j + t) es u y hg' (by rw [← h3 t hlt]; exact hu) hy).1
  | _ => simp [loadN] at hl
end Go.AV
namespace Go.AV

theorem ObR.mono {ι F w ι' w' p x} (e : Ext ι F w ι' F w') (hs : Real p x → w'.heap[p.b]? = w.heap[p.b]?) (h : ObR ι F w p x) : ObR ι' F w' p x := by
  cases x with
  | free => exact h
  | dead => trivial
  | box cs =>
    obtain ⟨h0, h1, h2, c, t, fr, h3, h4, h5, h6⟩ := h
    exact ⟨h0, Nat.lt_of_lt_of_le h1 e.size, h2, c, t, fr, by rw [hs trivial]; exact h3, h4, h5, fun j v x hv hx => ⟨(h6 j v x hv hx).1.mono e, (h6 j v x hv hx).2⟩⟩
  | arr sz els =>
    obtain ⟨h0, h1, h2, h3⟩ := h
    refine ⟨h0, h1, h2, ?_⟩
    by_cases hc : p.cap = 0
    · exact .inl hc
    · rcases h3 with h3 | ⟨h3, h4, c, t, fr, h5, h6, h7, h8⟩
      · exact absurd h3 hc
      · exact .inr ⟨Nat.lt_of_lt_of_le h3 e.size, h4, c, t, fr, by rw [hs hc]; exact h5, h6, h7, fun i j l v x hi hv hx => ⟨(h8 i j l v x hi hv hx).1.mono e, (h8 i j l v x hi hv hx).2⟩⟩
  | map es =>
    obtain ⟨h0, h1, en, clk, h2, h3, h4⟩ := h
    exact ⟨Nat.lt_of_lt_of_le h0 e.size, h1, en, clk, by rw [hs trivial]; exact h2, h3, fun i k v m hk hm => ⟨(h4 i k v m hk hm).1.mono e, (h4 i k v m hk hm).2.mono e⟩⟩
  | raw x =>
    obtain ⟨h0, h1, h2⟩ := h
    exact ⟨Nat.lt_of_lt_of_le h0 e.size, h1, by rw [hs trivial]; exact h2⟩

/-- One object turns. -/
theorem WR.upd {ι F h w ι' h' w'} (k : Nat) (hw : WR ι F h w) (e : Ext ι F w ι' F w')
    (hi : ∀ o p, o ≠ k → ι' o = some p → ι o = some p) (hs : ∀ o p, o ≠ k → ι o = some p → Real p (ob h o) → w'.heap[p.b]? = w.heap[p.b]?)
    (ho : ∀ o, o ≠ k → ob h' o = ob h o) (hk : ∀ p, ι' k = some p → ObR ι' F w' p (ob h' k)) (hk' : ob h' k ≠ .free → ∃ p, ι' k = some p) (hf : ob h' k = .free → ι' k = none)
    (ha : ∀ p, ι' k = some p → Real p (ob h' k) → ∀ o p', o ≠ k → ι o = some p' → Real p' (ob h o) → p.b ≠ p'.b) : WR ι' F h' w' where
  free o hfo := by
    by_cases hok : o = k
    · subst hok; exact hf hfo
    · rw [ho o hok] at hfo
      cases hio : ι' o with
      | none => rfl
      | some p => have := hi o p hok hio; rw [hw.free o hfo] at this; cases this
  obj o p hio := by
    by_cases hok : o = k
    · subst hok; exact hk p hio
    · rw [ho o hok]
      have := hi o p hok hio
      exact (hw.obj o p this).mono e (hs o p hok this)
  has o h1 h2 := by
    by_cases hok : o = k
    · subst hok; exact hk' h1
    · rw [ho o hok] at h1 h2
      obtain ⟨p, hp⟩ := hw.has o h1 h2
      exact ⟨p, e.at_ o p hp⟩
  apart o o' p p' hne hio hio' hr hr' := by
    by_cases hok : o = k
    · subst hok
      have hok' : o' ≠ o := fun e => hne e.symm
      rw [ho o' hok'] at hr'
      exact ha p hio hr o' p' hok' (hi o' p' hok' hio') hr'
    · rw [ho o hok] at hr
      by_cases hok' : o' = k
      · subst hok'
        exact fun e' => ha p' hio' hr' o p hok (hi o p hok hio) hr e'.symm
      · rw [ho o' hok'] at hr'
        exact hw.apart o o' p p' hne (hi o p hok hio) (hi o' p' hok' hio') hr hr'
  old b hb := Nat.lt_of_lt_of_le (hw.old b hb) e.size

/-- An object is given up. -/
theorem WR.kill {ι F h w} (hw : WR ι F h w) (k : Nat) (hk : ob h k ≠ .free) : WR ι F (setOb h k .dead) w := by
  have hob : ∀ j, ob (setOb h k .dead) j = if j = k then .dead else ob h j := fun j => ob_setOb h k j .dead hk
  refine WR.mk ?_ ?_ ?_ ?_ hw.old
  · intro o hf
    rw [hob] at hf
    split at hf
    · cases hf
    · exact hw.free o hf
  · intro o p hio
    rw [hob]
    split
    · trivial
    · exact hw.obj o p hio
  · intro o h1 h2
    rw [hob] at h1 h2
    split at h2
    · exact absurd rfl h2
    · rename_i hne; rw [if_neg hne] at h1; exact hw.has o h1 h2
  · intro o o' p p' hne hio hio' hr hr'
    rw [hob] at hr hr'
    split at hr
    · exact hr.elim
    · split at hr'
      · exact hr'.elim
      · exact hw.apart o o' p p' hne hio hio' hr hr'

def updI (ι : Nat → Option Pl) (k : Nat) (p : Pl) : Nat → Option Pl := fun o => if o = k then some p else ι o

/-- A new object in a new block. -/
theorem WR.new {ι F h w k x h'} (hw : WR ι F h w) (hn : newOb h k x = some h') (o : Obj) (p : Pl) (hb : p.b = w.heap.size)
    (hob : ∀ (e : Ext ι F w (updI ι k p) F (w.alloc o)), ObR (updI ι k p) F (w.alloc o) p x) (hx : x ≠ .free) :
    Ext ι F w (updI ι k p) F (w.alloc o) ∧ WR (updI ι k p) F h' (w.alloc o) := by
  obtain ⟨hf, hob'⟩ := ob_newOb hn
  have hik := hw.free k hf
  have e : Ext ι F w (updI ι k p) F (w.alloc o) := by
    refine ⟨fun o' p' h' => ?_, fun _ h => h, fun b hb' => ?_, by simp, rfl, rfl, rfl⟩
    · unfold updI
      rw [if_neg (fun e' => by subst e'; rw [hik] at h'; cases h')]
      exact h'
    · have := hw.old b hb'
      simp only [World.alloc]
      rw [Array.getElem?_push, if_neg (by omega)]
  refine ⟨e, hw.upd k e (fun o' p' hne h' => ?_) (fun o' p' hne hio hr => ?_) (fun o' hne => by rw [hob', if_neg hne]) (fun p' hp' => ?_) (fun _ => ⟨p, by simp [updI]⟩)
    (fun hfr => ?_) (fun p' hp' hr o' p'' hne hio hr' => ?_)⟩
  · unfold updI at h'; rw [if_neg hne] at h'; exact h'
  · have hlt : p'.b < w.heap.size := by
      have := hw.obj o' p' hio
      revert this hr
      cases ob h o' with
      | free => intro hr; exact hr.elim
      | dead => intro hr; exact hr.elim
      | box cs => exact fun _ h => h.2.1
      | arr sz els => exact fun hr h => (h.2.2.2.resolve_left hr).1
      | map es => exact fun _ h => h.1
      | raw x => exact fun _ h => h.1
    simp only [World.alloc]
    rw [Array.getElem?_push, if_neg (by omega)]
  · simp only [updI, if_true, Option.some.injEq] at hp'
    subst hp'
    rw [hob', if_pos rfl]
    exact hob e
  · rw [hob', if_pos rfl] at hfr; exact absurd hfr hx
  · simp only [updI, if_true, Option.some.injEq] at hp'
    subst hp'
    have hlt : p''.b < w.heap.size := by
      have := hw.obj o' p'' hio
      revert this hr'
      cases ob h o' with
      | free => intro hr; exact hr.elim
      | dead => intro hr; exact hr.elim
      | box cs => exact fun _ h => h.2.1
      | arr sz els => exact fun hr h => (h.2.2.2.resolve_left hr).1
      | map es => exact fun _ h => h.1
      | raw x => exact fun _ h => h.1
    omega

theorem add_flat (b o i : Nat) : (⟨b, o, none⟩ : Addr).add i = ⟨b, o + i, none⟩ := by
  unfold Addr.add
  split
  · rename_i h; subst h; rfl
  · rfl

theorem frozen_row {w : World} {b : Nat} {c : Array Value} {e : TypeId} {fr : Nat × Nat} (h : w.heap[b]? = some (.cells c e fr)) (ht : Thawed fr c.size) (j : Nat) (hj : j < c.size) :
    w.frozen? ⟨b, j, none⟩ = false := by
  have := ht j hj
  simp only [World.frozen?, h]
  by_cases h1 : fr.1 ≤ j
  · by_cases h2 : j < fr.2
    · exact absurd ⟨h1, h2⟩ this
    · simp [h1, h2]
  · simp [h1]

theorem storeCells_ok (P : Program) (b o : Nat) : ∀ (vs : List Value) (i : Nat) (w : World) (c : Array Value) (e : TypeId) (fr : Nat × Nat), w.heap[b]? = some (.cells c e fr) → Thawed fr c.size →
    o + i + vs.length ≤ c.size → (∀ v ∈ vs, v.oneCell' = true) →
    ∃ (w' : World) (c' : Array Value), (storeCells ⟨b, o, none⟩ vs i).run P w = .ok () w' ∧ w'.heap[b]? = some (.cells c' e fr) ∧ c'.size = c.size ∧
      (∀ j, c'[j]? = if o + i ≤ j ∧ j < o + i + vs.length then vs[j - (o + i)]? else c[j]?) ∧ (∀ b', b' ≠ b → w'.heap[b']? = w.heap[b']?) ∧ w'.heap.size = w.heap.size ∧
      w'.os = w.os ∧ w'.output = w.output ∧ w'.tape = w.tape
  | [], i, w, c, e, fr, hc, _, _, _ => ⟨w, c, rfl, hc, rfl, fun j => by simp; intro h1 h2; omega, fun _ _ => rfl, rfl, rfl, rfl, rfl⟩
  | v :: vs, i, w, c, e, fr, hc, ht, hlen, hone => by
    simp only [List.length_cons] at hlen
    have hlt : o + i < c.size := by omega
    have hcell : w.cell? ⟨b, o + i, none⟩ = some c[o + i] := by rw [cell_row hc, Array.getElem?_eq_getElem]
    have hfz := frozen_row hc ht (o + i) hlt
    have hblt : b < w.heap.size := by
      rcases Nat.lt_or_ge b w.heap.size with h | h
      · exact h
      · rw [Array.getElem?_eq_none h] at hc; cases hc
    have hw1 : (w.setCell ⟨b, o + i, none⟩ v).heap[b]? = some (.cells (c.setIfInBounds (o + i) v) e fr) := by
      simp only [World.setCell, Array.getElem?_modify, if_true, hc, Option.map_some]
      simp
    obtain ⟨w', c', h1, h2, h3, h4, h5, h6, h7, h8, h9⟩ := storeCells_ok P b o vs (i + 1) (w.setCell ⟨b, o + i, none⟩ v) (c.setIfInBounds (o + i) v) e fr hw1 (by simpa using ht) (by simp; omega)
      (fun u hu => hone u (List.mem_cons_of_mem _ hu))
    refine ⟨w', c', ?_, h2, by simpa using h3, fun j => ?_, fun b' hb' => ?_, by simpa using h6, h7, h8, h9⟩
    · simp only [storeCells, Sem.run_bind, add_flat]
      rw [run_store P w _ v .plain (hone v (List.mem_cons_self ..)), hcell]
      simp only [hfz, Bool.false_eq_true, if_false, Result.andThen_ok]
      exact h1
    · rw [h4 j, Array.getElem?_setIfInBounds]
      by_cases hj : j = o + i
      · subst hj
        rw [if_neg (by omega), if_pos rfl, if_pos hlt, if_pos (by simp)]
        simp
      · by_cases hj2 : o + i ≤ j ∧ j < o + i + (v :: vs).length
        · have hj3 : o + (i + 1) ≤ j ∧ j < o + (i + 1) + vs.length := by simp at hj2; omega
          rw [if_pos hj3, if_pos hj2, show j - (o + i) = (j - (o + (i + 1))) + 1 by omega]
          simp
        · have hj3 : ¬ (o + (i + 1) ≤ j ∧ j < o + (i + 1) + vs.length) := by simp at hj2; omega
          rw [if_neg hj3, if_neg hj2, if_neg (fun e => hj e.symm)]
    · rw [h5 b' hb']
      simp only [World.setCell, Array.getElem?_modify]
      rw [if_neg (fun e => hb' e.symm)]
end Go.AV
namespace Go.AV

theorem cells_ok {ι F w v c} (hv : VR ι F w v c) {vs : List V} (h : v.cells = some vs) : c.cells.size = vs.length ∧
    (∀ x ∈ c.cells.toList, x.oneCell' = true) ∧ ∀ (j : Nat) (u : V) (x : Value), vs[j]? = some u → c.cells[j]? = some x → VR ι F w u x ∧ x.oneCell' = true := by
  have one : ∀ (u : V) (x : Value), VR ι F w u x → x.oneCell' = true → x.cells = #[x] → u.cells = some [u] → u = v → x = c → (c.cells.size = vs.length ∧
    (∀ x ∈ c.cells.toList, x.oneCell' = true) ∧ ∀ (j : Nat) (u : V) (x : Value), vs[j]? = some u → c.cells[j]? = some x → VR ι F w u x ∧ x.oneCell' = true) := fun u x hu ho hc hcs e1 e2 => by
    subst e1; subst e2
    rw [hcs] at h
    cases h
    refine (show x.cells.size = [u].length ∧ (∀ y ∈ x.cells.toList, y.oneCell' = true) ∧ ∀ (j : Nat) (u' : V) (y : Value), [u][j]? = some u' → x.cells[j]? = some y → VR ι F w u' y ∧ y.oneCell' = true from ?_)
    rw [hc]
    refine ⟨rfl, by simpa using ho, fun j u' y hj hy => ?_⟩
    cases j with
    | zero => simp at hj hy; subst hj; subst hy; exact ⟨hu, ho⟩
    | succ j => simp at hj
  cases hv with
  | undef => simp [V.cells] at h
  | tup => simp [V.cells] at h
  | agg hs ho hr =>
    simp only [V.cells, Option.some.injEq] at h
    subst h
    refine ⟨hs, fun x hx => ?_, fun j u x hu hx => ⟨hr j u x hu hx, ho j x hx⟩⟩
    obtain ⟨j, hj⟩ := List.getElem?_of_mem hx
    exact ho j x (by simpa [Value.cells] using hj)
  | bool b => exact one _ _ (.bool b) rfl rfl rfl rfl rfl
  | int k n => exact one _ _ (.int k n) rfl rfl rfl rfl rfl
  | rng k lo hi h1 h2 => exact one _ _ (.rng k lo hi h1 h2) rfl rfl rfl rfl rfl
  | flt b => exact one _ _ (.flt b) rfl rfl rfl rfl rfl
  | str hs => exact one _ _ (.str hs) rfl rfl rfl rfl rfl
  | nilp => exact one _ _ .nilp rfl rfl rfl rfl rfl
  | bp j hi => exact one _ _ (.bp j hi) rfl rfl rfl rfl rfl
  | ep i j hi => exact one _ _ (.ep i j hi) rfl rfl rfl rfl rfl
  | cp b off x hF hx ho hr => exact one _ _ (.cp b off x hF hx ho hr) rfl rfl rfl rfl rfl
  | nils => exact one _ _ .nils rfl rfl rfl rfl rfl
  | isl a cap sz b off x hc hsz ha hx hr => exact one _ _ (.isl a cap sz b off x hc hsz ha hx hr) rfl rfl rfl rfl rfl
  | fb f hs hr => exact one _ _ (.fb f hs hr) rfl rfl rfl rfl rfl
  | osl off len cap a hi hl hn hc ha hs => exact one _ _ (.osl off len cap a hi hl hn hc ha hs) rfl rfl rfl rfl rfl
  | nilm => exact one _ _ .nilm rfl rfl rfl rfl rfl
  | mp hi => exact one _ _ (.mp hi) rfl rfl rfl rfl rfl
  | fn f hs hr => exact one _ _ (.fn f hs hr) rfl rfl rfl rfl rfl
  | nilf => exact one _ _ .nilf rfl rfl rfl rfl rfl
  | ifc t hi => exact one _ _ (.ifc t hi) rfl rfl rfl rfl rfl
  | nili => exact one _ _ .nili rfl rfl rfl rfl rfl

theorem row_apart {i i' j j' sz n : Nat} (h : i ≠ i') (h1 : j + n ≤ sz) (h2 : j' < sz) : ¬ (i * sz + j ≤ i' * sz + j' ∧ i' * sz + j' < i * sz + j + n) := by
  rintro ⟨h3, h4⟩
  rcases Nat.lt_or_gt_of_ne h with h' | h'
  · have : (i + 1) * sz ≤ i' * sz := Nat.mul_le_mul_right _ (by omega)
    rw [Nat.add_mul] at this
    omega
  · have : (i' + 1) * sz ≤ i * sz := Nat.mul_le_mul_right _ (by omega)
    rw [Nat.add_mul] at this
    omega

theorem storeN_ok (P : Program) {ι F h w} (hw : WR ι F h w) {v c} (hv : VR ι F w v c) {vs : List V} {xs : List Value} (hlen : xs.length = vs.length) (hone : ∀ x ∈ xs, x.oneCell' = true)
    (hx : ∀ (j : Nat) (u : V) (x : Value), vs[j]? = some u → xs[j]? = some x → VR ι F w u x) {h'} (hs : storeN std h vs v = some h') :
    ∃ (b off : Nat) (w' : World), c = .pointer (some ⟨b, off, none⟩) ∧ (storeCells ⟨b, off, none⟩ xs).run P w = .ok () w' ∧ Ext ι F w ι F w' ∧ WR ι F h' w' := by
  cases hv with
  | @bp o p j hi =>
    simp only [storeN] at hs
    have ho := hw.obj o p hi
    cases hob : ob h o <;> rw [hob] at hs ho <;> simp only [reduceCtorEq] at hs
    rename_i bs
    cases hl : lay bs j vs with
    | none => rw [hl] at hs; cases hs
    | some bs' =>
      rw [hl] at hs
      simp only [Option.some.injEq] at hs
      subst hs
      obtain ⟨h0, hb1, hb2, c, e, fr, hc, ht, hsz, hr⟩ := ho
      obtain ⟨l1, l2, l3⟩ := lay_at hl
      obtain ⟨w', c', r1, r2, r3, r4, r5, r6, r7, r8, r9⟩ := storeCells_ok P p.b (p.off + j) xs 0 w c e fr hc ht (by omega) hone
      have ex : Ext ι F w ι F w' := ⟨fun _ _ h => h, fun _ h => h, fun b hb => r5 b (fun e => hb2 (e ▸ hb)), by omega, r7, r8, r9⟩
      have hnf : ob h o ≠ .free := by rw [hob]; simp
      have hob' : ∀ q, ob (setOb h o (.box bs')) q = if q = o then .box bs' else ob h q := fun q => ob_setOb h o q _ hnf
      refine ⟨p.b, p.off + j, w', rfl, r1, ex, hw.upd o ex (fun _ _ _ h => h) (fun q pq hne hiq hrq => r5 _ ?_) (fun q hne => by rw [hob', if_neg hne]) (fun p' hp' => ?_)
        (fun _ => ⟨p, hi⟩) (fun hfr => by rw [hob', if_pos rfl] at hfr; cases hfr) (fun p' hp' hrp q pq hne hiq hrq => ?_)⟩
      · exact hw.apart q o pq p hne hiq hi hrq (by rw [hob]; trivial)
      · rw [hi] at hp'; cases hp'
        rw [hob', if_pos rfl]
        refine ⟨h0, by omega, hb2, c', e, fr, r2, by rw [r3]; exact ht, by omega, fun t u x hu hxt => ?_⟩
        rw [r4 t] at hxt
        rw [l3 t] at hu
        by_cases hin : j ≤ t ∧ t < j + vs.length
        · rw [if_pos hin] at hu
          rw [if_pos (by omega), show t - (p.off + j + 0) = t - j by omega] at hxt
          exact ⟨(hx (t - j) u x hu hxt).mono ex, hone x (List.mem_of_getElem? hxt)⟩
        · rw [if_neg hin] at hu
          rw [if_neg (by omega)] at hxt
          exact ⟨(hr t u x hu hxt).1.mono ex, (hr t u x hu hxt).2⟩
      · rw [hi] at hp'; cases hp'
        exact hw.apart o q p pq (fun e => hne e.symm) hi hiq (by rw [hob]; trivial) hrq
  | @ep o p i j hi =>
    simp only [storeN] at hs
    have ho := hw.obj o p hi
    cases hob : ob h o <;> rw [hob] at hs ho <;> simp only [reduceCtorEq] at hs
    rename_i sz els
    cases hg : std .get els i with
    | none => rw [hg] at hs; cases hs
    | some es =>
      rw [hg] at hs
      simp only at hs
      have hg' : els[i]? = some es := hg
      cases hl : lay es j vs with
      | none => rw [hl] at hs; cases hs
      | some es' =>
        rw [hl] at hs
        simp only [Option.some.injEq] at hs
        subst hs
        obtain ⟨l1, l2, l3⟩ := lay_at hl
        obtain ⟨hsz, ⟨hpn, hcap⟩, hall, hrow⟩ := ho
        have hes : es.length = sz := hall es (List.mem_of_getElem? hg')
        have hilt : i < els.length := (List.getElem?_eq_some_iff.1 hg').1
        rcases hrow with h0 | ⟨hb1, hb2, c, e, fr, hc, ht, hroom, hr⟩
        · omega
        · have hmul : i * sz + sz ≤ p.cap * sz := by
            have : (i + 1) * sz ≤ p.cap * sz := Nat.mul_le_mul_right _ (by omega)
            rw [Nat.add_mul] at this; omega
          obtain ⟨w', c', r1, r2, r3, r4, r5, r6, r7, r8, r9⟩ := storeCells_ok P p.b (p.off + (i * p.sz + j)) xs 0 w c e fr hc ht (by rw [hsz]; omega) hone
          have ex : Ext ι F w ι F w' := ⟨fun _ _ h => h, fun _ h => h, fun b hb => r5 b (fun e => hb2 (e ▸ hb)), by omega, r7, r8, r9⟩
          have hnf : ob h o ≠ .free := by rw [hob]; simp
          have hreal : Real p (ob h o) := by rw [hob]; show p.cap ≠ 0; omega
          have hob' : ∀ q, ob (setOb h o (.arr sz (std .set els i es'))) q = if q = o then .arr sz (std .set els i es') else ob h q := fun q => ob_setOb h o q _ hnf
          refine ⟨p.b, p.off + (i * p.sz + j), w', rfl, r1, ex, hw.upd o ex (fun _ _ _ h => h) (fun q pq hne hiq hrq => r5 _ ?_) (fun q hne => by rw [hob', if_neg hne]) (fun p' hp' => ?_)
            (fun _ => ⟨p, hi⟩) (fun hfr => by rw [hob', if_pos rfl] at hfr; cases hfr) (fun p' hp' hrp q pq hne hiq hrq => ?_)⟩
          · exact hw.apart q o pq p hne hiq hi hrq hreal
          · rw [hi] at hp'; cases hp'
            rw [hob', if_pos rfl]
            have hset : std .set els i es' = els.set i es' := rfl
            refine ⟨hsz, ⟨by rw [hset]; simpa using hpn, by rw [hset]; simpa using hcap⟩, fun l hl' => ?_, .inr ⟨by omega, hb2, c', e, fr, r2, by rw [r3]; exact ht, by omega, fun i' j' l u x hi' hj' hx' => ?_⟩⟩
            · rw [hset] at hl'
              rcases List.mem_or_eq_of_mem_set hl' with hl' | hl'
              · exact hall l hl'
              · subst hl'; omega
            · rw [hset, List.getElem?_set] at hi'
              rw [r4] at hx'
              by_cases hii : i = i'
              · subst hii
                rw [if_pos rfl, if_pos hilt] at hi'
                cases hi'
                rw [l3 j'] at hj'
                by_cases hin : j ≤ j' ∧ j' < j + vs.length
                · rw [if_pos hin] at hj'
                  rw [if_pos (by rw [hsz]; omega), show p.off + (i * sz + j') - (p.off + (i * p.sz + j) + 0) = j' - j by rw [hsz]; omega] at hx'
                  exact ⟨(hx (j' - j) u x hj' hx').mono ex, hone x (List.mem_of_getElem? hx')⟩
                · rw [if_neg hin] at hj'
                  rw [if_neg (by rw [hsz]; omega)] at hx'
                  exact ⟨(hr i j' es u x hg' hj' hx').1.mono ex, (hr i j' es u x hg' hj' hx').2⟩
              · rw [if_neg hii] at hi'
                have hj'lt : j' < sz := by
                  have := hall l (List.mem_of_getElem? hi')
                  have := (List.getElem?_eq_some_iff.1 hj').1
                  omega
                have := row_apart (j := j) (j' := j') (n := vs.length) hii (by omega) hj'lt
                rw [if_neg (by rw [hsz]; omega)] at hx'
                exact ⟨(hr i' j' l u x hi' hj' hx').1.mono ex, (hr i' j' l u x hi' hj' hx').2⟩
          · rw [hi] at hp'; cases hp'
            exact hw.apart o q p pq (fun e => hne e.symm) hi hiq hreal hrq
  | _ => simp [storeN] at hs
end Go.AV
