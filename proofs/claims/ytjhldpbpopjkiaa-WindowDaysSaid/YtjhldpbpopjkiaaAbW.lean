/- What is told: code read with its own variables (those whose places nobody else sees) taken out of the memory: their contents stand in slots. Definitions alone. -/
import Derived.Test.YtjhldpbpopjkiaaAbZ
namespace Go.Ab

/-- The slots that lead to such variables; the slots that lead to places within them; their contents stand at B and on; the orders in which regions are read whose order is drawn: a row of operations, each with the loads ahead that stand to it in no order. -/
structure Bx where
  bs : List Nat
  ds : List Nat
  B : Nat
  pl : List (Nat × List (Nat × List Nat))

abbrev Gd := Option (Nat × Bool)
/-- What derived slots lead to: slot, guard, variable, place. -/
abbrev BEnv := List (Nat × Gd × Nat × Nat)

def memB : List Nat → Nat → Bool
  | [], _ => false
  | x :: r, k => bif Nat.beq x k then true else memB r k

def guardFits : Gd → Gd → Bool
  | none, _ => true
  | some (j, true), some (i, true) => Nat.beq j i
  | some (j, false), some (i, false) => Nat.beq j i
  | _, _ => false

namespace Bx
variable (I : Bx)
def clean (k : Nat) : Bool := Nat.blt k I.B && (!memB I.bs k && !memB I.ds k)
def okO : Operand → Bool
  | .tmp t => I.clean t
  | _ => true
def okD : Option Nat → Bool
  | none => true
  | some d => I.clean d
def find (g : Gd) (t : Nat) : BEnv → Option (Nat × Nat)
  | [] => none
  | (e, g', d, off) :: r => bif Nat.beq e t then (bif guardFits g' g then some (d, off) else none) else find g t r
def place (E : BEnv) (g : Gd) : Operand → Option (Nat × Nat)
  | .tmp t => bif memB I.bs t then some (t, 0) else find g t E
  | _ => none
def okG (ops : List Oper) : Gd → Bool
  | none => true
  | some (j, _) => match gslot ops j with
    | some t => I.clean t
    | none => false
end Bx

def slotIs (o : Option Nat) (d : Nat) : Bool :=
  match o with
  | some t => Nat.beq t d
  | none => false
def guardIs (ops : List Oper) (d : Nat) : Gd → Bool
  | none => false
  | some (j, _) => slotIs (gslot ops j) d
/-- What is left of an environment when a slot is written. -/
def killB (ops : List Oper) (d : Nat) : BEnv → BEnv
  | [] => []
  | (e, g, b, off) :: r => bif guardIs ops d g then killB ops d r else bif Nat.beq e d then killB ops d r else bif Nat.beq b d then killB ops d r else (e, g, b, off) :: killB ops d r
def killO (ops : List Oper) (d : Option Nat) (E : BEnv) : BEnv :=
  match d with
  | none => E
  | some d => killB ops d E

namespace A
/-- A variable is there. -/
def al (v : AVal) (p : Prop) : Prop :=
  match v with
  | .agg _ => p
  | _ => False
def boxN (n : Nat) (v : AVal) : Option AVal :=
  match v with
  | .agg cs => if cs.length = n then some (.agg cs) else none
  | _ => none
def box1 (v : AVal) : Option AVal := bif v.isCell then some (.agg [v]) else none
/-- Loads that stand to an operation in no order must not tell whether it has been. -/
def keepS (h : AHeap) (ls : List (AVal × Option Nat)) (K : AVal → AHeap → Prop) : AVal → AHeap → Prop :=
  fun v h' => (∀ p ∈ ls, match p.2 with | none => ∃ x, ldv h p.1 = some x ∧ ldv h' p.1 = some x | some n => ∃ x, ldnv h p.1 n = some x ∧ ldnv h' p.1 n = some x) ∧ K v h'
def gdO (ops : List Oper) (g : Gd) (s : Slots) (h : AHeap) (M : (AVal → AHeap → Prop) → Prop) (K : AVal → AHeap → Prop) : Prop :=
  match g with
  | none => M K
  | some (j, b) => match gslot ops j with
    | some t => A.gd h (s t) b M K
    | none => False
end A
namespace V
/-- A variable's content with a part of it turned. -/
def setF (off : Nat) (v c : AVal) : Option AVal :=
  match c with
  | .agg cs => match put1 off v cs with | some cs => some (.agg cs) | none => none
  | _ => none
def setN (off n : Nat) (v c : AVal) : Option AVal :=
  match c with
  | .agg cs => match putN off n v cs with | some cs => some (.agg cs) | none => none
  | _ => none
end V

def optAgg : Option (List AVal) → Option AVal
  | some cs => some (.agg cs)
  | none => none

section
variable (P : Program) (C : CSem) (I : Bx) (ops : List Oper)

/-- Loads that stand in no order to an operation that turns none of one's own variables. -/
def keepsB (E : BEnv) (s : Slots) : List (Operand × TypeId) → (List (Operand × TypeId) → Prop) → Prop
  | [], k => k []
  | (.tmp t, ty) :: r, k => bif memB I.bs t then A.al (s (I.B + t)) (keepsB E s r k) else bif I.clean t then keepsB E s r (fun l => k ((.tmp t, ty) :: l)) else bif memB (E.map (·.1)) t then keepsB E s r k else False
  | q :: r, k => keepsB E s r (fun l => k (q :: l))

/-- The same, of an operation that turns the variable d. -/
def keepsOff (E : BEnv) (d : Nat) (s : Slots) : List (Operand × TypeId) → Prop → Prop
  | [], p => p
  | (x, _) :: r, p => match I.place E none x with
    | some (d', _) => bif Nat.beq d' d then False else A.al (s (I.B + d')) (keepsOff E d s r p)
    | none => False

def genB (o : Oper) (ks : List (Operand × TypeId)) (E : BEnv) (s : Slots) (h : AHeap) (K : BEnv → Slots → AHeap → Prop) : Prop :=
  keepsB I E s ks fun ks' =>
    match ks' with
    | [] => stepWp P C ops o s h fun v h => K (killO ops o.dst E) (putS s o.dst v) h
    | ks' => A.gdO ops o.guard s h (fun K => opWp P C o.op s h (A.keepS h (keepsAt P s ks') K)) fun v h => K (killO ops o.dst E) (putS s o.dst v) h

/-- A variable that is made. -/
def newB (d : Nat) (c : Option AVal) (E : BEnv) (s : Slots) (h : AHeap) (K : BEnv → Slots → AHeap → Prop) : Prop :=
  A.pv c fun c => K (killB ops d E) (putS s (some (I.B + d)) c) h

def gNone : Gd → Bool
  | none => true
  | some _ => false
def gNoneD : Option Nat → Bool
  | none => true
  | some _ => false
def kNone : List (Operand × TypeId) → Bool
  | [] => true
  | _ => false


/-- A place within a variable, in a derived slot. -/
def derB (o : Oper) (d off : Nat) (E : BEnv) (s : Slots) (h : AHeap) (K : BEnv → Slots → AHeap → Prop) : Prop :=
  match o.dst with
  | some e => A.al (s (I.B + d)) (A.gdO ops o.guard s h (fun K => K .undef h) fun _ h => K ((e, o.guard, d, off) :: killB ops e E) (putS s (some e) .undef) h)
  | none => False

def stepB (o : Oper) (ks : List (Operand × TypeId)) (E : BEnv) (s : Slots) (h : AHeap) (K : BEnv → Slots → AHeap → Prop) : Prop :=
  match o.op with
  | .alloc t => match o.dst with
    | some d => bif memB I.bs d then newB I ops d (optAgg (zeroOf P t)) E s h K else genB P C I ops o ks E s h K
    | none => genB P C I ops o ks E s h K
  | .box t x => match o.dst with
    | some d => bif memB I.bs d then newB I ops d (bif isAggB P t then A.boxN (P.cellsOf t) (evS s x) else A.box1 (evS s x)) E s h K else genB P C I ops o ks E s h K
    | none => genB P C I ops o ks E s h K
  | .load t x => match I.place E o.guard x with
    | some (d, off) => (match P.underlying t with
      | none => False
      | some _ => A.gdO ops o.guard s h (fun K => A.pv (bif isAggB P t then V.fieldN off (P.cellsOf t) (s (I.B + d)) else V.field1 off (s (I.B + d))) fun v => K v h) fun v h => K (killO ops o.dst E) (putS s o.dst v) h)
    | none => genB P C I ops o ks E s h K
  | .store t x v => match I.place E o.guard x with
    | some (d, off) => keepsOff I E d s ks (bif isAggB P t then A.pv (V.setN off (P.cellsOf t) (evS s v) (s (I.B + d))) fun c => K E (putS s (some (I.B + d)) c) h
        else bif Nat.beq (P.cellsOf t) 1 then A.pv (V.setF off (evS s v) (s (I.B + d))) fun c => K E (putS s (some (I.B + d)) c) h else False)
    | none => genB P C I ops o ks E s h K
  | .fieldAddr t x f => match I.place E o.guard x with
    | some (d, off) => (match P.underlying t with
      | some (.struct fs) => (match fs[f]? with
        | some fd => bif Nat.beq (P.cellsOf fd.type) 0 then False else derB I ops o d (off + fd.offset) E s h K
        | none => False)
      | _ => False)
    | none => genB P C I ops o ks E s h K
  | .nilCheck x => match I.place E o.guard x with
    | some (d, off) => derB I ops o d off E s h K
    | none => genB P C I ops o ks E s h K
  | _ => genB P C I ops o ks E s h K

def opsB : List (Oper × List (Operand × TypeId)) → (Slots → AHeap → Prop) → BEnv → Slots → AHeap → Prop
  | [], Q, _, s, h => Q s h
  | (o, ks) :: r, Q, E, s, h => stepB P C I ops o ks E s h fun E s h => opsB r Q E s h
end

section
variable (P : Program) (I : Bx) (ops : List Oper)
/-- The environment behind an operation. -/
def envB (o : Oper) (E : BEnv) : BEnv :=
  match o.op with
  | .alloc _ | .box _ _ => match o.dst with
    | some d => bif memB I.bs d then killB ops d E else killO ops o.dst E
    | none => killO ops o.dst E
  | .store _ x _ => match I.place E o.guard x with
    | some _ => E
    | none => killO ops o.dst E
  | .fieldAddr t x f => match I.place E o.guard x with
    | some (d, off) => (match P.underlying t with
      | some (.struct fs) => (match fs[f]? with
        | some fd => (match o.dst with
          | some e => (e, o.guard, d, off + fd.offset) :: killB ops e E
          | none => E)
        | none => E)
      | _ => E)
    | none => killO ops o.dst E
  | .nilCheck x => match I.place E o.guard x with
    | some (d, off) => (match o.dst with
      | some e => (e, o.guard, d, off) :: killB ops e E
      | none => E)
    | none => killO ops o.dst E
  | _ => killO ops o.dst E
/-! What is asked of code read so. -/
def chkG (o : Oper) : Bool := o.op.operands.toList.all I.okO && (I.okD o.dst && I.okG ops o.guard)
def chkD (o : Oper) (ks : List (Operand × TypeId)) : Bool := kNone ks && (match o.dst with
  | some e => memB I.ds e && (!memB I.bs e && (Nat.blt e I.B && I.okG ops o.guard))
  | none => false)
def chkS (o : Oper) (ks : List (Operand × TypeId)) (E : BEnv) : Bool :=
  match o.op with
  | .alloc _ => match o.dst with
    | some d => bif memB I.bs d then gNone o.guard && (kNone ks && Nat.blt d I.B) else chkG I ops o
    | none => chkG I ops o
  | .box _ x => match o.dst with
    | some d => bif memB I.bs d then gNone o.guard && (kNone ks && (Nat.blt d I.B && I.okO x)) else chkG I ops o
    | none => chkG I ops o
  | .load _ x => match I.place E o.guard x with
    | some _ => kNone ks && (I.okD o.dst && I.okG ops o.guard)
    | none => chkG I ops o
  | .store _ x v => match I.place E o.guard x with
    | some _ => gNone o.guard && (I.okO v && gNoneD o.dst)
    | none => chkG I ops o
  | .fieldAddr _ x _ => match I.place E o.guard x with
    | some _ => chkD I ops o ks
    | none => chkG I ops o
  | .nilCheck x => match I.place E o.guard x with
    | some _ => chkD I ops o ks
    | none => chkG I ops o
  | _ => chkG I ops o
def chkO : List (Oper × List (Operand × TypeId)) → BEnv → Bool
  | [], _ => true
  | (o, ks) :: r, E => chkS I ops o ks E && chkO r (envB P I ops o E)
end

def plain (l : List Oper) : List (Oper × List (Operand × TypeId)) := l.map fun o => (o, [])
def drawn (l : List (Item × List (Operand × TypeId))) : List (Oper × List (Operand × TypeId)) := l.map fun t => (t.1.o, t.2)

/-! The order of a region, by numbers. -/
def keepsI : List Item → Item → List Nat
  | [], _ => []
  | x :: r, y => (match x.o.op with
      | .load _ _ => bif y.m.testBit x.i then [] else [x.i]
      | _ => []) ++ keepsI r y
def withKeepsI : List Item → List Item → List (List Nat)
  | _, [] => []
  | seen, y :: r => (bif y.k.isEffect then keepsI seen y else []) :: withKeepsI (seen ++ [y]) r
def natsEq : List Nat → List Nat → Bool
  | [], [] => true
  | x :: r, y :: s => Nat.beq x y && natsEq r s
  | _, _ => false
def natssEq : List (List Nat) → List (List Nat) → Bool
  | [], [] => true
  | x :: r, y :: s => natsEq x y && natssEq r s
  | _, _ => false
def opAt (ops : List Oper) (i : Nat) : Oper := (ops[i]?).getD default
def loadsAt (ops : List Oper) : List Nat → List (Operand × TypeId)
  | [] => []
  | j :: r => match (opAt ops j).op with
    | .load t a => (a, t) :: loadsAt ops r
    | _ => loadsAt ops r
def litOf (ops : List Oper) (pl : List (Nat × List Nat)) : List (Oper × List (Operand × TypeId)) := pl.map fun q => (opAt ops q.1, loadsAt ops q.2)
def planLit (P : Program) (ops : Array Oper) (pl : List (Nat × List Nat)) : Bool :=
  match plan P ops with
  | some l => natsEq (l.map fun t => t.1.i) (pl.map fun q => q.1) && natssEq (withKeepsI [] (l.map fun t => t.1)) (pl.map fun q => q.2)
  | none => false
def plOf (k : Nat) : List (Nat × List (Nat × List Nat)) → Option (List (Nat × List Nat))
  | [] => none
  | (i, l) :: r => bif Nat.beq i k then some l else plOf k r

def bwp (P : Program) (C : CSem) (I : Bx) : Code → (Ex → Slots → AHeap → Prop) → Slots → AHeap → Prop
  | .skip, Q, s, h => Q .normal s h
  | .region k ops draw, Q, s, h =>
    match draw with
    | false => opsB P C I ops.toList (plain ops.toList) (Q .normal) [] s h
    | true => match plOf k I.pl with
      | some pl => opsB P C I ops.toList (litOf ops.toList pl) (Q .normal) [] s h
      | none => False
  | .seq a b, Q, s, h => bwp P C I a (Ex.then (bwp P C I b Q) Q) s h
  | .cond c x y, Q, s, h => A.cond (evS s c) (bwp P C I x Q s h) (bwp P C I y Q s h)
  | .block id b, Q, s, h => bwp P C I b (Ex.inBlock id Q) s h
  | .loop c, Q, s, h => ∀ X : Slots → AHeap → Prop, (∀ s h, bwp P C I c (Ex.then X Q) s h → X s h) → X s h
  | .exit id, Q, s, h => Q (.exit id) s h
  | .ret, Q, s, h => Q .ret s h
  | _, _, _, _ => False

/-- A result that stands in a variable of one's own, or elsewhere. -/
def resB (P : Program) (I : Bx) (h : AHeap) (s : Slots) : List ResultVar → Option (List AVal)
  | [] => some []
  | .tmp t :: r => bif I.clean t then joinV (some (s t)) (resB P I h s r) else none
  | .cell t ty :: r => bif memB I.bs t then (match P.underlying ty with
      | none => none
      | some _ => joinV (bif isAggB P ty then V.fieldN 0 (P.cellsOf ty) (s (I.B + t)) else V.field1 0 (s (I.B + t))) (resB P I h s r)) else (bif I.clean t then joinV (resCell P h (s t) ty) (resB P I h s r) else none)
def retB (P : Program) (I : Bx) (rs : List ResultVar) (Q : AVal → AHeap → Prop) : Ex → Slots → AHeap → Prop
  | .ret, s, h | .normal, s, h => A.pv (oneOf (resB P I h s rs)) fun v => Q v h
  | .exit _, _, _ => False

def chkC (P : Program) (I : Bx) : Code → Bool
  | .region k ops draw => match draw with
    | false => chkO P I ops.toList (plain ops.toList) []
    | true => match plOf k I.pl with
      | some pl => planLit P ops pl && chkO P I ops.toList (litOf ops.toList pl) []
      | none => false
  | .seq a b => chkC P I a && chkC P I b
  | .cond c a b => I.okO c && (chkC P I a && chkC P I b)
  | .block _ b => chkC P I b
  | .loop b => chkC P I b
  | _ => true

end Go.Ab
