/- What is told: the order in which a region whose order is drawn may be read, and what code and calls do in the abstract memory. Definitions alone. -/
import Derived.Test.YtjhldpbpopjkiaaAbC
namespace Go.Ab

inductive Kd where
  | pure | load | alloc | effect

def kdOf (P : Program) : Op → Kd
  | .convert s d _ => (match P.underlying s, P.underlying d with
    | some (.int _), some (.int _) | some .string, some .string => .pure
    | _, _ => .effect)
  | .load _ _ => .load
  | .alloc _ | .box _ _ | .buildSlice _ _ _ | .makeSlice _ _ _ => .alloc
  | .move _ | .assign _ | .pick _ _ _ | .build _ _ | .nilCheck _ | .binOp _ _ _ _ _ | .unOp _ _ _ | .slice _ _ _ _ _ | .fieldAddr _ _ _ | .field _ _ _
  | .indexAddr _ _ _ | .index _ _ _ | .makeFunc _ _ _ | .extract _ _ => .pure
  | .call { callee := .builtin .len, .. } | .call { callee := .builtin .min, .. } | .call { callee := .builtin .max, .. } => .pure
  | _ => .effect

def Kd.isEffect : Kd → Bool
  | .effect => true
  | _ => false
def Kd.early : Kd → Bool
  | .pure | .load => true
  | _ => false
/-- May x, which is read first, in truth come behind y? (The two stand in no order.) -/
def Kd.fits : Kd → Kd → Bool
  | .effect, .effect | .effect, .load | .alloc, .load | .alloc, .effect => false
  | _, _ => true

/-- What each operation comes behind, as bits. -/
def masksOf : List Oper → List Nat → List Nat
  | [], acc => acc
  | o :: r, acc => masksOf r (acc ++ [o.after.toList.foldl (fun m e => bif Region.binds .any e then m ||| 2 ^ e.on ||| acc.getD e.on 0 else m) 0])

/-- One sweep: all early ones whose forerunners are done. -/
def sweep : List (Nat × Kd × Nat) → Nat → List Nat → Nat × List Nat
  | [], d, out => (d, out)
  | (i, k, m) :: r, d, out => bif !d.testBit i && k.early && Nat.beq (m &&& d) m then sweep r (d ||| 2 ^ i) (i :: out) else sweep r d out
/-- All that are named in a set of bits. -/
def takeIn (which : Nat) : List (Nat × Kd × Nat) → Nat → List Nat → Nat × List Nat
  | [], d, out => (d, out)
  | (i, _, _) :: r, d, out => bif !d.testBit i && which.testBit i then takeIn which r (d ||| 2 ^ i) (i :: out) else takeIn which r d out
def planGo (all : List (Nat × Kd × Nat)) : List (Nat × Kd × Nat) → Nat → List Nat → List Nat
  | [], d, out => (takeIn (2 ^ all.length - 1) all d out).2.reverse
  | (i, k, m) :: r, d, out => bif k.isEffect then
      (match sweep all d out with
        | (d, out) => match takeIn (m ||| 2 ^ i) all d out with
          | (d, out) => planGo all r d out)
    else planGo all r d out

structure Item where
  i : Nat
  o : Oper
  k : Kd
  m : Nat

def items (P : Program) (ops : List Oper) : List Item :=
  ((masksOf ops []).zip ops).zipIdx.map fun ((m, o), i) => ⟨i, o, kdOf P o.op, m⟩
def planOf (its : List Item) : List Item :=
  let all := its.map fun t => (t.i, t.k, t.m)
  (planGo all all 0 []).filterMap fun i => its[i]?

/-- A load's place is in no slot that is written from then on. -/
def placeStays (x : Item) (y : Item) : Bool :=
  match x.o.op with
  | .load _ (.tmp t) => (match y.o.dst with
    | some d => !Nat.beq d t
    | none => true)
  | _ => true
/-- Is y free of every one ahead of it that it does not come behind? -/
def fitsAll (ops : Array Oper) : List Item → Bool
  | [] => true
  | x :: r => (r.all fun y => !x.m.testBit y.i && placeStays x y && (y.m.testBit x.i || (x.k.fits y.k && x.o.apart ops y.o))) && placeStays x x && !x.m.testBit x.i && fitsAll ops r
def distinct : List Nat → Bool
  | [] => true
  | x :: r => r.all (fun y => !Nat.beq x y) && distinct r

/-- The loads ahead of y that stand to it in no order. -/
def keepsOf : List Item → Item → List (Operand × TypeId)
  | [], _ => []
  | x :: r, y => (match x.o.op with
      | .load t a => bif y.m.testBit x.i then [] else [(a, t)]
      | _ => []) ++ keepsOf r y

def withKeeps : List Item → List Item → List (Item × List (Operand × TypeId))
  | _, [] => []
  | seen, y :: r => (y, bif y.k.isEffect then keepsOf seen y else []) :: withKeeps (seen ++ [y]) r

/-- The order in which such a region is read. -/
def plan (P : Program) (ops : Array Oper) : Option (List (Item × List (Operand × TypeId))) :=
  let its := items P ops.toList
  let p := planOf its
  bif fitsAll ops p && Nat.beq p.length ops.size && distinct (p.map (·.i)) && (List.range ops.size).all (fun i => p.any fun t => Nat.beq t.i i) && ops.toList.all (fun o => o.after.toList.all fun e => Nat.blt e.on ops.size) then some (withKeeps [] p) else none

def keepsAt (P : Program) (s : Slots) (ks : List (Operand × TypeId)) : List (AVal × Option Nat) :=
  ks.map fun p => (evS s p.1, bif isAggB P p.2 then some (P.cellsOf p.2) else none)

def stepWpD (P : Program) (C : CSem) (ops : List Oper) (o : Oper) (ks : List (Operand × TypeId)) (s : Slots) (h : AHeap) (K : AVal → AHeap → Prop) : Prop :=
  match ks with
  | [] => stepWp P C ops o s h K
  | ks => match o.guard with
    | none => opWp P C o.op s h (A.keep h (keepsAt P s ks) K)
    | some (j, b) => match gslot ops j with
      | some t => A.gd h (s t) b (fun K => opWp P C o.op s h (A.keep h (keepsAt P s ks) K)) K
      | none => False

def opsWpD (P : Program) (C : CSem) (ops : List Oper) : List (Item × List (Operand × TypeId)) → (Slots → AHeap → Prop) → Slots → AHeap → Prop
  | [], Q, s, h => Q s h
  | (t, ks) :: r, Q, s, h => stepWpD P C ops t.o ks s h fun v h => opsWpD P C ops r Q (putS s t.o.dst v) h

def awp (P : Program) (C : CSem) : Code → (Ex → Slots → AHeap → Prop) → Slots → AHeap → Prop
  | .skip, Q, s, h => Q .normal s h
  | .region _ ops draw, Q, s, h =>
    match draw with
    | false => opsWp P C ops.toList ops.toList (Q .normal) s h
    | true => match plan P ops with
      | some l => opsWpD P C ops.toList l (Q .normal) s h
      | none => False
  | .seq a b, Q, s, h => awp P C a (Ex.then (awp P C b Q) Q) s h
  | .cond c x y, Q, s, h => A.cond (evS s c) (awp P C x Q s h) (awp P C y Q s h)
  | .block id b, Q, s, h => awp P C b (Ex.inBlock id Q) s h
  | .loop c, Q, s, h => ∀ X : Slots → AHeap → Prop, (∀ s h, awp P C c (Ex.then X Q) s h → X s h) → X s h
  | .exit id, Q, s, h => Q (.exit id) s h
  | .ret, Q, s, h => Q .ret s h
  | _, _, _, _ => False

/-- A result that stands in a variable: it is read at the end. -/
def resCell (P : Program) (h : AHeap) (p : AVal) (t : TypeId) : Option AVal :=
  match P.underlying t with
  | none => none
  | some _ => bif isAggB P t then A.ldnv h p (P.cellsOf t) else A.ldv h p
def joinV (o : Option AVal) (l : Option (List AVal)) : Option (List AVal) :=
  match o, l with
  | some v, some l => some (v :: l)
  | _, _ => none
def resS (P : Program) (h : AHeap) (s : Slots) : List ResultVar → Option (List AVal)
  | [] => some []
  | .tmp t :: r => joinV (some (s t)) (resS P h s r)
  | .cell x t :: r => joinV (resCell P h (s x) t) (resS P h s r)
def oneOf (o : Option (List AVal)) : Option AVal :=
  match o with
  | some [v] => some v
  | some l => some (.tup l)
  | none => none
def resV (P : Program) (h : AHeap) (s : Slots) (rs : List ResultVar) : Option AVal := oneOf (resS P h s rs)
/-- What stands behind a body. -/
def retQ (P : Program) (rs : List ResultVar) (Q : AVal → AHeap → Prop) : Ex → Slots → AHeap → Prop
  | .ret, s, h | .normal, s, h => A.pv (resV P h s rs) fun v => Q v h
  | .exit _, _, _ => False
def startS (args : List AVal) : Slots := fun k => args.getD k .undef

end Go.Ab
