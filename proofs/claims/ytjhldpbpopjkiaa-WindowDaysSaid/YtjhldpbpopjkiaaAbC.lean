/- What is told: what each operation, each piece of code and each call does in the abstract memory. Definitions alone. -/
import Derived.Test.YtjhldpbpopjkiaaAbB
namespace Go.Ab

abbrev Slots := Nat → AVal
abbrev CSem := Nat → List AVal → AHeap → (AVal → AHeap → Prop) → Prop

def putS (s : Slots) (d : Option Nat) (v : AVal) : Slots :=
  match d with
  | none => s
  | some d => fun k => bif Nat.beq k d then v else s k

def AVal.isCell : AVal → Bool
  | .undef | .agg _ | .tup _ => false
  | _ => true

/-- A constant's one cell. -/
def ofC : Value → AVal
  | .bool b => .bool b
  | .int k n => .int k n
  | .string s => .str s.data.toList
  | .pointer none => .nilp
  | .slice none 0 0 => .nils
  | .nilFunc => .nilf
  | _ => .undef
def ofV : Value → AVal
  | .agg cs => if cs.all fun c => (ofC c).isCell then .agg (cs.toList.map ofC) else .undef
  | v => ofC v
def evS (s : Slots) : Operand → AVal
  | .tmp t => s t
  | .const v => ofV v
  | .global _ => .undef
  | .func f => .fn f [] []

/-! What the types tell. -/
def isAggB (P : Program) (t : TypeId) : Bool :=
  match P.underlying t with
  | some (.struct _) | some (.array _ _) => true
  | _ => false

def joinL : List (Option (List AVal)) → Option (List AVal)
  | [] => some []
  | some l :: r => match joinL r with | some m => some (l ++ m) | none => none
  | none :: _ => none

def zeroAt (P : Program) : Nat → TypeId → Option (List AVal)
  | 0, _ => none
  | d + 1, t =>
    match P.underlying t with
    | some .bool => some [.bool false]
    | some (.int k) => some [.int k 0]
    | some .string => some [.str []]
    | some (.pointer _) => some [.nilp]
    | some (.slice _) => some [.nils]
    | some (.func ..) => some [.nilf]
    | some (.struct fs) => joinL (fs.toList.map fun f => zeroAt P d f.type)
    | some (.array n e) => match zeroAt P d e with
      | some [c] => some (List.replicate n c)
      | some l => some (List.replicate n l).flatten
      | none => none
    | _ => none

/-- Does an abstract cell tell just this value (no memory in it)? -/
def flatIs : AVal → Value → Bool
  | .bool b, .bool c => b == c
  | .int k n, .int j m => k == j && n == m
  | .str s, .string b => s == b.data.toList
  | .nilp, .pointer none => true
  | .nils, .slice none 0 0 => true
  | .nilf, .nilFunc => true
  | _, _ => false
def flatsAre : List AVal → List Value → Bool
  | [], [] => true
  | a :: as, v :: vs => flatIs a v && flatsAre as vs
  | _, _ => false

/-- The zero cells of a type, where the table's own zero is just these. -/
def zeroOf (P : Program) (t : TypeId) : Option (List AVal) :=
  match zeroAt P 12 t, (P.info? t).bind (·.zero) with
  | some cs, some z => bif flatsAre cs z.cells.toList && Nat.beq cs.length (P.cellsOf t) then some cs else none
  | _, _ => none

def contig (P : Program) : List Field → Nat → Option Nat
  | [], n => some n
  | f :: r, n => if f.offset = n then contig P r (n + P.cellsOf f.type) else none

inductive Ck where
  | b
  | i (k : IntKind)
  | s

def joinC : List (Option (List Ck)) → Option (List Ck)
  | [] => some []
  | some l :: r => match joinC r with | some m => some (l ++ m) | none => none
  | none :: _ => none

/-- A type whose values are compared cell by cell: its cells' kinds. -/
def shapeAt (P : Program) : Nat → TypeId → Option (List Ck)
  | 0, _ => none
  | d + 1, t =>
    match P.underlying t with
    | some .bool => bif Nat.beq (P.cellsOf t) 1 then some [.b] else none
    | some (.int k) => bif Nat.beq (P.cellsOf t) 1 then some [.i k] else none
    | some .string => bif Nat.beq (P.cellsOf t) 1 then some [.s] else none
    | some (.struct fs) => bif !P.stoodInHeld t && fs.toList.all (fun f => f.name != "_") && contig P fs.toList 0 == some (P.cellsOf t)
        then joinC (fs.toList.map fun f => shapeAt P d f.type) else none
    | _ => none
def plainEq (P : Program) (t : TypeId) : Option (List Ck) := bif P.eqGuardType P.depth t then none else shapeAt P 8 t

namespace V
def eqCell : Ck → AVal → AVal → Option Bool
  | .b, .bool a, .bool b => some (a == b)
  | .i k, .int j a, .int l b => if j = k ∧ l = k then some (a == b) else none
  | .s, .str a, .str b => some (a == b)
  | _, _, _ => none
def eqCells : List Ck → List AVal → List AVal → Option Bool
  | [], [], [] => some true
  | c :: cs, a :: as, b :: bs => match eqCell c a b, eqCells cs as bs with
    | some x, some y => some (x && y)
    | _, _ => none
  | _, _, _ => none

def arith (op : BinOp) (k : IntKind) (a b : Int) : Option AVal :=
  match op with
  | .add => some (.int k (k.wrap (a + b)))
  | .sub => some (.int k (k.wrap (a - b)))
  | .mul => some (.int k (k.wrap (a * b)))
  | .quo => if b = 0 then none else some (.int k (k.wrap (a.tdiv b)))
  | .rem => if b = 0 then none else some (.int k (a.tmod b))
  | .and => some (.int k (k.wrap (BitVec.ofInt k.bits a &&& BitVec.ofInt k.bits b).toNat))
  | .or => some (.int k (k.wrap (BitVec.ofInt k.bits a ||| BitVec.ofInt k.bits b).toNat))
  | .xor => some (.int k (k.wrap (BitVec.ofInt k.bits a ^^^ BitVec.ofInt k.bits b).toNat))
  | .andNot => some (.int k (k.wrap (BitVec.ofInt k.bits a &&& ~~~BitVec.ofInt k.bits b).toNat))
  | .eql => some (.bool (a == b))
  | .neq => some (.bool (a != b))
  | .lss => some (.bool (decide (a < b)))
  | .leq => some (.bool (decide (a ≤ b)))
  | .gtr => some (.bool (decide (b < a)))
  | .geq => some (.bool (decide (b ≤ a)))
  | _ => none
def shift (op : BinOp) (k : IntKind) (a b : Int) : Option AVal :=
  if b < 0 then none else
  match op with
  | .shl => some (.int k (k.wrap (a * 2 ^ (min b.toNat k.bits))))
  | .shr => some (.int k (a.fdiv (2 ^ (min b.toNat k.bits))))
  | _ => none
def strOp (op : BinOp) (a b : List UInt8) : Option AVal :=
  match op with
  | .add => if ((a.length + b.length : Nat) : Int) > IntKind.i64.max then none else some (.str (a ++ b))
  | .eql => some (.bool (a == b))
  | .neq => some (.bool (!(a == b)))
  | .lss => some (.bool (Op.bytesLess a b))
  | .leq => some (.bool (Op.bytesLess a b || a == b))
  | .gtr => some (.bool (!(Op.bytesLess a b || a == b)))
  | .geq => some (.bool (!Op.bytesLess a b))
  | _ => none
def eqv (op : BinOp) (e : Bool) : Option AVal :=
  match op with
  | .eql => some (.bool e)
  | .neq => some (.bool (!e))
  | _ => none
/-- Two integers, or two strings. -/
def bin (op : BinOp) (x y : AVal) : Option AVal :=
  match x, y with
  | .int k a, .int j b => match op with
    | .shl | .shr => shift op k a b
    | _ => if k = j then arith op k a b else none
  | .str a, .str b => strOp op a b
  | _, _ => none
def eqBool (op : BinOp) (x y : AVal) : Option AVal :=
  match x, y with
  | .bool a, .bool b => eqv op (a == b)
  | _, _ => none
def eqPtr (op : BinOp) (x y : AVal) : Option AVal :=
  match x, y with
  | .nilp, .nilp => eqv op true
  | .nilp, .ptr _ _ _ | .ptr _ _ _, .nilp => eqv op false
  | _, _ => none
def eqSl (op : BinOp) (x y : AVal) : Option AVal :=
  match x, y with
  | .nils, .nils => eqv op true
  | .nils, .sl _ _ _ _ _ _ | .sl _ _ _ _ _ _, .nils | .nils, .sz | .sz, .nils => eqv op false
  | _, _ => none
def eqFn (op : BinOp) (x y : AVal) : Option AVal :=
  match x, y with
  | .nilf, .nilf => eqv op true
  | .nilf, .fn _ _ _ | .fn _ _ _, .nilf => eqv op false
  | _, _ => none
def binAgg (op : BinOp) (sh : List Ck) (x y : AVal) : Option AVal :=
  match x, y with
  | .agg xs, .agg ys => match eqCells sh xs ys with
    | some e => eqv op e
    | none => none
  | _, _ => none
def un (op : UnOp) (x : AVal) : Option AVal :=
  match op, x with
  | .neg, .int k n => some (.int k (k.wrap (0 - n)))
  | .xor, .int k n => some (.int k (k.wrap (BitVec.ofInt k.bits (if k.signed then -1 else k.max) ^^^ BitVec.ofInt k.bits n).toNat))
  | .not, .bool b => some (.bool !b)
  | _, _ => none
def toInt (k : IntKind) (x : AVal) : Option AVal :=
  match x with
  | .int _ n => some (.int k (k.wrap n))
  | _ => none
def strStr (x : AVal) : Option AVal :=
  match x with
  | .str b => some (.str b)
  | _ => none
def byteOf? (x : AVal) : Option UInt8 :=
  match x with
  | .int .u8 n => some (UInt8.ofNat n.toNat)
  | _ => none
def bytesOf? : List AVal → Option (List UInt8)
  | [] => some []
  | x :: r => match byteOf? x, bytesOf? r with
    | some b, some l => some (b :: l)
    | _, _ => none
def fieldAddr (off : Nat) (x : AVal) : Option AVal :=
  match x with
  | .ptr id g o => some (.ptr id g (o + off))
  | _ => none
def field1 (off : Nat) (x : AVal) : Option AVal :=
  match x with
  | .agg cs => cs[off]?
  | _ => none
def fieldN (off n : Nat) (x : AVal) : Option AVal :=
  match x with
  | .agg cs => if off + n ≤ cs.length then some (.agg ((cs.drop off).take n)) else none
  | _ => none
def idxS (es : Nat) (x i : AVal) : Option AVal :=
  match x, i with
  | .sl id g off len _ _, .int _ n => if 0 ≤ n ∧ n < len then some (.ptr id g (off + n.toNat * es)) else none
  | _, _ => none
def idxA (len es : Nat) (x i : AVal) : Option AVal :=
  match x, i with
  | .ptr id g off, .int _ n => if 0 ≤ n ∧ n < len then some (.ptr id g (off + n.toNat * es)) else none
  | _, _ => none
def idxStr (x i : AVal) : Option AVal :=
  match x, i with
  | .str s, .int _ n => if 0 ≤ n then match s[n.toNat]? with | some b => some (.int .u8 b.toNat) | none => none else none
  | _, _ => none
def ext (i : Nat) (x : AVal) : Option AVal :=
  match x with
  | .tup vs => vs[i]?
  | _ => none
def lenStr (x : AVal) : Option AVal :=
  match x with
  | .str s => some (.int .i64 s.length)
  | _ => none
def lenSl (x : AVal) : Option AVal :=
  match x with
  | .nils | .sz => some (.int .i64 0)
  | .sl _ _ _ n _ _ => some (.int .i64 n)
  | _ => none
def min2 (x y : AVal) : Option AVal :=
  match x, y with
  | .int k a, .int _ b => some (.int k (if b < a then b else a))
  | _, _ => none
def max2 (x y : AVal) : Option AVal :=
  match x, y with
  | .int k a, .int _ b => some (.int k (if b > a then b else a))
  | _, _ => none
def asNat (x : AVal) : Option Nat :=
  match x with
  | .int _ n => if 0 ≤ n then some n.toNat else none
  | _ => none
/-- The ends of a cut: the high one may go as far as the capacity is known. -/
def endsC (n cp : Nat) (lo hi : Option AVal) : Option (Nat × Nat) :=
  match (match hi with | none => some n | some v => asNat v), (match lo with | none => some 0 | some v => asNat v) with
  | some h, some l => if l ≤ h ∧ h ≤ max n cp then some (l, h) else none
  | _, _ => none
def ends (n : Nat) (lo hi : Option AVal) : Option (Nat × Nat) := endsC n n lo hi
def cutStr (x : AVal) (lo hi : Option AVal) : Option AVal :=
  match x with
  | .str s => match ends s.length lo hi with
    | some (l, h) => some (.str ((s.take h).drop l))
    | none => none
  | _ => none
/-- A slice cut within its length, or its known capacity. -/
def cutSl (es : Nat) (x : AVal) (lo hi : Option AVal) : Option AVal :=
  match x with
  | .sl id g off n es' cp => match endsC n cp lo hi with
    | some (l, h) => if es' = es then some (.sl id g (off + l * es) (h - l) es (cp - l)) else none
    | none => none
  | .sz => match ends 0 lo hi with
    | some _ => some .sz
    | none => none
  | .nils => match ends 0 lo hi with
    | some _ => some .nils
    | none => none
  | _ => none
/-- x[a:b:b]: nothing is known but the place where a = b. -/
def cut0 (x : AVal) (lo hi mx : AVal) : Option AVal :=
  match x, asNat lo, asNat hi, asNat mx with
  | .sl _ _ _ _ _ _, some 0, some 0, some 0 => some .sz
  | .sz, some 0, some 0, some 0 => some .sz
  | .nils, some 0, some 0, some 0 => some .nils
  | _, _, _, _ => none
def put1 (off : Nat) (v : AVal) (cs : List AVal) : Option (List AVal) := bif v.isCell then (if off < cs.length then some (cs.set off v) else none) else none
def putN (off n : Nat) (v : AVal) (cs : List AVal) : Option (List AVal) :=
  match v with
  | .agg xs => if xs.length = n ∧ off + n ≤ cs.length then some (cs.take off ++ xs ++ cs.drop (off + n)) else none
  | _ => none
end V

/-- The parts of a struct or an array laid over the zero cells: place, size (none: one cell), value. -/
def fillL : List (Nat × Option Nat × AVal) → List AVal → Option (List AVal)
  | [], cs => some cs
  | (off, none, v) :: r, cs => match V.put1 off v cs with | some cs => fillL r cs | none => none
  | (off, some n, v) :: r, cs => match V.putN off n v cs with | some cs => fillL r cs | none => none

/-- A literal's value. -/
def A.bld (ps : List (Nat × Option Nat × AVal)) (z : List AVal) : Option AVal :=
  match fillL ps z with
  | some cs => some (.agg cs)
  | none => none

def repL (n : Nat) (z : List AVal) : List AVal :=
  match z with
  | [x] => List.replicate n x
  | z => (List.replicate n z).flatten

namespace A
variable (h : AHeap)
def ok (b : Bool) (p : Prop) : Prop := bif b then p else False
theorem ok_iff {b : Bool} {p : Prop} : ok b p ↔ b = true ∧ p := by cases b <;> simp [ok]
def pv (o : Option AVal) (K : AVal → Prop) : Prop :=
  match o with
  | some v => K v
  | none => False
def cond (c : AVal) (x y : Prop) : Prop :=
  match c with
  | .bool b => (b = true → x) ∧ (b = false → y)
  | _ => False
def pick (c a b : AVal) (K : AVal → Prop) : Prop :=
  match c with
  | .bool c => K (bif c then a else b)
  | _ => False
/-- A guarded operation. -/
def gd (c : AVal) (want : Bool) (M : (AVal → AHeap → Prop) → Prop) (K : AVal → AHeap → Prop) : Prop :=
  match c with
  | .bool b => (b = want → M K) ∧ (b ≠ want → K (.tup []) h)
  | .tup [] => K (.tup []) h
  | _ => False
def new (cs : List AVal) (K : Nat → AHeap → Prop) : Prop := ∀ id, h id = none → K id (upd h id (blkOf cs))
def newO (o : Option (List AVal)) (K : Nat → AHeap → Prop) : Prop :=
  match o with
  | some cs => new h cs K
  | none => False
def cellsN (n : Nat) (v : AVal) : Option (List AVal) :=
  match v with
  | .agg cs => if cs.length = n then some cs else none
  | _ => none
def cells1 (v : AVal) : Option (List AVal) := bif v.isCell then some [v] else none
def ldv (p : AVal) : Option AVal :=
  match p with
  | .ptr id g off => match h id with
    | some b => match b.gens.lookup g with
      | some hi => if off < hi then b.cells[off]? else none
      | none => none
    | none => none
  | _ => none
def ldnv (p : AVal) (n : Nat) : Option AVal :=
  match p with
  | .ptr id g off => match h id with
    | some b => match b.gens.lookup g with
      | some hi => if off + n ≤ hi then some (.agg ((b.cells.drop off).take n)) else none
      | none => none
    | none => none
  | _ => none
/-- The first n elements of es cells of a slice. -/
def rdv (x : AVal) (n es : Nat) : Option (List AVal) :=
  match x with
  | .nils | .sz => if n = 0 then some [] else none
  | .sl id g off len _ _ => match h id with
    | some b => match b.gens.lookup g with
      | some hi => if n ≤ len ∧ off + n * es ≤ hi then some ((b.cells.drop off).take (n * es)) else none
      | none => none
    | none => none
  | _ => none
def stv (p : AVal) (f : List AVal → Option (List AVal)) (n : Nat) (off : Nat) : Option AHeap :=
  match p with
  | .ptr id g o => match h id with
    | some b => match b.gens.lookup g with
      | some hi => bif b.own && Nat.ble (off + o + n) hi then (match f b.cells with
        | some cs => some (upd h id { b with cells := cs, gens := [(g, hi)] })
        | none => none) else none
      | none => none
    | none => none
  | _ => none
def ld (p : AVal) (K : AVal → Prop) : Prop := pv (ldv h p) K
def ldn (p : AVal) (n : Nat) (K : AVal → Prop) : Prop := pv (ldnv h p n) K
def ph (o : Option AHeap) (K : AHeap → Prop) : Prop :=
  match o with
  | some h => K h
  | none => False
def ptrOff : AVal → Nat
  | .ptr _ _ o => o
  | _ => 0
def st (p v : AVal) (K : AHeap → Prop) : Prop := ph (stv h p (V.put1 (ptrOff p) v) 1 0) K
def stn (p : AVal) (n : Nat) (v : AVal) (K : AHeap → Prop) : Prop := ph (stv h p (V.putN (ptrOff p) n v) n 0) K
def nilCheck (v : AVal) (K : AVal → Prop) : Prop :=
  match v with
  | .ptr _ _ _ => K v
  | .fn _ _ _ => K v
  | _ => False
/-- append: es cells and 'bytes' bytes an element. -/
def app (es bytes : Nat) (x : AVal) (news : Option (List AVal)) (K : AVal → AHeap → Prop) : Prop :=
  match news with
  | none => False
  | some cs =>
    match x with
    | .nils => if cs.length = 0 then K .nils h else (cs.length / es) * bytes ≤ 140737488355328 ∧ (cs.length / es) ≤ maxLen ∧ new h cs fun id h => K (.sl id 0 0 (cs.length / es) es (cs.length / es)) h
    | .sz => if cs.length = 0 then K .sz h else (cs.length / es) * bytes ≤ 140737488355328 ∧ (cs.length / es) ≤ maxLen ∧ new h cs fun id h => K (.sl id 0 0 (cs.length / es) es (cs.length / es)) h
    | .sl id g off len es' _ => match h id with
      | some b => match b.gens.lookup g with
        | some hi => es' = es ∧ b.own = true ∧ off + len * es ≤ hi ∧ (len + cs.length / es) * bytes ≤ 140737488355328 ∧ len + cs.length / es ≤ maxLen ∧
            K (.sl id b.next off (len + cs.length / es) es (len + cs.length / es)) (upd h id (appBlk b (off + len * es) cs))
        | none => False
      | none => False
    | _ => False
/-- The source of an append or a copy: how many elements. -/
def srcLen (x : AVal) : Option Nat :=
  match x with
  | .nils | .sz => some 0
  | .sl _ _ _ n _ _ => some n
  | .str s => some s.length
  | _ => none
def src (es n : Nat) (x : AVal) : Option (List AVal) :=
  match x with
  | .str s => some ((s.take n).map fun b => .int .u8 b.toNat)
  | x => rdv h x n es
def appW (es bytes : Nat) (x y : AVal) (K : AVal → AHeap → Prop) : Prop :=
  match srcLen y with
  | some n => app h es bytes x (rdv h y n es) K
  | none => False
def cpy (es : Nat) (x y : AVal) (K : AVal → AHeap → Prop) : Prop :=
  match srcLen y with
  | none => False
  | some m =>
    match x with
    | .nils | .sz => K (.int .i64 0) h
    | .sl id g off len _ _ => match rdv h y (min m len) es with
      | none => False
      | some cs => ph (stv h (.ptr id g off) (V.putN off (min m len * es) (.agg cs)) (min m len * es) 0) fun h => K (.int .i64 (min m len : Nat)) h
    | _ => False
/-- make([]T, l, c), T's zero cells given. -/
def mks (bytes : Nat) (z : Option (List AVal)) (l c : AVal) (K : AVal → AHeap → Prop) : Prop :=
  match z, l, c with
  | some z, .int _ l, .int _ c => 0 ≤ l ∧ l ≤ c ∧ c * bytes ≤ 281474976710656 ∧ c ≤ 9223372036854775807 ∧
      new h (repL c.toNat z) fun id h => K (.sl id 0 0 l.toNat z.length c.toNat) h
  | _, _, _ => False
def bytesStr (x : AVal) (K : AVal → Prop) : Prop :=
  match srcLen x with
  | some n => (match rdv h x n 1 with
    | some cs => (match V.bytesOf? cs with
      | some l => K (.str l)
      | none => False)
    | none => False)
  | none => False
def newSl (cs : List AVal) (n es : Nat) (K : AVal → AHeap → Prop) : Prop := new h cs fun id h => K (.sl id 0 0 n es n) h
def strBytes (x : AVal) (K : AVal → AHeap → Prop) : Prop :=
  match x with
  | .str s => s.length ≤ 140737488355328 ∧ newSl h (s.map fun b => .int .u8 b.toNat) s.length 1 K
  | _ => False
def newObj (o : AObj) (K : Nat → AHeap → Prop) : Prop := ∀ id, h id = none → K id (upd h id (objOf o))
def rangeStr (x : AVal) (K : AVal → AHeap → Prop) : Prop :=
  match x with
  | .str s => newObj h (.iter s 0) fun id h => K (.ptr id 0 0) h
  | _ => False
/-- The rune at a place of a text, and how wide it is. -/
def rune (s : List UInt8) (pos : Nat) : Nat × Nat := Utf8.decode ⟨s.toArray⟩ pos
def nextStr (x : AVal) (K : AVal → AHeap → Prop) : Prop :=
  match x with
  | .ptr id 0 0 => (match h id with
    | some b => (match b.obj with
      | some (.iter s pos) => if pos < s.length then
            K (.tup [.bool true, .int .i64 pos, .int .i32 (rune s pos).1]) (upd h id { b with obj := some (.iter s (pos + (rune s pos).2)) })
          else K (.tup [.bool false]) h
      | _ => False)
    | none => False)
  | _ => False
def callv (C : CSem) (f : AVal) (args : List AVal) (K : AVal → AHeap → Prop) : Prop :=
  match f with
  | .fn f first caps => C f (first ++ args ++ caps) h K
  | _ => False
/-- Loads that stand to an operation in no order must not tell whether it has been. -/
def keep (ls : List (AVal × Option Nat)) (K : AVal → AHeap → Prop) : AVal → AHeap → Prop :=
  fun v h' => (∀ p ∈ ls, match p.2 with | none => ldv h' p.1 = ldv h p.1 | some n => ldnv h' p.1 n = ldnv h p.1 n) ∧ K v h'
end A

/-- How a part lies: one cell (none), or so many (a struct's, an array's). -/
def partOf (P : Program) (t : TypeId) : Option (Option Nat) :=
  bif isAggB P t then some (some (P.cellsOf t)) else bif Nat.beq (P.cellsOf t) 1 then some none else none
/-- The places of the parts of a literal. -/
def placesS (P : Program) (fs : Array Field) : List (Nat × AVal) → Option (List (Nat × Option Nat × AVal))
  | [] => some []
  | (i, v) :: r => match fs[i]?, placesS P fs r with
    | some f, some l => (match partOf P f.type with
      | some z => some ((f.offset, z, v) :: l)
      | none => none)
    | _, _ => none
def placesE (n : Nat) (z : Option Nat) : List (Nat × AVal) → List (Nat × Option Nat × AVal)
  | [] => []
  | (i, v) :: r => (i * n, z, v) :: placesE n z r
def placesOf (P : Program) (t : TypeId) (parts : List (Nat × AVal)) : Option (List (Nat × Option Nat × AVal)) :=
  match P.underlying t with
  | some (.struct fs) => placesS P fs parts
  | some (.array _ e) => (match partOf P e with
    | some z => some (placesE (P.cellsOf e) z parts)
    | none => none)
  | _ => none

def isU8 (P : Program) (t : TypeId) : Bool :=
  match P.underlying t with
  | some (.int .u8) => P.cellsOf t == 1
  | _ => false

def elemOf? (P : Program) (t : TypeId) : Option TypeId :=
  match P.underlying t with
  | some (.slice e) => some e
  | _ => none

def builtinWp (P : Program) (b : Builtin) (at_ : List TypeId) (args : List AVal) (h : AHeap) (K : AVal → AHeap → Prop) : Prop :=
  match b, at_, args with
  | .len, t :: _, [x] => match P.underlying t with
    | some .string => A.pv (V.lenStr x) fun v => K v h
    | some (.slice _) => A.pv (V.lenSl x) fun v => K v h
    | some (.array n _) => K (.int .i64 n) h
    | _ => False
  | .append, [t, u], [x, y] => match P.underlying t, P.underlying u with
    | some (.slice e), some (.slice _) => A.ok (Nat.blt 0 (P.cellsOf e) && (Nat.beq t u && (zeroOf P e).isSome)) (A.appW h (P.cellsOf e) (P.bytesOf e) x y K)
    | _, _ => False
  | .copy, [t, u], [x, y] => match P.underlying t with
    | some (.slice e) => A.ok (Nat.beq t u && Nat.blt 0 (P.cellsOf e)) (A.cpy h (P.cellsOf e) x y K)
    | _ => False
  | .min, _, [x, y] => A.pv (V.min2 x y) fun v => K v h
  | .max, _, [x, y] => A.pv (V.max2 x y) fun v => K v h
  | _, _, _ => False

def opWp (P : Program) (C : CSem) (op : Op) (s : Slots) (h : AHeap) (K : AVal → AHeap → Prop) : Prop :=
  match op with
  | .move x | .assign x => K (evS s x) h
  | .pick c a b => A.pick (evS s c) (evS s a) (evS s b) fun v => K v h
  | .alloc t => A.newO h (zeroOf P t) fun id h => K (.ptr id 0 0) h
  | .box t x => A.newO h (bif isAggB P t then A.cellsN (P.cellsOf t) (evS s x) else A.cells1 (evS s x)) fun id h => K (.ptr id 0 0) h
  | .build t parts => A.pv (match zeroOf P t, placesOf P t (parts.toList.map fun p => (p.1, evS s p.2)) with
      | some z, some ps => (match fillL ps z with | some cs => some (.agg cs) | none => none)
      | _, _ => none) fun v => K v h
  | .buildSlice t len parts => match elemOf? P t with
    | some e => if len = 0 then (match parts.toList, partOf P e with | [], some _ => K .sz h | _, _ => False) else
        A.newO h (match zeroOf P e, partOf P e with
          | some z, some pz => bif Nat.ble (len * P.cellsOf e) 16777216 && Nat.ble 1 (P.cellsOf e) then fillL (placesE (P.cellsOf e) pz (parts.toList.map fun p => (p.1, evS s p.2))) (repL len z) else none
          | _, _ => none) fun id h => K (.sl id 0 0 len (P.cellsOf e) len) h
    | none => False
  | .load t x => match P.underlying t with
    | none => False
    | some _ => bif isAggB P t then A.ldn h (evS s x) (P.cellsOf t) fun v => K v h else A.ld h (evS s x) fun v => K v h
  | .store t x v => bif isAggB P t then A.stn h (evS s x) (P.cellsOf t) (evS s v) fun h => K .undef h else bif Nat.beq (P.cellsOf t) 1 then A.st h (evS s x) (evS s v) fun h => K .undef h else False
  | .nilCheck x => A.nilCheck (evS s x) fun v => K v h
  | .binOp op t x y _ => match P.underlying t with
    | some (.int _) | some .string => A.pv (V.bin op (evS s x) (evS s y)) fun v => K v h
    | some .bool => A.pv (V.eqBool op (evS s x) (evS s y)) fun v => K v h
    | some (.pointer _) => A.pv (V.eqPtr op (evS s x) (evS s y)) fun v => K v h
    | some (.slice _) => A.pv (V.eqSl op (evS s x) (evS s y)) fun v => K v h
    | some (.func ..) => A.pv (V.eqFn op (evS s x) (evS s y)) fun v => K v h
    | some (.struct _) => (match plainEq P t with
      | some sh => A.pv (V.binAgg op sh (evS s x) (evS s y)) fun v => K v h
      | none => False)
    | _ => False
  | .unOp op _ x => A.pv (V.un op (evS s x)) fun v => K v h
  | .convert src dst x => match P.underlying src, P.underlying dst with
    | some (.int _), some (.int k) => A.pv (V.toInt k (evS s x)) fun v => K v h
    | some .string, some .string => A.pv (V.strStr (evS s x)) fun v => K v h
    | some (.slice e), some .string => bif isU8 P e then A.bytesStr h (evS s x) fun v => K v h else False
    | some .string, some (.slice e) => bif isU8 P e then A.strBytes h (evS s x) K else False
    | _, _ => False
  | .range t x => match P.underlying t with
    | some .string => A.rangeStr h (evS s x) K
    | _ => False
  | .next x true => A.nextStr h (evS s x) K
  | .makeSlice t l c => match elemOf? P t with
    | some e => 0 < P.cellsOf e ∧ A.mks h (P.bytesOf e) (zeroOf P e) (evS s l) (evS s c) K
    | none => False
  | .slice t x lo hi mx => match P.underlying t, mx with
    | some .string, none => A.pv (V.cutStr (evS s x) (lo.map (evS s)) (hi.map (evS s))) fun v => K v h
    | some (.slice e), none => bif Nat.beq (P.cellsOf e) 0 then False else A.pv (V.cutSl (P.cellsOf e) (evS s x) (lo.map (evS s)) (hi.map (evS s))) fun v => K v h
    | some (.slice e), some mx => bif Nat.beq (P.cellsOf e) 0 then False else (match lo, hi with
      | some lo, some hi => A.pv (V.cut0 (evS s x) (evS s lo) (evS s hi) (evS s mx)) fun v => K v h
      | none, some hi => A.pv (V.cut0 (evS s x) (.int .i64 0) (evS s hi) (evS s mx)) fun v => K v h
      | _, _ => False)
    | _, _ => False
  | .fieldAddr t x f => match P.underlying t with
    | some (.struct fs) => (match fs[f]? with
      | some fd => bif Nat.beq (P.cellsOf fd.type) 0 then False else A.pv (V.fieldAddr fd.offset (evS s x)) fun v => K v h
      | none => False)
    | _ => False
  | .field t x f => match P.underlying t with
    | some (.struct fs) => (match fs[f]? with
      | some fd => (match P.underlying fd.type with
        | none => False
        | some _ => bif isAggB P fd.type then A.pv (V.fieldN fd.offset (P.cellsOf fd.type) (evS s x)) fun v => K v h else A.pv (V.field1 fd.offset (evS s x)) fun v => K v h)
      | none => False)
    | _ => False
  | .indexAddr t x i => match P.underlying t with
    | some (.slice e) => bif Nat.beq (P.cellsOf e) 0 then False else A.pv (V.idxS (P.cellsOf e) (evS s x) (evS s i)) fun v => K v h
    | some (.array n e) => bif Nat.beq (P.cellsOf e) 0 then False else A.pv (V.idxA n (P.cellsOf e) (evS s x) (evS s i)) fun v => K v h
    | _ => False
  | .index t x i => match P.underlying t with
    | some .string => A.pv (V.idxStr (evS s x) (evS s i)) fun v => K v h
    | _ => False
  | .makeFunc (.func f) first caps => K (.fn f (first.toList.map (evS s)) (caps.toList.map (evS s))) h
  | .extract x i => A.pv (V.ext i (evS s x)) fun v => K v h
  | .call c => match c.callee with
    | .value (.func f) => C f (c.args.toList.map (evS s)) h K
    | .value x => A.callv h C (evS s x) (c.args.toList.map (evS s)) K
    | .builtin b => builtinWp P b c.argTypes.toList (c.args.toList.map (evS s)) h K
    | .invoke _ _ => False
  | _ => False

def gslot (ops : List Oper) (j : Nat) : Option Nat := (ops[j]?).bind (·.dst)

/-- One operation of a region, its guard asked first. -/
def stepWp (P : Program) (C : CSem) (ops : List Oper) (o : Oper) (s : Slots) (h : AHeap) (K : AVal → AHeap → Prop) : Prop :=
  match o.guard with
  | none => opWp P C o.op s h K
  | some (j, b) => match gslot ops j with
    | some t => A.gd h (s t) b (fun K => opWp P C o.op s h K) K
    | none => False

def opsWp (P : Program) (C : CSem) (ops : List Oper) : List Oper → (Slots → AHeap → Prop) → Slots → AHeap → Prop
  | [], Q, s, h => Q s h
  | o :: r, Q, s, h => stepWp P C ops o s h fun v h => opsWp P C ops r Q (putS s o.dst v) h

inductive Ex where
  | normal
  | exit (id : Nat)
  | ret

def Ex.then (X : Slots → AHeap → Prop) (Q : Ex → Slots → AHeap → Prop) : Ex → Slots → AHeap → Prop
  | .normal, s, h => X s h
  | e, s, h => Q e s h
def Ex.inBlock (id : Nat) (Q : Ex → Slots → AHeap → Prop) : Ex → Slots → AHeap → Prop
  | .exit j, s, h => bif Nat.beq j id then Q .normal s h else Q (.exit j) s h
  | e, s, h => Q e s h

end Go.Ab
