/- What is proved: a part of the way to the statement; each part is headed by what it proves. No conditions. -/
import Derived.Test.YtfinnbedbggnnaaGreatQ1
import Derived.KernelRfl

/- What is proved: what is told of an operation has one of five shapes; how it hangs on its operands, on the memory and on what stands behind it. -/
namespace Go.Ab

inductive Sh where
  | val (v : AVal)
  | heap (id : Nat) (b : Blk) (v : AVal)
  | new (b : Blk) (mk : Nat → AVal)
  | call (f : Nat) (args : List AVal)
  | fail

def Sh.run (C : CSem) (h : AHeap) (K : AVal → AHeap → Prop) : Sh → Prop
  | .val v => K v h
  | .heap id b v => K v (upd h id b)
  | .new b mk => ∀ id, h id = none → K (mk id) (upd h id b)
  | .call f args => C f args h K
  | .fail => False

namespace Sh
def pv : Option AVal → Sh
  | some v => .val v
  | none => .fail
def newO (o : Option (List AVal)) (mk : Nat → AVal) : Sh :=
  match o with
  | some cs => .new (blkOf cs) mk
  | none => .fail
def st (h : AHeap) (p : AVal) (f : List AVal → Option (List AVal)) (n off : Nat) (v : AVal) : Sh :=
  match p with
  | .ptr id g o => match h id with
    | some b => match b.gens.lookup g with
      | some hi => bif b.own && Nat.ble (off + o + n) hi then (match f b.cells with
        | some cs => .heap id { b with cells := cs, gens := [(g, hi)] } v
        | none => .fail) else .fail
      | none => .fail
    | none => .fail
  | _ => .fail
def app (h : AHeap) (es bytes : Nat) (x : AVal) (news : Option (List AVal)) : Sh :=
  match news with
  | none => .fail
  | some cs =>
    match x with
    | .nils => if cs.length = 0 then .val .nils else if (cs.length / es) * bytes ≤ 140737488355328 ∧ (cs.length / es) ≤ maxLen then .new (blkOf cs) fun id => .sl id 0 0 (cs.length / es) es (cs.length / es) else .fail
    | .sz => if cs.length = 0 then .val .sz else if (cs.length / es) * bytes ≤ 140737488355328 ∧ (cs.length / es) ≤ maxLen then .new (blkOf cs) fun id => .sl id 0 0 (cs.length / es) es (cs.length / es) else .fail
    | .sl id g off len es' _ => match h id with
      | some b => match b.gens.lookup g with
        | some hi => if es' = es ∧ b.own = true ∧ off + len * es ≤ hi ∧ (len + cs.length / es) * bytes ≤ 140737488355328 ∧ len + cs.length / es ≤ maxLen then
            .heap id (appBlk b (off + len * es) cs) (.sl id b.next off (len + cs.length / es) es (len + cs.length / es)) else .fail
        | none => .fail
      | none => .fail
    | _ => .fail
def cpy (h : AHeap) (es : Nat) (x y : AVal) : Sh :=
  match A.srcLen y with
  | none => .fail
  | some m =>
    match x with
    | .nils | .sz => .val (.int .i64 0)
    | .sl id g off len _ _ => match A.rdv h y (min m len) es with
      | none => .fail
      | some cs => st h (.ptr id g off) (V.putN off (min m len * es) (.agg cs)) (min m len * es) 0 (.int .i64 (min m len : Nat))
    | _ => .fail
def mks (bytes : Nat) (z : Option (List AVal)) (l c : AVal) : Sh :=
  match z, l, c with
  | some z, .int _ l, .int _ c => if 0 ≤ l ∧ l ≤ c ∧ c * bytes ≤ 281474976710656 ∧ c ≤ 9223372036854775807 then .new (blkOf (repL c.toNat z)) fun id => .sl id 0 0 l.toNat z.length c.toNat else .fail
  | _, _, _ => .fail
def bytesStr (h : AHeap) (x : AVal) : Sh :=
  match A.srcLen x with
  | some n => (match A.rdv h x n 1 with
    | some cs => (match V.bytesOf? cs with
      | some l => .val (.str l)
      | none => .fail)
    | none => .fail)
  | none => .fail
def strBytes (x : AVal) : Sh :=
  match x with
  | .str s => if s.length ≤ 140737488355328 then .new (blkOf (s.map fun b => .int .u8 b.toNat)) fun id => .sl id 0 0 s.length 1 s.length else .fail
  | _ => .fail
def rangeStr (x : AVal) : Sh :=
  match x with
  | .str s => .new (objOf (.iter s 0)) fun id => .ptr id 0 0
  | _ => .fail
def nextStr (h : AHeap) (x : AVal) : Sh :=
  match x with
  | .ptr id 0 0 => (match h id with
    | some b => (match b.obj with
      | some (.iter s pos) => if pos < s.length then .heap id { b with obj := some (.iter s (pos + (A.rune s pos).2)) } (.tup [.bool true, .int .i64 pos, .int .i32 (A.rune s pos).1])
          else .val (.tup [.bool false])
      | _ => .fail)
    | none => .fail)
  | _ => .fail
def callv (f : AVal) (args : List AVal) : Sh :=
  match f with
  | .fn f first caps => .call f (first ++ args ++ caps)
  | _ => .fail
def pick (c a b : AVal) : Sh :=
  match c with
  | .bool c => .val (bif c then a else b)
  | _ => .fail
def nilCheck (v : AVal) : Sh :=
  match v with
  | .ptr _ _ _ => .val v
  | .fn _ _ _ => .val v
  | _ => .fail
end Sh

section
variable {C : CSem} {h : AHeap} {K : AVal → AHeap → Prop}

theorem sh_pv {o : Option AVal} : A.pv o (fun v => K v h) ↔ (Sh.pv o).run C h K := by
  cases o <;> exact Iff.rfl
theorem sh_newO {o : Option (List AVal)} {mk : Nat → AVal} : A.newO h o (fun id h => K (mk id) h) ↔ (Sh.newO o mk).run C h K := by
  cases o <;> exact Iff.rfl
theorem sh_pick {c a b : AVal} : A.pick c a b (fun v => K v h) ↔ (Sh.pick c a b).run C h K := by
  cases c <;> exact Iff.rfl
theorem sh_nilCheck {v : AVal} : A.nilCheck v (fun v => K v h) ↔ (Sh.nilCheck v).run C h K := by
  cases v <;> exact Iff.rfl
theorem sh_st {p : AVal} {f : List AVal → Option (List AVal)} {n off : Nat} {v : AVal} : A.ph (A.stv h p f n off) (fun h => K v h) ↔ (Sh.st h p f n off v).run C h K := by
  cases p <;> try exact Iff.rfl
  rename_i id g o
  simp only [A.stv, Sh.st]
  cases h id with
  | none => exact Iff.rfl
  | some b =>
    simp only
    cases b.gens.lookup g with
    | none => exact Iff.rfl
    | some hi =>
      simp only
      cases (b.own && Nat.ble (off + o + n) hi) with
      | false => exact Iff.rfl
      | true =>
        simp only [cond_true]
        cases f b.cells <;> exact Iff.rfl
theorem and_ite {p : Prop} [Decidable p] {x : Sh} {q : Prop} (hq : q ↔ x.run C h K) : (p ∧ q) ↔ (if p then x else .fail).run C h K := by
  by_cases hp : p
  · rw [if_pos hp]; exact ⟨fun ⟨_, k⟩ => hq.1 k, fun k => ⟨hp, hq.2 k⟩⟩
  · rw [if_neg hp]; exact ⟨fun ⟨k, _⟩ => hp k, fun k => k.elim⟩
theorem sh_app {es bytes : Nat} {x : AVal} {news : Option (List AVal)} : A.app h es bytes x news K ↔ (Sh.app h es bytes x news).run C h K := by
  cases news with
  | none => exact Iff.rfl
  | some cs =>
    cases x <;> (try exact Iff.rfl)
    · simp only [A.app, Sh.app]
      by_cases h0 : cs.length = 0
      · rw [if_pos h0, if_pos h0]; exact Iff.rfl
      · rw [if_neg h0, if_neg h0, ← and_assoc]; exact and_ite Iff.rfl
    · simp only [A.app, Sh.app]
      by_cases h0 : cs.length = 0
      · rw [if_pos h0, if_pos h0]; exact Iff.rfl
      · rw [if_neg h0, if_neg h0, ← and_assoc]; exact and_ite Iff.rfl
    · rename_i id g off len es' cp'
      simp only [A.app, Sh.app]
      cases h id with
      | none => exact Iff.rfl
      | some b =>
        simp only
        cases b.gens.lookup g with
        | none => exact Iff.rfl
        | some hi =>
          simp only
          rw [show ∀ a b c d e f : Prop, (a ∧ b ∧ c ∧ d ∧ e ∧ f) ↔ ((a ∧ b ∧ c ∧ d ∧ e) ∧ f) from fun a b c d e f => by simp only [and_assoc]]
          exact and_ite Iff.rfl
theorem sh_cpy {es : Nat} {x y : AVal} : A.cpy h es x y K ↔ (Sh.cpy h es x y).run C h K := by
  simp only [A.cpy, Sh.cpy]
  cases A.srcLen y with
  | none => exact Iff.rfl
  | some m =>
    cases x <;> (try exact Iff.rfl)
    simp only
    cases A.rdv h y _ es with
    | none => exact Iff.rfl
    | some cs => exact sh_st
theorem sh_mks {bytes : Nat} {z : Option (List AVal)} {l c : AVal} : A.mks h bytes z l c K ↔ (Sh.mks bytes z l c).run C h K := by
  cases z <;> cases l <;> cases c <;> (try exact Iff.rfl)
  simp only [A.mks, Sh.mks]
  rw [show ∀ a b c d f : Prop, (a ∧ b ∧ c ∧ d ∧ f) ↔ ((a ∧ b ∧ c ∧ d) ∧ f) from fun a b c d f => by simp only [and_assoc]]
  exact and_ite Iff.rfl
theorem sh_bytesStr {x : AVal} : A.bytesStr h x (fun v => K v h) ↔ (Sh.bytesStr h x).run C h K := by
  simp only [A.bytesStr, Sh.bytesStr]
  cases A.srcLen x with
  | none => exact Iff.rfl
  | some n =>
    simp only
    cases A.rdv h x n 1 with
    | none => exact Iff.rfl
    | some cs =>
      simp only
      cases V.bytesOf? cs <;> exact Iff.rfl
theorem sh_strBytes {x : AVal} : A.strBytes h x K ↔ (Sh.strBytes x).run C h K := by
  cases x <;> (try exact Iff.rfl)
  simp only [A.strBytes, Sh.strBytes]
  exact and_ite Iff.rfl
theorem sh_rangeStr {x : AVal} : A.rangeStr h x K ↔ (Sh.rangeStr x).run C h K := by
  cases x <;> exact Iff.rfl
theorem sh_nextStr {x : AVal} : A.nextStr h x K ↔ (Sh.nextStr h x).run C h K := by
  cases x <;> (try exact Iff.rfl)
  rename_i id g off
  cases g with
  | succ _ => exact Iff.rfl
  | zero =>
    cases off with
    | succ _ => exact Iff.rfl
    | zero =>
      simp only [A.nextStr, Sh.nextStr]
      cases h id with
      | none => exact Iff.rfl
      | some b =>
        simp only
        cases b.obj with
        | none => exact Iff.rfl
        | some o =>
          cases o with
          | iter s pos =>
            simp only
            by_cases hp : pos < s.length
            · rw [if_pos hp, if_pos hp]; exact Iff.rfl
            · rw [if_neg hp, if_neg hp]; exact Iff.rfl
          | map _ => exact Iff.rfl
theorem sh_callv {f : AVal} {args : List AVal} : A.callv h C f args K ↔ (Sh.callv f args).run C h K := by
  cases f <;> exact Iff.rfl
theorem bif_run {b : Bool} {p q : Prop} {x y : Sh} (h1 : p ↔ x.run C h K) (h2 : q ↔ y.run C h K) : (bif b then p else q) ↔ (bif b then x else y).run C h K := by
  cases b
  · exact h2
  · exact h1
end

def builtinSh (P : Program) (b : Builtin) (at_ : List TypeId) (args : List AVal) (h : AHeap) : Sh :=
  match b, at_, args with
  | .len, t :: _, [x] => match P.underlying t with
    | some .string => Sh.pv (V.lenStr x)
    | some (.slice _) => Sh.pv (V.lenSl x)
    | some (.array n _) => .val (.int .i64 n)
    | _ => .fail
  | .append, [t, u], [x, y] => match P.underlying t, P.underlying u with
    | some (.slice e), some (.slice _) => if 0 < P.cellsOf e ∧ t = u ∧ (zeroOf P e).isSome = true then (match A.srcLen y with
      | some n => Sh.app h (P.cellsOf e) (P.bytesOf e) x (A.rdv h y n (P.cellsOf e))
      | none => .fail) else .fail
    | some (.slice e), some .string => if isU8 P e = true ∧ (zeroOf P e).isSome = true then Sh.app h 1 (P.bytesOf e) x (A.strCells y) else .fail
    | _, _ => .fail
  | .copy, [t, u], [x, y] => match P.underlying t with
    | some (.slice e) => if t = u ∧ 0 < P.cellsOf e then Sh.cpy h (P.cellsOf e) x y else .fail
    | _ => .fail
  | .min, _, [x, y] => Sh.pv (V.min2 x y)
  | .max, _, [x, y] => Sh.pv (V.max2 x y)
  | _, _, _ => .fail

def shOf (P : Program) (op : Op) (ρ : Operand → AVal) (h : AHeap) : Sh :=
  match op with
  | .move x | .assign x => .val (ρ x)
  | .pick c a b => Sh.pick (ρ c) (ρ a) (ρ b)
  | .alloc t => Sh.newO (zeroOf P t) fun id => .ptr id 0 0
  | .box t x => Sh.newO (bif isAggB P t then A.cellsN (P.cellsOf t) (ρ x) else A.cells1 (ρ x)) fun id => .ptr id 0 0
  | .build t parts => Sh.pv (match zeroOf P t, placesOf P t (parts.toList.map fun p => (p.1, ρ p.2)) with
      | some z, some ps => (match fillL ps z with | some cs => some (.agg cs) | none => none)
      | _, _ => none)
  | .buildSlice t len parts => match elemOf? P t with
    | some e => if len = 0 then (match parts.toList, partOf P e with | [], some _ => .val .sz | _, _ => .fail) else
        Sh.newO (match zeroOf P e, partOf P e with
          | some z, some pz => bif Nat.ble (len * P.cellsOf e) 16777216 && Nat.ble 1 (P.cellsOf e) then fillL (placesE (P.cellsOf e) pz (parts.toList.map fun p => (p.1, ρ p.2))) (repL len z) else none
          | _, _ => none) fun id => .sl id 0 0 len (P.cellsOf e) len
    | none => .fail
  | .load t x => match P.underlying t with
    | none => .fail
    | some _ => bif isAggB P t then Sh.pv (A.ldnv h (ρ x) (P.cellsOf t)) else Sh.pv (A.ldv h (ρ x))
  | .store t x v => bif isAggB P t then Sh.st h (ρ x) (V.putN (A.ptrOff (ρ x)) (P.cellsOf t) (ρ v)) (P.cellsOf t) 0 .undef
      else bif Nat.beq (P.cellsOf t) 1 then Sh.st h (ρ x) (V.put1 (A.ptrOff (ρ x)) (ρ v)) 1 0 .undef else .fail
  | .nilCheck x => Sh.nilCheck (ρ x)
  | .binOp op t x y _ => match P.underlying t with
    | some (.int _) | some .string => Sh.pv (V.bin op (ρ x) (ρ y))
    | some .bool => Sh.pv (V.eqBool op (ρ x) (ρ y))
    | some (.pointer _) => Sh.pv (V.eqPtr op (ρ x) (ρ y))
    | some (.slice _) => Sh.pv (V.eqSl op (ρ x) (ρ y))
    | some (.func ..) => Sh.pv (V.eqFn op (ρ x) (ρ y))
    | some (.struct _) => (match plainEq P t with
      | some sh => Sh.pv (V.binAgg op sh (ρ x) (ρ y))
      | none => .fail)
    | _ => .fail
  | .unOp op _ x => Sh.pv (V.un op (ρ x))
  | .convert src dst x => match P.underlying src, P.underlying dst with
    | some (.int _), some (.int k) => Sh.pv (V.toInt k (ρ x))
    | some .string, some .string => Sh.pv (V.strStr (ρ x))
    | some (.slice e), some .string => bif isU8 P e then Sh.bytesStr h (ρ x) else .fail
    | some .string, some (.slice e) => bif isU8 P e then Sh.strBytes (ρ x) else .fail
    | _, _ => .fail
  | .range t x => match P.underlying t with
    | some .string => Sh.rangeStr (ρ x)
    | _ => .fail
  | .next x true => Sh.nextStr h (ρ x)
  | .makeSlice t l c => match elemOf? P t with
    | some e => if 0 < P.cellsOf e then Sh.mks (P.bytesOf e) (zeroOf P e) (ρ l) (ρ c) else .fail
    | none => .fail
  | .slice t x lo hi mx => match P.underlying t, mx with
    | some .string, none => Sh.pv (V.cutStr (ρ x) (lo.map ρ) (hi.map ρ))
    | some (.slice e), none => bif Nat.beq (P.cellsOf e) 0 then .fail else Sh.pv (V.cutSl (P.cellsOf e) (ρ x) (lo.map ρ) (hi.map ρ))
    | some (.slice e), some mx => bif Nat.beq (P.cellsOf e) 0 then .fail else (match lo, hi with
      | some lo, some hi => Sh.pv (V.cut0 (ρ x) (ρ lo) (ρ hi) (ρ mx))
      | none, some hi => Sh.pv (V.cut0 (ρ x) (.int .i64 0) (ρ hi) (ρ mx))
      | _, _ => .fail)
    | _, _ => .fail
  | .fieldAddr t x f => match P.underlying t with
    | some (.struct fs) => (match fs[f]? with
      | some fd => bif Nat.beq (P.cellsOf fd.type) 0 then .fail else Sh.pv (V.fieldAddr fd.offset (ρ x))
      | none => .fail)
    | _ => .fail
  | .field t x f => match P.underlying t with
    | some (.struct fs) => (match fs[f]? with
      | some fd => (match P.underlying fd.type with
        | none => .fail
        | some _ => bif isAggB P fd.type then Sh.pv (V.fieldN fd.offset (P.cellsOf fd.type) (ρ x)) else Sh.pv (V.field1 fd.offset (ρ x)))
      | none => .fail)
    | _ => .fail
  | .indexAddr t x i => match P.underlying t with
    | some (.slice e) => bif Nat.beq (P.cellsOf e) 0 then .fail else Sh.pv (V.idxS (P.cellsOf e) (ρ x) (ρ i))
    | some (.array n e) => bif Nat.beq (P.cellsOf e) 0 then .fail else Sh.pv (V.idxA n (P.cellsOf e) (ρ x) (ρ i))
    | _ => .fail
  | .index t x i => match P.underlying t with
    | some .string => Sh.pv (V.idxStr (ρ x) (ρ i))
    | _ => .fail
  | .makeFunc (.func f) first caps => .val (.fn f (first.toList.map ρ) (caps.toList.map ρ))
  | .extract x i => Sh.pv (V.ext i (ρ x))
  | .call c => match c.callee with
    | .value (.func f) => .call f (c.args.toList.map ρ)
    | .value x => Sh.callv (ρ x) (c.args.toList.map ρ)
    | .builtin b => builtinSh P b c.argTypes.toList (c.args.toList.map ρ) h
    | .invoke _ _ => .fail
  | _ => .fail

section
variable {P : Program} {C : CSem} {h : AHeap} {K : AVal → AHeap → Prop} {s : Slots}

theorem okA {a t u : Nat} {b : Bool} : (Nat.blt 0 a && (Nat.beq t u && b)) = true ↔ 0 < a ∧ t = u ∧ b = true := by
  rw [Bool.and_eq_true, Bool.and_eq_true, Nat.blt_eq, Nat.beq_eq]
theorem okC {a t u : Nat} : (Nat.beq t u && Nat.blt 0 a) = true ↔ t = u ∧ 0 < a := by
  rw [Bool.and_eq_true, Nat.blt_eq, Nat.beq_eq]

theorem builtinWp_sh {b : Builtin} {at_ : List TypeId} {args : List AVal} : builtinWp P b at_ args h K ↔ (builtinSh P b at_ args h).run C h K := by
  unfold builtinWp
  split
  · rename_i t _ x
    simp only [builtinSh]
    cases P.underlying t with
    | none => exact Iff.rfl
    | some d => cases d <;> first | exact Iff.rfl | exact sh_pv
  · rename_i t u x y
    simp only [builtinSh]
    cases P.underlying t with
    | none => exact Iff.rfl
    | some d =>
      cases P.underlying u with
      | none => cases d <;> exact Iff.rfl
      | some d' =>
        cases d <;> (try exact Iff.rfl)
        cases d' <;> (try exact Iff.rfl)
        · simp only
          rw [A.ok_iff, Bool.and_eq_true]
          exact and_ite sh_app
        · simp only
          rw [A.ok_iff, okA]
          refine and_ite ?_
          unfold A.appW
          cases A.srcLen y with
          | none => exact Iff.rfl
          | some n => exact sh_app
  · rename_i t u x y
    simp only [builtinSh]
    cases P.underlying t with
    | none => exact Iff.rfl
    | some d =>
      cases d <;> (try exact Iff.rfl)
      simp only
      rw [A.ok_iff, okC]
      exact and_ite sh_cpy
  · exact sh_pv
  · exact sh_pv
  · rename_i h1 h2 h3 h4 h5
    have : builtinSh P b at_ args h = .fail := by
      unfold builtinSh
      split <;> simp_all <;> (exfalso; first | exact h4 _ _ _ _ rfl rfl rfl rfl | exact h5 _ _ _ _ rfl rfl rfl rfl)
    rw [this]; exact Iff.rfl

theorem opWp_sh {op : Op} : opWp P C op s h K ↔ (shOf P op (evS s) h).run C h K := by
  cases op with
  | move x => exact Iff.rfl
  | assign x => exact Iff.rfl
  | pick c a b => exact sh_pick
  | alloc t => exact sh_newO
  | box t x => exact sh_newO
  | build t ps => exact sh_pv
  | buildSlice t n ps =>
    simp only [opWp, shOf]
    cases elemOf? P t with
    | none => exact Iff.rfl
    | some e =>
      simp only
      by_cases h0 : n = 0
      · rw [if_pos h0, if_pos h0]
        cases ps.toList <;> cases partOf P e <;> exact Iff.rfl
      · rw [if_neg h0, if_neg h0]; exact sh_newO
  | load t x =>
    simp only [opWp, shOf]
    cases P.underlying t with
    | none => exact Iff.rfl
    | some d => exact bif_run sh_pv sh_pv
  | store t x v => exact bif_run sh_st (bif_run sh_st Iff.rfl)
  | nilCheck x => exact sh_nilCheck
  | binOp op t x y u =>
    simp only [opWp, shOf]
    cases P.underlying t with
    | none => exact Iff.rfl
    | some d =>
      cases d <;> (try exact Iff.rfl) <;> (try exact sh_pv)
      simp only
      cases plainEq P t with
      | none => exact Iff.rfl
      | some sh => exact sh_pv
  | unOp op t x => exact sh_pv
  | convert src dst x =>
    simp only [opWp, shOf]
    cases P.underlying src with
    | none => exact Iff.rfl
    | some d =>
      cases P.underlying dst with
      | none => cases d <;> exact Iff.rfl
      | some d' =>
        cases d <;> (try exact Iff.rfl) <;> cases d' <;> (try exact Iff.rfl) <;> (try exact sh_pv)
        · exact bif_run sh_strBytes Iff.rfl
        · exact bif_run sh_bytesStr Iff.rfl
  | makeSlice t l c =>
    simp only [opWp, shOf]
    cases elemOf? P t with
    | none => exact Iff.rfl
    | some e => exact and_ite sh_mks
  | slice t x lo hi mx =>
    simp only [opWp, shOf]
    cases P.underlying t with
    | none => cases mx <;> exact Iff.rfl
    | some d =>
      cases mx with
      | none =>
        cases d <;> (try exact Iff.rfl) <;> (try exact sh_pv)
        exact bif_run Iff.rfl sh_pv
      | some mx =>
        cases d <;> (try exact Iff.rfl)
        refine bif_run Iff.rfl ?_
        cases lo <;> cases hi <;> first | exact Iff.rfl | exact sh_pv
  | fieldAddr t x f =>
    simp only [opWp, shOf]
    cases P.underlying t with
    | none => exact Iff.rfl
    | some d =>
      cases d <;> (try exact Iff.rfl)
      rename_i fs
      simp only
      cases fs[f]? with
      | some fd => exact bif_run Iff.rfl sh_pv
      | none => exact Iff.rfl
  | field t x f =>
    simp only [opWp, shOf]
    cases P.underlying t with
    | none => exact Iff.rfl
    | some d =>
      cases d <;> (try exact Iff.rfl)
      rename_i fs
      simp only
      cases fs[f]? with
      | some fd =>
        simp only
        cases P.underlying fd.type with
        | none => exact Iff.rfl
        | some d => exact bif_run sh_pv sh_pv
      | none => exact Iff.rfl
  | indexAddr t x i =>
    simp only [opWp, shOf]
    cases P.underlying t with
    | none => exact Iff.rfl
    | some d => cases d <;> (try exact Iff.rfl) <;> exact bif_run Iff.rfl sh_pv
  | index t x i =>
    simp only [opWp, shOf]
    cases P.underlying t with
    | none => exact Iff.rfl
    | some d => cases d <;> (try exact Iff.rfl) <;> exact sh_pv
  | makeFunc fn first caps => cases fn <;> exact Iff.rfl
  | extract x i => exact sh_pv
  | range t x =>
    simp only [opWp, shOf]
    cases P.underlying t with
    | none => exact Iff.rfl
    | some d => cases d <;> (try exact Iff.rfl) <;> exact sh_rangeStr
  | next x b =>
    cases b with
    | false => exact Iff.rfl
    | true => exact sh_nextStr
  | call c =>
    simp only [opWp, shOf]
    cases c.callee with
    | value f => cases f <;> first | exact Iff.rfl | exact sh_callv
    | invoke _ _ => exact Iff.rfl
    | builtin b => exact builtinWp_sh
  | insert _ _ _ _ | ready _ | waits _ | sliceToArrayPointer _ _ | makeInterface _ _ | makeMap _ _ | makeChan _ _ | lookup _ _ _ _ | mapUpdate _ _ _ _ | mapEntry _ _ _ | entryStore _ _ _ _
  | entry _ | typeAssert _ _ _ _ | go _ | defer _ | panic _ | send _ _ | recv _ _ _ | select _ _ => exact Iff.rfl

theorem sh_mono (hC : ∀ f args h (Q Q' : AVal → AHeap → Prop), (∀ v h, Q v h → Q' v h) → C f args h Q → C f args h Q') {K' : AVal → AHeap → Prop} (hk : ∀ v h, K v h → K' v h) {x : Sh} (hx : x.run C h K) : x.run C h K' := by
  cases x with
  | val v => exact hk _ _ hx
  | heap id b v => exact hk _ _ hx
  | new b mk => exact fun id hid => hk _ _ (hx id hid)
  | call f args => exact hC _ _ _ _ _ hk hx
  | fail => exact hx
end
end Go.Ab

/- What is proved: how the shape of an operation hangs on its operands and on the memory. -/
namespace Go.Ab

section
variable {P : Program} {h H : AHeap} {ρ ρ' : Operand → AVal}

theorem parts_congr {ps : Array (Nat × Operand)} (h : ∀ x ∈ (ps.toList.map (·.2)).toArray, ρ x = ρ' x) : (ps.toList.map fun p => (p.1, ρ p.2)) = ps.toList.map fun p => (p.1, ρ' p.2) :=
  List.map_congr_left fun p hp => by rw [h p.2 (by simp only [List.mem_toArray, List.mem_map]; exact ⟨p, hp, rfl⟩)]

theorem args_congr {xs : Array Operand} (h : ∀ x ∈ xs, ρ x = ρ' x) : xs.toList.map ρ = xs.toList.map ρ' :=
  List.map_congr_left fun x hx => h x (by simpa using hx)

theorem shOf_congr {op : Op} (hop : ∀ x ∈ op.operands, ρ x = ρ' x) : shOf P op ρ h = shOf P op ρ' h := by
  cases op <;> simp only [Op.operands] at hop <;> simp only [shOf]
  case build t ps => rw [parts_congr hop]
  case buildSlice t n ps => rw [parts_congr hop]
  case makeFunc fn first caps =>
    cases fn <;> simp only
    rw [args_congr fun x hx => hop x (by simp [hx]), args_congr fun x hx => hop x (by simp [hx])]
  case call c =>
    have ha : c.args.toList.map ρ = c.args.toList.map ρ' := args_congr fun x hx => hop x (by simp [Call.operands, hx])
    rw [ha]
    cases hc : c.callee with
    | value f =>
      have hf : ρ f = ρ' f := hop f (by simp [Call.operands, hc])
      cases f <;> simp only [hf]
    | invoke r m => rfl
    | builtin b => rfl
  case next x b => cases b <;> simp_all
  case slice t x lo hi mx => cases lo <;> cases hi <;> cases mx <;> simp_all <;> (cases hu : P.underlying t with | none => rfl | some d => cases d <;> simp_all)
  all_goals (first | rfl | (simp_all; done))

theorem ldv_le (hle : h.le H) {p v : AVal} (hv : A.ldv h p = some v) : A.ldv H p = some v := by
  unfold A.ldv at hv ⊢
  split at hv <;> (try (cases hv; done))
  split at hv <;> (try (cases hv; done))
  rename_i b hb
  rw [hle _ b hb]
  exact hv
theorem ldnv_le (hle : h.le H) {p v : AVal} {n : Nat} (hv : A.ldnv h p n = some v) : A.ldnv H p n = some v := by
  unfold A.ldnv at hv ⊢
  split at hv <;> (try (cases hv; done))
  split at hv <;> (try (cases hv; done))
  rename_i b hb
  rw [hle _ b hb]
  exact hv
theorem rdv_le (hle : h.le H) {p : AVal} {n es : Nat} {cs : List AVal} (hv : A.rdv h p n es = some cs) : A.rdv H p n es = some cs := by
  unfold A.rdv at hv ⊢
  split at hv
  · exact hv
  · exact hv
  · split at hv <;> (try (cases hv; done))
    rename_i b hb
    rw [hle _ b hb]
    exact hv
  · cases hv

theorem st_le (hle : h.le H) {p v : AVal} {f : List AVal → Option (List AVal)} {n off : Nat} (hx : Sh.st h p f n off v ≠ .fail) : Sh.st H p f n off v = Sh.st h p f n off v := by
  unfold Sh.st at hx ⊢
  split
  · rename_i id g o
    cases hb : h id with
    | none => simp [hb] at hx
    | some b => rw [hle _ b hb]
  · rfl
theorem app_le (hle : h.le H) {es bytes : Nat} {x : AVal} {news : Option (List AVal)} (hx : Sh.app h es bytes x news ≠ .fail) : Sh.app H es bytes x news = Sh.app h es bytes x news := by
  unfold Sh.app at hx ⊢
  cases news with
  | none => rfl
  | some cs =>
    cases x <;> (try rfl)
    rename_i id g off len es' cp'
    cases hb : h id with
    | none => simp [hb] at hx
    | some b =>
      have hB := hle _ b hb
      simp only [hB, hb]
theorem cpy_le (hle : h.le H) {es : Nat} {x y : AVal} (hx : Sh.cpy h es x y ≠ .fail) : Sh.cpy H es x y = Sh.cpy h es x y := by
  unfold Sh.cpy at hx ⊢
  cases hm : A.srcLen y with
  | none => rfl
  | some m =>
    simp only [hm] at hx
    cases x <;> (try rfl)
    simp only at hx ⊢
    rename_i id g off len es' cp'
    cases hr : A.rdv h y (min m len) es with
    | none => simp [hr] at hx
    | some cs =>
      simp only [hr] at hx
      rw [rdv_le hle hr]
      exact st_le hle hx
theorem bytesStr_le (hle : h.le H) {x : AVal} (hx : Sh.bytesStr h x ≠ .fail) : Sh.bytesStr H x = Sh.bytesStr h x := by
  unfold Sh.bytesStr at hx ⊢
  cases hm : A.srcLen x with
  | none => rfl
  | some m =>
    simp only [hm] at hx ⊢
    cases hr : A.rdv h x m 1 with
    | none => simp [hr] at hx
    | some cs => rw [rdv_le hle hr]
theorem nextStr_le (hle : h.le H) {x : AVal} (hx : Sh.nextStr h x ≠ .fail) : Sh.nextStr H x = Sh.nextStr h x := by
  unfold Sh.nextStr at hx ⊢
  split
  · rename_i id
    cases hb : h id with
    | none => simp [hb] at hx
    | some b => rw [hle _ b hb]
  · rfl
theorem pv_le {o o' : Option AVal} (ho : ∀ v, o = some v → o' = some v) (hx : Sh.pv o ≠ .fail) : Sh.pv o' = Sh.pv o := by
  cases o with
  | none => exact absurd rfl hx
  | some v => rw [ho v rfl]

/-- What is told of an operation stays where more memory is known. -/
theorem shOf_le (hle : h.le H) {op : Op} (hx : shOf P op ρ h ≠ .fail) : shOf P op ρ H = shOf P op ρ h := by
  cases op <;> (try rfl)
  case makeFunc fn _ _ => cases fn <;> rfl
  all_goals simp only [shOf] at hx ⊢
  case load t p =>
    cases hu : P.underlying t with
    | none => rfl
    | some d =>
      simp only [hu] at hx ⊢
      cases hb : isAggB P t <;> simp only [hb, cond_true, cond_false] at hx ⊢
      · exact pv_le (fun v => ldv_le hle) hx
      · exact pv_le (fun v => ldnv_le hle) hx
  case store t p v =>
    cases hb : isAggB P t <;> simp only [hb, cond_true, cond_false] at hx ⊢
    · cases hc : Nat.beq (P.cellsOf t) 1 <;> simp only [hc, cond_true, cond_false] at hx ⊢
      exact st_le hle hx
    · exact st_le hle hx
  case convert src dst y =>
    cases hs : P.underlying src with
    | none => rfl
    | some d =>
      cases hd : P.underlying dst with
      | none => cases d <;> rfl
      | some d' =>
        simp only [hs, hd] at hx ⊢
        cases d <;> (try rfl) <;> cases d' <;> (try rfl)
        rename_i e
        simp only at hx ⊢
        cases hu : isU8 P e <;> simp only [hu, cond_true, cond_false] at hx ⊢
        exact bytesStr_le hle hx
  case next y b =>
    cases b
    · rfl
    · exact nextStr_le hle hx
  case call c =>
    cases hc : c.callee with
    | value f => cases f <;> rfl
    | invoke _ _ => rfl
    | builtin b =>
      simp only [hc] at hx ⊢
      unfold builtinSh at hx ⊢
      split <;> (try rfl)
      · rename_i t u x y e1 e2
        simp only [e1, e2] at hx
        cases hs : P.underlying t with
        | none => rfl
        | some d =>
          cases hd : P.underlying u with
          | none => cases d <;> rfl
          | some d' =>
            simp only [hs, hd] at hx ⊢
            cases d <;> (try rfl) <;> cases d' <;> (try rfl)
            · rename_i e
              simp only at hx ⊢
              split
              · rename_i h0
                rw [if_pos h0] at hx
                exact app_le hle hx
              · rfl
            · rename_i e e'
              simp only at hx ⊢
              split
              · rename_i h0
                rw [if_pos h0] at hx
                cases hn : A.srcLen y with
                | none => rfl
                | some n =>
                  simp only [hn] at hx ⊢
                  cases hr : A.rdv h y n (P.cellsOf e) with
                  | none => rw [hr] at hx; exact absurd rfl hx
                  | some cs => rw [hr] at hx; rw [rdv_le hle hr]; exact app_le hle hx
              · rfl
      · rename_i t u x y e1 e2
        simp only [e1, e2] at hx
        cases hs : P.underlying t with
        | none => rfl
        | some d =>
          simp only [hs] at hx ⊢
          cases d <;> (try rfl)
          simp only at hx ⊢
          split
          · rename_i h0
            rw [if_pos h0] at hx
            exact cpy_le hle hx
          · rfl

/-- Where a block is turned, it is known. -/
def Sh.known (h : AHeap) : Sh → Prop
  | .heap id _ _ => ∃ b, h id = some b
  | _ => True
theorem st_known {p v : AVal} {f : List AVal → Option (List AVal)} {n off : Nat} : (Sh.st h p f n off v).known h := by
  unfold Sh.st
  split <;> (try trivial)
  split <;> (try trivial)
  rename_i b hb
  split <;> (try trivial)
  rename_i hi _
  cases (b.own && _) <;> simp only [cond_true, cond_false] <;> (try trivial)
  split <;> (try trivial)
  exact ⟨b, hb⟩
theorem pv_known {o : Option AVal} : (Sh.pv o).known h := by cases o <;> trivial
theorem newO_known {o : Option (List AVal)} {mk : Nat → AVal} : (Sh.newO o mk).known h := by cases o <;> trivial
theorem ite_known {p : Prop} [Decidable p] {x y : Sh} (hx : x.known h) (hy : y.known h) : (if p then x else y).known h := by split <;> assumption
theorem bif_known {p : Bool} {x y : Sh} (hx : x.known h) (hy : y.known h) : (bif p then x else y).known h := by cases p <;> assumption
theorem app_known {es bytes : Nat} {x : AVal} {news : Option (List AVal)} : (Sh.app h es bytes x news).known h := by
  unfold Sh.app
  cases news with
  | none => trivial
  | some cs =>
    cases x <;> (try trivial)
    · exact ite_known trivial (ite_known trivial trivial)
    · exact ite_known trivial (ite_known trivial trivial)
    · simp only
      split <;> (try trivial)
      rename_i b hb
      split <;> (try trivial)
      exact ite_known ⟨b, hb⟩ trivial
theorem cpy_known {es : Nat} {x y : AVal} : (Sh.cpy h es x y).known h := by
  unfold Sh.cpy
  split <;> (try trivial)
  split <;> (try trivial)
  split <;> (try trivial)
  exact st_known
theorem shOf_known {op : Op} : (shOf P op ρ h).known h := by
  cases op <;> (try trivial) <;> simp only [shOf] <;> (try exact pv_known) <;> (try exact newO_known)
  case pick => unfold Sh.pick; split <;> trivial
  case nilCheck => unfold Sh.nilCheck; split <;> trivial
  case buildSlice =>
    split <;> (try trivial)
    refine ite_known ?_ newO_known
    split <;> trivial
  case load => split <;> (try trivial); exact bif_known pv_known pv_known
  case store => exact bif_known st_known (bif_known st_known trivial)
  case binOp => split <;> (try trivial) <;> (try exact pv_known); split <;> (try trivial) <;> exact pv_known
  case convert =>
    split <;> (try trivial) <;> (try exact pv_known)
    · refine bif_known ?_ trivial
      unfold Sh.bytesStr
      split <;> (try trivial)
      split <;> (try trivial)
      split <;> trivial
    · refine bif_known ?_ trivial
      unfold Sh.strBytes
      split <;> (try trivial)
      exact ite_known trivial trivial
  case range => split <;> (try trivial); unfold Sh.rangeStr; split <;> trivial
  case next y b =>
    cases b <;> (try trivial)
    simp only
    unfold Sh.nextStr
    split <;> (try trivial)
    split <;> (try trivial)
    rename_i b hb
    split <;> (try trivial)
    exact ite_known ⟨b, hb⟩ trivial
  case makeSlice =>
    split <;> (try trivial)
    refine ite_known ?_ trivial
    unfold Sh.mks
    split <;> (try trivial)
    exact ite_known trivial trivial
  case slice =>
    split <;> (try trivial) <;> (try exact pv_known)
    · exact bif_known trivial pv_known
    · refine bif_known trivial ?_
      split <;> (try trivial) <;> exact pv_known
  case fieldAddr => split <;> (try trivial); split <;> (try trivial); exact bif_known trivial pv_known
  case field => split <;> (try trivial); split <;> (try trivial); split <;> (try trivial); exact bif_known pv_known pv_known
  case indexAddr => split <;> (try trivial) <;> exact bif_known trivial pv_known
  case index => split <;> (try trivial); exact pv_known
  case makeFunc fn _ _ => cases fn <;> trivial
  case call c =>
    split <;> (try trivial)
    · unfold Sh.callv; split <;> trivial
    · unfold builtinSh
      split <;> (try trivial) <;> (try exact pv_known)
      · split <;> (try trivial) <;> exact pv_known
      · split <;> (try trivial)
        · refine ite_known ?_ trivial
          split <;> (try trivial)
          exact app_known
        · exact ite_known app_known trivial
      · split <;> (try trivial)
        exact ite_known cpy_known trivial

/-- Memory that is not known is not touched. -/
theorem sh_frame {K : AVal → AHeap → Prop} {x : Sh} {id : Nat} {b : Blk} (hid : h id = none) (hkn : x.known h) (hx : x.run (AC P) h K) :
    x.run (AC P) (upd h id b) fun v h'' => ∃ h', K v h' ∧ h' id = none ∧ h'' = upd h' id b := by
  cases x with
  | val v => exact ⟨h, hx, hid, rfl⟩
  | heap i b' v =>
    obtain ⟨b0, hb0⟩ := hkn
    have hne : id ≠ i := fun e => by subst e; rw [hid] at hb0; cases hb0
    exact ⟨upd h i b', hx, by rw [upd_other _ _ hne]; exact hid, upd_comm _ _ _ hne⟩
  | new b' mk =>
    intro i hi
    have hne : id ≠ i := fun e => by subst e; rw [upd_same] at hi; cases hi
    rw [upd_other _ _ (Ne.symm hne)] at hi
    exact ⟨upd h i b', hx i hi, by rw [upd_other _ _ hne]; exact hid, upd_comm _ _ _ hne⟩
  | call f args => exact AC.frame hx hid
  | fail => exact hx

/-! Kinds. -/
theorem sh_of_pure {op : Op} (hk : kdOf P op = .pure) : (∀ h H : AHeap, shOf P op ρ h = shOf P op ρ H) ∧ ((∃ v, shOf P op ρ h = .val v) ∨ shOf P op ρ h = .fail) := by
  have pvc : ∀ o : Option AVal, (∃ v, Sh.pv o = .val v) ∨ Sh.pv o = .fail := fun o => by
    cases o with
    | none => exact .inr rfl
    | some v => exact .inl ⟨v, rfl⟩
  have bc : ∀ (b : Bool) (x y : Sh), ((∃ v, x = .val v) ∨ x = .fail) → ((∃ v, y = .val v) ∨ y = .fail) → ((∃ v, (bif b then x else y) = .val v) ∨ (bif b then x else y) = .fail) := fun b x y hx hy => by
    cases b
    · exact hy
    · exact hx
  cases op <;> (try (simp only [kdOf] at hk; cases hk; done)) <;> (try (exact ⟨fun _ _ => rfl, .inl ⟨_, rfl⟩⟩)) <;> (try (exact ⟨fun _ _ => rfl, pvc _⟩))
  case pick => exact ⟨fun _ _ => rfl, by simp only [shOf]; unfold Sh.pick; split <;> simp⟩
  case nilCheck => exact ⟨fun _ _ => rfl, by simp only [shOf]; unfold Sh.nilCheck; split <;> simp⟩
  case binOp => exact ⟨fun _ _ => rfl, by simp only [shOf]; split <;> (try exact pvc _) <;> (try exact .inr rfl); split <;> first | exact pvc _ | exact .inr rfl⟩
  case convert src dst y =>
    simp only [kdOf] at hk
    simp only [shOf]
    cases hs : P.underlying src with
    | none => simp [hs] at hk
    | some d =>
      cases hd : P.underlying dst with
      | none => rw [hs, hd] at hk; cases d <;> cases hk
      | some d' =>
        rw [hs, hd] at hk
        cases d <;> (try (cases hk; done)) <;> cases d' <;> (try (cases hk; done)) <;> exact ⟨fun _ _ => rfl, pvc _⟩
  case slice => exact ⟨fun _ _ => rfl, by
    simp only [shOf]
    split <;> (try exact pvc _) <;> (try exact .inr rfl)
    · exact bc _ _ _ (.inr rfl) (pvc _)
    · exact bc _ _ _ (.inr rfl) (by split <;> (try exact pvc _) <;> exact .inr rfl)⟩
  case fieldAddr => exact ⟨fun _ _ => rfl, by simp only [shOf]; split <;> (try exact .inr rfl); split <;> (try exact .inr rfl); exact bc _ _ _ (.inr rfl) (pvc _)⟩
  case field => exact ⟨fun _ _ => rfl, by simp only [shOf]; split <;> (try exact .inr rfl); split <;> (try exact .inr rfl); split <;> (try exact .inr rfl); exact bc _ _ _ (pvc _) (pvc _)⟩
  case indexAddr => exact ⟨fun _ _ => rfl, by simp only [shOf]; split <;> (try exact .inr rfl) <;> exact bc _ _ _ (.inr rfl) (pvc _)⟩
  case index => exact ⟨fun _ _ => rfl, by simp only [shOf]; split <;> (try exact .inr rfl); exact pvc _⟩
  case makeFunc fn _ _ => cases fn <;> exact ⟨fun _ _ => rfl, by first | exact .inl ⟨_, rfl⟩ | exact .inr rfl⟩
  case call c =>
    obtain ⟨callee, args, ats⟩ := c
    cases callee with
    | value _ => simp [kdOf] at hk
    | invoke _ _ => simp [kdOf] at hk
    | builtin b =>
      have hb : b = .len ∨ b = .min ∨ b = .max := by cases b <;> simp [kdOf] at hk ⊢
      simp only [shOf]
      generalize ats.toList = as
      generalize args.toList.map ρ = bs
      rcases hb with rfl | rfl | rfl
      · cases as with
        | nil => exact ⟨fun _ _ => rfl, .inr rfl⟩
        | cons t r =>
          rcases bs with _ | ⟨x, _ | ⟨y, r'⟩⟩
          · exact ⟨fun _ _ => rfl, .inr rfl⟩
          · refine ⟨fun _ _ => rfl, ?_⟩
            simp only [builtinSh]
            split <;> (try exact pvc _)
            · exact .inl ⟨_, rfl⟩
            · exact .inr rfl
          · exact ⟨fun _ _ => rfl, .inr rfl⟩
      · rcases bs with _ | ⟨x, _ | ⟨y, _ | ⟨z, r'⟩⟩⟩
        · exact ⟨fun _ _ => rfl, .inr rfl⟩
        · exact ⟨fun _ _ => rfl, .inr rfl⟩
        · exact ⟨fun _ _ => rfl, pvc _⟩
        · exact ⟨fun _ _ => rfl, .inr rfl⟩
      · rcases bs with _ | ⟨x, _ | ⟨y, _ | ⟨z, r'⟩⟩⟩
        · exact ⟨fun _ _ => rfl, .inr rfl⟩
        · exact ⟨fun _ _ => rfl, .inr rfl⟩
        · exact ⟨fun _ _ => rfl, pvc _⟩
        · exact ⟨fun _ _ => rfl, .inr rfl⟩

theorem sh_of_alloc {op : Op} (hk : kdOf P op = .alloc) : (∀ h H : AHeap, shOf P op ρ h = shOf P op ρ H) ∧ ((∃ v, shOf P op ρ h = .val v) ∨ (∃ b mk, shOf P op ρ h = .new b mk) ∨ shOf P op ρ h = .fail) := by
  have nc : ∀ (o : Option (List AVal)) mk, (∃ v, Sh.newO o mk = .val v) ∨ (∃ b m, Sh.newO o mk = .new b m) ∨ Sh.newO o mk = .fail := fun o mk => by
    cases o with
    | none => exact .inr (.inr rfl)
    | some v => exact .inr (.inl ⟨_, _, rfl⟩)
  cases op <;> (try (simp only [kdOf] at hk; cases hk; done)) <;> (try (exact ⟨fun _ _ => rfl, nc _ _⟩))
  case buildSlice =>
    refine ⟨fun _ _ => rfl, ?_⟩
    simp only [shOf]
    split
    · split
      · split
        · exact .inl ⟨_, rfl⟩
        · exact .inr (.inr rfl)
      · exact nc _ _
    · exact .inr (.inr rfl)
  case makeSlice =>
    refine ⟨fun _ _ => rfl, ?_⟩
    simp only [shOf]
    split
    · split
      · unfold Sh.mks
        split
        · split
          · exact .inr (.inl ⟨_, _, rfl⟩)
          · exact .inr (.inr rfl)
        · exact .inr (.inr rfl)
      · exact .inr (.inr rfl)
    · exact .inr (.inr rfl)
  case convert src dst y =>
    simp only [kdOf] at hk
    split at hk <;> cases hk
  case call c =>
    obtain ⟨callee, args, ats⟩ := c
    cases callee with
    | value _ => simp [kdOf] at hk
    | invoke _ _ => simp [kdOf] at hk
    | builtin b => cases b <;> simp [kdOf] at hk
end
end Go.Ab

/- What is proved: in a region whose order is drawn, whichever operation is drawn may be read first. -/
namespace Go.Ab

def stepSh (P : Program) (ops : List Oper) (o : Oper) (s : Slots) (h : AHeap) : Sh :=
  match o.guard with
  | none => shOf P o.op (evS s) h
  | some (j, b) => match gslot ops j with
    | some t => match s t with
      | .bool b' => if b' = b then shOf P o.op (evS s) h else .val (.tup [])
      | .tup [] => .val (.tup [])
      | _ => .fail
    | none => .fail

/-- Does a place hold the same in two memories? -/
def sameAt (h' h : AHeap) (p : AVal × Option Nat) : Prop :=
  match p.2 with
  | none => A.ldv h' p.1 = A.ldv h p.1
  | some n => A.ldnv h' p.1 n = A.ldnv h p.1 n

theorem sameAt.refl (h : AHeap) (p : AVal × Option Nat) : sameAt h h p := by unfold sameAt; split <;> rfl
theorem sameAt.upd {h' h : AHeap} {p : AVal × Option Nat} (x : sameAt h' h p) (id : Nat) (b : Blk) : sameAt (Ab.upd h' id b) (Ab.upd h id b) p := by
  obtain ⟨v, n⟩ := p
  have hp : ∀ i, (Ab.upd h' id b i = Ab.upd h id b i) ∨ (i ≠ id ∧ Ab.upd h' id b i = h' i ∧ Ab.upd h id b i = h i) := fun i => by
    by_cases hi : i = id
    · subst hi; exact .inl (by rw [upd_same, upd_same])
    · exact .inr ⟨hi, upd_other _ _ hi, upd_other _ _ hi⟩
  unfold sameAt at x ⊢
  cases n with
  | none =>
    simp only at x ⊢
    cases v <;> (try rfl)
    rename_i i g o
    rcases hp i with e | ⟨_, e1, e2⟩
    · simp only [A.ldv, e]
    · simp only [A.ldv, e1, e2] at x ⊢; exact x
  | some n =>
    simp only at x ⊢
    cases v <;> (try rfl)
    rename_i i g o
    rcases hp i with e | ⟨_, e1, e2⟩
    · simp only [A.ldnv, e]
    · simp only [A.ldnv, e1, e2] at x ⊢; exact x

section
variable {P : Program} {C : CSem} {h H : AHeap} {s s' : Slots} {ops : List Oper} {o : Oper} {K : AVal → AHeap → Prop}

theorem gd_sh {c : AVal} {b : Bool} {x : Sh} {M : (AVal → AHeap → Prop) → Prop} (hM : M K ↔ x.run C h K) : A.gd h c b M K ↔ (match c with
    | .bool b' => if b' = b then x else .val (.tup [])
    | .tup [] => .val (.tup [])
    | _ => Sh.fail).run C h K := by
  cases c <;> (try exact Iff.rfl)
  case tup l => cases l <;> exact Iff.rfl
  rename_i b'
  simp only [A.gd]
  by_cases e : b' = b
  · rw [if_pos e]; exact ⟨fun ⟨k, _⟩ => hM.1 (k e), fun k => ⟨fun _ => hM.2 k, fun k' => absurd e k'⟩⟩
  · rw [if_neg e]; exact ⟨fun ⟨_, k⟩ => k e, fun k => ⟨fun k' => absurd k' e, fun _ => k⟩⟩

theorem stepWp_sh : stepWp P C ops o s h K ↔ (stepSh P ops o s h).run C h K := by
  unfold stepWp stepSh
  cases o.guard with
  | none => exact opWp_sh
  | some jb =>
    obtain ⟨j, b⟩ := jb
    simp only
    cases gslot ops j with
    | none => exact Iff.rfl
    | some t => exact gd_sh opWp_sh

theorem stepWpD_sh (hC : ∀ f args h (Q Q' : AVal → AHeap → Prop), (∀ v h, Q v h → Q' v h) → C f args h Q → C f args h Q') {ks : List (Operand × TypeId)} :
    stepWpD P C ops o ks s h K ↔ (stepSh P ops o s h).run C h (A.keep h (keepsAt P s ks) K) := by
  cases ks with
  | nil =>
    have e : ∀ v h', A.keep h (keepsAt P s []) K v h' ↔ K v h' := fun v h' => ⟨fun k => k.2, fun k => ⟨fun p hp => (by cases hp), k⟩⟩
    rw [show stepWpD P C ops o [] s h K = stepWp P C ops o s h K from rfl, stepWp_sh]
    exact ⟨sh_mono hC fun v h' k => (e v h').2 k, sh_mono hC fun v h' k => (e v h').1 k⟩
  | cons q r =>
    unfold stepWpD stepSh
    simp only
    cases o.guard with
    | none => exact opWp_sh
    | some jb =>
      obtain ⟨j, b⟩ := jb
      simp only
      cases gslot ops j with
      | none => exact Iff.rfl
      | some t =>
        simp only
        cases s t <;> (try exact Iff.rfl)
        case tup l =>
          cases l with
          | nil => exact ⟨fun k => ⟨fun p _ => sameAt.refl h p, k⟩, fun k => k.2⟩
          | cons _ _ => exact Iff.rfl
        rename_i b'
        simp only [A.gd]
        by_cases e : b' = b
        · rw [if_pos e]
          exact ⟨fun ⟨k, _⟩ => opWp_sh.1 (k e), fun k => ⟨fun _ => opWp_sh.2 k, fun k' => absurd e k'⟩⟩
        · rw [if_neg e]
          exact ⟨fun ⟨_, k⟩ => ⟨fun p _ => sameAt.refl h p, k e⟩, fun k => ⟨fun k' => absurd k' e, fun _ => k.2⟩⟩

theorem putS_same (s : Slots) (d : Nat) (v : AVal) : putS s (some d) v d = v := by simp [putS]
theorem putS_other (s : Slots) {d k : Nat} (v : AVal) (hk : k ≠ d) : putS s (some d) v k = s k := by
  have : Nat.beq k d = false := by rw [← Bool.not_eq_true, Nat.beq_eq]; exact hk
  simp [putS, this]
theorem putS_comm (s : Slots) {x y : Option Nat} (u v : AVal) (hxy : ∀ d, x = some d → y ≠ some d) : putS (putS s x u) y v = putS (putS s y v) x u := by
  cases x with
  | none => rfl
  | some d =>
    cases y with
    | none => rfl
    | some e =>
      have hne : d ≠ e := fun he => hxy d rfl (by rw [he])
      funext k
      by_cases h1 : k = d
      · subst h1; rw [putS_other _ _ hne, putS_same, putS_same]
      · by_cases h2 : k = e
        · subst h2; rw [putS_same, putS_other _ _ h1, putS_same]
        · rw [putS_other _ _ h2, putS_other _ _ h1, putS_other _ _ h1, putS_other _ _ h2]

theorem evS_put {d : Option Nat} {v : AVal} {x : Operand} (hx : ∀ k, d = some k → x ≠ .tmp k) : evS (putS s d v) x = evS s x := by
  cases x <;> (try rfl)
  rename_i t
  cases d with
  | none => rfl
  | some d => exact putS_other _ _ fun e => hx d rfl (by rw [e])

theorem stepSh_put {ops : Array Oper} {d : Option Nat} {v : AVal} (hd : ∀ k, d = some k → k ∉ o.looksAt ops) : stepSh P ops.toList o (putS s d v) h = stepSh P ops.toList o s h := by
  have h1 : ∀ x ∈ o.op.operands, evS (putS s d v) x = evS s x := fun x hx => evS_put fun k hk e => hd k hk (by
    subst e
    exact List.mem_append_left _ (List.mem_filterMap.2 ⟨.tmp k, by simpa using hx, rfl⟩))
  unfold stepSh
  split
  · exact shOf_congr h1
  · rename_i j b hg
    cases ht : gslot ops.toList j with
    | none => rfl
    | some t =>
      have : putS s d v t = s t := by
        cases d with
        | none => rfl
        | some d =>
          refine putS_other _ _ fun e => hd d rfl ?_
          subst e
          unfold Oper.looksAt
          rw [hg]
          refine List.mem_append_right _ ?_
          have : (ops[j]?).bind (·.dst) = some t := by unfold gslot at ht; simpa using ht
          simp [this]
      simp only [this]
      split
      · split
        · exact shOf_congr h1
        · rfl
      · rfl
      · rfl

theorem stepSh_le (hle : h.le H) (hx : stepSh P ops o s h ≠ .fail) : stepSh P ops o s H = stepSh P ops o s h := by
  unfold stepSh at hx ⊢
  split
  · rename_i hg; simp only [hg] at hx; exact shOf_le hle hx
  · rename_i j b hg
    simp only [hg] at hx
    split
    · rename_i t ht
      simp only [ht] at hx
      split
      · rename_i b' hb
        simp only [hb] at hx
        split
        · rename_i e; rw [if_pos e] at hx; exact shOf_le hle hx
        · rfl
      · rfl
      · rfl
    · rfl

theorem stepSh_known : (stepSh P ops o s h).known h := by
  unfold stepSh
  split
  · exact shOf_known
  · split
    · split
      · exact ite_known shOf_known trivial
      · trivial
      · trivial
    · trivial

theorem stepSh_pure (hk : kdOf P o.op = .pure) : (∀ h H : AHeap, stepSh P ops o s h = stepSh P ops o s H) ∧ ((∃ v, stepSh P ops o s h = .val v) ∨ stepSh P ops o s h = .fail) := by
  have hp := fun (h : AHeap) => sh_of_pure (P := P) (h := h) (ρ := evS s) hk
  constructor
  · intro h H
    unfold stepSh
    rw [(hp h).1 h H]
  · unfold stepSh
    split
    · exact (hp h).2
    · split
      · split
        · split
          · exact (hp h).2
          · exact .inl ⟨_, rfl⟩
        · exact .inl ⟨_, rfl⟩
        · exact .inr rfl
      · exact .inr rfl

theorem stepSh_alloc (hk : kdOf P o.op = .alloc) : (∀ h H : AHeap, stepSh P ops o s h = stepSh P ops o s H) ∧ ((∃ v, stepSh P ops o s h = .val v) ∨ (∃ b mk, stepSh P ops o s h = .new b mk) ∨ stepSh P ops o s h = .fail) := by
  have hp := fun (h : AHeap) => sh_of_alloc (P := P) (h := h) (ρ := evS s) hk
  constructor
  · intro h H
    unfold stepSh
    rw [(hp h).1 h H]
  · unfold stepSh
    split
    · exact (hp h).2
    · split
      · split
        · split
          · exact (hp h).2
          · exact .inl ⟨_, rfl⟩
        · exact .inl ⟨_, rfl⟩
        · exact .inr (.inr rfl)
      · exact .inr (.inr rfl)

theorem kd_load (hk : kdOf P o.op = .load) : ∃ t x, o.op = .load t x := by
  cases ho : o.op <;> rw [ho] at hk <;> (try (simp only [kdOf] at hk; cases hk; done))
  · exact ⟨_, _, rfl⟩
  · simp only [kdOf] at hk; split at hk <;> cases hk
  · rename_i c
    obtain ⟨callee, args, ats⟩ := c
    cases callee with
    | value _ => simp [kdOf] at hk
    | invoke _ _ => simp [kdOf] at hk
    | builtin b => cases b <;> simp [kdOf] at hk

/-- A load yields the same where its place holds the same. -/
theorem stepSh_load {t : TypeId} {x : Operand} (ho : o.op = .load t x) :
    (sameAt H h (evS s x, bif isAggB P t then some (P.cellsOf t) else none) → stepSh P ops o s H = stepSh P ops o s h) ∧ ((∃ v, stepSh P ops o s h = .val v) ∨ stepSh P ops o s h = .fail) := by
  have main : (sameAt H h (evS s x, bif isAggB P t then some (P.cellsOf t) else none) → shOf P o.op (evS s) H = shOf P o.op (evS s) h) ∧ ((∃ v, shOf P o.op (evS s) h = .val v) ∨ shOf P o.op (evS s) h = .fail) := by
    have pvc : ∀ o : Option AVal, (∃ v, Sh.pv o = .val v) ∨ Sh.pv o = .fail := fun o => by
      cases o with
      | none => exact .inr rfl
      | some v => exact .inl ⟨v, rfl⟩
    rw [ho]
    simp only [shOf]
    cases P.underlying t with
    | none => exact ⟨fun _ => rfl, .inr rfl⟩
    | some d =>
      cases hb : isAggB P t
      · exact ⟨fun hs => by simp only [sameAt, cond_false] at hs ⊢; rw [hs], pvc _⟩
      · exact ⟨fun hs => by simp only [sameAt, cond_true] at hs ⊢; rw [hs], pvc _⟩
  constructor
  · intro hs
    unfold stepSh
    rw [main.1 hs]
  · unfold stepSh
    split
    · exact main.2
    · split
      · split
        · split
          · exact main.2
          · exact .inl ⟨_, rfl⟩
        · exact .inl ⟨_, rfl⟩
        · exact .inr rfl
      · exact .inr rfl

theorem keepsAt_put {ks : List (Operand × TypeId)} {d : Option Nat} {v : AVal} (hd : ∀ q ∈ ks, ∀ k, d = some k → q.1 ≠ .tmp k) : keepsAt P (putS s d v) ks = keepsAt P s ks :=
  List.map_congr_left fun q hq => by rw [evS_put fun k hk => hd q hq k hk]
end

abbrev DItem := Item × List (Operand × TypeId)

/-- x stands ahead of y. -/
structure Pair (ops : Array Oper) (x y : DItem) : Prop where
  notBehind : x.1.m.testBit y.1.i = false
  place : ∀ t a, x.1.o.op = .load t a → ∀ d, y.1.o.dst = some d → a ≠ .tmp d
  free : y.1.m.testBit x.1.i = true ∨ (x.1.k.fits y.1.k = true ∧ x.1.o.apart ops y.1.o = true)
  keeps : ∀ t a, x.1.o.op = .load t a → y.1.k = .effect → y.1.m.testBit x.1.i = false → (a, t) ∈ y.2
  slots : ∀ q ∈ x.2, ∀ d, y.1.o.dst = some d → q.1 ≠ .tmp d

structure Good (P : Program) (x : DItem) : Prop where
  place : ∀ t a, x.1.o.op = .load t a → ∀ d, x.1.o.dst = some d → a ≠ .tmp d
  self : x.1.m.testBit x.1.i = false
  quiet : x.1.k ≠ .effect → x.2 = []
  kind : x.1.k = kdOf P x.1.o.op

theorem putS_apart {ops : Array Oper} {x y : Oper} (hap : x.apart ops y = true) : (∀ d, x.dst = some d → d ∉ y.looksAt ops) ∧ (∀ d, x.dst = some d → y.dst ≠ some d) ∧ (∀ d, y.dst = some d → d ∉ x.looksAt ops) :=
  Oper.apart_spec hap

section
variable {P : Program} {ops : Array Oper}

theorem AC_mono (P : Program) : ∀ f args h (Q Q' : AVal → AHeap → Prop), (∀ v h, Q v h → Q' v h) → AC P f args h Q → AC P f args h Q' := fun _ _ _ _ _ hq x => AC.mono hq x

theorem opsWpD_cons {x : DItem} {r : List DItem} {Q : Slots → AHeap → Prop} {s : Slots} {h : AHeap} :
    opsWpD P (AC P) ops.toList (x :: r) Q s h ↔ (stepSh P ops.toList x.1.o s h).run (AC P) h (A.keep h (keepsAt P s x.2) fun v h => opsWpD P (AC P) ops.toList r Q (putS s x.1.o.dst v) h) :=
  stepWpD_sh (AC_mono P)

theorem bubble (t : DItem) (ht : Good P t) (ys : List DItem) (Q : Slots → AHeap → Prop) : ∀ (xs : List DItem) (s : Slots) (h : AHeap) (ko : List (Operand × TypeId)), (∀ q ∈ ko, q ∈ t.2) → (t.1.k ≠ .effect → ko = []) →
    (∀ x ∈ xs, ∀ q ∈ ko, ∀ d, x.1.o.dst = some d → q.1 ≠ .tmp d) → (∀ x ∈ xs, Good P x) → (∀ x ∈ xs, Pair ops x t) → (∀ x ∈ xs, t.1.m.testBit x.1.i = false) → xs.Pairwise (Pair ops) →
    (t.1.k ≠ .effect → t.1.k ≠ .load → stepSh P ops.toList t.1.o s h ≠ .fail) →
    opsWpD P (AC P) ops.toList (xs ++ t :: ys) Q s h →
    (stepSh P ops.toList t.1.o s h).run (AC P) h fun v h' => (∀ p ∈ keepsAt P s ko, sameAt h' h p) ∧ opsWpD P (AC P) ops.toList (xs ++ ys) Q (putS s t.1.o.dst v) h'
  | [], s, h, ko, hko, _, _, _, _, _, _, _, H => by
    rw [List.nil_append, opsWpD_cons] at H
    refine sh_mono (AC_mono P) (fun v h' hk => ⟨fun p hp => ?_, hk.2⟩) H
    refine hk.1 p ?_
    simp only [keepsAt, List.mem_map] at hp ⊢
    obtain ⟨q, hq, e⟩ := hp
    exact ⟨q, hko q hq, e⟩
  | x :: xs, s, h, ko, hko, hko0, hsl, hg, hpt, hunord, hpw, hnf, H => by
    have gx := hg x (by simp)
    have px := hpt x (by simp)
    obtain ⟨hfit, hap⟩ := px.free.resolve_left (by rw [hunord x (by simp)]; simp)
    obtain ⟨ap1, ap2, ap3⟩ := putS_apart hap
    rw [List.pairwise_cons] at hpw
    have tsh : ∀ v h1, stepSh P ops.toList t.1.o (putS s x.1.o.dst v) h1 = stepSh P ops.toList t.1.o s h1 := fun v h1 => stepSh_put fun d hd => ap1 d hd
    have xsh : ∀ u h1, stepSh P ops.toList x.1.o (putS s t.1.o.dst u) h1 = stepSh P ops.toList x.1.o s h1 := fun u h1 => stepSh_put fun d hd => ap3 d hd
    have comm : ∀ u v, putS (putS s x.1.o.dst v) t.1.o.dst u = putS (putS s t.1.o.dst u) x.1.o.dst v := fun u v => putS_comm s v u fun d hd => ap2 d hd
    have kx : ∀ u, keepsAt P (putS s t.1.o.dst u) x.2 = keepsAt P s x.2 := fun u => keepsAt_put fun q hq d hd => px.slots q hq d hd
    have ih := fun s h ko a b c d => bubble t ht ys Q xs s h ko a b c (fun y hy => hg y (by simp [hy])) (fun y hy => hpt y (by simp [hy])) (fun y hy => hunord y (by simp [hy])) hpw.2 d
    have kput : ∀ v, keepsAt P (putS s x.1.o.dst v) ko = keepsAt P s ko := fun v => keepsAt_put fun q hq d hd => hsl x (by simp) q hq d hd
    rw [List.cons_append, opsWpD_cons] at H
    -- the drawn one behind a value of x that stays
    have viaVal : ∀ v, stepSh P ops.toList x.1.o s h = .val v → x.2 = [] → (∀ ko', (∀ q ∈ ko', q ∈ t.2) → (t.1.k ≠ .effect → ko' = []) → (∀ y ∈ x :: xs, ∀ q ∈ ko', ∀ d, y.1.o.dst = some d → q.1 ≠ .tmp d) →
        (∀ q ∈ ko, q ∈ ko') → (∀ u h', (stepSh P ops.toList t.1.o s h).run (AC P) h (fun u' h'' => u' = u → h'' = h' → True) → True) →
        (∀ h', (∀ p ∈ keepsAt P s ko', sameAt h' h p) → (t.1.k ≠ .effect → h.le h') → stepSh P ops.toList x.1.o s h' = .val v) →
        (stepSh P ops.toList t.1.o s h).run (AC P) h fun u h' => (∀ p ∈ keepsAt P s ko, sameAt h' h p) ∧ opsWpD P (AC P) ops.toList (x :: xs ++ ys) Q (putS s t.1.o.dst u) h') := by
      intro v hv hx2 ko' k1 k2 k3 k4 _ k5
      rw [hv] at H
      have H' := H.2
      have r := ih (putS s x.1.o.dst v) h ko' k1 k2 (fun y hy => k3 y (by simp [hy])) (fun a b => by rw [tsh]; exact hnf a b) H'
      rw [tsh] at r
      have kput' : keepsAt P (putS s x.1.o.dst v) ko' = keepsAt P s ko' := keepsAt_put fun q hq d hd => k3 x (by simp) q hq d hd
      rw [kput'] at r
      have hle : t.1.k ≠ .effect → (stepSh P ops.toList t.1.o s h).run (AC P) h (fun u h' => h.le h' ∧ ((∀ p ∈ keepsAt P s ko', sameAt h' h p) ∧ opsWpD P (AC P) ops.toList (xs ++ ys) Q (putS (putS s x.1.o.dst v) t.1.o.dst u) h')) := by
        intro hne
        have vn : (∃ v, stepSh P ops.toList t.1.o s h = .val v) ∨ (∃ b mk, stepSh P ops.toList t.1.o s h = .new b mk) ∨ stepSh P ops.toList t.1.o s h = .fail := by
          have hk := ht.kind
          cases e : t.1.k with
          | effect => exact absurd e hne
          | pure => rw [e] at hk; rcases (stepSh_pure (h := h) (s := s) (ops := ops.toList) hk.symm).2 with h' | h'
                    · exact .inl h'
                    · exact .inr (.inr h')
          | load => rw [e] at hk; obtain ⟨_, _, hl⟩ := kd_load hk.symm; rcases (stepSh_load (P := P) (H := h) (h := h) (s := s) (ops := ops.toList) hl).2 with h' | h'
                    · exact .inl h'
                    · exact .inr (.inr h')
          | alloc => rw [e] at hk; exact (stepSh_alloc (h := h) (s := s) (ops := ops.toList) hk.symm).2
        rcases vn with ⟨w, hw⟩ | ⟨b, mk, hw⟩ | hw <;> rw [hw] at r ⊢
        · exact ⟨AHeap.le_refl h, r⟩
        · exact fun id hid => ⟨le_upd b hid, r id hid⟩
        · exact r
      have fin : ∀ u h', (∀ p ∈ keepsAt P s ko', sameAt h' h p) → (t.1.k ≠ .effect → h.le h') → opsWpD P (AC P) ops.toList (xs ++ ys) Q (putS (putS s x.1.o.dst v) t.1.o.dst u) h' →
          (∀ p ∈ keepsAt P s ko, sameAt h' h p) ∧ opsWpD P (AC P) ops.toList (x :: xs ++ ys) Q (putS s t.1.o.dst u) h' := by
        intro u h' q1 q2 q3
        refine ⟨fun p hp => q1 p ?_, ?_⟩
        · simp only [keepsAt, List.mem_map] at hp ⊢
          obtain ⟨q, hq, e⟩ := hp
          exact ⟨q, k4 q hq, e⟩
        · rw [List.cons_append, opsWpD_cons, xsh, k5 h' q1 q2, hx2]
          refine ⟨fun p hp => by simp [keepsAt] at hp, ?_⟩
          show opsWpD P (AC P) ops.toList (xs ++ ys) Q (putS (putS s t.1.o.dst _) x.1.o.dst _) _
          rw [← comm]; exact q3
      by_cases hne : t.1.k = .effect
      · exact sh_mono (AC_mono P) (fun u h' hr => fin u h' hr.1 (fun hh => absurd hne hh) hr.2) r
      · exact sh_mono (AC_mono P) (fun u h' hr => fin u h' hr.2.1 (fun _ => hr.1) hr.2.2) (hle hne)
    have simple : ∀ v, stepSh P ops.toList x.1.o s h = .val v → x.2 = [] → (∀ h', stepSh P ops.toList x.1.o s h' = .val v) →
        (stepSh P ops.toList t.1.o s h).run (AC P) h fun u h' => (∀ p ∈ keepsAt P s ko, sameAt h' h p) ∧ opsWpD P (AC P) ops.toList (x :: xs ++ ys) Q (putS s t.1.o.dst u) h' := fun v hv hx2 hind =>
      viaVal v hv hx2 ko hko hko0 (fun y hy => hsl y hy) (fun _ hq => hq) (fun _ _ _ => trivial) fun h' _ _ => hind h'
    cases ek : x.1.k with
    | pure =>
      have hk := gx.kind
      rw [ek] at hk
      obtain ⟨i1, i2⟩ := stepSh_pure (h := h) (s := s) (ops := ops.toList) hk.symm
      rcases i2 with ⟨v, hv⟩ | hv
      · exact simple v hv (gx.quiet (by rw [ek]; simp)) fun h' => by rw [i1 h' h]; exact hv
      · rw [hv] at H; exact H.elim
    | load =>
      have hk := gx.kind
      rw [ek] at hk
      obtain ⟨ty, ad, hl⟩ := kd_load hk.symm
      rcases (stepSh_load (P := P) (H := h) (h := h) (s := s) (ops := ops.toList) hl).2 with ⟨v, hv⟩ | hv
      · by_cases hne : t.1.k = .effect
        · have hmem := px.keeps ty ad hl hne (hunord x (by simp))
          refine viaVal v hv (gx.quiet (by rw [ek]; simp)) ((ad, ty) :: ko) (fun q hq => ?_) (fun hh => absurd hne hh) (fun y hy q hq d hd => ?_) (fun q hq => by simp [hq]) (fun _ _ _ => trivial) fun h' hs _ => ?_
          · rcases List.mem_cons.1 hq with rfl | hq
            · exact hmem
            · exact hko q hq
          · rcases List.mem_cons.1 hq with rfl | hq
            · rcases List.mem_cons.1 hy with rfl | hy
              · exact gx.place ty ad hl d hd
              · exact (hpw.1 y hy).place ty ad hl d hd
            · exact hsl y hy q hq d hd
          · rw [(stepSh_load (P := P) (H := h') (h := h) (s := s) (ops := ops.toList) hl).1 (hs _ (by simp [keepsAt]))]; exact hv
        · refine viaVal v hv (gx.quiet (by rw [ek]; simp)) ko hko hko0 (fun y hy => hsl y hy) (fun _ hq => hq) (fun _ _ _ => trivial) fun h' _ hle => ?_
          rw [stepSh_le (hle hne) (by rw [hv]; simp)]; exact hv
      · rw [hv] at H; exact H.elim
    | alloc =>
      have hk := gx.kind
      rw [ek] at hk
      obtain ⟨i1, i2⟩ := stepSh_alloc (h := h) (s := s) (ops := ops.toList) hk.symm
      rcases i2 with ⟨v, hv⟩ | ⟨b, mk, hv⟩ | hv
      · exact simple v hv (gx.quiet (by rw [ek]; simp)) fun h' => by rw [i1 h' h]; exact hv
      · have hx2 := gx.quiet (by rw [ek]; simp)
        have hte : t.1.k ≠ .effect := fun e => by rw [ek, e] at hfit; simp [Kd.fits] at hfit
        have htl : t.1.k ≠ .load := fun e => by rw [ek, e] at hfit; simp [Kd.fits] at hfit
        have hk0 := hko0 hte
        subst hk0
        rw [hv] at H
        have tind : ∀ h h' : AHeap, stepSh P ops.toList t.1.o s h = stepSh P ops.toList t.1.o s h' := by
          have hk := ht.kind
          cases e : t.1.k with
          | effect => exact absurd e hte
          | load => exact absurd e htl
          | pure => rw [e] at hk; exact (stepSh_pure (h := h) (s := s) (ops := ops.toList) hk.symm).1
          | alloc => rw [e] at hk; exact (stepSh_alloc (h := h) (s := s) (ops := ops.toList) hk.symm).1
        have tval : (∃ v, stepSh P ops.toList t.1.o s h = .val v) ∨ (∃ b mk, stepSh P ops.toList t.1.o s h = .new b mk) ∨ stepSh P ops.toList t.1.o s h = .fail := by
          have hk := ht.kind
          cases e : t.1.k with
          | effect => exact absurd e hte
          | load => exact absurd e htl
          | pure => rw [e] at hk; rcases (stepSh_pure (h := h) (s := s) (ops := ops.toList) hk.symm).2 with h' | h'
                    · exact .inl h'
                    · exact .inr (.inr h')
          | alloc => rw [e] at hk; exact (stepSh_alloc (h := h) (s := s) (ops := ops.toList) hk.symm).2
        have each : ∀ id, h id = none → (stepSh P ops.toList t.1.o s h).run (AC P) (upd h id b) fun u h' => opsWpD P (AC P) ops.toList (xs ++ ys) Q (putS (putS s x.1.o.dst (mk id)) t.1.o.dst u) h' := fun id hid => by
          have r := ih (putS s x.1.o.dst (mk id)) (upd h id b) [] (by simp) (fun _ => rfl) (by simp) (fun a c => by rw [tsh, tind _ h]; exact hnf a c) (H id hid).2
          rw [tsh, tind _ h] at r
          exact sh_mono (AC_mono P) (fun u h' hr => hr.2) r
        have xind : ∀ h', stepSh P ops.toList x.1.o s h' = .new b mk := fun h' => by rw [i1 h' h]; exact hv
        rcases tval with ⟨u, hu⟩ | ⟨b2, mk2, hu⟩ | hu
        · rw [hu] at each ⊢
          refine ⟨fun p hp => by simp [keepsAt] at hp, ?_⟩
          rw [List.cons_append, opsWpD_cons, xsh, xind, hx2]
          intro id hid
          refine ⟨fun p hp => by simp [keepsAt] at hp, ?_⟩
          show opsWpD P (AC P) ops.toList (xs ++ ys) Q (putS (putS s t.1.o.dst _) x.1.o.dst _) _
          rw [← comm]; exact each id hid
        · rw [hu] at each ⊢
          intro id2 hid2
          refine ⟨fun p hp => by simp [keepsAt] at hp, ?_⟩
          rw [List.cons_append, opsWpD_cons, xsh, xind, hx2]
          intro id hid
          have hne : id ≠ id2 := fun e => by subst e; rw [upd_same] at hid; cases hid
          rw [upd_other _ _ hne] at hid
          refine ⟨fun p hp => by simp [keepsAt] at hp, ?_⟩
          show opsWpD P (AC P) ops.toList (xs ++ ys) Q (putS (putS s t.1.o.dst _) x.1.o.dst _) _
          rw [← comm, upd_comm _ _ _ (Ne.symm hne)]
          exact each id hid id2 (by rw [upd_other _ _ (Ne.symm hne)]; exact hid2)
        · exact absurd hu (hnf hte htl)
      · rw [hv] at H; exact H.elim
    | effect =>
      have hte : t.1.k ≠ .effect := fun e => by rw [ek, e] at hfit; simp [Kd.fits] at hfit
      have htl : t.1.k ≠ .load := fun e => by rw [ek, e] at hfit; simp [Kd.fits] at hfit
      have hk0 := hko0 hte
      subst hk0
      have tind : ∀ h h' : AHeap, stepSh P ops.toList t.1.o s h = stepSh P ops.toList t.1.o s h' := by
        have hk := ht.kind
        cases e : t.1.k with
        | effect => exact absurd e hte
        | load => exact absurd e htl
        | pure => rw [e] at hk; exact (stepSh_pure (h := h) (s := s) (ops := ops.toList) hk.symm).1
        | alloc => rw [e] at hk; exact (stepSh_alloc (h := h) (s := s) (ops := ops.toList) hk.symm).1
      have tval : (∃ v, stepSh P ops.toList t.1.o s h = .val v) ∨ (∃ b mk, stepSh P ops.toList t.1.o s h = .new b mk) ∨ stepSh P ops.toList t.1.o s h = .fail := by
        have hk := ht.kind
        cases e : t.1.k with
        | effect => exact absurd e hte
        | load => exact absurd e htl
        | pure => rw [e] at hk; rcases (stepSh_pure (h := h) (s := s) (ops := ops.toList) hk.symm).2 with h' | h'
                  · exact .inl h'
                  · exact .inr (.inr h')
        | alloc => rw [e] at hk; exact (stepSh_alloc (h := h) (s := s) (ops := ops.toList) hk.symm).2
      have each : ∀ v h1, opsWpD P (AC P) ops.toList (xs ++ t :: ys) Q (putS s x.1.o.dst v) h1 → (stepSh P ops.toList t.1.o s h).run (AC P) h1 fun u h' => opsWpD P (AC P) ops.toList (xs ++ ys) Q (putS (putS s x.1.o.dst v) t.1.o.dst u) h' := fun v h1 hh => by
        have r := ih (putS s x.1.o.dst v) h1 [] (by simp) (fun _ => rfl) (by simp) (fun a c => by rw [tsh, tind _ h]; exact hnf a c) hh
        rw [tsh, tind _ h] at r
        exact sh_mono (AC_mono P) (fun u h' hr => hr.2) r
      rcases tval with ⟨u, hu⟩ | ⟨b2, mk2, hu⟩ | hu
      · rw [hu] at each ⊢
        refine ⟨fun p hp => by simp [keepsAt] at hp, ?_⟩
        rw [List.cons_append, opsWpD_cons, xsh, kx]
        refine sh_mono (AC_mono P) (fun v h1 hr => ⟨hr.1, ?_⟩) H
        show opsWpD P (AC P) ops.toList (xs ++ ys) Q (putS (putS s t.1.o.dst _) x.1.o.dst _) _
        rw [← comm]; exact each v h1 hr.2
      · rw [hu] at each ⊢
        intro id2 hid2
        refine ⟨fun p hp => by simp [keepsAt] at hp, ?_⟩
        rw [List.cons_append, opsWpD_cons, xsh, kx]
        have hnfx : stepSh P ops.toList x.1.o s h ≠ .fail := fun e => by rw [e] at H; exact H
        rw [stepSh_le (le_upd b2 hid2) hnfx]
        refine sh_mono (AC_mono P) (fun v h'' hr => ?_) (sh_frame (b := b2) hid2 stepSh_known H)
        obtain ⟨h1, ⟨q1, q2⟩, q3, rfl⟩ := hr
        refine ⟨fun p hp => sameAt.upd (q1 p hp) id2 b2, ?_⟩
        show opsWpD P (AC P) ops.toList (xs ++ ys) Q (putS (putS s t.1.o.dst _) x.1.o.dst _) _
        rw [← comm]; exact each v h1 q2 id2 q3
      · exact absurd hu (hnf hte htl)
end
end Go.Ab

/- What is proved: regions, code and calls do in the model what is told of them in the abstract memory. -/
namespace Go.Ab
open Go.RowKit (Below)

/-- How slots and memory stand to a frame and a world; what began at h0, H0. -/
structure St (w0 : World) (ρ0 : Locs) (h0 H0 : AHeap) (n : Nat) (s : Slots) (h : AHeap) (a : Act) (w : World) : Prop where
  ex : ∃ ρ H, ρ0.le ρ ∧ h.le H ∧ Fr h0 H0 h H ∧ R w0 ρ H w ∧ SRel ρ s a
  defers : a.defers = []
  size : n ≤ a.tmps.size

def dstIn (n : Nat) (o : Oper) : Bool :=
  match o.dst with
  | none => true
  | some d => Nat.blt d n

section
variable {P : Program} {w0 : World} {ρ0 : Locs} {h0 H0 : AHeap} {n : Nat} {s : Slots} {h : AHeap} {a : Act} {w : World} {ops : Array Oper} {Q : Exit → Act → World → Prop}

theorem step_sound {i : Nat} {o : Oper} (hi : ops[i]? = some o) (hd : dstIn n o = true) (hS : St w0 ρ0 h0 H0 n s h a w) {K : AVal → AHeap → Prop} (hx : (stepSh P ops.toList o s h).run (AC P) h K) :
    wpOp P ops Q i (fun a' w' => ∃ v h', K v h' ∧ St w0 ρ0 h0 H0 n (putS s o.dst v) h' a' w') a w := by
  obtain ⟨ρ, H, q1, q2, q3, q4, q5⟩ := hS.ex
  have hdst : ∀ k, o.dst = some k → k < a.tmps.size := fun k hk => by
    unfold dstIn at hd
    rw [hk] at hd
    have hd' : Nat.blt k n = true := hd
    rw [Nat.blt_eq] at hd'
    exact Nat.lt_of_lt_of_le hd' hS.size
  have hput : ∀ v, (a.put o.dst v).defers = [] ∧ n ≤ (a.put o.dst v).tmps.size := fun v => by
    have := hS.defers
    have := hS.size
    cases o.dst with
    | none => exact ⟨by assumption, by assumption⟩
    | some d => exact ⟨by assumption, by simpa [Act.put] using this⟩
  have go : (shOf P o.op (evS s) h).run (AC P) h K → o.wp P a w (fun a' w' => ∃ v h', K v h' ∧ St w0 ρ0 h0 H0 n (putS s o.dst v) h' a' w') Q := fun hx => by
    refine Oper.wp_mono ?_ (op_sound (Q := Q) q4 q2 q5 (opWp_sh.2 hx))
    rintro a' w' ⟨v, hA, rfl⟩
    obtain ⟨x, ρ', h', H', k1, k2, k3, k4, k5, k6⟩ := hA.ex
    exact ⟨x, h', k3, ⟨⟨ρ', H', Locs.le_trans q1 k1, k4, q3.trans k5, k6, (q5.mono k1).put k2 hdst⟩, (hput v).1, (hput v).2⟩⟩
  unfold wpOp
  simp only [hi]
  unfold stepSh at hx
  cases hg : o.guard with
  | none =>
    simp only [hg] at hx
    have : Region.wanted o (yielded ops a.tmps) = true := by simp [Region.wanted, hg]
    rw [if_pos this]
    exact .inl (go hx)
  | some jb =>
    obtain ⟨j, b⟩ := jb
    simp only [hg] at hx
    cases ht : gslot ops.toList j with
    | none => simp only [ht] at hx; exact hx.elim
    | some t =>
      simp only [ht] at hx
      cases hst : s t <;> simp only [hst] at hx <;> (try exact hx.elim)
      case tup l =>
        cases l with
        | cons _ _ => exact hx.elim
        | nil =>
          have hr := q5 t
          rw [hst] at hr
          obtain ⟨l, hr', hl⟩ := hr
          have hl : l = [] := hl
          subst hl
          have hy : yielded ops a.tmps j = none := by
            unfold yielded
            have hds : (ops[j]?).bind (·.dst) = some t := by unfold gslot at ht; simpa using ht
            rw [hds]
            simp only [Option.bind_some]
            cases hv : a.tmps[t]? with
            | none => rfl
            | some v => simp [hv] at hr'; subst hr'; rfl
          have : ¬ Region.wanted o (yielded ops a.tmps) = true := by simp [Region.wanted, hg, hy]
          rw [if_neg this]
          exact ⟨.tup [], h, hx, ⟨⟨ρ, H, q1, q2, q3, q4, q5.put (x := .tup []) (v := Go.undef) ⟨[], rfl, rfl⟩ hdst⟩, (hput _).1, (hput _).2⟩⟩
      rename_i b'
      have hr := q5 t
      rw [hst] at hr
      have hy : yielded ops a.tmps j = some b' := by
        unfold yielded
        have hds : (ops[j]?).bind (·.dst) = some t := by unfold gslot at ht; simpa using ht
        rw [hds]
        simp only [Option.bind_some]
        have hr' : a.tmps.getD t Go.undef = .bool b' := hr
        cases hv : a.tmps[t]? with
        | none => simp [hv, Go.undef] at hr'
        | some v => simp [hv] at hr'; subst hr'; rfl
      by_cases e : b' = b
      · rw [if_pos e] at hx
        have : Region.wanted o (yielded ops a.tmps) = true := by simp [Region.wanted, hg, hy, e]
        rw [if_pos this]
        exact .inl (go hx)
      · rw [if_neg e] at hx
        have : ¬ Region.wanted o (yielded ops a.tmps) = true := by simp [Region.wanted, hg, hy, e]
        rw [if_neg this]
        exact ⟨.tup [], h, hx, ⟨⟨ρ, H, q1, q2, q3, q4, q5.put (x := .tup []) (v := Go.undef) ⟨[], rfl, rfl⟩ hdst⟩, (hput _).1, (hput _).2⟩⟩

theorem ops_sound (hd : ∀ o ∈ ops.toList, dstIn n o = true) {Qn : Slots → AHeap → Prop} (hQ : ∀ s h a w, St w0 ρ0 h0 H0 n s h a w → Qn s h → Q .normal a w) :
    ∀ (l : List Oper) (i : Nat) (s : Slots) (h : AHeap) (a : Act) (w : World), ops.toList.drop i = l → opsWp P (AC P) ops.toList l Qn s h → St w0 ρ0 h0 H0 n s h a w → wpOps P ops Q (List.range' i l.length) a w
  | [], i, s, h, a, w, _, hx, hS => hQ s h a w hS hx
  | o :: r, i, s, h, a, w, hl, hx, hS => by
    have hi : ops[i]? = some o := by
      have : (ops.toList.drop i)[0]? = some o := by rw [hl]; rfl
      simpa using this
    rw [List.length_cons, List.range'_succ, wpOps_cons]
    have hx' : (stepSh P ops.toList o s h).run (AC P) h fun v h => opsWp P (AC P) ops.toList r Qn (putS s o.dst v) h := stepWp_sh.1 hx
    refine wpOp_mono ?_ (step_sound (Q := Q) hi (hd o (by have := Array.mem_of_getElem? hi; simpa using this)) hS hx')
    rintro a' w' ⟨v, h', hk, hS'⟩
    refine ops_sound hd hQ r (i + 1) _ h' a' w' ?_ hk hS'
    rw [← List.tail_drop, hl]; rfl

/-- Something comes of an operation. -/
theorem Oper.wp_some {o : Oper} {K : Act → World → Prop} (hh : o.wp P a w K fun _ _ _ => False) : ∃ a' w', K a' w' := by
  unfold Oper.wp at hh
  generalize (execOp a.eval o).run P w = r at hh
  cases r with
  | ok x w' =>
    cases x <;> simp only [Oper.upon] at hh <;> (try exact ⟨_, _, hh⟩) <;> (try exact hh.elim)
    · obtain ⟨e, w'', _, hR, _⟩ := hh []
      cases e with
      | returned v => exact ⟨_, _, hR⟩
      | panicked _ => exact hR.elim
      | outgrown => obtain ⟨_, _, hR⟩ := hR; exact hR.elim
    · obtain ⟨v, w'', hR, _⟩ := hh default []
      exact ⟨_, _, hR⟩
  | halt x w' => cases x <;> simp only [Oper.upon] at hh

theorem wpOp_some {i : Nat} {o : Oper} (hi : ops[i]? = some o) {K : Act → World → Prop} (hh : wpOp P ops (fun _ _ _ => False) i K a w) : ∃ a' w', K a' w' := by
  unfold wpOp at hh
  simp only [hi] at hh
  split at hh
  · rcases hh with hh | ⟨_, _, _, hh⟩
    · exact Oper.wp_some hh
    · exact hh.elim
  · exact ⟨_, _, hh⟩

/-- What may be drawn does not fail. -/
theorem notFail (hd : ∀ o ∈ ops.toList, dstIn n o = true) (t : DItem) (ht : Good P t) (ys : List DItem) (Qn : Slots → AHeap → Prop) (hte : t.1.k ≠ .effect) (htl : t.1.k ≠ .load) :
    ∀ (xs : List DItem) (s : Slots) (h : AHeap) (a : Act) (w : World), (∀ x ∈ xs, ops[x.1.i]? = some x.1.o) → (∀ x ∈ xs, x.1.o.apart ops t.1.o = true) → opsWpD P (AC P) ops.toList (xs ++ t :: ys) Qn s h → St w0 ρ0 h0 H0 n s h a w →
      stepSh P ops.toList t.1.o s h ≠ .fail
  | [], s, h, a, w, _, _, hx, _ => fun e => by
    rw [List.nil_append, opsWpD_cons, e] at hx
    exact hx
  | x :: xs, s, h, a, w, hi, hap, hx, hS => by
    rw [List.cons_append, opsWpD_cons] at hx
    have hix := hi x (by simp)
    obtain ⟨a', w', v, h', hk, hS'⟩ := wpOp_some hix (step_sound (Q := fun _ _ _ => False) hix (hd _ (by have := Array.mem_of_getElem? hix; simpa using this)) hS hx)
    have r := notFail hd t ht ys Qn hte htl xs _ h' a' w' (fun y hy => hi y (by simp [hy])) (fun y hy => hap y (by simp [hy])) hk.2 hS'
    obtain ⟨ap1, _, _⟩ := putS_apart (hap x (by simp))
    rw [stepSh_put fun d hd => ap1 d hd] at r
    have hk := ht.kind
    cases e : t.1.k with
    | effect => exact absurd e hte
    | load => exact absurd e htl
    | pure => rw [e] at hk; rw [(stepSh_pure (h := h) (s := s) (ops := ops.toList) hk.symm).1 h h']; exact r
    | alloc => rw [e] at hk; rw [(stepSh_alloc (h := h) (s := s) (ops := ops.toList) hk.symm).1 h h']; exact r

structure Inv (P : Program) (ops : Array Oper) (ms : List Nat) (rem : List DItem) (listed : Array Bool) : Prop where
  sz : listed.size = ops.size
  open_ : ∀ i, i < ops.size → (listed.getD i true = false ↔ ∃ t ∈ rem, t.1.i = i)
  at_ : ∀ t ∈ rem, ops[t.1.i]? = some t.1.o ∧ ms[t.1.i]? = some t.1.m
  good : ∀ t ∈ rem, Good P t
  pair : rem.Pairwise (Pair ops)
  nodup : (rem.map (·.1.i)).Pairwise (· ≠ ·)
  down : ∀ i, listed.getD i false = true → ∀ x, (ms.getD i 0).testBit x = true → listed.getD x false = true

/-- The bits of an operation are those that it directly comes behind, and theirs. -/
def MaskOk (ops : Array Oper) (ms : List Nat) : Prop :=
  ∀ (i : Nat) (o : Oper), ops[i]? = some o → (∀ e ∈ o.after, Region.binds .any e = true → (ms.getD i 0).testBit e.on = true ∧ e.on < ops.size) ∧
    ∀ x, (ms.getD i 0).testBit x = true → ∃ e ∈ o.after, Region.binds .any e = true ∧ (x = e.on ∨ (ms.getD e.on 0).testBit x = true)

theorem pairwise_ahead {α : Type} {r : α → α → Prop} {xs ys : List α} {t : α} (hp : (xs ++ t :: ys).Pairwise r) : ∀ x ∈ xs, r x t := fun x hx =>
  (List.pairwise_append.1 hp).2.2 x hx t (by simp)

theorem draw_sound {ms : List Nat} (hms : MaskOk ops ms) (hd : ∀ o ∈ ops.toList, dstIn n o = true) {Qn : Slots → AHeap → Prop} (hQ : ∀ s h a w, St w0 ρ0 h0 H0 n s h a w → Qn s h → Q .normal a w) :
    ∀ (m : Nat) (rem : List DItem) (listed : Array Bool) (s : Slots) (h : AHeap) (a : Act) (w : World), rem.length = m → Inv P ops ms rem listed → opsWpD P (AC P) ops.toList rem Qn s h → St w0 ρ0 h0 H0 n s h a w → wpAny P .any ops Q m listed a w
  | 0, rem, listed, s, h, a, w, hl, inv, hx, hS => by
    have : rem = [] := List.eq_nil_of_length_eq_zero hl
    subst this
    refine ⟨?_, hQ s h a w hS hx⟩
    apply List.eq_nil_iff_forall_not_mem.2
    intro j hj
    obtain ⟨h1, o, ho, _⟩ := mem_ready.1 hj
    have hlt := (Array.getElem?_eq_some_iff.1 ho).1
    obtain ⟨t, ht, _⟩ := (inv.open_ j hlt).1 h1
    cases ht
  | m + 1, rem, listed, s, h, a, w, hl, inv, hx, hS => by
    have getD_of : ∀ j, j < ops.size → listed.getD j true = listed.getD j false := fun j hj => by
      have : j < listed.size := by rw [inv.sz]; exact hj
      simp [this]
    refine ⟨fun hr => ?_, fun i hi => ?_⟩
    · -- the first that is left is ready
      exfalso
      cases rem with
      | nil => simp at hl
      | cons t r =>
        obtain ⟨ho, hm⟩ := inv.at_ t (by simp)
        have hlt := (Array.getElem?_eq_some_iff.1 ho).1
        have hmem : t.1.i ∈ Region.ready .any ops listed := by
          refine mem_ready.2 ⟨(inv.open_ _ hlt).2 ⟨t, by simp, rfl⟩, t.1.o, ho, fun e he hb => ?_⟩
          obtain ⟨hbit, hlt2⟩ := (hms _ _ ho).1 e he hb
          have hmD : ms.getD t.1.i 0 = t.1.m := by simp [List.getD, hm]
          rw [hmD] at hbit
          cases hle : listed.getD e.on false with
          | true => rfl
          | false =>
            exfalso
            obtain ⟨y, hy, hyi⟩ := (inv.open_ _ hlt2).1 (by rw [getD_of _ hlt2]; exact hle)
            rcases List.mem_cons.1 hy with rfl | hy
            · rw [← hyi] at hbit
              rw [(inv.good y (by simp)).self] at hbit; cases hbit
            · have := ((List.pairwise_cons.1 inv.pair).1 y hy).notBehind
              rw [hyi, hbit] at this; cases this
        rw [hr] at hmem
        cases hmem
    · obtain ⟨h1, o, ho, hall⟩ := mem_ready.1 hi
      have hlt := (Array.getElem?_eq_some_iff.1 ho).1
      obtain ⟨t, ht, rfl⟩ := (inv.open_ i hlt).1 h1
      obtain ⟨xs, ys, rfl⟩ := List.append_of_mem ht
      obtain ⟨ho', hm⟩ := inv.at_ t ht
      rw [ho] at ho'
      cases ho'
      have hmD : ms.getD t.1.i 0 = t.1.m := by simp [List.getD, hm]
      -- what it comes behind is over
      have hover : ∀ x, t.1.m.testBit x = true → listed.getD x false = true := fun x hx => by
        rw [← hmD] at hx
        obtain ⟨e, he, hb, hor⟩ := (hms _ _ ho).2 x hx
        have hl := hall e he hb
        rcases hor with rfl | hor
        · exact hl
        · exact inv.down _ hl x hor
      have hunord : ∀ x ∈ xs, t.1.m.testBit x.1.i = false := fun x hx => by
        cases hb : t.1.m.testBit x.1.i with
        | false => rfl
        | true =>
          have h2 := hover _ hb
          obtain ⟨hox, _⟩ := inv.at_ x (by simp [hx])
          have hltx := (Array.getElem?_eq_some_iff.1 hox).1
          have := (inv.open_ _ hltx).2 ⟨x, by simp [hx], rfl⟩
          rw [getD_of _ hltx, h2] at this; cases this
      have hpt : ∀ x ∈ xs, Pair ops x t := pairwise_ahead inv.pair
      have hap : ∀ x ∈ xs, x.1.o.apart ops t.1.o = true := fun x hx => ((hpt x hx).free.resolve_left (by rw [hunord x hx]; simp)).2
      have hpxs : xs.Pairwise (Pair ops) := (List.pairwise_append.1 inv.pair).1
      have hb := bubble t (inv.good t ht) ys Qn xs s h [] (by simp) (fun _ => rfl) (by simp) (fun x hx => inv.good x (by simp [hx])) hpt hunord hpxs
        (fun c1 c2 => notFail hd t (inv.good t ht) ys Qn c1 c2 xs s h a w (fun x hx => (inv.at_ x (by simp [hx])).1) hap hx hS) hx
      have hdt : dstIn n t.1.o = true := hd _ (by have := Array.mem_of_getElem? ho; simpa using this)
      refine wpOp_mono ?_ (step_sound (Q := Q) ho hdt hS hb)
      rintro a' w' ⟨v, h', ⟨_, hk⟩, hS'⟩
      refine draw_sound hms hd hQ m (xs ++ ys) _ _ h' a' w' (by simp only [List.length_append, List.length_cons] at hl ⊢; omega) ?_ hk hS'
      have hsub : (xs ++ ys).Sublist (xs ++ t :: ys) := List.Sublist.append_left (List.sublist_cons_self t ys) xs
      have hnd : ∀ y ∈ xs ++ ys, y.1.i ≠ t.1.i := fun y hy => by
        have hn := inv.nodup
        rw [List.map_append, List.map_cons] at hn
        rcases List.mem_append.1 hy with hy | hy
        · exact (List.pairwise_append.1 hn).2.2 _ (List.mem_map.2 ⟨y, hy, rfl⟩) _ (by simp)
        · have := ((List.pairwise_cons.1 (List.pairwise_append.1 hn).2.1).1 _ (List.mem_map.2 ⟨y, hy, rfl⟩))
          exact fun e => this e.symm
      exact {
        sz := by simpa using inv.sz
        open_ := fun i hi => by
          by_cases e : t.1.i = i
          · subst e
            have : (listed.setIfInBounds t.1.i true).getD t.1.i true = true := by simp
            rw [this]
            constructor
            · intro h; cases h
            · rintro ⟨y, hy, e⟩; exact absurd e (hnd y hy)
          · rw [getD_set_ne true e, inv.open_ i hi]
            constructor
            · rintro ⟨y, hy, e'⟩
              refine ⟨y, ?_, e'⟩
              rcases List.mem_append.1 hy with hy | hy
              · exact List.mem_append_left _ hy
              · rcases List.mem_cons.1 hy with rfl | hy
                · exact absurd e' e
                · exact List.mem_append_right _ hy
            · rintro ⟨y, hy, e'⟩; exact ⟨y, hsub.subset hy, e'⟩
        at_ := fun y hy => inv.at_ y (hsub.subset hy)
        good := fun y hy => inv.good y (hsub.subset hy)
        pair := inv.pair.sublist hsub
        nodup := inv.nodup.sublist (hsub.map _)
        down := fun i hi x hx => by
          by_cases e : t.1.i = i
          · subst e
            rw [hmD] at hx
            exact getD_set_true (hover x hx)
          · rw [getD_set_ne false e] at hi
            exact getD_set_true (inv.down i hi x hx) }
end
end Go.Ab

/- What is proved: a plan of a drawn region is one; code does in the model what is told of it; so do calls. -/
namespace Go.Ab
open Go.RowKit (Below)

/-! The bits. -/
def maskOne (o : Oper) (acc : List Nat) : Nat := o.after.toList.foldl (fun m e => bif Region.binds .any e then m ||| 2 ^ e.on ||| acc.getD e.on 0 else m) 0

theorem foldl_bits (acc : List Nat) : ∀ (l : List Edge) (m x : Nat), (l.foldl (fun m e => bif Region.binds .any e then m ||| 2 ^ e.on ||| acc.getD e.on 0 else m) m).testBit x = true ↔
    m.testBit x = true ∨ ∃ e ∈ l, Region.binds .any e = true ∧ (x = e.on ∨ (acc.getD e.on 0).testBit x = true)
  | [], m, x => by simp
  | e :: l, m, x => by
    rw [List.foldl_cons, foldl_bits acc l]
    cases hb : Region.binds .any e with
    | false =>
      simp only [cond_false, List.mem_cons]
      constructor
      · rintro (h | ⟨e', he, h⟩)
        · exact .inl h
        · exact .inr ⟨e', .inr he, h⟩
      · rintro (h | ⟨e', rfl | he, h1, h2⟩)
        · exact .inl h
        · rw [hb] at h1; cases h1
        · exact .inr ⟨e', he, h1, h2⟩
    | true =>
      simp only [cond_true, Nat.testBit_or, Nat.testBit_two_pow, Bool.or_eq_true, decide_eq_true_eq, List.mem_cons]
      constructor
      · rintro (((h | h) | h) | ⟨e', he, h⟩)
        · exact .inl h
        · exact .inr ⟨e, .inl rfl, hb, .inl h.symm⟩
        · exact .inr ⟨e, .inl rfl, hb, .inr h⟩
        · exact .inr ⟨e', .inr he, h⟩
      · rintro (h | ⟨e', rfl | he, h1, h2⟩)
        · exact .inl (.inl (.inl h))
        · rcases h2 with h2 | h2
          · exact .inl (.inl (.inr h2.symm))
          · exact .inl (.inr h2)
        · exact .inr ⟨e', he, h1, h2⟩

theorem masksOf_spec : ∀ (l : List Oper) (acc : List Nat), (masksOf l acc).length = acc.length + l.length ∧ (∀ i, i < acc.length → (masksOf l acc).getD i 0 = acc.getD i 0) ∧
    ∀ (i : Nat) (o : Oper), l[i]? = some o → (masksOf l acc).getD (acc.length + i) 0 = maskOne o ((masksOf l acc).take (acc.length + i))
  | [], acc => ⟨by simp [masksOf], fun _ _ => rfl, fun i o h => by simp at h⟩
  | o :: l, acc => by
    have e : masksOf (o :: l) acc = masksOf l (acc ++ [maskOne o acc]) := rfl
    obtain ⟨h1, h2, h3⟩ := masksOf_spec l (acc ++ [maskOne o acc])
    rw [e]
    refine ⟨by rw [h1]; simp; omega, fun i hi => ?_, fun i o' ho => ?_⟩
    · rw [h2 i (by simp; omega)]
      simp [List.getD, List.getElem?_append_left hi]
    · cases i with
      | zero =>
        simp at ho
        subst ho
        rw [Nat.add_zero, h2 acc.length (by simp)]
        have ht : (masksOf l (acc ++ [maskOne o acc])).take acc.length = acc := by
          apply List.ext_getElem?
          intro j
          by_cases hj : j < acc.length
          · rw [List.getElem?_take_of_lt hj]
            have := h2 j (by simp; omega)
            simp only [List.getD, List.getElem?_append_left hj] at this
            have hl : j < (masksOf l (acc ++ [maskOne o acc])).length := by rw [h1]; simp; omega
            rw [List.getElem?_eq_getElem hl, List.getElem?_eq_getElem hj] at this ⊢
            simpa using this
          · rw [List.getElem?_eq_none (by rw [List.length_take]; omega), List.getElem?_eq_none (by omega)]
        rw [ht]
        simp [List.getD]
      | succ i =>
        have := h3 i o' (by simpa using ho)
        simp only [List.length_append, List.length_singleton] at this
        rw [show acc.length + (i + 1) = acc.length + 1 + i by omega]
        exact this

theorem maskOk {ops : Array Oper} (hb : ops.toList.all (fun o => o.after.toList.all fun e => Nat.blt e.on ops.size) = true) : MaskOk ops (masksOf ops.toList []) := by
  obtain ⟨h1, _, h3⟩ := masksOf_spec ops.toList []
  intro i o ho
  have hsp := h3 i o (by simpa using ho)
  simp only [List.length_nil, Nat.zero_add] at hsp h1
  have hi : i < ops.size := (Array.getElem?_eq_some_iff.1 ho).1
  rw [hsp]
  constructor
  · intro e he hbd
    refine ⟨(foldl_bits _ _ _ _).2 (.inr ⟨e, by simpa using he, hbd, .inl rfl⟩), ?_⟩
    rw [List.all_eq_true] at hb
    have := hb o (by have := Array.mem_of_getElem? ho; simpa using this)
    rw [List.all_eq_true] at this
    have := this e (by simpa using he)
    rwa [Nat.blt_eq] at this
  · intro x hx
    rcases (foldl_bits _ _ _ _).1 hx with h | ⟨e, he, hbd, hor⟩
    · simp at h
    · refine ⟨e, by simpa using he, hbd, hor.imp id fun h => ?_⟩
      by_cases hlt : e.on < i
      · simp only [List.getD, List.getElem?_take_of_lt hlt] at h
        exact h
      · rw [List.getD, List.getElem?_eq_none (by rw [List.length_take]; omega)] at h
        simp at h

/-! The plan. -/
theorem item_spec {P : Program} {ops : Array Oper} {t : Item} (ht : t ∈ items P ops.toList) : ops[t.i]? = some t.o ∧ (masksOf ops.toList [])[t.i]? = some t.m ∧ t.k = kdOf P t.o.op := by
  unfold items at ht
  obtain ⟨⟨⟨m, o⟩, i⟩, hm, rfl⟩ := List.mem_map.1 ht
  have hz := List.mk_mem_zipIdx_iff_getElem?.1 hm
  rw [List.getElem?_zip_eq_some] at hz
  exact ⟨by simpa using hz.2, hz.1, rfl⟩

theorem plan_mem {its : List Item} {t : Item} (ht : t ∈ planOf its) : t ∈ its := by
  unfold planOf at ht
  obtain ⟨i, _, hi⟩ := List.mem_filterMap.1 ht
  exact List.mem_of_getElem? hi

theorem placeStays_spec {x y : Item} (h : placeStays x y = true) (t : TypeId) (a : Operand) (hx : x.o.op = .load t a) (d : Nat) (hd : y.o.dst = some d) : a ≠ .tmp d := by
  rintro rfl
  unfold placeStays at h
  simp only [hx, hd] at h
  simp at h

theorem fitsAll_spec {ops : Array Oper} : ∀ {l : List Item}, fitsAll ops l = true →
    l.Pairwise (fun x y => x.m.testBit y.i = false ∧ placeStays x y = true ∧ (y.m.testBit x.i = true ∨ (x.k.fits y.k = true ∧ x.o.apart ops y.o = true))) ∧ ∀ x ∈ l, placeStays x x = true ∧ x.m.testBit x.i = false
  | [], _ => ⟨.nil, by simp⟩
  | x :: r, h => by
    simp only [fitsAll, Bool.and_eq_true, Bool.not_eq_true', List.all_eq_true, Bool.or_eq_true] at h
    obtain ⟨⟨⟨h1, h2⟩, h3⟩, h4⟩ := h
    obtain ⟨k1, k2⟩ := fitsAll_spec h4
    refine ⟨List.pairwise_cons.2 ⟨fun y hy => ⟨(h1 y hy).1.1, (h1 y hy).1.2, (h1 y hy).2⟩, k1⟩, fun y hy => ?_⟩
    rcases List.mem_cons.1 hy with rfl | hy
    · exact ⟨h2, h3⟩
    · exact k2 y hy

theorem keepsOf_mem {x y : Item} {t : TypeId} {a : Operand} (ho : x.o.op = .load t a) (hb : y.m.testBit x.i = false) : ∀ {l : List Item}, x ∈ l → (a, t) ∈ keepsOf l y
  | [], hx => by cases hx
  | z :: l, hx => by
    simp only [keepsOf]
    rcases List.mem_cons.1 hx with e | hx
    · refine List.mem_append_left _ ?_
      rw [← e, ho]
      simp only [hb, cond_false, List.mem_singleton]
    · exact List.mem_append_right _ (keepsOf_mem ho hb hx)

theorem keepsOf_from : ∀ {l : List Item} {y : Item} {q : Operand × TypeId}, q ∈ keepsOf l y → ∃ x ∈ l, x.o.op = .load q.2 q.1
  | [], _, _, h => by simp [keepsOf] at h
  | z :: l, y, q, h => by
    simp only [keepsOf] at h
    rcases List.mem_append.1 h with h | h
    · split at h
      · rename_i t a ho
        cases hb : y.m.testBit z.i <;> simp [hb] at h
        subst h
        exact ⟨z, by simp, ho⟩
      · cases h
    · obtain ⟨x, hx, ho⟩ := keepsOf_from h
      exact ⟨x, by simp [hx], ho⟩

theorem withKeeps_map : ∀ (seen l : List Item), (withKeeps seen l).map (·.1) = l
  | _, [] => rfl
  | seen, y :: r => by simp [withKeeps, withKeeps_map]

theorem withKeeps_spec : ∀ (seen l : List Item) (y : DItem), y ∈ withKeeps seen l → y.1 ∈ l ∧ ∃ l1, (∃ l2, l = l1 ++ y.1 :: l2) ∧ y.2 = bif y.1.k.isEffect then keepsOf (seen ++ l1) y.1 else []
  | _, [], y, h => by simp [withKeeps] at h
  | seen, z :: r, y, h => by
    simp only [withKeeps] at h
    rcases List.mem_cons.1 h with rfl | h
    · exact ⟨by simp, [], ⟨r, rfl⟩, by simp⟩
    · obtain ⟨k1, l1, ⟨l2, k2⟩, k3⟩ := withKeeps_spec _ _ _ h
      exact ⟨by simp [k1], z :: l1, ⟨l2, by rw [k2]; rfl⟩, by rw [k3]; simp⟩

theorem isEffect_iff {k : Kd} : k.isEffect = true ↔ k = .effect := by cases k <;> simp [Kd.isEffect]

theorem withKeeps_pair {ops : Array Oper} : ∀ (l seen : List Item), fitsAll ops (seen ++ l) = true → (withKeeps seen l).Pairwise (Pair ops)
  | [], _, _ => .nil
  | x :: r, seen, h => by
    have hs := fitsAll_spec h
    simp only [withKeeps]
    refine List.pairwise_cons.2 ⟨fun y hy => ?_, withKeeps_pair r (seen ++ [x]) (by simpa using h)⟩
    obtain ⟨hyr, l1, ⟨l2, _⟩, hk⟩ := withKeeps_spec _ _ _ hy
    have hpw := hs.1
    have hxy : x.m.testBit y.1.i = false ∧ placeStays x y.1 = true ∧ (y.1.m.testBit x.i = true ∨ (x.k.fits y.1.k = true ∧ x.o.apart ops y.1.o = true)) :=
      (List.pairwise_cons.1 (List.pairwise_append.1 hpw).2.1).1 y.1 hyr
    refine ⟨hxy.1, fun t a ho d hd => placeStays_spec hxy.2.1 t a ho d hd, hxy.2.2, fun t a ho he hb => ?_, fun q hq d hd => ?_⟩
    · rw [hk, he]
      exact keepsOf_mem ho hb (by simp)
    · cases he : x.k.isEffect with
      | false => simp [he] at hq
      | true =>
        simp only [he, cond_true] at hq
        obtain ⟨z, hz, ho⟩ := keepsOf_from hq
        have := (List.pairwise_append.1 hpw).2.2 z hz y.1 (by simp [hyr])
        exact placeStays_spec this.2.1 q.2 q.1 ho d hd

theorem distinct_spec : ∀ {l : List Nat}, distinct l = true → l.Pairwise (· ≠ ·)
  | [], _ => .nil
  | x :: r, h => by
    simp only [distinct, Bool.and_eq_true, List.all_eq_true, Bool.not_eq_true'] at h
    refine List.pairwise_cons.2 ⟨fun y hy e => ?_, distinct_spec h.2⟩
    have := h.1 y hy
    rw [e] at this
    simp at this

theorem plan_inv {P : Program} {ops : Array Oper} {l : List DItem} (h : plan P ops = some l) : MaskOk ops (masksOf ops.toList []) ∧ l.length = ops.size ∧ Inv P ops (masksOf ops.toList []) l (Array.replicate ops.size false) := by
  unfold plan at h
  simp only at h
  generalize hp : planOf (items P ops.toList) = p at h
  cases hc : (fitsAll ops p && Nat.beq p.length ops.size && distinct (p.map (·.i)) && (List.range ops.size).all (fun i => p.any fun t => Nat.beq t.i i) && ops.toList.all (fun o => o.after.toList.all fun e => Nat.blt e.on ops.size)) with
  | false => rw [hc] at h; cases h
  | true =>
    rw [hc] at h
    cases h
    simp only [Bool.and_eq_true] at hc
    obtain ⟨⟨⟨⟨h1, h2⟩, h3⟩, h4⟩, h5⟩ := hc
    have hlen : (withKeeps [] p).length = ops.size := by
      have := congrArg List.length (withKeeps_map [] p)
      rw [List.length_map] at this
      rw [this]; exact Nat.eq_of_beq_eq_true h2
    have hfs := fitsAll_spec h1
    have hmem : ∀ y ∈ withKeeps [] p, y.1 ∈ items P ops.toList := fun y hy => by
      obtain ⟨k, _⟩ := withKeeps_spec _ _ _ hy
      rw [← hp] at k
      exact plan_mem k
    refine ⟨maskOk h5, hlen, ?_⟩
    exact {
      sz := by simp
      open_ := fun i hi => by
        simp only [Array.getD_eq_getD_getElem?, Array.getElem?_replicate, hi, if_true, Option.getD_some, true_iff]
        rw [List.all_eq_true] at h4
        have := h4 i (by simpa using hi)
        rw [List.any_eq_true] at this
        obtain ⟨t, ht, e⟩ := this
        have : t ∈ (withKeeps [] p).map (·.1) := by rw [withKeeps_map]; exact ht
        obtain ⟨y, hy, rfl⟩ := List.mem_map.1 this
        exact ⟨y, hy, Nat.eq_of_beq_eq_true e⟩
      at_ := fun y hy => by obtain ⟨a, b, _⟩ := item_spec (hmem y hy); exact ⟨a, b⟩
      good := fun y hy => by
        obtain ⟨k1, l1, _, k3⟩ := withKeeps_spec _ _ _ hy
        obtain ⟨p1, p2⟩ := hfs.2 y.1 k1
        refine ⟨fun t a ho d hd => placeStays_spec p1 t a ho d hd, p2, fun hne => ?_, (item_spec (hmem y hy)).2.2⟩
        rw [k3]
        cases he : y.1.k.isEffect with
        | false => rfl
        | true => exact absurd (isEffect_iff.1 he) hne
      pair := withKeeps_pair p [] (by simpa using h1)
      nodup := by
        have := distinct_spec h3
        rw [← withKeeps_map [] p, List.map_map] at this
        exact this
      down := fun i hi => by
        exfalso
        rw [Array.getD_eq_getD_getElem?, Array.getElem?_replicate] at hi
        split at hi <;> simp at hi }

/-! Code. -/
def codeIn (n : Nat) : Code → Bool
  | .region _ ops _ => ops.toList.all (dstIn n)
  | .seq a b => codeIn n a && codeIn n b
  | .cond _ a b => codeIn n a && codeIn n b
  | .block _ a => codeIn n a
  | .loop a => codeIn n a
  | _ => true

def exOf : Exit → Ex → Prop
  | .normal, .normal => True
  | .exit i, .exit j => i = j
  | .ret, .ret => True
  | _, _ => False

section
variable {P : Program} {w0 : World} {ρ0 : Locs} {h0 H0 : AHeap} {n : Nat}

def Post (w0 : World) (ρ0 : Locs) (h0 H0 : AHeap) (n : Nat) (Q : Ex → Slots → AHeap → Prop) : Exit → Act → World → Prop := fun e a w =>
  ∃ e' s h, exOf e e' ∧ St w0 ρ0 h0 H0 n s h a w ∧ Q e' s h

theorem St.drew {s : Slots} {h : AHeap} {a : Act} {w : World} (x : St w0 ρ0 h0 H0 n s h a w) (k : Nat) : St w0 ρ0 h0 H0 n s h a { w with drawn := k } := by
  obtain ⟨ρ, H, q1, q2, q3, q4, q5⟩ := x.ex
  exact ⟨⟨ρ, H, q1, q2, q3, q4.drew k, q5⟩, x.defers, x.size⟩

theorem code_sound (hm : P.follows .mixedOrders = true) : ∀ (c : Code) (Q : Ex → Slots → AHeap → Prop) (s : Slots) (h : AHeap) (a : Act) (w : World), codeIn n c = true → awp P (AC P) c Q s h → St w0 ρ0 h0 H0 n s h a w →
    c.wp P (Post w0 ρ0 h0 H0 n Q) a w
  | .skip, Q, s, h, a, w, _, hx, hS => wp_skip ⟨.normal, s, h, trivial, hS, hx⟩
  | .region id ops draw, Q, s, h, a, w, hc, hx, hS => by
    have hd : ∀ o ∈ ops.toList, dstIn n o = true := List.all_eq_true.1 hc
    have hQ : ∀ s h a w, St w0 ρ0 h0 H0 n s h a w → Q .normal s h → Post w0 ρ0 h0 H0 n Q .normal a w := fun s h a w k1 k2 => ⟨.normal, s, h, trivial, k1, k2⟩
    cases draw with
    | false =>
      refine wp_region ?_
      rw [List.range_eq_range', show ops.size = ops.toList.length by simp]
      exact ops_sound hd hQ ops.toList 0 s h a w rfl hx hS
    | true =>
      simp only [awp] at hx
      split at hx
      · rename_i l hl
        obtain ⟨h1, h2, h3⟩ := plan_inv hl
        refine wp_region_any hm ?_
        rw [← h2]
        exact draw_sound h1 hd hQ l.length l _ s h a _ rfl (by rw [h2]; exact h3) hx (hS.drew _)
      · exact hx.elim
  | .seq x y, Q, s, h, a, w, hc, hx, hS => by
    simp only [codeIn, Bool.and_eq_true] at hc
    refine wp_seq (wp_mono (code_sound hm x _ s h a w hc.1 hx hS) ?_)
    rintro e a' w' ⟨e', s', h', he, hS', hq⟩
    cases e <;> cases e' <;> (try exact he.elim)
    · exact code_sound hm y Q s' h' a' w' hc.2 hq hS'
    · exact ⟨_, s', h', he, hS', hq⟩
    · exact ⟨_, s', h', he, hS', hq⟩
  | .cond c x y, Q, s, h, a, w, hc, hx, hS => by
    simp only [codeIn, Bool.and_eq_true] at hc
    simp only [awp] at hx
    obtain ⟨ρ, H, q1, q2, q3, q4, q5⟩ := hS.ex
    have hr := evS_rel q5 c
    unfold A.cond at hx
    split at hx
    · rename_i b hb
      rw [hb] at hr
      exact wp_cond_split (t := b) hr (fun e => code_sound hm x Q s h a w hc.1 (hx.1 e) hS) (fun e => code_sound hm y Q s h a w hc.2 (hx.2 e) hS)
    · exact hx.elim
  | .block id c, Q, s, h, a, w, hc, hx, hS => by
    refine wp_block (wp_mono (code_sound hm c _ s h a w hc hx hS) ?_)
    rintro e a' w' ⟨e', s', h', he, hS', hq⟩
    cases e <;> cases e' <;> (try exact he.elim)
    · exact ⟨.normal, s', h', trivial, hS', hq⟩
    · rename_i i j
      have he' : i = j := he
      subst he'
      simp only [Exit.inBlock, Ex.inBlock] at hq ⊢
      by_cases hi : i = id
      · rw [if_pos hi]
        rw [show Nat.beq i id = true by simp [hi]] at hq
        exact ⟨.normal, s', h', trivial, hS', hq⟩
      · rw [if_neg hi]
        rw [show Nat.beq i id = false by rw [← Bool.not_eq_true, Nat.beq_eq]; exact hi] at hq
        exact ⟨.exit i, s', h', rfl, hS', hq⟩
    · exact ⟨.ret, s', h', trivial, hS', hq⟩
  | .loop c, Q, s, h, a, w, hc, hx, hS => by
    intro b k cs
    have key := hx (fun s h => ∀ a w, St w0 ρ0 h0 H0 n s h a w → ∃ e a' w', Post w0 ρ0 h0 H0 n Q e a' w' ∧ Arrives P (lone (b.at a (.code c :: .inLoop c :: k)) cs w) b k cs e a' w') ?_ a w hS
    · obtain ⟨e, a', w', hq, harr⟩ := key
      exact ⟨e, a', w', hq, .of_steps (.one step_loop) harr⟩
    · intro s h hbody a w hS
      obtain ⟨e, a₁, w₁, ⟨e', s', h', he, hS', hq⟩, harr⟩ := code_sound hm c _ s h a w hc hbody hS b (.inLoop c :: k) cs
      cases e <;> cases e' <;> (try exact he.elim)
      · obtain ⟨e₂, a₂, w₂, hq₂, harr₂⟩ := hq a₁ w₁ hS'
        exact ⟨e₂, a₂, w₂, hq₂, .of_steps (Steps.trans harr (.one step_inLoop)) harr₂⟩
      · exact ⟨_, a₁, w₁, ⟨_, s', h', he, hS', hq⟩, .pass (x := .inLoop c) rfl (fun _ _ => .inl (by simp)) harr⟩
      · exact ⟨_, a₁, w₁, ⟨_, s', h', he, hS', hq⟩, .pass (x := .inLoop c) rfl (fun _ _ => .inl (by simp)) harr⟩
  | .exit id, Q, s, h, a, w, _, hx, hS => wp_exit ⟨.exit id, s, h, rfl, hS, hx⟩
  | .ret, Q, s, h, a, w, _, hx, hS => wp_ret ⟨.ret, s, h, trivial, hS, hx⟩
  | .rangeFunc _ _ _ _, _, _, _, _, _, _, hx, _ => hx.elim
  | .scope _, _, _, _, _, _, _, hx, _ => hx.elim
  | .label _, _, _, _, _, _, _, hx, _ => hx.elim
  | .goto _, _, _, _, _, _, _, hx, _ => hx.elim
  | .refuse _, _, _, _, _, _, _, hx, _ => hx.elim

/-! Calls. -/
def resOne (a : Act) : ResultVar → Sem Value
  | .tmp t => pure (a.tmps.getD t Go.undef)
  | .cell x t => do loadVar t (← asAddr (a.tmps.getD x Go.undef))

theorem resS_run {w0 : World} {ρ : Locs} {h H : AHeap} {s : Slots} {a : Act} {w : World} (hR : R w0 ρ H w) (hle : h.le H) (hs : SRel ρ s a) : ∀ (rs : List ResultVar) (l : List AVal), resS P h s rs = some l →
    ∃ vs : List Value, (rs.mapM (resOne a)).run P w = .ok vs w ∧ VRels ρ l vs
  | [], l, h => by cases h; exact ⟨[], rfl, rfl⟩
  | .cell x t :: r, l, hh => by
    simp only [resS, joinV] at hh
    split at hh
    · rename_i v l' hv hl
      cases hh
      obtain ⟨vs, k1, k2⟩ := resS_run hR hle hs r l' hl
      obtain ⟨ad, u, e1, e2, e3⟩ := resCell_run (P := P) hR hle (hs x) hv
      refine ⟨u :: vs, ?_, ⟨_, _, rfl, e3, k2⟩⟩
      rw [List.mapM_cons]
      simp only [resOne, e1, asAddr, Sem.run_bind, Sem.run_pure, Result.andThen_ok, e2, k1]
    · cases hh
  | .tmp t :: r, l, hh => by
    simp only [resS, joinV] at hh
    split at hh
    · rename_i v l' hv hl
      cases hv
      cases hh
      obtain ⟨vs, k1, k2⟩ := resS_run hR hle hs r l' hl
      refine ⟨a.tmps.getD t Go.undef :: vs, ?_, ⟨_, _, rfl, hs t, k2⟩⟩
      rw [List.mapM_cons]
      simp only [resOne, Sem.run_bind, Sem.run_pure, Result.andThen_ok, k1]
    · cases hh

theorem results_run {w0 : World} {ρ : Locs} {m H : AHeap} {s : Slots} {a : Act} {w : World} (hR : R w0 ρ H w) (hle : m.le H) (hs : SRel ρ s a) {fn : Func} {v : AVal} (h : resV P m s fn.results.toList = some v) : ∃ u, (results fn a.tmps).run P w = .ok u w ∧ VRel ρ v u := by
  unfold resV oneOf at h
  cases hl : resS P m s fn.results.toList with
  | none => rw [hl] at h; cases h
  | some l =>
    obtain ⟨vs, k1, k2⟩ := resS_run (P := P) hR hle hs _ l hl
    have hr : (results fn a.tmps).run P w = .ok (if h : vs.toArray.size = 1 then vs.toArray[0] else .tuple vs.toArray) w := by
      have h0 : results fn a.tmps = (do
          let vs ← fn.results.mapM (resOne a)
          pure (if h : vs.size = 1 then vs[0] else .tuple vs)) := by
        unfold results
        congr 1
      rw [h0, Array.mapM_eq_mapM_toList]
      simp only [Sem.run_bind, Sem.run_map, k1, Result.andThen_ok, Sem.run_pure]
    rw [hl] at h
    rw [hr]
    cases l with
    | nil =>
      cases h
      have : vs = [] := k2
      subst this
      exact ⟨_, rfl, [], rfl, rfl⟩
    | cons x r =>
      obtain ⟨u, us, rfl, k3, k4⟩ := k2
      cases r with
      | nil =>
        cases h
        have : us = [] := k4
        subst this
        exact ⟨u, rfl, k3⟩
      | cons y r =>
        cases h
        obtain ⟨u2, us2, rfl, k5, k6⟩ := k4
        refine ⟨.tuple (u :: u2 :: us2).toArray, ?_, _, rfl, ⟨_, _, rfl, k3, _, _, rfl, k5, k6⟩⟩
        simp

theorem AC_intro (hm : P.follows .mixedOrders = true) {f : FuncId} {fn : Func} {c : Code} (hf : P.funcs[f]? = some fn) (hb : fn.body = some c) (hcall : ∀ (va : Array Value) (w : World), (callFunc f va).run P w = .ok (.enter f va) w)
    (hc : codeIn fn.ntmps c = true) {args : List AVal} (hl : args.length ≤ fn.ntmps) {h : AHeap} {Q : AVal → AHeap → Prop} (hx : awp P (AC P) c (retQ P fn.results.toList Q) (startS args) h) : AC P f args h Q := by
  refine ⟨hcall, fun w0 ρ H w va hle hR hv => ?_⟩
  refine calls_of_wp hf hb ?_
  have hlen := hv.length
  have hS : St w0 ρ h H fn.ntmps (startS args) h { tmps := va.toArray ++ Array.replicate (fn.ntmps - va.toArray.size) undef, defers := [] } w := by
    refine ⟨⟨ρ, H, Locs.le_refl ρ, hle, Fr.refl h H, hR, fun k => ?_⟩, rfl, by simp; omega⟩
    unfold startS
    cases ha : args[k]? with
    | none => simp only [List.getD, ha]; exact trivial
    | some x =>
      obtain ⟨u, k1, k2⟩ := hv.get ha
      have hk : k < va.length := (List.getElem?_eq_some_iff.1 k1).1
      have : (va.toArray ++ Array.replicate (fn.ntmps - va.toArray.size) Go.undef).getD k Go.undef = u := by
        simp [Array.getElem?_append, hk]
        have := (List.getElem?_eq_some_iff.1 k1).2
        exact this
      rw [show (List.getD args k AVal.undef) = x by simp [List.getD, ha]]
      show VRel ρ x ((va.toArray ++ Array.replicate (fn.ntmps - va.toArray.size) Go.undef).getD k Go.undef)
      rw [this]; exact k2
  refine wp_mono (code_sound hm c _ _ h _ w hc hx hS) ?_
  rintro e a' w' ⟨e', s', h', he, hS', hq⟩
  obtain ⟨ρ', H', q1, q2, q3, q4, q5⟩ := hS'.ex
  have fin : ∀ e'', (e'' = .normal ∨ e'' = .ret) → A.pv (resV P h' s' fn.results.toList) (fun v => Q v h') → bodyPost P fn (fun e w' => ∃ v, e = .returned v ∧ After w0 ρ h H Q v w') e'' a' w' := by
    intro e'' hor hq
    obtain ⟨v, hv, hQ⟩ := pv_some hq
    obtain ⟨u, k1, k2⟩ := results_run (P := P) q4 q2 q5 hv
    have : a'.defers = [] ∧ ∃ v, (results fn a'.tmps).run P w' = .ok v w' ∧ ∃ v_1, Ending.returned v = .returned v_1 ∧ After w0 ρ h H Q v_1 w' :=
      ⟨hS'.defers, u, k1, u, rfl, ⟨⟨v, ρ', h', H', q1, k2, hQ, q2, q3, q4⟩⟩⟩
    rcases hor with rfl | rfl <;> exact this
  cases e <;> cases e' <;> (try exact he.elim)
  · exact fin _ (.inl rfl) hq
  · exact hq.elim
  · exact fin _ (.inr rfl) hq
end
end Go.Ab

/- What is proved: the reading of code in the abstract memory is monotone, leaves slots that are not written, and may be taken in pieces: what follows a piece, or a loop's round, is told by the values of a few slots. -/
namespace Go.Ab

def CMono (C : CSem) : Prop := ∀ f args h (Q Q' : AVal → AHeap → Prop), (∀ v h, Q v h → Q' v h) → C f args h Q → C f args h Q'
theorem AC_cmono (P : Program) : CMono (AC P) := AC_mono P

section
variable {P : Program} {C : CSem}

theorem stepWp_mono (hC : CMono C) {ops : List Oper} {o : Oper} {s : Slots} {h : AHeap} {K K' : AVal → AHeap → Prop} (hk : ∀ v h, K v h → K' v h) (x : stepWp P C ops o s h K) : stepWp P C ops o s h K' :=
  stepWp_sh.2 (sh_mono hC hk (stepWp_sh.1 x))
theorem stepWpD_mono (hC : CMono C) {ops : List Oper} {o : Oper} {ks : List (Operand × TypeId)} {s : Slots} {h : AHeap} {K K' : AVal → AHeap → Prop} (hk : ∀ v h, K v h → K' v h) (x : stepWpD P C ops o ks s h K) : stepWpD P C ops o ks s h K' := by
  rw [stepWpD_sh hC] at x ⊢
  exact sh_mono hC (fun v h ⟨a, b⟩ => ⟨a, hk v h b⟩) x

def Agree (l : List Nat) (s s' : Slots) : Prop := ∀ k, k ∉ l → s' k = s k
theorem Agree.refl (l : List Nat) (s : Slots) : Agree l s s := fun _ _ => rfl
theorem Agree.trans {l : List Nat} {a b c : Slots} (x : Agree l a b) (y : Agree l b c) : Agree l a c := fun k hk => (y k hk).trans (x k hk)
theorem Agree.mono {l l' : List Nat} {a b : Slots} (hl : ∀ k ∈ l, k ∈ l') (x : Agree l a b) : Agree l' a b := fun k hk => x k fun h => hk (hl k h)
theorem Agree.put {l : List Nat} (s : Slots) {d : Option Nat} (v : AVal) (hd : ∀ k, d = some k → k ∈ l) : Agree l s (putS s d v) := fun k hk => by
  cases d with
  | none => rfl
  | some d => exact putS_other s v fun e => hk (e ▸ hd d rfl)

theorem awp_mono (hC : CMono C) : ∀ (c : Code) {Q Q' : Ex → Slots → AHeap → Prop}, (∀ e s h, Q e s h → Q' e s h) → ∀ {s : Slots} {h : AHeap}, awp P C c Q s h → awp P C c Q' s h
  | .skip, _, _, hq, _, _, x => hq _ _ _ x
  | .ret, _, _, hq, _, _, x => hq _ _ _ x
  | .exit _, _, _, hq, _, _, x => hq _ _ _ x
  | .region _ ops false, Q, Q', hq, s, h, x => by
    have : ∀ (l : List Oper) (s : Slots) (h : AHeap), opsWp P C ops.toList l (Q .normal) s h → opsWp P C ops.toList l (Q' .normal) s h := by
      intro l
      induction l with
      | nil => exact fun s h x => hq _ _ _ x
      | cons o r ih => exact fun s h x => stepWp_mono hC (fun v h y => ih _ _ y) x
    exact this _ _ _ x
  | .region _ ops true, Q, Q', hq, s, h, x => by
    have : ∀ (l : List (Item × List (Operand × TypeId))) (s : Slots) (h : AHeap), opsWpD P C ops.toList l (Q .normal) s h → opsWpD P C ops.toList l (Q' .normal) s h := by
      intro l
      induction l with
      | nil => exact fun s h x => hq _ _ _ x
      | cons o r ih => exact fun s h x => stepWpD_mono hC (fun v h y => ih _ _ y) x
    simp only [awp] at x ⊢
    split at x
    · exact this _ _ _ x
    · exact x.elim
  | .seq a b, Q, Q', hq, s, h, x => awp_mono hC a (fun e s h y => by
      cases e with
      | normal => exact awp_mono hC b hq y
      | exit _ => exact hq _ _ _ y
      | ret => exact hq _ _ _ y) x
  | .cond c a b, Q, Q', hq, s, h, x => by
    simp only [awp, A.cond] at x ⊢
    split at x
    · exact ⟨fun e => awp_mono hC a hq (x.1 e), fun e => awp_mono hC b hq (x.2 e)⟩
    · exact x.elim
  | .block id b, Q, Q', hq, s, h, x => awp_mono hC b (fun e s h y => by
      cases e with
      | normal => exact hq _ _ _ y
      | ret => exact hq _ _ _ y
      | exit j =>
        simp only [Ex.inBlock] at y ⊢
        cases hj : Nat.beq j id with
        | true => rw [hj] at y; exact hq _ _ _ y
        | false => rw [hj] at y; exact hq _ _ _ y) x
  | .loop c, Q, Q', hq, s, h, x => fun X hX => x X fun s h y => hX s h (awp_mono hC c (fun e s h z => by
      cases e with
      | normal => exact z
      | exit _ => exact hq _ _ _ z
      | ret => exact hq _ _ _ z) y)
  | .rangeFunc .., _, _, _, _, _, x => x.elim
  | .scope _, _, _, _, _, _, x => x.elim
  | .label _, _, _, _, _, _, x => x.elim
  | .goto _, _, _, _, _, _, x => x.elim
  | .refuse _, _, _, _, _, _, x => x.elim

/-- A loop, told by the values of the slots that it turns. -/
def LoopR (F : List AVal → AHeap → (List AVal → AHeap → Prop) → Prop) (vs : List AVal) (h : AHeap) : Prop :=
  ∀ Y : List AVal → AHeap → Prop, (∀ vs h, F vs h Y → Y vs h) → Y vs h

/-- The code at a place: 0 and 1: the first and second part; a block's and a loop's body: 0. -/
def Code.at : Code → List Nat → Code
  | c, [] => c
  | .seq a _, 0 :: r => Code.at a r
  | .seq _ b, _ :: r => Code.at b r
  | .cond _ a _, 0 :: r => Code.at a r
  | .cond _ _ b, _ :: r => Code.at b r
  | .block _ b, _ :: r => Code.at b r
  | .loop b, _ :: r => Code.at b r
  | _, _ => .skip

end

theorem callFunc_enter {P : Program} {f : FuncId} {fn : Func} (hf : P.funcs[f]? = some fn) (hb : fn.body.isNone = false) (hn : (fn.name == "runtime.NumGoroutine") = false) (va : Array Value) (w : World) :
    (callFunc f va).run P w = .ok (.enter f va) w := by
  have hb' : fn.body ≠ none := fun e => by rw [e] at hb; cases hb
  have hn' : fn.name ≠ "runtime.NumGoroutine" := fun e => by rw [e] at hn; cases hn
  unfold callFunc
  simp [Sem.run_bind, run_program, hf, hb', hn']

/-- A loop that ends: what holds at its head, by a measure. -/
theorem LoopR.intro {F : List AVal → AHeap → (List AVal → AHeap → Prop) → Prop} {vs : List AVal} {h : AHeap} (I : Nat → List AVal → AHeap → Prop) (n : Nat)
    (hF : ∀ (Y : List AVal → AHeap → Prop) (n : Nat) (vs : List AVal) (h : AHeap), I n vs h → (∀ m vs h, m < n → I m vs h → Y vs h) → F vs h Y) (h0 : I n vs h) : LoopR F vs h := by
  intro Y hY
  have : ∀ n vs h, I n vs h → Y vs h := by
    intro n
    induction n using Nat.strongRecOn with
    | ind n ih => exact fun vs h hi => hY vs h (hF Y n vs h hi fun m vs h hm => ih m hm vs h)
  exact this n vs h h0
end Go.Ab

/- What is told: code read with its own variables (those whose places nobody else sees) taken out of the memory: their contents stand in slots. Definitions alone. -/
namespace Go.Ab

/-- The slots that lead to such variables; the slots that lead to places within them; their contents stand at B and on; the orders in which regions are read whose order is drawn: a row of operations, each with the loads ahead that stand to it in no order. -/
structure Bx where
  bs : List Nat
  ds : List Nat
  B : Nat
  pl : List (Nat × List (Nat × List Nat))

abbrev Gd := Option (Nat × Bool)
/-- What derived slots lead to: slot, guard, variable, place. -/
abbrev BEnv := List (Nat × Gd × Nat × Nat)

def memB : List Nat → Nat → Bool
  | [], _ => false
  | x :: r, k => bif Nat.beq x k then true else memB r k

def guardFits : Gd → Gd → Bool
  | none, _ => true
  | some (j, true), some (i, true) => Nat.beq j i
  | some (j, false), some (i, false) => Nat.beq j i
  | _, _ => false

namespace Bx
variable (I : Bx)
def clean (k : Nat) : Bool := Nat.blt k I.B && (!memB I.bs k && !memB I.ds k)
def okO : Operand → Bool
  | .tmp t => I.clean t
  | _ => true
def okD : Option Nat → Bool
  | none => true
  | some d => I.clean d
def find (g : Gd) (t : Nat) : BEnv → Option (Nat × Nat)
  | [] => none
  | (e, g', d, off) :: r => bif Nat.beq e t then (bif guardFits g' g then some (d, off) else none) else find g t r
def place (E : BEnv) (g : Gd) : Operand → Option (Nat × Nat)
  | .tmp t => bif memB I.bs t then some (t, 0) else find g t E
  | _ => none
def okG (ops : List Oper) : Gd → Bool
  | none => true
  | some (j, _) => match gslot ops j with
    | some t => I.clean t
    | none => false
end Bx

def slotIs (o : Option Nat) (d : Nat) : Bool :=
  match o with
  | some t => Nat.beq t d
  | none => false
def guardIs (ops : List Oper) (d : Nat) : Gd → Bool
  | none => false
  | some (j, _) => slotIs (gslot ops j) d
/-- What is left of an environment when a slot is written. -/
def killB (ops : List Oper) (d : Nat) : BEnv → BEnv
  | [] => []
  | (e, g, b, off) :: r => bif guardIs ops d g then killB ops d r else bif Nat.beq e d then killB ops d r else bif Nat.beq b d then killB ops d r else (e, g, b, off) :: killB ops d r
def killO (ops : List Oper) (d : Option Nat) (E : BEnv) : BEnv :=
  match d with
  | none => E
  | some d => killB ops d E

namespace A
/-- A variable is there. -/
def al (v : AVal) (p : Prop) : Prop :=
  match v with
  | .agg _ => p
  | _ => False
def boxN (n : Nat) (v : AVal) : Option AVal :=
  match v with
  | .agg cs => if cs.length = n then some (.agg cs) else none
  | _ => none
def box1 (v : AVal) : Option AVal := bif v.isCell then some (.agg [v]) else none
/-- Loads that stand to an operation in no order must not tell whether it has been. -/
def keepS (h : AHeap) (ls : List (AVal × Option Nat)) (K : AVal → AHeap → Prop) : AVal → AHeap → Prop :=
  fun v h' => (∀ p ∈ ls, match p.2 with | none => ∃ x, ldv h p.1 = some x ∧ ldv h' p.1 = some x | some n => ∃ x, ldnv h p.1 n = some x ∧ ldnv h' p.1 n = some x) ∧ K v h'
def gdO (ops : List Oper) (g : Gd) (s : Slots) (h : AHeap) (M : (AVal → AHeap → Prop) → Prop) (K : AVal → AHeap → Prop) : Prop :=
  match g with
  | none => M K
  | some (j, b) => match gslot ops j with
    | some t => A.gd h (s t) b M K
    | none => False
end A
namespace V
/-- A variable's content with a part of it turned. -/
def setF (off : Nat) (v c : AVal) : Option AVal :=
  match c with
  | .agg cs => match put1 off v cs with | some cs => some (.agg cs) | none => none
  | _ => none
def setN (off n : Nat) (v c : AVal) : Option AVal :=
  match c with
  | .agg cs => match putN off n v cs with | some cs => some (.agg cs) | none => none
  | _ => none
end V

def optAgg : Option (List AVal) → Option AVal
  | some cs => some (.agg cs)
  | none => none

section
variable (P : Program) (C : CSem) (I : Bx) (ops : List Oper)

/-- Loads that stand in no order to an operation that turns none of one's own variables. -/
def keepsB (E : BEnv) (s : Slots) : List (Operand × TypeId) → (List (Operand × TypeId) → Prop) → Prop
  | [], k => k []
  | (.tmp t, ty) :: r, k => bif memB I.bs t then A.al (s (I.B + t)) (keepsB E s r k) else bif I.clean t then keepsB E s r (fun l => k ((.tmp t, ty) :: l)) else bif memB (E.map (·.1)) t then keepsB E s r k else False
  | q :: r, k => keepsB E s r (fun l => k (q :: l))

/-- The same, of an operation that turns the variable d. -/
def keepsOff (E : BEnv) (d : Nat) (s : Slots) : List (Operand × TypeId) → Prop → Prop
  | [], p => p
  | (x, _) :: r, p => match I.place E none x with
    | some (d', _) => bif Nat.beq d' d then False else A.al (s (I.B + d')) (keepsOff E d s r p)
    | none => False

def genB (o : Oper) (ks : List (Operand × TypeId)) (E : BEnv) (s : Slots) (h : AHeap) (K : BEnv → Slots → AHeap → Prop) : Prop :=
  keepsB I E s ks fun ks' =>
    match ks' with
    | [] => stepWp P C ops o s h fun v h => K (killO ops o.dst E) (putS s o.dst v) h
    | ks' => A.gdO ops o.guard s h (fun K => opWp P C o.op s h (A.keepS h (keepsAt P s ks') K)) fun v h => K (killO ops o.dst E) (putS s o.dst v) h

/-- A variable that is made. -/
def newB (d : Nat) (c : Option AVal) (E : BEnv) (s : Slots) (h : AHeap) (K : BEnv → Slots → AHeap → Prop) : Prop :=
  A.pv c fun c => K (killB ops d E) (putS s (some (I.B + d)) c) h

def gNone : Gd → Bool
  | none => true
  | some _ => false
def gNoneD : Option Nat → Bool
  | none => true
  | some _ => false
def kNone : List (Operand × TypeId) → Bool
  | [] => true
  | _ => false


/-- A place within a variable, in a derived slot. -/
def derB (o : Oper) (d off : Nat) (E : BEnv) (s : Slots) (h : AHeap) (K : BEnv → Slots → AHeap → Prop) : Prop :=
  match o.dst with
  | some e => A.al (s (I.B + d)) (A.gdO ops o.guard s h (fun K => K .undef h) fun _ h => K ((e, o.guard, d, off) :: killB ops e E) (putS s (some e) .undef) h)
  | none => False

def stepB (o : Oper) (ks : List (Operand × TypeId)) (E : BEnv) (s : Slots) (h : AHeap) (K : BEnv → Slots → AHeap → Prop) : Prop :=
  match o.op with
  | .alloc t => match o.dst with
    | some d => bif memB I.bs d then newB I ops d (optAgg (zeroOf P t)) E s h K else genB P C I ops o ks E s h K
    | none => genB P C I ops o ks E s h K
  | .box t x => match o.dst with
    | some d => bif memB I.bs d then newB I ops d (bif isAggB P t then A.boxN (P.cellsOf t) (evS s x) else A.box1 (evS s x)) E s h K else genB P C I ops o ks E s h K
    | none => genB P C I ops o ks E s h K
  | .load t x => match I.place E o.guard x with
    | some (d, off) => (match P.underlying t with
      | none => False
      | some _ => A.gdO ops o.guard s h (fun K => A.pv (bif isAggB P t then V.fieldN off (P.cellsOf t) (s (I.B + d)) else V.field1 off (s (I.B + d))) fun v => K v h) fun v h => K (killO ops o.dst E) (putS s o.dst v) h)
    | none => genB P C I ops o ks E s h K
  | .store t x v => match I.place E o.guard x with
    | some (d, off) => keepsOff I E d s ks (bif isAggB P t then A.pv (V.setN off (P.cellsOf t) (evS s v) (s (I.B + d))) fun c => K E (putS s (some (I.B + d)) c) h
        else bif Nat.beq (P.cellsOf t) 1 then A.pv (V.setF off (evS s v) (s (I.B + d))) fun c => K E (putS s (some (I.B + d)) c) h else False)
    | none => genB P C I ops o ks E s h K
  | .fieldAddr t x f => match I.place E o.guard x with
    | some (d, off) => (match P.underlying t with
      | some (.struct fs) => (match fs[f]? with
        | some fd => bif Nat.beq (P.cellsOf fd.type) 0 then False else derB I ops o d (off + fd.offset) E s h K
        | none => False)
      | _ => False)
    | none => genB P C I ops o ks E s h K
  | .nilCheck x => match I.place E o.guard x with
    | some (d, off) => derB I ops o d off E s h K
    | none => genB P C I ops o ks E s h K
  | _ => genB P C I ops o ks E s h K

def opsB : List (Oper × List (Operand × TypeId)) → (Slots → AHeap → Prop) → BEnv → Slots → AHeap → Prop
  | [], Q, _, s, h => Q s h
  | (o, ks) :: r, Q, E, s, h => stepB P C I ops o ks E s h fun E s h => opsB r Q E s h
end

section
variable (P : Program) (I : Bx) (ops : List Oper)
/-- The environment behind an operation. -/
def envB (o : Oper) (E : BEnv) : BEnv :=
  match o.op with
  | .alloc _ | .box _ _ => match o.dst with
    | some d => bif memB I.bs d then killB ops d E else killO ops o.dst E
    | none => killO ops o.dst E
  | .store _ x _ => match I.place E o.guard x with
    | some _ => E
    | none => killO ops o.dst E
  | .fieldAddr t x f => match I.place E o.guard x with
    | some (d, off) => (match P.underlying t with
      | some (.struct fs) => (match fs[f]? with
        | some fd => (match o.dst with
          | some e => (e, o.guard, d, off + fd.offset) :: killB ops e E
          | none => E)
        | none => E)
      | _ => E)
    | none => killO ops o.dst E
  | .nilCheck x => match I.place E o.guard x with
    | some (d, off) => (match o.dst with
      | some e => (e, o.guard, d, off) :: killB ops e E
      | none => E)
    | none => killO ops o.dst E
  | _ => killO ops o.dst E
/-! What is asked of code read so. -/
def chkG (o : Oper) : Bool := o.op.operands.toList.all I.okO && (I.okD o.dst && I.okG ops o.guard)
def chkD (o : Oper) (ks : List (Operand × TypeId)) : Bool := kNone ks && (match o.dst with
  | some e => memB I.ds e && (!memB I.bs e && (Nat.blt e I.B && I.okG ops o.guard))
  | none => false)
def chkS (o : Oper) (ks : List (Operand × TypeId)) (E : BEnv) : Bool :=
  match o.op with
  | .alloc _ => match o.dst with
    | some d => bif memB I.bs d then gNone o.guard && (kNone ks && Nat.blt d I.B) else chkG I ops o
    | none => chkG I ops o
  | .box _ x => match o.dst with
    | some d => bif memB I.bs d then gNone o.guard && (kNone ks && (Nat.blt d I.B && I.okO x)) else chkG I ops o
    | none => chkG I ops o
  | .load _ x => match I.place E o.guard x with
    | some _ => kNone ks && (I.okD o.dst && I.okG ops o.guard)
    | none => chkG I ops o
  | .store _ x v => match I.place E o.guard x with
    | some _ => gNone o.guard && (I.okO v && gNoneD o.dst)
    | none => chkG I ops o
  | .fieldAddr _ x _ => match I.place E o.guard x with
    | some _ => chkD I ops o ks
    | none => chkG I ops o
  | .nilCheck x => match I.place E o.guard x with
    | some _ => chkD I ops o ks
    | none => chkG I ops o
  | _ => chkG I ops o
def chkO : List (Oper × List (Operand × TypeId)) → BEnv → Bool
  | [], _ => true
  | (o, ks) :: r, E => chkS I ops o ks E && chkO r (envB P I ops o E)
end

def plain (l : List Oper) : List (Oper × List (Operand × TypeId)) := l.map fun o => (o, [])
def drawn (l : List (Item × List (Operand × TypeId))) : List (Oper × List (Operand × TypeId)) := l.map fun t => (t.1.o, t.2)

/-! The order of a region, by numbers. -/
def keepsI : List Item → Item → List Nat
  | [], _ => []
  | x :: r, y => (match x.o.op with
      | .load _ _ => bif y.m.testBit x.i then [] else [x.i]
      | _ => []) ++ keepsI r y
def withKeepsI : List Item → List Item → List (List Nat)
  | _, [] => []
  | seen, y :: r => (bif y.k.isEffect then keepsI seen y else []) :: withKeepsI (seen ++ [y]) r
def natsEq : List Nat → List Nat → Bool
  | [], [] => true
  | x :: r, y :: s => Nat.beq x y && natsEq r s
  | _, _ => false
def natssEq : List (List Nat) → List (List Nat) → Bool
  | [], [] => true
  | x :: r, y :: s => natsEq x y && natssEq r s
  | _, _ => false
def opAt (ops : List Oper) (i : Nat) : Oper := (ops[i]?).getD default
def loadsAt (ops : List Oper) : List Nat → List (Operand × TypeId)
  | [] => []
  | j :: r => match (opAt ops j).op with
    | .load t a => (a, t) :: loadsAt ops r
    | _ => loadsAt ops r
def litOf (ops : List Oper) (pl : List (Nat × List Nat)) : List (Oper × List (Operand × TypeId)) := pl.map fun q => (opAt ops q.1, loadsAt ops q.2)
def planLit (P : Program) (ops : Array Oper) (pl : List (Nat × List Nat)) : Bool :=
  match plan P ops with
  | some l => natsEq (l.map fun t => t.1.i) (pl.map fun q => q.1) && natssEq (withKeepsI [] (l.map fun t => t.1)) (pl.map fun q => q.2)
  | none => false
def plOf (k : Nat) : List (Nat × List (Nat × List Nat)) → Option (List (Nat × List Nat))
  | [] => none
  | (i, l) :: r => bif Nat.beq i k then some l else plOf k r

def bwp (P : Program) (C : CSem) (I : Bx) : Code → (Ex → Slots → AHeap → Prop) → Slots → AHeap → Prop
  | .skip, Q, s, h => Q .normal s h
  | .region k ops draw, Q, s, h =>
    match draw with
    | false => opsB P C I ops.toList (plain ops.toList) (Q .normal) [] s h
    | true => match plOf k I.pl with
      | some pl => opsB P C I ops.toList (litOf ops.toList pl) (Q .normal) [] s h
      | none => False
  | .seq a b, Q, s, h => bwp P C I a (Ex.then (bwp P C I b Q) Q) s h
  | .cond c x y, Q, s, h => A.cond (evS s c) (bwp P C I x Q s h) (bwp P C I y Q s h)
  | .block id b, Q, s, h => bwp P C I b (Ex.inBlock id Q) s h
  | .loop c, Q, s, h => ∀ X : Slots → AHeap → Prop, (∀ s h, bwp P C I c (Ex.then X Q) s h → X s h) → X s h
  | .exit id, Q, s, h => Q (.exit id) s h
  | .ret, Q, s, h => Q .ret s h
  | _, _, _, _ => False

/-- A result that stands in a variable of one's own, or elsewhere. -/
def resB (P : Program) (I : Bx) (h : AHeap) (s : Slots) : List ResultVar → Option (List AVal)
  | [] => some []
  | .tmp t :: r => bif I.clean t then joinV (some (s t)) (resB P I h s r) else none
  | .cell t ty :: r => bif memB I.bs t then (match P.underlying ty with
      | none => none
      | some _ => joinV (bif isAggB P ty then V.fieldN 0 (P.cellsOf ty) (s (I.B + t)) else V.field1 0 (s (I.B + t))) (resB P I h s r)) else (bif I.clean t then joinV (resCell P h (s t) ty) (resB P I h s r) else none)
def retB (P : Program) (I : Bx) (rs : List ResultVar) (Q : AVal → AHeap → Prop) : Ex → Slots → AHeap → Prop
  | .ret, s, h | .normal, s, h => A.pv (oneOf (resB P I h s rs)) fun v => Q v h
  | .exit _, _, _ => False

def chkC (P : Program) (I : Bx) : Code → Bool
  | .region k ops draw => match draw with
    | false => chkO P I ops.toList (plain ops.toList) []
    | true => match plOf k I.pl with
      | some pl => planLit P ops pl && chkO P I ops.toList (litOf ops.toList pl) []
      | none => false
  | .seq a b => chkC P I a && chkC P I b
  | .cond c a b => I.okO c && (chkC P I a && chkC P I b)
  | .block _ b => chkC P I b
  | .loop b => chkC P I b
  | _ => true

end Go.Ab

/- What is proved: code may be read with its own variables taken out of the memory: each operation. -/
namespace Go.Ab

/-- Calls are monotone, and leave what they do not know. -/
structure CGood (C : CSem) : Prop where
  mono : CMono C
  frame : ∀ f args (h' h : AHeap) (K : AVal → AHeap → Prop), h'.le h → C f args h' K → C f args h fun v h1 => ∃ h1', K v h1' ∧ h1'.le h1 ∧ Fr h' h h1' h1

/-- What is known of a memory behind a call that knew h' of it, where h was known. -/
def AHeap.join (h' h h1' : AHeap) : AHeap := ⟨fun id => match h1' id with
  | some b => some b
  | none => match h' id with
    | none => h id
    | some _ => none, by
  obtain ⟨N, k⟩ := h.2
  obtain ⟨M, m⟩ := h1'.2
  refine ⟨max N M, fun i hi => ?_⟩
  have e1 : h1' i = none := m i (by omega)
  have e2 : h i = none := k i (by omega)
  simp only [e1, e2]
  split <;> rfl⟩

theorem AC_good (P : Program) : CGood (AC P) where
  mono := AC_mono P
  frame := by
    intro f args h' h K hle x
    refine ⟨x.1, fun w0 ρ H w va h1 h2 h3 => ?_⟩
    refine (x.2 w0 ρ H w va (AHeap.le_trans hle h1) h2 h3).mono fun e w' ⟨v, e1, e2⟩ => ⟨v, e1, ?_⟩
    obtain ⟨a, ρ', h1', H1, k1, k2, k3, k4, k5, k6⟩ := e2.ex
    have hj : ∀ id b, AHeap.join h' h h1' id = some b → h1' id = some b ∨ (h1' id = none ∧ h' id = none ∧ h id = some b) := fun id b hb => by
      simp only [AHeap.join] at hb
      split at hb
      · rename_i b' e; exact .inl (by rw [e]; exact hb)
      · rename_i e
        split at hb
        · rename_i e'; exact .inr ⟨e, e', hb⟩
        · cases hb
    refine ⟨⟨a, ρ', AHeap.join h' h h1', H1, k1, k2, ⟨h1', k3, ?_, ?_⟩, ?_, ?_, k6⟩⟩
    · intro id b hb
      simp only [AHeap.join, hb]
    · intro id h0 b hb
      obtain ⟨m1, m2⟩ := k5 id h0 b (h1 id b hb)
      exact ⟨by simp only [AHeap.join, m2, h0, hb], m2⟩
    · intro id b hb
      rcases hj id b hb with e | ⟨_, e2, e3⟩
      · exact k4 id b e
      · exact (k5 id e2 b (h1 id b e3)).1
    · intro id h0 b hb
      have h0' : h' id = none := by
        cases e : h' id with
        | none => rfl
        | some b' => rw [hle id b' e] at h0; cases h0
      obtain ⟨m1, m2⟩ := k5 id h0' b hb
      exact ⟨m1, by simp only [AHeap.join, m2, h0', h0]⟩

theorem AC_drop {P : Program} {f : Nat} {args : List AVal} {h : AHeap} {Q : AVal → AHeap → Prop} (x : AC P f args h fun v h => ∃ h', Q v h' ∧ h'.le h) : AC P f args h Q := by
  refine ⟨x.1, fun w0 ρ H w va h1 h2 h3 => ?_⟩
  refine (x.2 w0 ρ H w va h1 h2 h3).mono fun e w' ⟨v, e1, e2⟩ => ⟨v, e1, ?_⟩
  obtain ⟨a, ρ', h1', H1, k1, k2, ⟨h'', k3, kl⟩, k4, k5, k6⟩ := e2.ex
  refine ⟨⟨a, ρ', h'', H1, k1, k2, k3, AHeap.le_trans kl k4, fun id h0 b hb => ?_, k6⟩⟩
  obtain ⟨m1, m2⟩ := k5 id h0 b hb
  refine ⟨m1, ?_⟩
  cases e : h'' id with
  | none => rfl
  | some b' => rw [kl id b' e] at m2; cases m2

theorem run_frame {C : CSem} (hC : CGood C) {h' h : AHeap} {K : AVal → AHeap → Prop} {x : Sh} (hle : h'.le h) (hkn : x.known h') (hx : x.run C h' K) : x.run C h fun v h1 => ∃ h1', K v h1' ∧ h1'.le h1 ∧ Fr h' h h1' h1 := by
  cases x with
  | val v => exact ⟨h', hx, hle, Fr.refl h' h⟩
  | heap id b v =>
    obtain ⟨b0, hb0⟩ := hkn
    exact ⟨upd h' id b, hx, upd_le b hle, Fr.upd hb0⟩
  | new b mk =>
    intro id hid
    have h0 : h' id = none := by
      cases e : h' id with
      | none => rfl
      | some b' => rw [hle id b' e] at hid; cases hid
    exact ⟨upd h' id b, hx id h0, upd_le b hle, Fr.fresh hid⟩
  | call f args => exact hC.frame _ _ _ _ _ hle hx
  | fail => exact hx

structure RelB (I : Bx) (s' : Slots) (h' : AHeap) (s : Slots) (h : AHeap) (β : Nat → Nat) : Prop where
  le : h'.le h
  cl : ∀ k, I.clean k = true → s' k = s k
  bx : ∀ d cs, memB I.bs d = true → s' (I.B + d) = .agg cs → s d = .ptr (β d) 0 0 ∧ h (β d) = some (blkOf cs) ∧ h' (β d) = none
  ap : ∀ d e cs cs', memB I.bs d = true → memB I.bs e = true → d ≠ e → s' (I.B + d) = .agg cs → s' (I.B + e) = .agg cs' → β d ≠ β e

def NotHeld (ops : List Oper) (s : Slots) (g : Gd) : Prop := ∃ j b t, g = some (j, b) ∧ gslot ops j = some t ∧ s t ≠ .bool b
def Held (ops : List Oper) (s : Slots) (g : Gd) : Prop := ∀ j b, g = some (j, b) → ∃ t, gslot ops j = some t ∧ s t = .bool b

structure EnvAt (I : Bx) (ops : List Oper) (s' s : Slots) (β : Nat → Nat) (e : Nat) (g : Gd) (d off : Nat) : Prop where
  inBs : memB I.bs d = true
  inDs : memB I.ds e = true
  noB : memB I.bs e = false
  lt : e < I.B
  al : ∃ cs, s' (I.B + d) = .agg cs
  at_ : s e = .ptr (β d) 0 off ∨ (s e = .tup [] ∧ NotHeld ops s g)
def EnvOk (I : Bx) (ops : List Oper) (E : BEnv) (s' s : Slots) (β : Nat → Nat) : Prop := ∀ e g d off, (e, g, d, off) ∈ E → EnvAt I ops s' s β e g d off

theorem clean_spec {I : Bx} {k : Nat} (h : I.clean k = true) : k < I.B ∧ memB I.bs k = false ∧ memB I.ds k = false := by
  simp only [Bx.clean, Bool.and_eq_true, Bool.not_eq_true', Nat.blt_eq] at h
  exact h
theorem nbeq_false {a b : Nat} (h : a ≠ b) : Nat.beq a b = false := by rw [← Bool.not_eq_true, Nat.beq_eq]; exact h
theorem nbeq_eq {a b : Nat} (h : Nat.beq a b = true) : a = b := Nat.eq_of_beq_eq_true h

theorem killB_spec {ops : List Oper} {d : Nat} : ∀ {E : BEnv} {e : Nat} {g : Gd} {b off : Nat}, (e, g, b, off) ∈ killB ops d E → (e, g, b, off) ∈ E ∧ e ≠ d ∧ b ≠ d ∧ ∀ j x, g = some (j, x) → gslot ops j ≠ some d
  | [], _, _, _, _, h => by simp [killB] at h
  | (e', g', b', off') :: r, e, g, b, off, h => by
    unfold killB at h
    have rec_ : (e, g, b, off) ∈ killB ops d r → (e, g, b, off) ∈ (e', g', b', off') :: r ∧ e ≠ d ∧ b ≠ d ∧ ∀ j x, g = some (j, x) → gslot ops j ≠ some d := fun h => by
      obtain ⟨k1, k2⟩ := killB_spec h
      exact ⟨List.mem_cons_of_mem _ k1, k2⟩
    cases hg : guardIs ops d g' with
    | true => rw [hg] at h; exact rec_ h
    | false =>
      rw [hg] at h
      cases he : Nat.beq e' d with
      | true => rw [he] at h; exact rec_ h
      | false =>
        rw [he] at h
        cases hb : Nat.beq b' d with
        | true => rw [hb] at h; exact rec_ h
        | false =>
          rw [hb] at h
          rcases List.mem_cons.1 h with h | h
          · cases h
            refine ⟨List.mem_cons_self .., fun hh => ?_, fun hh => ?_, fun j x hj hs => ?_⟩
            · rw [hh, Nat.beq_refl] at he; cases he
            · rw [hh, Nat.beq_refl] at hb; cases hb
            · subst hj
              simp only [guardIs, hs, slotIs, Nat.beq_refl] at hg
              cases hg
          · exact rec_ h

theorem guardFits_spec {ops : List Oper} {s : Slots} {a b : Gd} (h : guardFits a b = true) (hb : Held ops s b) (ha : NotHeld ops s a) : False := by
  obtain ⟨j, x, t, e1, e2, e3⟩ := ha
  subst e1
  cases b with
  | none => cases x <;> simp [guardFits] at h
  | some p =>
    obtain ⟨i, y⟩ := p
    obtain ⟨t', k1, k2⟩ := hb i y rfl
    cases x <;> cases y <;> simp only [guardFits] at h
    · have := nbeq_eq h; subst this; rw [e2] at k1; cases k1; exact e3 k2
    · cases h
    · cases h
    · have := nbeq_eq h; subst this; rw [e2] at k1; cases k1; exact e3 k2

section
variable {P : Program} {C : CSem} {I : Bx} {ops : List Oper} {E : BEnv} {s' s : Slots} {h' h : AHeap} {β : Nat → Nat}

theorem find_spec {g : Gd} {t d off : Nat} : ∀ {E : BEnv}, Bx.find g t E = some (d, off) → ∃ g', (t, g', d, off) ∈ E ∧ guardFits g' g = true
  | [], h => by simp [Bx.find] at h
  | (e, g', d', off') :: r, h => by
    unfold Bx.find at h
    cases he : Nat.beq e t with
    | true =>
      rw [he] at h
      cases hg : guardFits g' g with
      | true =>
        rw [hg] at h
        cases h
        have := nbeq_eq he
        subst this
        exact ⟨g', List.mem_cons_self .., hg⟩
      | false => rw [hg] at h; cases h
    | false =>
      rw [he] at h
      obtain ⟨g', k1, k2⟩ := find_spec h
      exact ⟨g', List.mem_cons_of_mem _ k1, k2⟩

theorem place_bs {g : Gd} {x : Operand} {d off : Nat} (hE : EnvOk I ops E s' s β) (hp : I.place E g x = some (d, off)) : memB I.bs d = true := by
  cases x <;> (try (simp [Bx.place] at hp; done))
  rename_i t
  simp only [Bx.place] at hp
  cases hb : memB I.bs t with
  | true => rw [hb] at hp; cases hp; exact hb
  | false =>
    rw [hb] at hp
    obtain ⟨g', k1, _⟩ := find_spec hp
    exact (hE _ _ _ _ k1).inBs

theorem place_spec {g : Gd} {x : Operand} {d off : Nat} {cs : List AVal} (hR : RelB I s' h' s h β) (hE : EnvOk I ops E s' s β) (hp : I.place E g x = some (d, off)) (ha : s' (I.B + d) = .agg cs) (hg : Held ops s g) : evS s x = .ptr (β d) 0 off := by
  cases x <;> (try (simp [Bx.place] at hp; done))
  rename_i t
  simp only [Bx.place] at hp
  cases hb : memB I.bs t with
  | true =>
    rw [hb] at hp
    cases hp
    exact (hR.bx _ _ hb ha).1
  | false =>
    rw [hb] at hp
    obtain ⟨g', k1, k2⟩ := find_spec hp
    rcases (hE _ _ _ _ k1).at_ with e | ⟨_, e⟩
    · exact e
    · exact (guardFits_spec k2 hg e).elim

/-- The same, of a load that is not asked whether it was. -/
theorem place_any {x : Operand} {d off : Nat} {cs : List AVal} (hR : RelB I s' h' s h β) (hE : EnvOk I ops E s' s β) (hp : I.place E none x = some (d, off)) (ha : s' (I.B + d) = .agg cs) : evS s x = .ptr (β d) 0 off :=
  place_spec hR hE hp ha fun _ _ e => by cases e

theorem rel_put {dst : Option Nat} {v : AVal} {h1' h1 : AHeap} (hR : RelB I s' h' s h β) (hd : I.okD dst = true) (hle : h1'.le h1) (hf : Fr h' h h1' h1) : RelB I (putS s' dst v) h1' (putS s dst v) h1 β := by
  have hs : ∀ k, (∀ d, dst = some d → k ≠ d) → putS s' dst v k = s' k ∧ putS s dst v k = s k := fun k hk => by
    cases dst with
    | none => exact ⟨rfl, rfl⟩
    | some d => exact ⟨putS_other _ _ (hk d rfl), putS_other _ _ (hk d rfl)⟩
  have hB : ∀ d, I.B + d ≠ dst.getD (I.B + d + 1) := fun d => by
    cases dst with
    | none => simp
    | some e => have := (clean_spec (I := I) (k := e) hd).1; simp; omega
  have hB' : ∀ d, putS s' dst v (I.B + d) = s' (I.B + d) := fun d => (hs _ fun e he => by subst he; exact hB d).1
  refine ⟨hle, fun k hk => ?_, fun d cs hb hc => ?_, fun d e cs cs' hb he hne hc hc' => ?_⟩
  · cases dst with
    | none => exact hR.cl k hk
    | some d =>
      by_cases e : k = d
      · subst e; rw [putS_same, putS_same]
      · rw [putS_other _ _ e, putS_other _ _ e]; exact hR.cl k hk
  · rw [hB'] at hc
    obtain ⟨k1, k2, k3⟩ := hR.bx d cs hb hc
    obtain ⟨m1, m2⟩ := hf _ k3 _ k2
    refine ⟨?_, m1, m2⟩
    rw [(hs d fun e he => ?_).2]
    · exact k1
    · subst he
      intro e'; subst e'
      have := (clean_spec (I := I) (k := d) hd).2.1
      rw [this] at hb; cases hb
  · rw [hB'] at hc hc'
    exact hR.ap d e cs cs' hb he hne hc hc'

theorem env_kill {dst : Option Nat} {v : AVal} (hE : EnvOk I ops E s' s β) (hd : I.okD dst = true) : EnvOk I ops (killO ops dst E) (putS s' dst v) (putS s dst v) β := by
  cases dst with
  | none => exact hE
  | some d =>
    intro e g b off hm
    obtain ⟨k1, k2, k3, k4⟩ := killB_spec hm
    have a := hE _ _ _ _ k1
    have hdB := (clean_spec (I := I) (k := d) hd).1
    refine ⟨a.inBs, a.inDs, a.noB, a.lt, ?_, ?_⟩
    · rw [putS_other _ _ (by omega)]; exact a.al
    · rw [putS_other _ _ k2]
      rcases a.at_ with e | ⟨e, j, x, t, e1, e2, e3⟩
      · exact .inl e
      · refine .inr ⟨e, j, x, t, e1, e2, ?_⟩
        rw [putS_other]
        · exact e3
        · intro hh; subst hh; exact k4 j x e1 e2

theorem ops_clean (hR : RelB I s' h' s h β) {x : Operand} (hx : I.okO x = true) : evS s' x = evS s x := by
  cases x <;> (try rfl)
  exact hR.cl _ hx

theorem gd_cases {o : Oper} {K : AVal → AHeap → Prop} {M : (AVal → AHeap → Prop) → Prop} (hR : RelB I s' h' s h β) (hG : I.okG ops o.guard = true) (hx : A.gdO ops o.guard s' h' M K) :
    ((∀ H, stepSh P ops o s H = shOf P o.op (evS s) H) ∧ M K ∧ Held ops s o.guard) ∨ ((∀ H, stepSh P ops o s H = .val (.tup [])) ∧ K (.tup []) h' ∧ NotHeld ops s o.guard) := by
  unfold stepSh
  cases hg : o.guard with
  | none =>
    rw [hg] at hx
    exact .inl ⟨fun _ => rfl, hx, fun _ _ e => by cases e⟩
  | some p =>
    obtain ⟨j, b⟩ := p
    rw [hg] at hx hG
    simp only [A.gdO, Bx.okG] at hx hG
    cases ht : gslot ops j with
    | none => rw [ht] at hx; exact hx.elim
    | some t =>
      rw [ht] at hx hG
      simp only at hx hG ⊢
      rw [hR.cl t hG] at hx
      cases hv : s t <;> rw [hv] at hx <;> (try exact hx.elim)
      · rename_i b'
        simp only [A.gd] at hx
        by_cases e : b' = b
        · refine .inl ⟨fun _ => by simp [ht, hv, e], hx.1 e, fun j' b'' e' => ?_⟩
          cases e'
          exact ⟨t, ht, by rw [hv, e]⟩
        · exact .inr ⟨fun _ => by simp [ht, hv, e], hx.2 e, j, b, t, rfl, ht, by rw [hv]; simpa using e⟩
      · rename_i l
        cases l with
        | nil => exact .inr ⟨fun _ => by simp [ht, hv], hx, j, b, t, rfl, ht, by rw [hv]; simp⟩
        | cons _ _ => exact hx.elim

theorem step_clean {o : Oper} (hR : RelB I s' h' s h β) (ho : o.op.operands.toList.all I.okO = true) (hG : I.okG ops o.guard = true) (H : AHeap) : stepSh P ops o s' H = stepSh P ops o s H := by
  have h1 : ∀ x ∈ o.op.operands, evS s' x = evS s x := fun x hx => ops_clean hR (List.all_eq_true.1 ho x (by simpa using hx))
  unfold stepSh
  split
  · exact shOf_congr h1
  · rename_i j b hg
    rw [hg] at hG
    simp only [Bx.okG] at hG
    cases ht : gslot ops j with
    | none => rfl
    | some t =>
      rw [ht] at hG
      simp only [hR.cl t hG]
      split
      · split
        · exact shOf_congr h1
        · rfl
      · rfl
      · rfl

/-- What a step has to show. -/
def Goal (P : Program) (C : CSem) (I : Bx) (ops : List Oper) (o : Oper) (ks : List (Operand × TypeId)) (E : BEnv) (s : Slots) (h : AHeap) (K : BEnv → Slots → AHeap → Prop) : Prop :=
  (stepSh P ops o s h).run C h (A.keep h (keepsAt P s ks) fun v h1 => ∃ s1' h1' β1, RelB I s1' h1' (putS s o.dst v) h1 β1 ∧ EnvOk I ops (envB P I ops o E) s1' (putS s o.dst v) β1 ∧ K (envB P I ops o E) s1' h1')

theorem keeps_split (hR : RelB I s' h' s h β) (hE : EnvOk I ops E s' s β) : ∀ (ks : List (Operand × TypeId)) (k : List (Operand × TypeId) → Prop), keepsB I E s' ks k →
    ∃ ks', k ks' ∧ (∀ q ∈ ks', I.okO q.1 = true) ∧ ∀ q ∈ ks, q ∈ ks' ∨ (∃ id, evS s q.1 = .tup [] ∨ ∃ off b, evS s q.1 = .ptr id 0 off ∧ h id = some b ∧ h' id = none)
  | [], k, hx => ⟨[], hx, fun _ h => (by cases h), fun _ h => (by cases h)⟩
  | (x, ty) :: r, k, hx => by
    have other : I.okO x = true → keepsB I E s' r (fun l => k ((x, ty) :: l)) → ∃ ks', k ks' ∧ (∀ q ∈ ks', I.okO q.1 = true) ∧ ∀ q ∈ (x, ty) :: r, q ∈ ks' ∨ (∃ id, evS s q.1 = .tup [] ∨ ∃ off b, evS s q.1 = .ptr id 0 off ∧ h id = some b ∧ h' id = none) := fun ho hx => by
      obtain ⟨l, k1, k2, k3⟩ := keeps_split hR hE r _ hx
      refine ⟨(x, ty) :: l, k1, fun q hq => ?_, fun q hq => ?_⟩
      · rcases List.mem_cons.1 hq with rfl | hq
        · exact ho
        · exact k2 q hq
      · rcases List.mem_cons.1 hq with rfl | hq
        · exact .inl (List.mem_cons_self ..)
        · rcases k3 q hq with e | e
          · exact .inl (List.mem_cons_of_mem _ e)
          · exact .inr e
    have skip : (∃ id, evS s x = .tup [] ∨ ∃ off b, evS s x = .ptr id 0 off ∧ h id = some b ∧ h' id = none) → keepsB I E s' r k → ∃ ks', k ks' ∧ (∀ q ∈ ks', I.okO q.1 = true) ∧ ∀ q ∈ (x, ty) :: r, q ∈ ks' ∨ (∃ id, evS s q.1 = .tup [] ∨ ∃ off b, evS s q.1 = .ptr id 0 off ∧ h id = some b ∧ h' id = none) := fun hp hx => by
      obtain ⟨l, k1, k2, k3⟩ := keeps_split hR hE r _ hx
      refine ⟨l, k1, k2, fun q hq => ?_⟩
      rcases List.mem_cons.1 hq with rfl | hq
      · exact .inr hp
      · exact k3 q hq
    cases x <;> (try exact other rfl hx)
    rename_i t
    simp only [keepsB] at hx
    cases hb : memB I.bs t with
    | true =>
      rw [hb] at hx
      simp only [cond_true, A.al] at hx
      split at hx
      · rename_i cs hc
        obtain ⟨k1, k2, k3⟩ := hR.bx t cs hb hc
        exact skip ⟨β t, .inr ⟨0, _, k1, k2, k3⟩⟩ hx
      · exact hx.elim
    | false =>
      rw [hb] at hx
      simp only [cond_false] at hx
      cases hc : I.clean t with
      | true => rw [hc] at hx; exact other hc hx
      | false =>
        rw [hc] at hx
        simp only [cond_false] at hx
        cases hm : memB (E.map (·.1)) t with
        | false => rw [hm] at hx; exact hx.elim
        | true =>
          rw [hm] at hx
          have : ∃ g d off, (t, g, d, off) ∈ E := by
            have mem : ∀ (E : BEnv), memB (E.map (·.1)) t = true → ∃ g d off, (t, g, d, off) ∈ E := by
              intro E
              induction E with
              | nil => intro h; simp [memB] at h
              | cons a r ih =>
                intro h
                simp only [List.map_cons, memB] at h
                cases ha : Nat.beq a.1 t with
                | true =>
                  have := nbeq_eq ha
                  obtain ⟨a1, a2, a3, a4⟩ := a
                  simp only at this
                  subst this
                  exact ⟨a2, a3, a4, List.mem_cons_self ..⟩
                | false =>
                  rw [ha] at h
                  obtain ⟨g, d, off, k⟩ := ih h
                  exact ⟨g, d, off, List.mem_cons_of_mem _ k⟩
            exact mem E hm
          obtain ⟨g, d, off, hmem⟩ := this
          have a := hE _ _ _ _ hmem
          obtain ⟨cs, hcs⟩ := a.al
          obtain ⟨_, k2, k3⟩ := hR.bx d cs a.inBs hcs
          rcases a.at_ with e | ⟨e, _⟩
          · exact skip ⟨β d, .inr ⟨off, _, e, k2, k3⟩⟩ hx
          · exact skip ⟨0, .inl e⟩ hx

theorem sameAt_of {H H1 : AHeap} {p : AVal} {n : Option Nat} {id : Nat} (hp : p = .tup [] ∨ ∃ off, p = .ptr id 0 off) (he : H1 id = H id) : sameAt H1 H (p, n) := by
  rcases hp with rfl | ⟨off, rfl⟩ <;> cases n <;> simp [sameAt, A.ldv, A.ldnv, he]

theorem gen_sound (hC : CGood C) {o : Oper} {ks : List (Operand × TypeId)} {K : BEnv → Slots → AHeap → Prop} (hR : RelB I s' h' s h β) (hE : EnvOk I ops E s' s β) (hok : chkG I ops o = true) (hen : envB P I ops o E = killO ops o.dst E) (hx : genB P C I ops o ks E s' h' K) : Goal P C I ops o ks E s h K := by
  unfold genB at hx
  simp only [chkG, Bool.and_eq_true] at hok
  obtain ⟨ho, hd, hG⟩ := hok
  obtain ⟨ks', hx, hcl, hks⟩ := keeps_split hR hE ks _ hx
  have H1 : (stepSh P ops o s' h').run C h' (A.keepS h' (keepsAt P s' ks') fun v h1 => K (killO ops o.dst E) (putS s' o.dst v) h1) ∨ ((∀ H, stepSh P ops o s H = .val (.tup [])) ∧ K (killO ops o.dst E) (putS s' o.dst (.tup [])) h') := by
    cases ks' with
    | nil =>
      refine .inl (sh_mono hC.mono (fun v h1 k => ⟨fun p hp => (by cases hp), k⟩) (stepWp_sh.1 hx))
    | cons q r =>
      rcases gd_cases (P := P) (o := o) hR hG hx with ⟨k1, k2, k3⟩ | ⟨k1, k2, k3⟩
      · refine .inl ?_
        have := opWp_sh.1 k2
        rw [show stepSh P ops o s' h' = shOf P o.op (evS s') h' from ?_]
        · exact this
        · rw [step_clean hR ho hG, k1]
          exact (shOf_congr fun x hx => ops_clean hR (List.all_eq_true.1 ho x (by simpa using hx))).symm
      · exact .inr ⟨k1, k2⟩
  unfold Goal
  rw [hen]
  rcases H1 with H1 | ⟨k1, k2⟩
  · rw [step_clean hR ho hG] at H1
    have hnf : stepSh P ops o s h' ≠ .fail := fun e => by rw [e] at H1; exact H1
    rw [stepSh_le hR.le hnf]
    refine sh_mono hC.mono (fun v h1 ⟨h1', ⟨m0, m1⟩, m2, m3⟩ => ⟨fun p hp => ?_, _, h1', β, rel_put hR hd m2 m3, env_kill hE hd, m1⟩) (run_frame hC hR.le stepSh_known H1)
    simp only [keepsAt, List.mem_map] at hp
    obtain ⟨q, hq, rfl⟩ := hp
    rcases hks q hq with hq | ⟨id, hq⟩
    · have := m0 (evS s' q.1, bif isAggB P q.2 then some (P.cellsOf q.2) else none) (List.mem_map.2 ⟨q, hq, rfl⟩)
      rw [ops_clean hR (hcl q hq)] at this
      cases hn : (bif isAggB P q.2 then some (P.cellsOf q.2) else none) with
      | none =>
        rw [hn] at this
        obtain ⟨x, x1, x2⟩ := this
        simp only
        rw [ldv_le m2 x2, ldv_le hR.le x1]
      | some n =>
        rw [hn] at this
        obtain ⟨x, x1, x2⟩ := this
        simp only
        rw [ldnv_le m2 x2, ldnv_le hR.le x1]
    · rcases hq with e | ⟨off, b, e, e1, e2⟩
      · rw [e]
        cases (bif isAggB P q.2 then some (P.cellsOf q.2) else none) <;> simp [A.ldv, A.ldnv]
      · exact sameAt_of (id := id) (.inr ⟨off, e⟩) (by rw [(m3 id e2 b e1).1, e1])
  · rw [k1]
    exact ⟨fun p _ => sameAt.refl h p, _, h', β, rel_put hR hd hR.le (Fr.refl h' h), env_kill hE hd, k2⟩
end
end Go.Ab

/- What is proved: code may be read with its own variables taken out of the memory: operations on these, regions, code. -/
set_option linter.unusedVariables false
namespace Go.Ab

section
variable {P : Program} {C : CSem} {I : Bx} {ops : List Oper} {E : BEnv} {s' s : Slots} {h' h : AHeap} {β : Nat → Nat}

theorem al_some {v : AVal} {p : Prop} (h : A.al v p) : (∃ cs, v = .agg cs) ∧ p := by
  unfold A.al at h
  split at h
  · exact ⟨⟨_, rfl⟩, h⟩
  · exact h.elim

theorem okD_of {d : Option Nat} (hd : gNoneD d = true) : d = none := by
  cases d with
  | none => rfl
  | some _ => cases hd
theorem gNone_of {g : Gd} (hg : gNone g = true) : g = none := by
  cases g with
  | none => rfl
  | some _ => cases hg
theorem kNone_of {ks : List (Operand × TypeId)} (hk : kNone ks = true) : ks = [] := by
  cases ks with
  | nil => rfl
  | cons _ _ => cases hk

/-- A variable is made. -/
theorem new_sound {o : Oper} {d : Nat} {z : Option (List AVal)} {c : Option AVal} {K : BEnv → Slots → AHeap → Prop} (hR : RelB I s' h' s h β) (hE : EnvOk I ops E s' s β)
    (hd : o.dst = some d) (hb : memB I.bs d = true) (hlt : d < I.B) (hsh : stepSh P ops o s h = Sh.newO z fun id => .ptr id 0 0) (hc : ∀ v, c = some v → ∃ cs, v = .agg cs ∧ z = some cs) (hen : envB P I ops o E = killB ops d E) (hx : newB I ops d c E s' h' K) : Goal P C I ops o [] E s h K := by
  unfold newB at hx
  obtain ⟨v, h1, h2⟩ := pv_some hx
  obtain ⟨cs, rfl, rfl⟩ := hc v h1
  unfold Goal
  rw [hsh, hd, hen]
  intro id hid
  refine ⟨fun p hp => (by cases hp), _, h', fun k => bif Nat.beq k d then id else β k, ?_, ?_, h2⟩
  · have hne : ∀ {k cs'}, memB I.bs k = true → s' (I.B + k) = .agg cs' → β k ≠ id := fun hk hck e => by
      have := (hR.bx _ _ hk hck).2.1
      rw [e, hid] at this; cases this
    have hB : ∀ {k}, k ≠ d → putS s' (some (I.B + d)) (.agg cs) (I.B + k) = s' (I.B + k) := fun hk => putS_other _ _ (by omega)
    refine ⟨AHeap.le_trans hR.le (le_upd _ hid), fun k hk => ?_, fun k cs' hk hck => ?_, fun k e cs1 cs2 hk he hke hc1 hc2 => ?_⟩
    · have hk' := clean_spec hk
      rw [putS_other _ _ (by omega), putS_other]
      · exact hR.cl k hk
      · intro e; subst e; rw [hb] at hk'; exact absurd hk'.2.1 (by simp)
    · by_cases e : k = d
      · subst e
        rw [putS_same] at hck ⊢
        cases hck
        simp only [Nat.beq_refl, cond_true]
        refine ⟨trivial, upd_same .., ?_⟩
        cases e : h' id with
        | none => rfl
        | some b => rw [hR.le _ _ e] at hid; cases hid
      · rw [hB e] at hck
        obtain ⟨k1, k2, k3⟩ := hR.bx k cs' hk hck
        simp only [nbeq_false e, cond_false]
        refine ⟨?_, ?_, k3⟩
        · rw [putS_other _ _ e]; exact k1
        · rw [upd_other _ _ (hne hk hck)]; exact k2
    · show (bif Nat.beq k d then id else β k) ≠ bif Nat.beq e d then id else β e
      by_cases e1 : k = d
      · subst e1
        rw [hB (Ne.symm hke)] at hc2
        rw [Nat.beq_refl, nbeq_false (Ne.symm hke)]
        exact (hne he hc2).symm
      · by_cases e2 : e = d
        · subst e2
          rw [hB e1] at hc1
          rw [Nat.beq_refl, nbeq_false e1]
          exact hne hk hc1
        · rw [hB e1] at hc1
          rw [hB e2] at hc2
          rw [nbeq_false e1, nbeq_false e2]
          exact hR.ap k e cs1 cs2 hk he hke hc1 hc2
  · intro e g b off hm
    obtain ⟨k1, k2, k3, k4⟩ := killB_spec hm
    have a := hE _ _ _ _ k1
    refine ⟨a.inBs, a.inDs, a.noB, a.lt, ?_, ?_⟩
    · rw [putS_other _ _ (by omega)]; exact a.al
    · simp only [nbeq_false k3, cond_false]
      rw [putS_other _ _ k2]
      rcases a.at_ with e | ⟨e, j, x, t, e1, e2, e3⟩
      · exact .inl e
      · refine .inr ⟨e, j, x, t, e1, e2, ?_⟩
        rw [putS_other]
        · exact e3
        · intro hh; subst hh; exact k4 j x e1 e2

/-- A variable is read. -/
theorem load_sound {o : Oper} {t : TypeId} {x : Operand} {d off : Nat} {K : BEnv → Slots → AHeap → Prop} (hR : RelB I s' h' s h β) (hE : EnvOk I ops E s' s β) (ho : o.op = .load t x) (hp : I.place E o.guard x = some (d, off))
    (hd : I.okD o.dst = true) (hG : I.okG ops o.guard = true) (hen : envB P I ops o E = killO ops o.dst E) {u : TypeDesc} (hu : P.underlying t = some u)
    (hx : A.gdO ops o.guard s' h' (fun K => A.pv (bif isAggB P t then V.fieldN off (P.cellsOf t) (s' (I.B + d)) else V.field1 off (s' (I.B + d))) fun v => K v h') fun v h => K (killO ops o.dst E) (putS s' o.dst v) h) : Goal P C I ops o [] E s h K := by
  unfold Goal
  rw [hen]
  have fin : ∀ v, K (killO ops o.dst E) (putS s' o.dst v) h' → (A.keep h (keepsAt P s []) fun v h1 => ∃ s1' h1' β1, RelB I s1' h1' (putS s o.dst v) h1 β1 ∧ EnvOk I ops (killO ops o.dst E) s1' (putS s o.dst v) β1 ∧ K (killO ops o.dst E) s1' h1') v h := fun v hk =>
    ⟨fun p hp => (by cases hp), _, h', β, rel_put hR hd hR.le (Fr.refl h' h), env_kill hE hd, hk⟩
  rcases gd_cases (P := P) (o := o) hR hG hx with ⟨k1, k2, k3⟩ | ⟨k1, k2, k3⟩
  · obtain ⟨v, h1, h2⟩ := pv_some k2
    have hb := place_bs hE hp
    have hal : ∃ cs, s' (I.B + d) = .agg cs := by
      cases hs : s' (I.B + d) with
      | agg cs => exact ⟨cs, rfl⟩
      | _ => rw [hs] at h1; cases hg : isAggB P t <;> rw [hg] at h1 <;> simp [V.fieldN, V.field1] at h1
    obtain ⟨cs, hcs⟩ := hal
    have hv := place_spec hR hE hp hcs k3
    obtain ⟨_, m2, _⟩ := hR.bx d cs hb hcs
    rw [hcs] at h1
    rw [k1, ho]
    simp only [shOf, hu, hv]
    have e1 : A.ldnv h (.ptr (β d) 0 off) (P.cellsOf t) = V.fieldN off (P.cellsOf t) (.agg cs) := by
      simp only [A.ldnv, m2, blkOf, List.lookup, beq_self_eq_true, V.fieldN]
    have e2 : A.ldv h (.ptr (β d) 0 off) = V.field1 off (.agg cs) := by
      simp only [A.ldv, m2, blkOf, List.lookup, beq_self_eq_true, V.field1]
      split
      · rfl
      · rw [List.getElem?_eq_none (by omega)]
    rw [e1, e2]
    have : (bif isAggB P t then Sh.pv (V.fieldN off (P.cellsOf t) (.agg cs)) else Sh.pv (V.field1 off (.agg cs))) = .val v := by
      cases hg : isAggB P t <;> rw [hg] at h1 <;> simp only [cond_true, cond_false] at h1 ⊢ <;> rw [h1] <;> rfl
    rw [this]
    exact fin v h2
  · rw [k1]; exact fin _ k2

theorem put1_len {off : Nat} {v : AVal} {cs cs' : List AVal} (h : V.put1 off v cs = some cs') : off < cs.length ∧ cs'.length = cs.length := by
  unfold V.put1 at h
  cases hv : v.isCell with
  | false => rw [hv] at h; cases h
  | true =>
    rw [hv] at h
    simp only [cond_true] at h
    split at h
    · rename_i hlt; cases h; exact ⟨hlt, by simp⟩
    · cases h
theorem putN_len {off n : Nat} {v : AVal} {cs cs' : List AVal} (h : V.putN off n v cs = some cs') : off + n ≤ cs.length ∧ cs'.length = cs.length := by
  unfold V.putN at h
  split at h
  · split at h
    · rename_i hh; cases h; exact ⟨hh.2, by simp; omega⟩
    · cases h
  · cases h

theorem sh_st_blk {id off n : Nat} {cs cs' : List AVal} {f : List AVal → Option (List AVal)} (hb : h id = some (blkOf cs)) (hf : f cs = some cs') (hle : off + n ≤ cs.length) (hl : cs'.length = cs.length) :
    Sh.st h (.ptr id 0 off) f n 0 .undef = .heap id (blkOf cs') .undef := by
  have h1 : Nat.ble (0 + off + n) cs.length = true := by rw [Nat.ble_eq]; omega
  simp only [Sh.st, hb, blkOf, List.lookup, beq_self_eq_true, Bool.true_and, h1, cond_true, hf, hl]

theorem keepsOff_spec {d : Nat} (hR : RelB I s' h' s h β) (hE : EnvOk I ops E s' s β) : ∀ (ks : List (Operand × TypeId)) (p : Prop), keepsOff I E d s' ks p →
    p ∧ ∀ q ∈ ks, ∃ d' off' cs2, memB I.bs d' = true ∧ d' ≠ d ∧ s' (I.B + d') = .agg cs2 ∧ evS s q.1 = .ptr (β d') 0 off'
  | [], p, hx => ⟨hx, fun _ h => (by cases h)⟩
  | (x, ty) :: r, p, hx => by
    simp only [keepsOff] at hx
    split at hx
    · rename_i d' off' hpl
      cases he : Nat.beq d' d with
      | true => rw [he] at hx; exact hx.elim
      | false =>
        rw [he] at hx
        obtain ⟨⟨cs2, hcs2⟩, hx⟩ := al_some hx
        obtain ⟨k1, k2⟩ := keepsOff_spec hR hE r p hx
        refine ⟨k1, fun q hq => ?_⟩
        rcases List.mem_cons.1 hq with rfl | hq
        · exact ⟨d', off', cs2, place_bs hE hpl, (fun e => by rw [e, Nat.beq_refl] at he; cases he), hcs2, place_any hR hE hpl hcs2⟩
        · exact k2 q hq
    · exact hx.elim

/-- A variable is turned. -/
theorem store_sound' {o : Oper} {t : TypeId} {x y : Operand} {d off : Nat} {ks : List (Operand × TypeId)} {K : BEnv → Slots → AHeap → Prop} (hR : RelB I s' h' s h β) (hE : EnvOk I ops E s' s β) (ho : o.op = .store t x y) (hg : o.guard = none) (hp : I.place E none x = some (d, off))
    (hy : I.okO y = true) (hd : o.dst = none) (hen : envB P I ops o E = E)
    (hx : keepsOff I E d s' ks (bif isAggB P t then A.pv (V.setN off (P.cellsOf t) (evS s' y) (s' (I.B + d))) fun c => K E (putS s' (some (I.B + d)) c) h'
        else bif Nat.beq (P.cellsOf t) 1 then A.pv (V.setF off (evS s' y) (s' (I.B + d))) fun c => K E (putS s' (some (I.B + d)) c) h' else False)) : Goal P C I ops o ks E s h K := by
  have hb := place_bs hE hp
  obtain ⟨hx, hkk⟩ := keepsOff_spec hR hE ks _ hx
  have hal : ∃ cs cs', s' (I.B + d) = .agg cs ∧ cs'.length = cs.length ∧ K E (putS s' (some (I.B + d)) (.agg cs')) h' ∧ (evS s x = .ptr (β d) 0 off → h (β d) = some (blkOf cs) → stepSh P ops o s h = .heap (β d) (blkOf cs') .undef) := by
    rw [ops_clean hR hy] at hx
    have hst : stepSh P ops o s h = shOf P o.op (evS s) h := by unfold stepSh; rw [hg]
    rw [hst, ho]
    cases hA : isAggB P t with
    | true =>
      rw [hA] at hx
      obtain ⟨c, h1, h2⟩ := pv_some hx
      cases hs : s' (I.B + d) <;> rw [hs] at h1 <;> (try (simp [V.setN] at h1; done))
      rename_i cs
      simp only [V.setN] at h1
      split at h1 <;> (try (cases h1; done))
      rename_i cs' hput
      cases h1
      obtain ⟨l1, l2⟩ := putN_len hput
      refine ⟨cs, cs', rfl, l2, h2, fun hv hbk => ?_⟩
      simp only [shOf, hA, cond_true, hv, A.ptrOff]
      exact sh_st_blk hbk hput l1 l2
    | false =>
      rw [hA] at hx
      simp only [cond_false] at hx
      cases h1c : Nat.beq (P.cellsOf t) 1 with
      | false => rw [h1c] at hx; exact hx.elim
      | true =>
        rw [h1c] at hx
        obtain ⟨c, h1, h2⟩ := pv_some hx
        cases hs : s' (I.B + d) <;> rw [hs] at h1 <;> (try (simp [V.setF] at h1; done))
        rename_i cs
        simp only [V.setF] at h1
        split at h1 <;> (try (cases h1; done))
        rename_i cs' hput
        cases h1
        obtain ⟨l1, l2⟩ := put1_len hput
        refine ⟨cs, cs', rfl, l2, h2, fun hv hbk => ?_⟩
        simp only [shOf, hA, h1c, cond_true, cond_false, hv, A.ptrOff]
        exact sh_st_blk hbk hput (by omega) l2
  obtain ⟨cs, cs', hcs, hl, hK, hsh⟩ := hal
  have hv := place_any hR hE hp hcs
  obtain ⟨m1, m2, m3⟩ := hR.bx d cs hb hcs
  unfold Goal
  rw [hsh hv m2, hd, hen]
  refine ⟨fun p hp' => ?_, _, h', β, ?_, ?_, hK⟩
  · simp only [keepsAt, List.mem_map] at hp'
    obtain ⟨q, hq, rfl⟩ := hp'
    obtain ⟨d', off', cs2, n1, n2, n3, n4⟩ := hkk q hq
    rw [n4]
    exact sameAt_of (id := β d') (.inr ⟨off', rfl⟩) (upd_other _ _ (hR.ap d' d cs2 cs n1 hb n2 n3 hcs))
  · have hB : ∀ {k}, k ≠ d → putS s' (some (I.B + d)) (.agg cs') (I.B + k) = s' (I.B + k) := fun hk => putS_other _ _ (by omega)
    have hag : ∀ {k cs1}, putS s' (some (I.B + d)) (.agg cs') (I.B + k) = .agg cs1 → ∃ cs2, s' (I.B + k) = .agg cs2 := fun {k cs1} hk => by
      by_cases e : k = d
      · subst e; exact ⟨cs, hcs⟩
      · rw [hB e] at hk; exact ⟨cs1, hk⟩
    refine ⟨fun id b hb1 => ?_, fun k hk => ?_, fun k cs1 hk hck => ?_, fun k e cs1 cs2 hk he hke hc1 hc2 => ?_⟩
    · rw [upd_other]
      · exact hR.le id b hb1
      · intro e; subst e; rw [m3] at hb1; cases hb1
    · have := clean_spec hk
      rw [putS_other _ _ (by omega)]; exact hR.cl k hk
    · by_cases e : k = d
      · subst e
        rw [putS_same] at hck
        cases hck
        exact ⟨m1, upd_same .., m3⟩
      · rw [hB e] at hck
        obtain ⟨k1, k2, k3⟩ := hR.bx k cs1 hk hck
        exact ⟨k1, by rw [upd_other _ _ (hR.ap k d cs1 cs hk hb e hck hcs)]; exact k2, k3⟩
    · obtain ⟨a, ha⟩ := hag hc1
      obtain ⟨b, hb2⟩ := hag hc2
      exact hR.ap k e a b hk he hke ha hb2
  · intro e g b off' hm
    have a := hE _ _ _ _ hm
    refine ⟨a.inBs, a.inDs, a.noB, a.lt, ?_, a.at_⟩
    by_cases e' : b = d
    · subst e'; exact ⟨cs', putS_same ..⟩
    · rw [putS_other _ _ (by omega)]; exact a.al

/-- A place within a variable. -/
theorem der_sound {o : Oper} {x : Operand} {d off off' : Nat} {K : BEnv → Slots → AHeap → Prop} (hR : RelB I s' h' s h β) (hE : EnvOk I ops E s' s β) (hp : I.place E o.guard x = some (d, off))
    (hsh : evS s x = .ptr (β d) 0 off → shOf P o.op (evS s) h = .val (.ptr (β d) 0 off')) (hok : chkD I ops o [] = true) (hen : ∀ e, o.dst = some e → envB P I ops o E = (e, o.guard, d, off') :: killB ops e E) (hx : derB I ops o d off' E s' h' K) : Goal P C I ops o [] E s h K := by
  unfold derB at hx
  cases hd : o.dst with
  | none => rw [hd] at hx; exact hx.elim
  | some e =>
    rw [hd] at hx
    simp only at hx
    simp only [chkD, hd, kNone, Bool.true_and, Bool.and_eq_true, Bool.not_eq_true', Nat.blt_eq] at hok
    obtain ⟨o1, o2, o3, hG⟩ := hok
    obtain ⟨⟨cs, hcs⟩, hx⟩ := al_some hx
    have hb := place_bs hE hp
    have heB : e < I.B := o3
    have hrel : ∀ v, RelB I (putS s' (some e) .undef) h' (putS s (some e) v) h β := fun v => by
      have hcl : ∀ k, I.clean k = true → k ≠ e := fun k hk he => by
        subst he
        have := clean_spec hk
        rw [o1] at this; exact absurd this.2.2 (by simp)
      have hBs : ∀ k, memB I.bs k = true → k ≠ e := fun k hk he => by subst he; rw [o2] at hk; cases hk
      have hB : ∀ k, putS s' (some e) .undef (I.B + k) = s' (I.B + k) := fun k => putS_other _ _ (by omega)
      refine ⟨hR.le, fun k hk => ?_, fun k cs1 hk hck => ?_, fun k e' cs1 cs2 hk he hke hc1 hc2 => ?_⟩
      · rw [putS_other _ _ (hcl k hk), putS_other _ _ (hcl k hk)]; exact hR.cl k hk
      · rw [hB] at hck
        rw [putS_other _ _ (hBs k hk)]; exact hR.bx k cs1 hk hck
      · rw [hB] at hc1 hc2
        exact hR.ap k e' cs1 cs2 hk he hke hc1 hc2
    have henv : ∀ v, (v = .ptr (β d) 0 off' ∨ (v = .tup [] ∧ NotHeld ops (putS s (some e) v) o.guard)) → EnvOk I ops ((e, o.guard, d, off') :: killB ops e E) (putS s' (some e) .undef) (putS s (some e) v) β := fun v hv => by
      intro e' g b o' hm
      rcases List.mem_cons.1 hm with hm | hm
      · cases hm
        refine ⟨hb, o1, o2, heB, ⟨cs, ?_⟩, ?_⟩
        · rw [putS_other _ _ (by omega)]; exact hcs
        · rw [putS_same]
          rcases hv with hv | hv
          · exact .inl hv
          · exact .inr hv
      · obtain ⟨k1, k2, k3, k4⟩ := killB_spec hm
        have a := hE _ _ _ _ k1
        refine ⟨a.inBs, a.inDs, a.noB, a.lt, ?_, ?_⟩
        · rw [putS_other _ _ (by omega)]; exact a.al
        · rw [putS_other _ _ k2]
          rcases a.at_ with e' | ⟨e', j, x, t, e1, e2, e3⟩
          · exact .inl e'
          · refine .inr ⟨e', j, x, t, e1, e2, ?_⟩
            rw [putS_other]
            · exact e3
            · intro hh; subst hh; exact k4 j x e1 e2
    unfold Goal
    rw [hen e hd]
    rcases gd_cases (P := P) (o := o) hR hG hx with ⟨k1, k2, k3⟩ | ⟨k1, k2, k3⟩
    · rw [k1, hsh (place_spec hR hE hp hcs k3), hd]
      exact ⟨fun p hp => (by cases hp), _, h', β, hrel _, henv _ (.inl rfl), k2⟩
    · rw [k1, hd]
      refine ⟨fun p hp => (by cases hp), _, h', β, hrel _, henv _ (.inr ⟨rfl, ?_⟩), k2⟩
      obtain ⟨j, x, t, e1, e2, e3⟩ := k3
      refine ⟨j, x, t, e1, e2, ?_⟩
      rw [putS_other]
      · exact e3
      · intro he
        subst he
        rw [e1] at hG
        simp only [Bx.okG, e2] at hG
        have := clean_spec hG
        rw [o1] at this; exact absurd this.2.2 (by simp)

theorem step_sound' (hC : CGood C) {o : Oper} {ks : List (Operand × TypeId)} {K : BEnv → Slots → AHeap → Prop} (hR : RelB I s' h' s h β) (hE : EnvOk I ops E s' s β) (hk : chkS I ops o ks E = true) (hx : stepB P C I ops o ks E s' h' K) : Goal P C I ops o ks E s h K := by
  have gen : chkG I ops o = true → envB P I ops o E = killO ops o.dst E → genB P C I ops o ks E s' h' K → Goal P C I ops o ks E s h K := gen_sound hC hR hE
  have sh0 : o.guard = none → stepSh P ops o s h = shOf P o.op (evS s) h := fun hg => by unfold stepSh; rw [hg]
  unfold stepB at hx
  unfold chkS at hk
  split at hx
  · rename_i t ho
    simp only [ho] at hk
    cases hd : o.dst with
    | none => simp only [hd] at hx hk; exact gen hk (by simp only [envB, ho, hd]) hx
    | some d =>
      simp only [hd] at hx hk
      cases hb : memB I.bs d with
      | false => simp only [hb, cond_false] at hx hk; exact gen hk (by simp only [envB, ho, hd, hb, cond_false]) hx
      | true =>
        simp only [hb, cond_true, Bool.and_eq_true, Nat.blt_eq] at hx hk
        have hks := kNone_of hk.2.1
        subst hks
        refine new_sound (z := zeroOf P t) hR hE hd hb hk.2.2 ?_ (fun v hv => ?_) (by simp only [envB, ho, hd, hb, cond_true]) hx
        · rw [sh0 (gNone_of hk.1), ho]; rfl
        · unfold optAgg at hv
          split at hv
          · rename_i cs hz; cases hv; exact ⟨cs, rfl, hz⟩
          · cases hv
  · rename_i t x ho
    simp only [ho] at hk
    cases hd : o.dst with
    | none => simp only [hd] at hx hk; exact gen hk (by simp only [envB, ho, hd]) hx
    | some d =>
      simp only [hd] at hx hk
      cases hb : memB I.bs d with
      | false => simp only [hb, cond_false] at hx hk; exact gen hk (by simp only [envB, ho, hd, hb, cond_false]) hx
      | true =>
        simp only [hb, cond_true, Bool.and_eq_true, Nat.blt_eq] at hx hk
        have hks := kNone_of hk.2.1
        subst hks
        rw [ops_clean hR hk.2.2.2] at hx
        refine new_sound (z := bif isAggB P t then A.cellsN (P.cellsOf t) (evS s x) else A.cells1 (evS s x)) hR hE hd hb hk.2.2.1 ?_ (fun v hv => ?_) (by simp only [envB, ho, hd, hb, cond_true]) hx
        · rw [sh0 (gNone_of hk.1), ho]; rfl
        · cases hA : isAggB P t with
          | true =>
            rw [hA] at hv
            simp only [cond_true] at hv ⊢
            unfold A.boxN at hv
            split at hv
            · rename_i cs hc
              split at hv
              · rename_i hl
                cases hv
                exact ⟨cs, rfl, by rw [hc]; simp only [A.cellsN, hl, if_true]⟩
              · cases hv
            · cases hv
          | false =>
            rw [hA] at hv
            simp only [cond_false, A.box1, A.cells1] at hv ⊢
            cases hc : (evS s x).isCell with
            | true => rw [hc] at hv; cases hv; exact ⟨_, rfl, rfl⟩
            | false => rw [hc] at hv; cases hv
  · rename_i t x ho
    simp only [ho] at hk
    split at hx
    · rename_i d off hp
      simp only [hp, Bool.and_eq_true] at hk
      have hks := kNone_of hk.1
      subst hks
      split at hx
      · exact hx.elim
      · rename_i u hu
        exact load_sound hR hE ho hp hk.2.1 hk.2.2 (by simp only [envB, ho]) hu hx
    · rename_i hp
      simp only [hp] at hk
      exact gen hk (by simp only [envB, ho]) hx
  · rename_i t x y ho
    simp only [ho] at hk
    split at hx
    · rename_i d off hp
      simp only [hp, Bool.and_eq_true] at hk
      have hg := gNone_of hk.1
      refine store_sound' hR hE ho hg (by rw [← hg]; exact hp) hk.2.1 (okD_of hk.2.2) (by simp only [envB, ho, hp]) hx
    · rename_i hp
      simp only [hp] at hk
      exact gen hk (by simp only [envB, ho, hp]) hx
  · rename_i t x f ho
    simp only [ho] at hk
    split at hx
    · rename_i d off hp
      simp only [hp] at hk
      have hks : ks = [] := by
        simp only [chkD, Bool.and_eq_true] at hk
        exact kNone_of hk.1
      subst hks
      split at hx <;> (try exact hx.elim)
      rename_i fs hu
      split at hx <;> (try exact hx.elim)
      rename_i fd hfd
      cases hz : Nat.beq (P.cellsOf fd.type) 0 with
      | true => rw [hz] at hx; exact hx.elim
      | false =>
        rw [hz] at hx
        refine der_sound hR hE hp (fun hv => ?_) hk (fun e hd => by simp only [envB, ho, hp, hu, hfd, hd]) hx
        rw [ho]
        simp only [shOf, hu, hfd, hz, cond_false, hv, V.fieldAddr, Sh.pv]
    · rename_i hp
      simp only [hp] at hk
      exact gen hk (by simp only [envB, ho, hp]) hx
  · rename_i x ho
    simp only [ho] at hk
    split at hx
    · rename_i d off hp
      simp only [hp] at hk
      have hks : ks = [] := by
        simp only [chkD, Bool.and_eq_true] at hk
        exact kNone_of hk.1
      subst hks
      refine der_sound hR hE hp (fun hv => ?_) hk (fun e hd => by simp only [envB, ho, hp, hd]) hx
      rw [ho]
      simp only [shOf, hv, Sh.nilCheck]
    · rename_i hp
      simp only [hp] at hk
      exact gen hk (by simp only [envB, ho, hp]) hx
  · rename_i n1 n2 n3 n4 n5 n6
    cases ho : o.op <;> (try (simp only [ho] at hk; exact gen hk (by simp only [envB, ho]) hx)) <;> simp_all

/-- What is left to show of what follows. -/
def Back (I : Bx) (Q : Slots → AHeap → Prop) : Slots → AHeap → Prop := fun s h => ∃ s' h' β, RelB I s' h' s h β ∧ Q s' h'

theorem opsB_plain (hC : CGood C) {Q : Slots → AHeap → Prop} : ∀ (l : List Oper) {E : BEnv} {s' s : Slots} {h' h : AHeap} {β : Nat → Nat}, RelB I s' h' s h β → EnvOk I ops E s' s β → chkO P I ops (plain l) E = true → opsB P C I ops (plain l) Q E s' h' → opsWp P C ops l (Back I Q) s h
  | [], _, _, _, _, _, β, hR, _, _, hx => ⟨_, _, β, hR, hx⟩
  | o :: r, _, _, _, _, _, _, hR, hE, hk, hx => stepWp_sh.2 (sh_mono hC.mono (fun _ _ ⟨_, _, _, _, k1, k2, k3⟩ => opsB_plain hC r k1 k2 (Bool.and_eq_true_iff.1 hk).2 k3) (step_sound' hC hR hE (Bool.and_eq_true_iff.1 hk).1 hx))
theorem opsB_drawn (hC : CGood C) {Q : Slots → AHeap → Prop} : ∀ (l : List (Item × List (Operand × TypeId))) {E : BEnv} {s' s : Slots} {h' h : AHeap} {β : Nat → Nat}, RelB I s' h' s h β → EnvOk I ops E s' s β → chkO P I ops (drawn l) E = true → opsB P C I ops (drawn l) Q E s' h' → opsWpD P C ops l (Back I Q) s h
  | [], _, _, _, _, _, β, hR, _, _, hx => ⟨_, _, β, hR, hx⟩
  | (t, ks) :: r, _, _, _, _, _, _, hR, hE, hk, hx => (stepWpD_sh hC.mono).2 (sh_mono hC.mono (fun _ _ ⟨k0, _, _, _, k1, k2, k3⟩ => ⟨k0, opsB_drawn hC r k1 k2 (Bool.and_eq_true_iff.1 hk).2 k3⟩) (step_sound' hC hR hE (Bool.and_eq_true_iff.1 hk).1 hx))
end

theorem natsEq_spec : ∀ {a b : List Nat}, natsEq a b = true → a = b
  | [], [], _ => rfl
  | x :: r, y :: s, h => by
    simp only [natsEq, Bool.and_eq_true] at h
    rw [nbeq_eq h.1, natsEq_spec h.2]
  | [], _ :: _, h => by cases h
  | _ :: _, [], h => by cases h
theorem natssEq_spec : ∀ {a b : List (List Nat)}, natssEq a b = true → a = b
  | [], [], _ => rfl
  | x :: r, y :: s, h => by
    simp only [natssEq, Bool.and_eq_true] at h
    rw [natsEq_spec h.1, natssEq_spec h.2]
  | [], _ :: _, h => by cases h
  | _ :: _, [], h => by cases h

theorem opAt_item {P : Program} {ops : Array Oper} {t : Item} (ht : t ∈ items P ops.toList) : opAt ops.toList t.i = t.o := by
  have := (item_spec ht).1
  unfold opAt
  rw [show ops.toList[t.i]? = some t.o by simpa using this]; rfl
theorem keeps_lit {P : Program} {ops : Array Oper} {y : Item} : ∀ {l : List Item}, (∀ t ∈ l, t ∈ items P ops.toList) → keepsOf l y = loadsAt ops.toList (keepsI l y)
  | [], _ => rfl
  | x :: r, h => by
    have ih := keeps_lit (y := y) (l := r) (fun t ht => h t (List.mem_cons_of_mem _ ht))
    have hx := opAt_item (h x (List.mem_cons_self ..))
    simp only [keepsOf, keepsI]
    rw [ih]
    cases ho : x.o.op <;> (try rfl)
    simp only
    cases y.m.testBit x.i with
    | true => rfl
    | false => simp only [cond_false, List.singleton_append, loadsAt, hx, ho]
theorem drawn_lit {P : Program} {ops : Array Oper} : ∀ (p seen : List Item), (∀ t ∈ seen, t ∈ items P ops.toList) → (∀ t ∈ p, t ∈ items P ops.toList) → ∀ pl : List (Nat × List Nat), p.map (fun t => t.i) = pl.map (fun q => q.1) → withKeepsI seen p = pl.map (fun q => q.2) →
    drawn (withKeeps seen p) = litOf ops.toList pl
  | [], _, _, _, [], _, _ => rfl
  | [], _, _, _, _ :: _, h, _ => by simp at h
  | _ :: _, _, _, _, [], h, _ => by simp at h
  | y :: r, seen, hs, hp, (i, js) :: pl, h1, h2 => by
    simp only [List.map_cons, List.cons.injEq, withKeepsI] at h1 h2
    have ih := drawn_lit r (seen ++ [y]) (fun t ht => by
      rcases List.mem_append.1 ht with ht | ht
      · exact hs t ht
      · rw [List.mem_singleton.1 ht]; exact hp y (List.mem_cons_self ..)) (fun t ht => hp t (List.mem_cons_of_mem _ ht)) pl h1.2 h2.2
    have hy := opAt_item (hp y (List.mem_cons_self ..))
    show (y.o, bif y.k.isEffect then keepsOf seen y else []) :: drawn (withKeeps (seen ++ [y]) r) = (opAt ops.toList i, loadsAt ops.toList js) :: litOf ops.toList pl
    rw [ih, ← h1.1, hy, ← h2.1, keeps_lit hs]
    cases y.k.isEffect <;> rfl
theorem planLit_spec {P : Program} {ops : Array Oper} {pl : List (Nat × List Nat)} (h : planLit P ops pl = true) : ∃ l, plan P ops = some l ∧ drawn l = litOf ops.toList pl := by
  unfold planLit at h
  split at h
  · rename_i l hp
    refine ⟨l, hp, ?_⟩
    simp only [Bool.and_eq_true] at h
    have hl : ∃ p, l = withKeeps [] p ∧ ∀ t ∈ p, t ∈ items P ops.toList := by
      unfold plan at hp
      simp only [Bool.cond_eq_ite] at hp
      split at hp
      · cases hp; exact ⟨_, rfl, fun t ht => plan_mem ht⟩
      · cases hp
    obtain ⟨p, rfl, hm⟩ := hl
    have e1 := natsEq_spec h.1
    have e2 := natssEq_spec h.2
    have em : (withKeeps [] p).map (fun t => t.1) = p := withKeeps_map [] p
    rw [em] at e2
    refine drawn_lit p [] (fun _ h => by cases h) hm pl ?_ e2
    rw [← e1]
    conv => lhs; rw [← em]
    rw [List.map_map]; rfl
  · cases h

def BackE (I : Bx) (Q : Ex → Slots → AHeap → Prop) : Ex → Slots → AHeap → Prop := fun e => Back I (Q e)

theorem bwp_sound {P : Program} {C : CSem} {I : Bx} (hC : CGood C) : ∀ (c : Code), chkC P I c = true → ∀ {Q : Ex → Slots → AHeap → Prop} {s' s : Slots} {h' h : AHeap} {β : Nat → Nat}, RelB I s' h' s h β → bwp P C I c Q s' h' → awp P C c (BackE I Q) s h
  | .skip, _, _, _, _, _, _, β, hR, x => ⟨_, _, β, hR, x⟩
  | .ret, _, _, _, _, _, _, β, hR, x => ⟨_, _, β, hR, x⟩
  | .exit _, _, _, _, _, _, _, β, hR, x => ⟨_, _, β, hR, x⟩
  | .region _ ops false, hk, _, _, _, _, _, _, hR, x => opsB_plain hC ops.toList hR (fun _ _ _ _ h => (by cases h)) hk x
  | .region k ops true, hk, Q, s', s, h', h, β, hR, x => by
    simp only [bwp] at x
    simp only [chkC] at hk
    simp only [awp]
    split at x
    · rename_i pl hp
      simp only [hp, Bool.and_eq_true] at hk
      obtain ⟨l, h2, h3⟩ := planLit_spec hk.1
      have hk2 := hk.2
      rw [← h3] at x hk2
      simp only [h2]
      exact opsB_drawn hC _ hR (fun _ _ _ _ h => (by cases h)) hk2 x
    · exact x.elim
  | .seq a b, hk, Q, s', s, h', h, β, hR, x => by
    simp only [chkC, Bool.and_eq_true] at hk
    refine awp_mono hC.mono a (fun e s h ⟨s', h', β, k1, k2⟩ => ?_) (bwp_sound hC a hk.1 hR x)
    cases e with
    | normal => exact bwp_sound hC b hk.2 k1 k2
    | exit _ => exact ⟨s', h', β, k1, k2⟩
    | ret => exact ⟨s', h', β, k1, k2⟩
  | .cond c a b, hk, Q, s', s, h', h, β, hR, x => by
    simp only [chkC, Bool.and_eq_true] at hk
    simp only [bwp] at x
    rw [ops_clean hR hk.1] at x
    simp only [awp, A.cond] at x ⊢
    split at x
    · exact ⟨fun e => bwp_sound hC a hk.2.1 hR (x.1 e), fun e => bwp_sound hC b hk.2.2 hR (x.2 e)⟩
    · exact x.elim
  | .block id b, hk, Q, s', s, h', h, β, hR, x => awp_mono hC.mono b (fun e s h ⟨s', h', β, k1, k2⟩ => by
      cases e with
      | normal => exact ⟨s', h', β, k1, k2⟩
      | ret => exact ⟨s', h', β, k1, k2⟩
      | exit j =>
        simp only [Ex.inBlock] at k2 ⊢
        cases hj : Nat.beq j id with
        | true => rw [hj] at k2; exact ⟨s', h', β, k1, k2⟩
        | false => rw [hj] at k2; exact ⟨s', h', β, k1, k2⟩) (bwp_sound hC b hk hR x)
  | .loop c, hk, Q, s', s, h', h, β, hR, x => fun X hX => by
    refine x (fun s' h' => ∀ s h β, RelB I s' h' s h β → X s h) (fun s1' h1' y s1 h1 β1 hR1 => hX s1 h1 ?_) s h β hR
    refine awp_mono hC.mono c (fun e s h ⟨s', h', β, k1, k2⟩ => ?_) (bwp_sound hC c hk hR1 y)
    cases e with
    | normal => exact k2 s h β k1
    | exit _ => exact ⟨s', h', β, k1, k2⟩
    | ret => exact ⟨s', h', β, k1, k2⟩
  | .rangeFunc .., _, _, _, _, _, _, _, _, x => x.elim
  | .scope _, _, _, _, _, _, _, _, _, x => x.elim
  | .label _, _, _, _, _, _, _, _, _, x => x.elim
  | .goto _, _, _, _, _, _, _, _, _, x => x.elim
  | .refuse _, _, _, _, _, _, _, _, _, x => x.elim

theorem resB_sound {P : Program} {I : Bx} {s' s : Slots} {h' h : AHeap} {β : Nat → Nat} (hR : RelB I s' h' s h β) : ∀ (rs : List ResultVar) (l : List AVal), resB P I h' s' rs = some l → resS P h s rs = some l
  | [], l, e => e
  | .tmp t :: r, l, e => by
    simp only [resB] at e
    cases hc : I.clean t with
    | false => rw [hc] at e; cases e
    | true =>
      rw [hc, cond_true, hR.cl t hc] at e
      simp only [resS]
      cases hr : resB P I h' s' r with
      | none => rw [hr] at e; simp [joinV] at e
      | some l' => rw [hr] at e; rw [resB_sound hR r l' hr]; exact e
  | .cell t ty :: r, l, e => by
    simp only [resB] at e
    simp only [resS]
    have go : ∀ o o', (∀ v, o = some v → o' = some v) → joinV o (resB P I h' s' r) = some l → joinV o' (resS P h s r) = some l := fun o o' ho e => by
      cases hr : resB P I h' s' r with
      | none => rw [hr] at e; cases o <;> simp [joinV] at e
      | some l' =>
        rw [hr] at e
        cases o with
        | none => simp [joinV] at e
        | some v => rw [ho v rfl, resB_sound hR r l' hr]; exact e
    cases hb : memB I.bs t with
    | true =>
      rw [hb, cond_true] at e
      split at e
      · cases e
      · rename_i u hu
        refine go _ _ (fun v hv => ?_) e
        have hal : ∃ cs, s' (I.B + t) = .agg cs := by
          cases hs : s' (I.B + t) with
          | agg cs => exact ⟨cs, rfl⟩
          | _ => rw [hs] at hv; cases hg : isAggB P ty <;> rw [hg] at hv <;> simp [V.fieldN, V.field1] at hv
        obtain ⟨cs, hcs⟩ := hal
        obtain ⟨m1, m2, _⟩ := hR.bx t cs hb hcs
        rw [hcs] at hv
        simp only [resCell, hu, m1]
        have e1 : A.ldnv h (.ptr (β t) 0 0) (P.cellsOf ty) = V.fieldN 0 (P.cellsOf ty) (.agg cs) := by
          simp only [A.ldnv, m2, blkOf, List.lookup, beq_self_eq_true, V.fieldN]
        have e2 : A.ldv h (.ptr (β t) 0 0) = V.field1 0 (.agg cs) := by
          simp only [A.ldv, m2, blkOf, List.lookup, beq_self_eq_true, V.field1]
          split
          · rfl
          · rw [List.getElem?_eq_none (by omega)]
        rw [e1, e2]; exact hv
    | false =>
      rw [hb, cond_false] at e
      cases hc : I.clean t with
      | false => rw [hc] at e; cases e
      | true =>
        rw [hc, cond_true, hR.cl t hc] at e
        refine go _ _ (fun v hv => ?_) e
        unfold resCell at hv ⊢
        split at hv
        · cases hv
        · rename_i u hu
          cases hA : isAggB P ty with
          | true => rw [hA] at hv; exact ldnv_le hR.le hv
          | false => rw [hA] at hv; exact ldv_le hR.le hv

theorem AC_introB {P : Program} (hm : P.follows .mixedOrders = true) {f : FuncId} {fn : Func} {c : Code} {I : Bx} (hf : P.funcs[f]? = some fn) (hb : fn.body = some c) (hcall : ∀ (va : Array Value) (w : World), (callFunc f va).run P w = .ok (.enter f va) w)
    (hc : codeIn fn.ntmps c = true) {args : List AVal} (hl : args.length ≤ fn.ntmps) (hB : args.length ≤ I.B) (hk : chkC P I c = true) {h : AHeap} {Q : AVal → AHeap → Prop} (hx : bwp P (AC P) I c (retB P I fn.results.toList Q) (startS args) h) : AC P f args h Q := by
  refine AC_drop (AC_intro hm hf hb hcall hc hl ?_)
  have hR : RelB I (startS args) h (startS args) h (fun k => k) := by
    have h0 : ∀ d cs, startS args (I.B + d) ≠ .agg cs := fun d cs e => by
      simp only [startS, List.getD] at e
      rw [List.getElem?_eq_none (by omega)] at e
      cases e
    exact ⟨AHeap.le_refl h, fun _ _ => rfl, fun d cs _ e => absurd e (h0 d cs), fun d e cs cs' _ _ _ hc _ => absurd hc (h0 d cs)⟩
  refine awp_mono (AC_good P).mono c (fun e s h ⟨s', h', β, k1, k2⟩ => ?_) (bwp_sound (AC_good P) c hk hR hx)
  have fin : A.pv (oneOf (resB P I h' s' fn.results.toList)) (fun v => Q v h') → A.pv (resV P h s fn.results.toList) fun v => ∃ h', Q v h' ∧ h'.le h := fun hk => by
    obtain ⟨v, e1, e2⟩ := pv_some hk
    cases hr : resB P I h' s' fn.results.toList with
    | none => rw [hr] at e1; cases e1
    | some l =>
      rw [hr] at e1
      have := resB_sound k1 _ _ hr
      unfold resV
      rw [this, e1]
      exact ⟨h', e2, k1.le⟩
  cases e with
  | normal => exact fin k2
  | ret => exact fin k2
  | exit _ => exact k2
end Go.Ab

/- What is proved: the reading without one's own variables is monotone, leaves slots that are not written, and may be taken in pieces. -/
set_option linter.unusedVariables false
namespace Go.Ab

section
variable (P : Program) (I : Bx) (ops : List Oper)
/-- The slots that it writes. -/
def wrB (o : Oper) (E : BEnv) : List Nat :=
  match o.op with
  | .alloc _ | .box _ _ => match o.dst with
    | some d => bif memB I.bs d then [I.B + d] else [d]
    | none => []
  | .store _ x _ => match I.place E o.guard x with
    | some (d, _) => [I.B + d]
    | none => o.dst.toList
  | _ => o.dst.toList
def writesO : List (Oper × List (Operand × TypeId)) → BEnv → List Nat
  | [], _ => []
  | (o, _) :: r, E => wrB I o E ++ writesO r (envB P I ops o E)
end

def writesB (P : Program) (I : Bx) : Code → List Nat
  | .region _ ops false => writesO P I ops.toList (plain ops.toList) []
  | .region k ops true => match plOf k I.pl with
    | some l => writesO P I ops.toList (litOf ops.toList l) []
    | none => []
  | .seq a b => writesB P I a ++ writesB P I b
  | .cond _ a b => writesB P I a ++ writesB P I b
  | .block _ b => writesB P I b
  | .loop b => writesB P I b
  | _ => []

section
variable {P : Program} {C : CSem} {I : Bx} {ops : List Oper}

theorem gdO_mono {g : Gd} {s : Slots} {h : AHeap} {M : (AVal → AHeap → Prop) → Prop} {K K' : AVal → AHeap → Prop} (hM : M K → M K') (hk : ∀ v h, K v h → K' v h) (x : A.gdO ops g s h M K) : A.gdO ops g s h M K' := by
  unfold A.gdO at x ⊢
  split at x
  · exact hM x
  · split at x
    · unfold A.gd at x ⊢
      split at x
      · exact ⟨fun e => hM (x.1 e), fun e => hk _ _ (x.2 e)⟩
      · exact hk _ _ x
      · exact x
    · exact x
theorem pv_mono {o : Option AVal} {K K' : AVal → Prop} (hk : ∀ v, K v → K' v) (x : A.pv o K) : A.pv o K' := by
  unfold A.pv at x ⊢
  split at x
  · exact hk _ x
  · exact x
theorem al_mono {v : AVal} {p q : Prop} (hk : p → q) (x : A.al v p) : A.al v q := by
  unfold A.al at x ⊢
  split at x
  · exact hk x
  · exact x
theorem keepsB_mono {E : BEnv} {s : Slots} : ∀ {ks : List (Operand × TypeId)} {k k' : List (Operand × TypeId) → Prop}, (∀ l, k l → k' l) → keepsB I E s ks k → keepsB I E s ks k'
  | [], _, _, hk, x => hk _ x
  | (x, ty) :: r, k, k', hk, hx => by
    have other : ∀ {x}, keepsB I E s r (fun l => k ((x, ty) :: l)) → keepsB I E s r (fun l => k' ((x, ty) :: l)) := fun hx => keepsB_mono (fun l y => hk _ y) hx
    cases x <;> (try exact other hx)
    rename_i t
    simp only [keepsB] at hx ⊢
    cases hb : memB I.bs t with
    | true => rw [hb] at hx; exact al_mono (fun y => keepsB_mono hk y) hx
    | false =>
      rw [hb] at hx
      simp only [cond_false] at hx ⊢
      cases hc : I.clean t with
      | true => rw [hc] at hx; exact other hx
      | false =>
        rw [hc] at hx
        simp only [cond_false] at hx ⊢
        cases hm : memB (E.map (·.1)) t with
        | true => rw [hm] at hx; exact keepsB_mono hk hx
        | false => rw [hm] at hx; exact hx
theorem keepsOff_mono {E : BEnv} {d : Nat} {s : Slots} : ∀ {ks : List (Operand × TypeId)} {p q : Prop}, (p → q) → keepsOff I E d s ks p → keepsOff I E d s ks q
  | [], _, _, hk, x => hk x
  | (x, ty) :: r, p, q, hk, hx => by
    simp only [keepsOff] at hx ⊢
    split at hx
    · rename_i d' off hp
      cases hb : Nat.beq d' d with
      | true => rw [hb] at hx; exact hx.elim
      | false => rw [hb] at hx; exact al_mono (fun y => keepsOff_mono hk y) hx
    · exact hx

/-- A step, what it turns told. -/
theorem stepB_strong (hC : CMono C) {o : Oper} {ks : List (Operand × TypeId)} {E : BEnv} {s : Slots} {h : AHeap} {K K' : BEnv → Slots → AHeap → Prop}
    (hk : ∀ s1 h1, Agree (wrB I o E) s s1 → K (envB P I ops o E) s1 h1 → K' (envB P I ops o E) s1 h1) (x : stepB P C I ops o ks E s h K) : stepB P C I ops o ks E s h K' := by
  have put : ∀ (d : Option Nat) (v : AVal) (l : List Nat), d.toList = l → Agree l s (putS s d v) := fun d v l e => by
    subst e
    cases d with
    | none => exact Agree.refl _ _
    | some d => exact fun k hk => putS_other s v fun e => hk (by simp [e])
  have gen : envB P I ops o E = killO ops o.dst E → wrB I o E = o.dst.toList → genB P C I ops o ks E s h K → genB P C I ops o ks E s h K' := fun e1 e2 y => by
    unfold genB at y ⊢
    refine keepsB_mono (fun l z => ?_) y
    have hk' : ∀ v h1, K (killO ops o.dst E) (putS s o.dst v) h1 → K' (killO ops o.dst E) (putS s o.dst v) h1 := fun v h1 z => by
      rw [← e1]
      exact hk _ _ (put _ _ _ e2.symm) (by rw [e1]; exact z)
    cases l with
    | nil => exact stepWp_mono hC hk' z
    | cons q r => exact gdO_mono (fun z => opWp_sh.2 (sh_mono hC (fun v h1 ⟨a, b⟩ => ⟨a, hk' _ _ b⟩) (opWp_sh.1 z))) hk' z
  have der : ∀ (d off : Nat) (e : Nat), o.dst = some e → envB P I ops o E = (e, o.guard, d, off) :: killB ops e E → wrB I o E = o.dst.toList → derB I ops o d off E s h K → derB I ops o d off E s h K' := fun d off e hd e1 e2 y => by
    unfold derB at y ⊢
    rw [hd] at y ⊢
    refine al_mono (fun y => ?_) y
    have hk' : ∀ h1, K ((e, o.guard, d, off) :: killB ops e E) (putS s (some e) .undef) h1 → K' ((e, o.guard, d, off) :: killB ops e E) (putS s (some e) .undef) h1 := fun h1 z => by
      rw [← e1]
      exact hk _ _ (put _ _ _ (by rw [e2, hd])) (by rw [e1]; exact z)
    exact gdO_mono (hk' h) (fun _ h1 z => hk' h1 z) y
  unfold stepB at x ⊢
  unfold envB wrB at gen der hk
  cases ho : o.op with
  | alloc t =>
    rw [ho] at x gen hk
    simp only at x gen hk ⊢
    cases hd : o.dst with
    | none => rw [hd] at x gen; exact gen rfl rfl x
    | some d =>
      rw [hd] at x gen hk
      simp only at x gen hk ⊢
      cases hb : memB I.bs d with
      | false => rw [hb] at gen x; exact gen rfl rfl x
      | true =>
        rw [hb] at x hk
        exact pv_mono (fun v z => hk _ _ (put _ _ _ rfl) z) x
  | box t y =>
    rw [ho] at x gen hk
    simp only at x gen hk ⊢
    cases hd : o.dst with
    | none => rw [hd] at x gen; exact gen rfl rfl x
    | some d =>
      rw [hd] at x gen hk
      simp only at x gen hk ⊢
      cases hb : memB I.bs d with
      | false => rw [hb] at gen x; exact gen rfl rfl x
      | true =>
        rw [hb] at x hk
        exact pv_mono (fun v z => hk _ _ (put _ _ _ rfl) z) x
  | load t y =>
    rw [ho] at x gen hk
    simp only at x gen hk ⊢
    split at x
    · rename_i d off hp
      have y := x
      split at y
      · exact y.elim
      · rename_i u hu
        have hk' : ∀ v h1, K (killO ops o.dst E) (putS s o.dst v) h1 → K' (killO ops o.dst E) (putS s o.dst v) h1 := fun v h1 z => hk _ _ (put _ _ _ rfl) z
        exact gdO_mono (fun z => pv_mono (fun v z => hk' _ _ z) z) hk' y
    · rename_i hp
      exact gen (by trivial) (by trivial) x
  | store t y v =>
    rw [ho] at x gen hk
    simp only at x gen hk ⊢
    split at x
    · rename_i d off hp
      simp only [hp] at hk ⊢
      refine keepsOff_mono (fun y => ?_) x
      cases hA : isAggB P t with
      | true => rw [hA] at y; exact pv_mono (fun v z => hk _ _ (put _ _ _ rfl) z) y
      | false =>
        rw [hA] at y
        simp only [cond_false] at y ⊢
        cases h1 : Nat.beq (P.cellsOf t) 1 with
        | false => rw [h1] at y; exact y
        | true => rw [h1] at y; exact pv_mono (fun v z => hk _ _ (put _ _ _ rfl) z) y
    · rename_i hp
      simp only [hp] at gen ⊢
      exact gen (by trivial) (by trivial) x
  | fieldAddr t y f =>
    rw [ho] at x gen der hk
    simp only at x gen der hk ⊢
    split at x
    · rename_i d off hp
      simp only [hp] at der ⊢
      have y := x
      split at y <;> (try exact y.elim)
      rename_i fs hu
      simp only [hu] at der ⊢
      split at y <;> (try exact y.elim)
      rename_i fd hfd
      simp only [hfd] at der ⊢
      cases hz : Nat.beq (P.cellsOf fd.type) 0 with
      | true => rw [hz] at y; exact y
      | false =>
        rw [hz] at y
        simp only [cond_false] at y ⊢
        cases hd : o.dst with
        | none => simp only [derB, hd] at y
        | some e => exact der d _ e hd (by simp only [hd]) (by trivial) y
    · rename_i hp
      simp only [hp] at gen ⊢
      exact gen (by trivial) (by trivial) x
  | nilCheck y =>
    rw [ho] at x gen der hk
    simp only at x gen der hk ⊢
    split at x
    · rename_i d off hp
      simp only [hp] at der ⊢
      have y := x
      cases hd : o.dst with
      | none => simp only [derB, hd] at y
      | some e => exact der d _ e hd (by simp only [hd]) (by trivial) y
    · rename_i hp
      simp only [hp] at gen ⊢
      exact gen (by trivial) (by trivial) x
  | _ =>
    rw [ho] at x gen
    exact gen rfl rfl x

theorem opsB_agree (hC : CMono C) {Q Q' : Slots → AHeap → Prop} {L : List Nat} : ∀ (l : List (Oper × List (Operand × TypeId))) {E : BEnv} {s : Slots} {h : AHeap}, (∀ k ∈ writesO P I ops l E, k ∈ L) → (∀ s1 h1, Agree L s s1 → Q s1 h1 → Q' s1 h1) →
    opsB P C I ops l Q E s h → opsB P C I ops l Q' E s h
  | [], _, _, _, _, hq, x => hq _ _ (Agree.refl _ _) x
  | (o, ks) :: r, E, s, h, hl, hq, x => stepB_strong hC (fun s1 h1 ha y => opsB_agree hC r (fun k hk => hl k (List.mem_append_right _ hk)) (fun s2 h2 hb z => hq _ _ ((ha.mono fun k hk => hl k (List.mem_append_left _ hk)).trans hb) z) y) x

theorem bwp_agree (hC : CMono C) : ∀ (c : Code) {Q Q' : Ex → Slots → AHeap → Prop} {s : Slots} {h : AHeap}, (∀ e s1 h1, Agree (writesB P I c) s s1 → Q e s1 h1 → Q' e s1 h1) → bwp P C I c Q s h → bwp P C I c Q' s h
  | .skip, _, _, _, _, hq, x => hq _ _ _ (Agree.refl _ _) x
  | .ret, _, _, _, _, hq, x => hq _ _ _ (Agree.refl _ _) x
  | .exit _, _, _, _, _, hq, x => hq _ _ _ (Agree.refl _ _) x
  | .region _ ops false, _, _, _, _, hq, x => opsB_agree hC (plain ops.toList) (fun _ hk => hk) (fun s1 h1 ha y => hq _ _ _ ha y) x
  | .region _ ops true, Q, Q', s, h, hq, x => by
    simp only [bwp] at x ⊢
    simp only [writesB] at hq
    split at x
    · rename_i l hp
      simp only [hp] at hq ⊢
      exact opsB_agree hC (litOf ops.toList l) (fun _ hk => hk) (fun s1 h1 ha y => hq _ _ _ ha y) x
    · exact x.elim
  | .seq a b, Q, Q', s, h, hq, x => by
    refine bwp_agree hC a (fun e s1 h1 ha y => ?_) x
    have ha' : Agree (writesB P I (.seq a b)) s s1 := ha.mono fun k hk => List.mem_append_left _ hk
    cases e with
    | normal => exact bwp_agree hC b (fun e s2 h2 hb z => hq _ _ _ (ha'.trans (hb.mono fun k hk => List.mem_append_right _ hk)) z) y
    | exit _ => exact hq _ _ _ ha' y
    | ret => exact hq _ _ _ ha' y
  | .cond c a b, Q, Q', s, h, hq, x => by
    simp only [bwp] at x ⊢
    unfold A.cond at x ⊢
    split at x
    · exact ⟨fun e => bwp_agree hC a (fun _ _ _ ha y => hq _ _ _ (ha.mono fun k hk => List.mem_append_left _ hk) y) (x.1 e), fun e => bwp_agree hC b (fun _ _ _ ha y => hq _ _ _ (ha.mono fun k hk => List.mem_append_right _ hk) y) (x.2 e)⟩
    · exact x.elim
  | .block id b, Q, Q', s, h, hq, x => bwp_agree hC b (fun e s1 h1 ha y => by
      cases e with
      | normal => exact hq _ _ _ ha y
      | ret => exact hq _ _ _ ha y
      | exit j =>
        simp only [Ex.inBlock] at y ⊢
        cases hj : Nat.beq j id with
        | true => rw [hj] at y; exact hq _ _ _ ha y
        | false => rw [hj] at y; exact hq _ _ _ ha y) x
  | .loop c, Q, Q', s, h, hq, x => fun X hX => by
    refine x (fun s1 h1 => Agree (writesB P I c) s s1 → X s1 h1) (fun s1 h1 y ha => hX s1 h1 ?_) (Agree.refl _ _)
    refine bwp_agree hC c (fun e s2 h2 hb z => ?_) y
    cases e with
    | normal => exact z (ha.trans hb)
    | exit _ => exact hq _ _ _ (ha.trans hb) z
    | ret => exact hq _ _ _ (ha.trans hb) z
  | .rangeFunc .., _, _, _, _, _, x => x.elim
  | .scope _, _, _, _, _, _, x => x.elim
  | .label _, _, _, _, _, _, x => x.elim
  | .goto _, _, _, _, _, _, x => x.elim
  | .refuse _, _, _, _, _, _, x => x.elim

theorem seqB (hC : CMono C) {c a b : Code} {Q : Ex → Slots → AHeap → Prop} {X : Slots → AHeap → Prop} {s : Slots} {h : AHeap} (hc : c = .seq a b) (hb : ∀ s h, X s h → bwp P C I b Q s h) (ha : bwp P C I a (Ex.then X Q) s h) : bwp P C I c Q s h := by
  subst hc
  exact bwp_agree hC a (fun e s h _ y => by
    cases e with
    | normal => exact hb _ _ y
    | exit _ => exact y
    | ret => exact y) ha
theorem condB {c x y : Code} {o : Operand} {Q : Ex → Slots → AHeap → Prop} {p q : Prop} {s : Slots} {h : AHeap} (hc : c = .cond o x y) (hx : p → bwp P C I x Q s h) (hy : q → bwp P C I y Q s h) (hr : A.cond (evS s o) p q) : bwp P C I c Q s h := by
  subst hc
  simp only [bwp, A.cond] at hr ⊢
  split at hr
  · exact ⟨fun e => hx (hr.1 e), fun e => hy (hr.2 e)⟩
  · exact hr.elim
theorem loopB (hC : CMono C) {c b : Code} {Q : Ex → Slots → AHeap → Prop} {s : Slots} {h : AHeap} (keep live : List Nat) {G : List AVal → List AVal → AHeap → (List AVal → AHeap → Prop) → Prop}
    (hc : c = .loop b) (hk : (keep.all fun k => !memB (writesB P I b) k) = true)
    (hG : ∀ (Y : List AVal → AHeap → Prop) (s : Slots) (h : AHeap), G (keep.map s) (live.map s) h Y → bwp P C I b (Ex.then (fun s h => Y (live.map s) h) Q) s h)
    (hr : LoopR (G (keep.map s)) (live.map s) h) : bwp P C I c Q s h := by
  subst hc
  intro X hX
  have hm : ∀ (l : List Nat) (k : Nat), k ∈ l → memB l k = true := fun l => by
    induction l with
    | nil => intro k h; cases h
    | cons a r ih =>
      intro k h
      simp only [memB]
      rcases List.mem_cons.1 h with rfl | h
      · rw [Nat.beq_refl]; rfl
      · rw [ih k h]; cases Nat.beq a k <;> rfl
  have hw : ∀ k ∈ keep, k ∉ writesB P I b := fun k hk' hin => by
    have := List.all_eq_true.1 hk k hk'
    rw [hm _ _ hin] at this; cases this
  refine hr (fun vs h => ∀ s', keep.map s' = keep.map s → live.map s' = vs → X s' h) ?_ s rfl rfl
  intro vs h1 hg s1 e1 e2
  subst e2
  rw [← e1] at hg
  refine hX s1 h1 (bwp_agree hC b (fun e s2 h2 ha z => ?_) (hG _ s1 h1 hg))
  cases e with
  | normal =>
    refine z s2 ?_ rfl
    exact List.map_congr_left fun k hk' => ha k (hw k hk')
  | exit _ => exact z
  | ret => exact z
end
end Go.Ab

/- What is proved: rules by which residuals are worked out. No conditions. -/
set_option linter.unusedVariables false
namespace Go.Ab

/-- What follows need know no more of the memory than this. -/
def dn (Q : AVal → AHeap → Prop) (v : AVal) (h : AHeap) : Prop := ∃ h', Q v h' ∧ h'.le h
theorem dn_same {Q : AVal → AHeap → Prop} {v : AVal} {h : AHeap} (hq : Q v h) : dn Q v h := ⟨h, hq, AHeap.le_refl h⟩
theorem dn_le {Q : AVal → AHeap → Prop} {v : AVal} {h h' : AHeap} (hle : h.le h') (hq : Q v h) : dn Q v h' := ⟨h, hq, hle⟩

/-! What stands behind an operation is not looked at till it is come to. -/
/-- A statement, in whose type what follows is named: so it is not looked into. -/
abbrev Wr {α : Sort _} (a : α) : Type := Prop
namespace B
variable (h : AHeap)
def pv (o : Option AVal) (K : AVal → Prop) : Wr K := A.pv o K
def cond (c : AVal) (x y : Prop) : Wr (x, y) := A.cond c x y
def al (v : AVal) (p : Prop) : Wr p := A.al v p
def pick (c a b : AVal) (K : AVal → Prop) : Wr K := A.pick c a b K
def newO (o : Option (List AVal)) (K : Nat → AHeap → Prop) : Wr K := A.newO h o K
def ld (p : AVal) (K : AVal → Prop) : Wr K := A.ld h p K
def ldn (p : AVal) (n : Nat) (K : AVal → Prop) : Wr K := A.ldn h p n K
def st (p v : AVal) (K : AHeap → Prop) : Wr K := A.st h p v K
def stn (p : AVal) (n : Nat) (v : AVal) (K : AHeap → Prop) : Wr K := A.stn h p n v K
def nilCheck (v : AVal) (K : AVal → Prop) : Wr K := A.nilCheck v K
def appW (es bytes : Nat) (x y : AVal) (K : AVal → AHeap → Prop) : Wr K := A.appW h es bytes x y K
def cpy (es : Nat) (x y : AVal) (K : AVal → AHeap → Prop) : Wr K := A.cpy h es x y K
def mks (bytes : Nat) (z : Option (List AVal)) (l c : AVal) (K : AVal → AHeap → Prop) : Wr K := A.mks h bytes z l c K
def bytesStr (x : AVal) (K : AVal → Prop) : Wr K := A.bytesStr h x K
def strBytes (x : AVal) (K : AVal → AHeap → Prop) : Wr K := A.strBytes h x K
def rangeStr (x : AVal) (K : AVal → AHeap → Prop) : Wr K := A.rangeStr h x K
def nextStr (x : AVal) (K : AVal → AHeap → Prop) : Wr K := A.nextStr h x K
def call (C : CSem) (f : Nat) (args : List AVal) (h : AHeap) (K : AVal → AHeap → Prop) : Wr K := C f args h K
def callv (h : AHeap) (C : CSem) (f : AVal) (args : List AVal) (K : AVal → AHeap → Prop) : Wr K := A.callv h C f args K
def gd (c : AVal) (want : Bool) (M : (AVal → AHeap → Prop) → Prop) (K : AVal → AHeap → Prop) : Wr (M, K) := A.gd h c want M K
/-- An operation that is done just if d. -/
def gdb (d : Bool) (M : (AVal → AHeap → Prop) → Prop) (K : AVal → AHeap → Prop) : Wr K := (d = true → M K) ∧ (d = false → K (.tup []) h)
def keepS (ls : List (AVal × Option Nat)) (K : AVal → AHeap → Prop) : AVal → AHeap → Prop := A.keepS h ls K
end B

@[simp] theorem B.pv_some (v : AVal) (K : AVal → Prop) : (B.pv (some v) K : Prop) = K v := propext Iff.rfl
@[simp] theorem B.pv_none (K : AVal → Prop) : (B.pv none K : Prop) = False := propext Iff.rfl
@[simp] theorem B.al_agg (cs : List AVal) (p : Prop) : (B.al (.agg cs) p : Prop) = p := propext Iff.rfl
@[simp] theorem B.cond_true (x y : Prop) : (B.cond (.bool true) x y : Prop) = x := by simp [B.cond, A.cond]
@[simp] theorem B.cond_false (x y : Prop) : (B.cond (.bool false) x y : Prop) = y := by simp [B.cond, A.cond]
theorem B.cond_bool {b : Bool} {x y : Prop} (hx : b = true → x) (hy : b = false → y) : B.cond (.bool b) x y := ⟨hx, hy⟩
@[simp] theorem B.ld_eq (h : AHeap) (p : AVal) (K : AVal → Prop) : (B.ld h p K : Prop) = B.pv (A.ldv h p) K := propext Iff.rfl
@[simp] theorem B.ldn_eq (h : AHeap) (p : AVal) (n : Nat) (K : AVal → Prop) : (B.ldn h p n K : Prop) = B.pv (A.ldnv h p n) K := propext Iff.rfl
@[simp] theorem B.nilCheck_ptr (id g off : Nat) (K : AVal → Prop) : (B.nilCheck (.ptr id g off) K : Prop) = K (.ptr id g off) := propext Iff.rfl
@[simp] theorem B.callv_fn (h : AHeap) (C : CSem) (f : Nat) (first caps args : List AVal) (K : AVal → AHeap → Prop) : (B.callv h C (.fn f first caps) args K : Prop) = B.call C f (first ++ args ++ caps) h K := propext Iff.rfl

/-! Guarded operations. -/
/-- What a guarded operation leaves. -/
def gv (b : Bool) (v : AVal) : AVal := bif b then v else .tup []
@[simp] theorem gv_true (v : AVal) : gv true v = v := eq_of_heq HEq.rfl
@[simp] theorem gv_false (v : AVal) : gv false v = .tup [] := eq_of_heq HEq.rfl
@[simp] theorem gv_gv (b c : Bool) (v : AVal) : gv b (gv c v) = gv (b && c) v := by cases b <;> cases c <;> exact eq_of_heq HEq.rfl
section
variable (h : AHeap) (b c : Bool) (M : (AVal → AHeap → Prop) → Prop) (K : AVal → AHeap → Prop) (v : AVal)
@[simp] theorem B.gd_t : (B.gd h (.bool b) true M K : Prop) = B.gdb h b M K := by cases b <;> simp [B.gd, A.gd, B.gdb]
@[simp] theorem B.gd_f : (B.gd h (.bool b) false M K : Prop) = B.gdb h (!b) M K := by cases b <;> simp [B.gd, A.gd, B.gdb]
@[simp] theorem B.gd_ct : (B.gd h (gv b (.bool c)) true M K : Prop) = B.gdb h (b && c) M K := by cases b <;> cases c <;> simp [B.gd, A.gd, B.gdb, gv]
@[simp] theorem B.gd_cf : (B.gd h (gv b (.bool c)) false M K : Prop) = B.gdb h (b && !c) M K := by cases b <;> cases c <;> simp [B.gd, A.gd, B.gdb, gv]
@[simp] theorem B.gd_tup (w : Bool) : (B.gd h (.tup []) w M K : Prop) = K (.tup []) h := propext Iff.rfl
@[simp] theorem B.gdb_pure : (B.gdb h b (fun K => K v h) K : Prop) = K (gv b v) h := by cases b <;> simp [B.gdb, gv]
@[simp] theorem B.gdb_true : (B.gdb h true M K : Prop) = M K := by simp [B.gdb]
@[simp] theorem B.gdb_false : (B.gdb h false M K : Prop) = K (.tup []) h := by simp [B.gdb]
end
@[congr] theorem B.gdb_congr {h : AHeap} {c c' : Bool} {M M' : (AVal → AHeap → Prop) → Prop} {K : AVal → AHeap → Prop} (hc : c = c') (hM : c' = true → ∀ K, M K = M' K) : (B.gdb h c M K : Prop) = B.gdb h c' M' K := by
  subst hc
  unfold B.gdb
  cases c
  · simp
  · simp [hM rfl]
/-- A guarded call that leaves the memory. -/
theorem B.gdb_call {h : AHeap} {b : Bool} {v : AVal} {M : (AVal → AHeap → Prop) → Prop} {K : AVal → AHeap → Prop} (hs : b = true → ∀ Q : AVal → AHeap → Prop, Q v h → M Q)
    (hk : K (gv b v) h) : B.gdb h b M K := by
  cases b
  · exact ⟨fun e => (by cases e), fun _ => hk⟩
  · exact ⟨fun _ => hs rfl _ hk, fun e => (by cases e)⟩
section
variable (b c d : Bool) (u x y : AVal) (K : AVal → Prop)
@[simp] theorem B.pick_and : (B.pick (.bool b) (gv b (.bool c)) (.bool d) K : Prop) = K (.bool (bif b then c else d)) := by cases b <;> exact eq_of_heq HEq.rfl
@[simp] theorem B.pick_or : (B.pick (.bool b) (.bool d) (gv (!b) (.bool c)) K : Prop) = K (.bool (bif b then d else c)) := by cases b <;> exact eq_of_heq HEq.rfl
@[simp] theorem B.pick_nor : (B.pick (.bool !b) (.bool d) (gv b (.bool c)) K : Prop) = K (.bool (bif b then c else d)) := by cases b <;> exact eq_of_heq HEq.rfl
@[simp] theorem B.pick_t : (B.pick (.bool true) x y K : Prop) = K x := eq_of_heq HEq.rfl
@[simp] theorem B.pick_f : (B.pick (.bool false) x y K : Prop) = K y := eq_of_heq HEq.rfl
@[simp] theorem B.pick_plain : (B.pick (.bool b) (.bool c) (.bool d) K : Prop) = K (.bool (bif b then c else d)) := by cases b <;> exact eq_of_heq HEq.rfl
@[simp] theorem B.pick_int (k : IntKind) (x y : Int) : (B.pick (.bool b) (.int k x) (.int k y) K : Prop) = K (.int k (bif b then x else y)) := by cases b <;> exact eq_of_heq HEq.rfl
@[simp] theorem B.pick_or2 {b c d e : Bool} {K : AVal → Prop} (hc : e = !b) : (B.pick (.bool b) (.bool d) (gv e (.bool c)) K : Prop) = K (.bool (bif b then d else c)) := by subst hc; cases b <;> exact eq_of_heq HEq.rfl
@[simp] theorem B.pick_and2 {b c d e : Bool} {K : AVal → Prop} (hc : e = b) : (B.pick (.bool b) (gv e (.bool c)) (.bool d) K : Prop) = K (.bool (bif b then c else d)) := by subst hc; cases e <;> exact eq_of_heq HEq.rfl
theorem cond_andb : (bif b then c else false) = (b && c) := by cases b <;> rfl
theorem cond_orb : (bif b then true else c) = (b || c) := by cases b <;> rfl
attribute [simp] cond_andb cond_orb
end

namespace V
variable (k : IntKind) (a b : Int)
@[simp] theorem bin_add : bin .add (.int k a) (.int k b) = some (.int k (k.wrap (a + b))) := by simp [bin, arith]
@[simp] theorem bin_sub : bin .sub (.int k a) (.int k b) = some (.int k (k.wrap (a - b))) := by simp [bin, arith]
@[simp] theorem bin_mul : bin .mul (.int k a) (.int k b) = some (.int k (k.wrap (a * b))) := by simp [bin, arith]
@[simp] theorem bin_quo (hb : b ≠ 0) : bin .quo (.int k a) (.int k b) = some (.int k (k.wrap (a.tdiv b))) := by simp [bin, arith, hb]
@[simp] theorem bin_rem (hb : b ≠ 0) : bin .rem (.int k a) (.int k b) = some (.int k (a.tmod b)) := by simp [bin, arith, hb]
@[simp] theorem bin_eql : bin .eql (.int k a) (.int k b) = some (.bool (decide (a = b))) := by simp [bin, arith]; rfl
@[simp] theorem bin_neq : bin .neq (.int k a) (.int k b) = some (.bool (!decide (a = b))) := by simp [bin, arith]; rfl
@[simp] theorem bin_lss : bin .lss (.int k a) (.int k b) = some (.bool (decide (a < b))) := by simp [bin, arith]
@[simp] theorem bin_leq : bin .leq (.int k a) (.int k b) = some (.bool (decide (a ≤ b))) := by simp [bin, arith]
@[simp] theorem bin_gtr : bin .gtr (.int k a) (.int k b) = some (.bool (decide (b < a))) := by simp [bin, arith]
@[simp] theorem bin_geq : bin .geq (.int k a) (.int k b) = some (.bool (decide (b ≤ a))) := by simp [bin, arith]
@[simp] theorem bin_seql (x y : List UInt8) : bin .eql (.str x) (.str y) = some (.bool (decide (x = y))) := by simp only [bin, strOp]; congr 2; rw [Bool.eq_iff_iff]; simp
@[simp] theorem bin_sneq (x y : List UInt8) : bin .neq (.str x) (.str y) = some (.bool (!decide (x = y))) := by simp only [bin, strOp]; congr 3; rw [Bool.eq_iff_iff]; simp
@[simp] theorem eqBool_eql (x y : Bool) : eqBool .eql (.bool x) (.bool y) = some (.bool (x == y)) := eq_of_heq HEq.rfl
@[simp] theorem eqBool_neq (x y : Bool) : eqBool .neq (.bool x) (.bool y) = some (.bool (!(x == y))) := eq_of_heq HEq.rfl
@[simp] theorem un_not (x : Bool) : un .not (.bool x) = some (.bool !x) := eq_of_heq HEq.rfl
@[simp] theorem un_neg : un .neg (.int k a) = some (.int k (k.wrap (0 - a))) := eq_of_heq HEq.rfl
@[simp] theorem toInt_int (j : IntKind) : toInt k (.int j a) = some (.int k (k.wrap a)) := eq_of_heq HEq.rfl
@[simp] theorem strStr_str (x : List UInt8) : strStr (.str x) = some (.str x) := eq_of_heq HEq.rfl
@[simp] theorem fieldAddr_ptr (o id g off : Nat) : fieldAddr o (.ptr id g off) = some (.ptr id g (off + o)) := eq_of_heq HEq.rfl
@[simp] theorem field1_agg (o : Nat) (cs : List AVal) : field1 o (.agg cs) = cs[o]? := eq_of_heq HEq.rfl
@[simp] theorem fieldN_agg (o n : Nat) (cs : List AVal) : fieldN o n (.agg cs) = if o + n ≤ cs.length then some (.agg ((cs.drop o).take n)) else none := eq_of_heq HEq.rfl
@[simp] theorem setF_agg (o : Nat) (v : AVal) (cs : List AVal) : setF o v (.agg cs) = optAgg (put1 o v cs) := by unfold setF optAgg; rfl
@[simp] theorem setN_agg (o n : Nat) (v : AVal) (cs : List AVal) : setN o n v (.agg cs) = optAgg (putN o n v cs) := by unfold setN optAgg; rfl
@[simp] theorem put1_cell (o : Nat) (v : AVal) (cs : List AVal) : put1 o v cs = bif v.isCell then (if o < cs.length then some (cs.set o v) else none) else none := eq_of_heq HEq.rfl
@[simp] theorem putN_agg (o n : Nat) (xs cs : List AVal) : putN o n (.agg xs) cs = if xs.length = n ∧ o + n ≤ cs.length then some (cs.take o ++ xs ++ cs.drop (o + n)) else none := eq_of_heq HEq.rfl
@[simp] theorem ext_tup (i : Nat) (cs : List AVal) : ext i (.tup cs) = cs[i]? := eq_of_heq HEq.rfl
@[simp] theorem lenStr_str (x : List UInt8) : lenStr (.str x) = some (.int .i64 x.length) := eq_of_heq HEq.rfl
@[simp] theorem lenSl_nils : lenSl .nils = some (.int .i64 0) := eq_of_heq HEq.rfl
@[simp] theorem lenSl_sz : lenSl .sz = some (.int .i64 0) := eq_of_heq HEq.rfl
@[simp] theorem lenSl_sl (id g off n es cp : Nat) : lenSl (.sl id g off n es cp) = some (.int .i64 n) := eq_of_heq HEq.rfl
@[simp] theorem max2_int : max2 (.int k a) (.int k b) = some (.int k (max a b)) := by
  simp only [max2]; congr 2; split <;> omega
@[simp] theorem min2_int : min2 (.int k a) (.int k b) = some (.int k (min a b)) := by
  simp only [min2]; congr 2; split <;> omega
attribute [simp] eqCells eqv
@[simp] theorem eqCell_b (x y : Bool) : eqCell .b (.bool x) (.bool y) = some (decide (x = y)) := by cases x <;> cases y <;> rfl
@[simp] theorem eqCell_i : eqCell (.i k) (.int k a) (.int k b) = some (decide (a = b)) := by simp only [eqCell]; rw [if_pos ⟨trivial, trivial⟩]; rfl
@[simp] theorem eqCell_s (x y : List UInt8) : eqCell .s (.str x) (.str y) = some (decide (x = y)) := by simp only [eqCell]; congr 1; rw [Bool.eq_iff_iff]; simp
end V
@[simp] theorem optAgg_some (cs : List AVal) : optAgg (some cs) = some (.agg cs) := eq_of_heq HEq.rfl
@[simp] theorem boxN_agg (n : Nat) (cs : List AVal) : A.boxN n (.agg cs) = if cs.length = n then some (.agg cs) else none := eq_of_heq HEq.rfl
@[simp] theorem box1_eq (v : AVal) : A.box1 v = bif v.isCell then some (.agg [v]) else none := eq_of_heq HEq.rfl
@[simp] theorem cellsN_agg (n : Nat) (cs : List AVal) : A.cellsN n (.agg cs) = if cs.length = n then some cs else none := eq_of_heq HEq.rfl
@[simp] theorem cells1_eq (v : AVal) : A.cells1 v = bif v.isCell then some [v] else none := eq_of_heq HEq.rfl
attribute [simp] A.bld fillL repL
@[simp] theorem isCell_bool (b : Bool) : (AVal.bool b).isCell = true := eq_of_heq HEq.rfl
@[simp] theorem isCell_int (k : IntKind) (n : Int) : (AVal.int k n).isCell = true := eq_of_heq HEq.rfl
@[simp] theorem isCell_str (s : List UInt8) : (AVal.str s).isCell = true := eq_of_heq HEq.rfl
@[simp] theorem isCell_ptr (a b c : Nat) : (AVal.ptr a b c).isCell = true := eq_of_heq HEq.rfl
@[simp] theorem isCell_nilp : AVal.nilp.isCell = true := eq_of_heq HEq.rfl
@[simp] theorem isCell_nils : AVal.nils.isCell = true := eq_of_heq HEq.rfl
@[simp] theorem isCell_sz : AVal.sz.isCell = true := eq_of_heq HEq.rfl
@[simp] theorem isCell_sl (a b c d e f : Nat) : (AVal.sl a b c d e f).isCell = true := eq_of_heq HEq.rfl
@[simp] theorem isCell_fn (f : Nat) (a b : List AVal) : (AVal.fn f a b).isCell = true := eq_of_heq HEq.rfl
@[simp] theorem isCell_nilf : AVal.nilf.isCell = true := eq_of_heq HEq.rfl

@[simp] theorem upd_get (h : AHeap) (id : Nat) (b : Blk) : upd h id b id = some b := upd_same h id b
@[simp] theorem upd_get_ne (h : AHeap) {id i : Nat} (b : Blk) (hne : i ≠ id) : upd h id b i = h i := upd_other h b hne
@[simp] theorem upd_none (h : AHeap) (id i : Nat) (b : Blk) : upd h id b i = none ↔ i ≠ id ∧ h i = none := by
  by_cases hi : i = id
  · subst hi; simp
  · simp [hi]
attribute [simp] upd_upd

@[simp] theorem joinV_some (v : AVal) (l : List AVal) : joinV (some v) (some l) = some (v :: l) := eq_of_heq HEq.rfl
@[simp] theorem oneOf_one (v : AVal) : oneOf (some [v]) = some v := eq_of_heq HEq.rfl
@[simp] theorem oneOf_more (v w : AVal) (l : List AVal) : oneOf (some (v :: w :: l)) = some (.tup (v :: w :: l)) := eq_of_heq HEq.rfl

/-! Numbers. -/
theorem wrap_i64 {n : Int} (h1 : -9223372036854775808 ≤ n) (h2 : n ≤ 9223372036854775807) : IntKind.i64.wrap n = n := by
  rw [IntKind.wrap_i64]; omega
end Go.Ab
