/- What is proved: what is told of an operation has one of five shapes; how it hangs on its operands, on the memory and on what stands behind it. -/
import Derived.Test.YtjhldpbpopjkiaaAbQ
namespace Go.Ab

inductive Sh where
  | val (v : AVal)
  | heap (id : Nat) (b : Blk) (v : AVal)
  | new (b : Blk) (mk : Nat → AVal)
  | call (f : Nat) (args : List AVal)
  | fail

def Sh.run (C : CSem) (h : AHeap) (K : AVal → AHeap → Prop) : Sh → Prop
  | .val v => K v h
  | .heap id b v => K v (upd h id b)
  | .new b mk => ∀ id, h id = none → K (mk id) (upd h id b)
  | .call f args => C f args h K
  | .fail => False

namespace Sh
def pv : Option AVal → Sh
  | some v => .val v
  | none => .fail
def newO (o : Option (List AVal)) (mk : Nat → AVal) : Sh :=
  match o with
  | some cs => .new (blkOf cs) mk
  | none => .fail
def st (h : AHeap) (p : AVal) (f : List AVal → Option (List AVal)) (n off : Nat) (v : AVal) : Sh :=
  match p with
  | .ptr id g o => match h id with
    | some b => match b.gens.lookup g with
      | some hi => bif b.own && Nat.ble (off + o + n) hi then (match f b.cells with
        | some cs => .heap id { b with cells := cs, gens := [(g, hi)] } v
        | none => .fail) else .fail
      | none => .fail
    | none => .fail
  | _ => .fail
def app (h : AHeap) (es bytes : Nat) (x : AVal) (news : Option (List AVal)) : Sh :=
  match news with
  | none => .fail
  | some cs =>
    match x with
    | .nils => if cs.length = 0 then .val .nils else if (cs.length / es) * bytes ≤ 140737488355328 ∧ (cs.length / es) ≤ maxLen then .new (blkOf cs) fun id => .sl id 0 0 (cs.length / es) es (cs.length / es) else .fail
    | .sz => if cs.length = 0 then .val .sz else if (cs.length / es) * bytes ≤ 140737488355328 ∧ (cs.length / es) ≤ maxLen then .new (blkOf cs) fun id => .sl id 0 0 (cs.length / es) es (cs.length / es) else .fail
    | .sl id g off len es' _ => match h id with
      | some b => match b.gens.lookup g with
        | some hi => if es' = es ∧ b.own = true ∧ off + len * es ≤ hi ∧ (len + cs.length / es) * bytes ≤ 140737488355328 ∧ len + cs.length / es ≤ maxLen then
            .heap id (appBlk b (off + len * es) cs) (.sl id b.next off (len + cs.length / es) es (len + cs.length / es)) else .fail
        | none => .fail
      | none => .fail
    | _ => .fail
def cpy (h : AHeap) (es : Nat) (x y : AVal) : Sh :=
  match A.srcLen y with
  | none => .fail
  | some m =>
    match x with
    | .nils | .sz => .val (.int .i64 0)
    | .sl id g off len _ _ => match A.rdv h y (min m len) es with
      | none => .fail
      | some cs => st h (.ptr id g off) (V.putN off (min m len * es) (.agg cs)) (min m len * es) 0 (.int .i64 (min m len : Nat))
    | _ => .fail
def mks (bytes : Nat) (z : Option (List AVal)) (l c : AVal) : Sh :=
  match z, l, c with
  | some z, .int _ l, .int _ c => if 0 ≤ l ∧ l ≤ c ∧ c * bytes ≤ 281474976710656 ∧ c ≤ 9223372036854775807 then .new (blkOf (repL c.toNat z)) fun id => .sl id 0 0 l.toNat z.length c.toNat else .fail
  | _, _, _ => .fail
def bytesStr (h : AHeap) (x : AVal) : Sh :=
  match A.srcLen x with
  | some n => (match A.rdv h x n 1 with
    | some cs => (match V.bytesOf? cs with
      | some l => .val (.str l)
      | none => .fail)
    | none => .fail)
  | none => .fail
def strBytes (x : AVal) : Sh :=
  match x with
  | .str s => if s.length ≤ 140737488355328 then .new (blkOf (s.map fun b => .int .u8 b.toNat)) fun id => .sl id 0 0 s.length 1 s.length else .fail
  | _ => .fail
def rangeStr (x : AVal) : Sh :=
  match x with
  | .str s => .new (objOf (.iter s 0)) fun id => .ptr id 0 0
  | _ => .fail
def nextStr (h : AHeap) (x : AVal) : Sh :=
  match x with
  | .ptr id 0 0 => (match h id with
    | some b => (match b.obj with
      | some (.iter s pos) => if pos < s.length then .heap id { b with obj := some (.iter s (pos + (A.rune s pos).2)) } (.tup [.bool true, .int .i64 pos, .int .i32 (A.rune s pos).1])
          else .val (.tup [.bool false])
      | _ => .fail)
    | none => .fail)
  | _ => .fail
def callv (f : AVal) (args : List AVal) : Sh :=
  match f with
  | .fn f first caps => .call f (first ++ args ++ caps)
  | _ => .fail
def pick (c a b : AVal) : Sh :=
  match c with
  | .bool c => .val (bif c then a else b)
  | _ => .fail
def nilCheck (v : AVal) : Sh :=
  match v with
  | .ptr _ _ _ => .val v
  | .fn _ _ _ => .val v
  | _ => .fail
end Sh

section
variable {C : CSem} {h : AHeap} {K : AVal → AHeap → Prop}

theorem sh_pv {o : Option AVal} : A.pv o (fun v => K v h) ↔ (Sh.pv o).run C h K := by
  cases o <;> exact Iff.rfl
theorem sh_newO {o : Option (List AVal)} {mk : Nat → AVal} : A.newO h o (fun id h => K (mk id) h) ↔ (Sh.newO o mk).run C h K := by
  cases o <;> exact Iff.rfl
theorem sh_pick {c a b : AVal} : A.pick c a b (fun v => K v h) ↔ (Sh.pick c a b).run C h K := by
  cases c <;> exact Iff.rfl
theorem sh_nilCheck {v : AVal} : A.nilCheck v (fun v => K v h) ↔ (Sh.nilCheck v).run C h K := by
  cases v <;> exact Iff.rfl
theorem sh_st {p : AVal} {f : List AVal → Option (List AVal)} {n off : Nat} {v : AVal} : A.ph (A.stv h p f n off) (fun h => K v h) ↔ (Sh.st h p f n off v).run C h K := by
  cases p <;> try exact Iff.rfl
  rename_i id g o
  simp only [A.stv, Sh.st]
  cases h id with
  | none => exact Iff.rfl
  | some b =>
    simp only
    cases b.gens.lookup g with
    | none => exact Iff.rfl
    | some hi =>
      simp only
      cases (b.own && Nat.ble (off + o + n) hi) with
      | false => exact Iff.rfl
      | true =>
        simp only [cond_true]
        cases f b.cells <;> exact Iff.rfl
theorem ite_run {p : Prop} [Decidable p] {x y : Sh} : (if p then x else y).run C h K ↔ if p then x.run C h K else y.run C h K := by
  split <;> exact Iff.rfl
theorem and_ite {p : Prop} [Decidable p] {x : Sh} {q : Prop} (hq : q ↔ x.run C h K) : (p ∧ q) ↔ (if p then x else .fail).run C h K := by
  by_cases hp : p
  · rw [if_pos hp]; exact ⟨fun ⟨_, k⟩ => hq.1 k, fun k => ⟨hp, hq.2 k⟩⟩
  · rw [if_neg hp]; exact ⟨fun ⟨k, _⟩ => hp k, fun k => k.elim⟩
theorem sh_app {es bytes : Nat} {x : AVal} {news : Option (List AVal)} : A.app h es bytes x news K ↔ (Sh.app h es bytes x news).run C h K := by
  cases news with
  | none => exact Iff.rfl
  | some cs =>
    cases x <;> (try exact Iff.rfl)
    · simp only [A.app, Sh.app]
      by_cases h0 : cs.length = 0
      · rw [if_pos h0, if_pos h0]; exact Iff.rfl
      · rw [if_neg h0, if_neg h0, ← and_assoc]; exact and_ite Iff.rfl
    · simp only [A.app, Sh.app]
      by_cases h0 : cs.length = 0
      · rw [if_pos h0, if_pos h0]; exact Iff.rfl
      · rw [if_neg h0, if_neg h0, ← and_assoc]; exact and_ite Iff.rfl
    · rename_i id g off len es' cp'
      simp only [A.app, Sh.app]
      cases h id with
      | none => exact Iff.rfl
      | some b =>
        simp only
        cases b.gens.lookup g with
        | none => exact Iff.rfl
        | some hi =>
          simp only
          rw [show ∀ a b c d e f : Prop, (a ∧ b ∧ c ∧ d ∧ e ∧ f) ↔ ((a ∧ b ∧ c ∧ d ∧ e) ∧ f) from fun a b c d e f => by simp only [and_assoc]]
          exact and_ite Iff.rfl
theorem sh_cpy {es : Nat} {x y : AVal} : A.cpy h es x y K ↔ (Sh.cpy h es x y).run C h K := by
  simp only [A.cpy, Sh.cpy]
  cases A.srcLen y with
  | none => exact Iff.rfl
  | some m =>
    cases x <;> (try exact Iff.rfl)
    simp only
    cases A.rdv h y _ es with
    | none => exact Iff.rfl
    | some cs => exact sh_st
theorem sh_mks {bytes : Nat} {z : Option (List AVal)} {l c : AVal} : A.mks h bytes z l c K ↔ (Sh.mks bytes z l c).run C h K := by
  cases z <;> cases l <;> cases c <;> (try exact Iff.rfl)
  simp only [A.mks, Sh.mks]
  rw [show ∀ a b c d f : Prop, (a ∧ b ∧ c ∧ d ∧ f) ↔ ((a ∧ b ∧ c ∧ d) ∧ f) from fun a b c d f => by simp only [and_assoc]]
  exact and_ite Iff.rfl
theorem sh_bytesStr {x : AVal} : A.bytesStr h x (fun v => K v h) ↔ (Sh.bytesStr h x).run C h K := by
  simp only [A.bytesStr, Sh.bytesStr]
  cases A.srcLen x with
  | none => exact Iff.rfl
  | some n =>
    simp only
    cases A.rdv h x n 1 with
    | none => exact Iff.rfl
    | some cs =>
      simp only
      cases V.bytesOf? cs <;> exact Iff.rfl
theorem sh_strBytes {x : AVal} : A.strBytes h x K ↔ (Sh.strBytes x).run C h K := by
  cases x <;> (try exact Iff.rfl)
  simp only [A.strBytes, Sh.strBytes]
  exact and_ite Iff.rfl
theorem sh_rangeStr {x : AVal} : A.rangeStr h x K ↔ (Sh.rangeStr x).run C h K := by
  cases x <;> exact Iff.rfl
theorem sh_nextStr {x : AVal} : A.nextStr h x K ↔ (Sh.nextStr h x).run C h K := by
  cases x <;> (try exact Iff.rfl)
  rename_i id g off
  cases g with
  | succ _ => exact Iff.rfl
  | zero =>
    cases off with
    | succ _ => exact Iff.rfl
    | zero =>
      simp only [A.nextStr, Sh.nextStr]
      cases h id with
      | none => exact Iff.rfl
      | some b =>
        simp only
        cases b.obj with
        | none => exact Iff.rfl
        | some o =>
          cases o with
          | iter s pos =>
            simp only
            by_cases hp : pos < s.length
            · rw [if_pos hp, if_pos hp]; exact Iff.rfl
            · rw [if_neg hp, if_neg hp]; exact Iff.rfl
          | map _ => exact Iff.rfl
theorem sh_callv {f : AVal} {args : List AVal} : A.callv h C f args K ↔ (Sh.callv f args).run C h K := by
  cases f <;> exact Iff.rfl
theorem bif_run {b : Bool} {p q : Prop} {x y : Sh} (h1 : p ↔ x.run C h K) (h2 : q ↔ y.run C h K) : (bif b then p else q) ↔ (bif b then x else y).run C h K := by
  cases b
  · exact h2
  · exact h1
end

def builtinSh (P : Program) (b : Builtin) (at_ : List TypeId) (args : List AVal) (h : AHeap) : Sh :=
  match b, at_, args with
  | .len, t :: _, [x] => match P.underlying t with
    | some .string => Sh.pv (V.lenStr x)
    | some (.slice _) => Sh.pv (V.lenSl x)
    | some (.array n _) => .val (.int .i64 n)
    | _ => .fail
  | .append, [t, u], [x, y] => match P.underlying t, P.underlying u with
    | some (.slice e), some (.slice _) => if 0 < P.cellsOf e ∧ t = u ∧ (zeroOf P e).isSome = true then (match A.srcLen y with
      | some n => Sh.app h (P.cellsOf e) (P.bytesOf e) x (A.rdv h y n (P.cellsOf e))
      | none => .fail) else .fail
    | _, _ => .fail
  | .copy, [t, u], [x, y] => match P.underlying t with
    | some (.slice e) => if t = u ∧ 0 < P.cellsOf e then Sh.cpy h (P.cellsOf e) x y else .fail
    | _ => .fail
  | .min, _, [x, y] => Sh.pv (V.min2 x y)
  | .max, _, [x, y] => Sh.pv (V.max2 x y)
  | _, _, _ => .fail

def shOf (P : Program) (op : Op) (ρ : Operand → AVal) (h : AHeap) : Sh :=
  match op with
  | .move x | .assign x => .val (ρ x)
  | .pick c a b => Sh.pick (ρ c) (ρ a) (ρ b)
  | .alloc t => Sh.newO (zeroOf P t) fun id => .ptr id 0 0
  | .box t x => Sh.newO (bif isAggB P t then A.cellsN (P.cellsOf t) (ρ x) else A.cells1 (ρ x)) fun id => .ptr id 0 0
  | .build t parts => Sh.pv (match zeroOf P t, placesOf P t (parts.toList.map fun p => (p.1, ρ p.2)) with
      | some z, some ps => (match fillL ps z with | some cs => some (.agg cs) | none => none)
      | _, _ => none)
  | .buildSlice t len parts => match elemOf? P t with
    | some e => if len = 0 then (match parts.toList, partOf P e with | [], some _ => .val .sz | _, _ => .fail) else
        Sh.newO (match zeroOf P e, partOf P e with
          | some z, some pz => bif Nat.ble (len * P.cellsOf e) 16777216 && Nat.ble 1 (P.cellsOf e) then fillL (placesE (P.cellsOf e) pz (parts.toList.map fun p => (p.1, ρ p.2))) (repL len z) else none
          | _, _ => none) fun id => .sl id 0 0 len (P.cellsOf e) len
    | none => .fail
  | .load t x => match P.underlying t with
    | none => .fail
    | some _ => bif isAggB P t then Sh.pv (A.ldnv h (ρ x) (P.cellsOf t)) else Sh.pv (A.ldv h (ρ x))
  | .store t x v => bif isAggB P t then Sh.st h (ρ x) (V.putN (A.ptrOff (ρ x)) (P.cellsOf t) (ρ v)) (P.cellsOf t) 0 .undef
      else bif Nat.beq (P.cellsOf t) 1 then Sh.st h (ρ x) (V.put1 (A.ptrOff (ρ x)) (ρ v)) 1 0 .undef else .fail
  | .nilCheck x => Sh.nilCheck (ρ x)
  | .binOp op t x y _ => match P.underlying t with
    | some (.int _) | some .string => Sh.pv (V.bin op (ρ x) (ρ y))
    | some .bool => Sh.pv (V.eqBool op (ρ x) (ρ y))
    | some (.pointer _) => Sh.pv (V.eqPtr op (ρ x) (ρ y))
    | some (.slice _) => Sh.pv (V.eqSl op (ρ x) (ρ y))
    | some (.func ..) => Sh.pv (V.eqFn op (ρ x) (ρ y))
    | some (.struct _) => (match plainEq P t with
      | some sh => Sh.pv (V.binAgg op sh (ρ x) (ρ y))
      | none => .fail)
    | _ => .fail
  | .unOp op _ x => Sh.pv (V.un op (ρ x))
  | .convert src dst x => match P.underlying src, P.underlying dst with
    | some (.int _), some (.int k) => Sh.pv (V.toInt k (ρ x))
    | some .string, some .string => Sh.pv (V.strStr (ρ x))
    | some (.slice e), some .string => bif isU8 P e then Sh.bytesStr h (ρ x) else .fail
    | some .string, some (.slice e) => bif isU8 P e then Sh.strBytes (ρ x) else .fail
    | _, _ => .fail
  | .range t x => match P.underlying t with
    | some .string => Sh.rangeStr (ρ x)
    | _ => .fail
  | .next x true => Sh.nextStr h (ρ x)
  | .makeSlice t l c => match elemOf? P t with
    | some e => if 0 < P.cellsOf e then Sh.mks (P.bytesOf e) (zeroOf P e) (ρ l) (ρ c) else .fail
    | none => .fail
  | .slice t x lo hi mx => match P.underlying t, mx with
    | some .string, none => Sh.pv (V.cutStr (ρ x) (lo.map ρ) (hi.map ρ))
    | some (.slice e), none => bif Nat.beq (P.cellsOf e) 0 then .fail else Sh.pv (V.cutSl (P.cellsOf e) (ρ x) (lo.map ρ) (hi.map ρ))
    | some (.slice e), some mx => bif Nat.beq (P.cellsOf e) 0 then .fail else (match lo, hi with
      | some lo, some hi => Sh.pv (V.cut0 (ρ x) (ρ lo) (ρ hi) (ρ mx))
      | none, some hi => Sh.pv (V.cut0 (ρ x) (.int .i64 0) (ρ hi) (ρ mx))
      | _, _ => .fail)
    | _, _ => .fail
  | .fieldAddr t x f => match P.underlying t with
    | some (.struct fs) => (match fs[f]? with
      | some fd => bif Nat.beq (P.cellsOf fd.type) 0 then .fail else Sh.pv (V.fieldAddr fd.offset (ρ x))
      | none => .fail)
    | _ => .fail
  | .field t x f => match P.underlying t with
    | some (.struct fs) => (match fs[f]? with
      | some fd => (match P.underlying fd.type with
        | none => .fail
        | some _ => bif isAggB P fd.type then Sh.pv (V.fieldN fd.offset (P.cellsOf fd.type) (ρ x)) else Sh.pv (V.field1 fd.offset (ρ x)))
      | none => .fail)
    | _ => .fail
  | .indexAddr t x i => match P.underlying t with
    | some (.slice e) => bif Nat.beq (P.cellsOf e) 0 then .fail else Sh.pv (V.idxS (P.cellsOf e) (ρ x) (ρ i))
    | some (.array n e) => bif Nat.beq (P.cellsOf e) 0 then .fail else Sh.pv (V.idxA n (P.cellsOf e) (ρ x) (ρ i))
    | _ => .fail
  | .index t x i => match P.underlying t with
    | some .string => Sh.pv (V.idxStr (ρ x) (ρ i))
    | _ => .fail
  | .makeFunc (.func f) first caps => .val (.fn f (first.toList.map ρ) (caps.toList.map ρ))
  | .extract x i => Sh.pv (V.ext i (ρ x))
  | .call c => match c.callee with
    | .value (.func f) => .call f (c.args.toList.map ρ)
    | .value x => Sh.callv (ρ x) (c.args.toList.map ρ)
    | .builtin b => builtinSh P b c.argTypes.toList (c.args.toList.map ρ) h
    | .invoke _ _ => .fail
  | _ => .fail

section
variable {P : Program} {C : CSem} {h : AHeap} {K : AVal → AHeap → Prop} {s : Slots}

theorem okA {a t u : Nat} {b : Bool} : (Nat.blt 0 a && (Nat.beq t u && b)) = true ↔ 0 < a ∧ t = u ∧ b = true := by
  rw [Bool.and_eq_true, Bool.and_eq_true, Nat.blt_eq, Nat.beq_eq]
theorem okC {a t u : Nat} : (Nat.beq t u && Nat.blt 0 a) = true ↔ t = u ∧ 0 < a := by
  rw [Bool.and_eq_true, Nat.blt_eq, Nat.beq_eq]

theorem builtinWp_sh {b : Builtin} {at_ : List TypeId} {args : List AVal} : builtinWp P b at_ args h K ↔ (builtinSh P b at_ args h).run C h K := by
  unfold builtinWp
  split
  · rename_i t _ x
    simp only [builtinSh]
    cases P.underlying t with
    | none => exact Iff.rfl
    | some d => cases d <;> first | exact Iff.rfl | exact sh_pv
  · rename_i t u x y
    simp only [builtinSh]
    cases P.underlying t with
    | none => exact Iff.rfl
    | some d =>
      cases P.underlying u with
      | none => cases d <;> exact Iff.rfl
      | some d' =>
        cases d <;> (try exact Iff.rfl)
        cases d' <;> (try exact Iff.rfl)
        simp only
        rw [A.ok_iff, okA]
        refine and_ite ?_
        unfold A.appW
        cases A.srcLen y with
        | none => exact Iff.rfl
        | some n => exact sh_app
  · rename_i t u x y
    simp only [builtinSh]
    cases P.underlying t with
    | none => exact Iff.rfl
    | some d =>
      cases d <;> (try exact Iff.rfl)
      simp only
      rw [A.ok_iff, okC]
      exact and_ite sh_cpy
  · exact sh_pv
  · exact sh_pv
  · rename_i h1 h2 h3 h4 h5
    have : builtinSh P b at_ args h = .fail := by
      unfold builtinSh
      split <;> simp_all <;> (exfalso; first | exact h4 _ _ _ _ rfl rfl rfl rfl | exact h5 _ _ _ _ rfl rfl rfl rfl)
    rw [this]; exact Iff.rfl

theorem opWp_sh {op : Op} : opWp P C op s h K ↔ (shOf P op (evS s) h).run C h K := by
  cases op with
  | move x => exact Iff.rfl
  | assign x => exact Iff.rfl
  | pick c a b => exact sh_pick
  | alloc t => exact sh_newO
  | box t x => exact sh_newO
  | build t ps => exact sh_pv
  | buildSlice t n ps =>
    simp only [opWp, shOf]
    cases elemOf? P t with
    | none => exact Iff.rfl
    | some e =>
      simp only
      by_cases h0 : n = 0
      · rw [if_pos h0, if_pos h0]
        cases ps.toList <;> cases partOf P e <;> exact Iff.rfl
      · rw [if_neg h0, if_neg h0]; exact sh_newO
  | load t x =>
    simp only [opWp, shOf]
    cases P.underlying t with
    | none => exact Iff.rfl
    | some d => exact bif_run sh_pv sh_pv
  | store t x v => exact bif_run sh_st (bif_run sh_st Iff.rfl)
  | nilCheck x => exact sh_nilCheck
  | binOp op t x y u =>
    simp only [opWp, shOf]
    cases P.underlying t with
    | none => exact Iff.rfl
    | some d =>
      cases d <;> (try exact Iff.rfl) <;> (try exact sh_pv)
      simp only
      cases plainEq P t with
      | none => exact Iff.rfl
      | some sh => exact sh_pv
  | unOp op t x => exact sh_pv
  | convert src dst x =>
    simp only [opWp, shOf]
    cases P.underlying src with
    | none => exact Iff.rfl
    | some d =>
      cases P.underlying dst with
      | none => cases d <;> exact Iff.rfl
      | some d' =>
        cases d <;> (try exact Iff.rfl) <;> cases d' <;> (try exact Iff.rfl) <;> (try exact sh_pv)
        · exact bif_run sh_strBytes Iff.rfl
        · exact bif_run sh_bytesStr Iff.rfl
  | makeSlice t l c =>
    simp only [opWp, shOf]
    cases elemOf? P t with
    | none => exact Iff.rfl
    | some e => exact and_ite sh_mks
  | slice t x lo hi mx =>
    simp only [opWp, shOf]
    cases P.underlying t with
    | none => cases mx <;> exact Iff.rfl
    | some d =>
      cases mx with
      | none =>
        cases d <;> (try exact Iff.rfl) <;> (try exact sh_pv)
        exact bif_run Iff.rfl sh_pv
      | some mx =>
        cases d <;> (try exact Iff.rfl)
        refine bif_run Iff.rfl ?_
        cases lo <;> cases hi <;> first | exact Iff.rfl | exact sh_pv
  | fieldAddr t x f =>
    simp only [opWp, shOf]
    cases P.underlying t with
    | none => exact Iff.rfl
    | some d =>
      cases d <;> (try exact Iff.rfl)
      rename_i fs
      simp only
      cases fs[f]? with
      | some fd => exact bif_run Iff.rfl sh_pv
      | none => exact Iff.rfl
  | field t x f =>
    simp only [opWp, shOf]
    cases P.underlying t with
    | none => exact Iff.rfl
    | some d =>
      cases d <;> (try exact Iff.rfl)
      rename_i fs
      simp only
      cases fs[f]? with
      | some fd =>
        simp only
        cases P.underlying fd.type with
        | none => exact Iff.rfl
        | some d => exact bif_run sh_pv sh_pv
      | none => exact Iff.rfl
  | indexAddr t x i =>
    simp only [opWp, shOf]
    cases P.underlying t with
    | none => exact Iff.rfl
    | some d => cases d <;> (try exact Iff.rfl) <;> exact bif_run Iff.rfl sh_pv
  | index t x i =>
    simp only [opWp, shOf]
    cases P.underlying t with
    | none => exact Iff.rfl
    | some d => cases d <;> (try exact Iff.rfl) <;> exact sh_pv
  | makeFunc fn first caps => cases fn <;> exact Iff.rfl
  | extract x i => exact sh_pv
  | range t x =>
    simp only [opWp, shOf]
    cases P.underlying t with
    | none => exact Iff.rfl
    | some d => cases d <;> (try exact Iff.rfl) <;> exact sh_rangeStr
  | next x b =>
    cases b with
    | false => exact Iff.rfl
    | true => exact sh_nextStr
  | call c =>
    simp only [opWp, shOf]
    cases c.callee with
    | value f => cases f <;> first | exact Iff.rfl | exact sh_callv
    | invoke _ _ => exact Iff.rfl
    | builtin b => exact builtinWp_sh
  | insert _ _ _ _ | ready _ | waits _ | sliceToArrayPointer _ _ | makeInterface _ _ | makeMap _ _ | makeChan _ _ | lookup _ _ _ _ | mapUpdate _ _ _ _ | mapEntry _ _ _ | entryStore _ _ _ _
  | entry _ | typeAssert _ _ _ _ | go _ | defer _ | panic _ | send _ _ | recv _ _ _ | select _ _ => exact Iff.rfl

theorem sh_mono (hC : ∀ f args h (Q Q' : AVal → AHeap → Prop), (∀ v h, Q v h → Q' v h) → C f args h Q → C f args h Q') {K' : AVal → AHeap → Prop} (hk : ∀ v h, K v h → K' v h) {x : Sh} (hx : x.run C h K) : x.run C h K' := by
  cases x with
  | val v => exact hk _ _ hx
  | heap id b v => exact hk _ _ hx
  | new b mk => exact fun id hid => hk _ _ (hx id hid)
  | call f args => exact hC _ _ _ _ _ hk hx
  | fail => exact hx
end
end Go.Ab
