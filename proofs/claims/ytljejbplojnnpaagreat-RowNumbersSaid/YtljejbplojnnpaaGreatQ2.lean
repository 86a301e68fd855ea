/- What is proved: a part of the way to the statement: AbR. No conditions. -/
import Derived.Test.YtljejbplojnnpaaGreatQ1
import Derived.OrdersIn
import Derived.Scope
import Derived.Carry
import Derived.SizedLaws
import Derived.JoinedOf
import Derived.ProofKit
import Derived.WalkKit
import Derived.OpenShut
import Derived.KernelRfl
set_option linter.unusedVariables false
set_option linter.unusedSimpArgs false
namespace Go.Ab
open List
inductive Sh where
 | val (v:a7)
 | heap (id:Nat) (b:fB) (v:a7)
 | many (id:Nat) (l:List (fB×a7))
 | new (b:fB) (mk:Nat->a7)
 | call (f:Nat) (args:List a7)
 | fail
def Sh.run(C:aC)(h:a9)(K:zQ):Sh->Prop | .val v=>K v h | .heap id b v=>K v (bQ h id b) | .many id l=>∀p∈l,K p.2 (bQ h id p.1) | .new b mk=>∀id,h id=none->K (mk id) (bQ h id b) | .call f args=>C f args h K | .fail=>False
namespace Sh
def pv:Option a7->Sh|some v=> .val v|none=> .fail
def bL(o:Option (List a7))(mk:Nat->a7):Sh:=
 match o with
 | some cs=> .new (cG cs) mk
 | none=> .fail
def st (h : a9) (p : a7) (f : List a7 -> Option (List a7)) (n off : Nat) (v : a7) : Sh :=
  match p with
  | .ptr id g o => match h id with
    | some b => match b.eE.lookup g with
      | some hi => bif b.own && Nat.ble (off + o + n) hi then (match f b.cells with
        | some cs => .heap id { b with cells := cs, eE := [(g, hi)] } v
        | none => .fail) else .fail
      | none => .fail
    | none => .fail
  | _ => .fail
def app(h:a9)(es bytes:Nat)(x:a7)(news:Option (List a7)):Sh:=
 match news with
 | none=> .fail
 | some cs=>
  match x with
  | .aA=>if cs.length=0 then .val .aA else if (cs.length / es)*bytes <= 140737488355328 /\ (cs.length / es) <= maxLen then .new (cG cs) λid=> .sl id 0 0 (cs.length / es) es (cs.length / es) else .fail
  | .sz=>if cs.length=0 then .val .sz else if (cs.length / es)*bytes <= 140737488355328 /\ (cs.length / es) <= maxLen then .new (cG cs) λid=> .sl id 0 0 (cs.length / es) es (cs.length / es) else .fail
  | .sl id g off len a cp=>match h id with
   | some b=>match b.eE.lookup g with
    | some hi=>bif b.own then (if a=es /\ b.own=true /\ off+len*es <= hi /\ (len+cs.length / es)*bytes <= 140737488355328 /\ len+cs.length / es <= maxLen then
      .heap id (jd b (off+len*es) cs) (.sl id b.next off (len+cs.length / es) es (len+cs.length / es)) else .fail)
     else (if a=es /\ cp=0 /\ 0<len /\ 0<cs.length / es /\ off+len*es <= hi /\ hi <= b.cells.length /\ (len+cs.length / es)*bytes <= 140737488355328 /\ len+cs.length / es <= maxLen then
      .new (cG ((b.cells.drop off).take (len*es)++cs)) λid=> .sl id 0 0 (len+cs.length / es) es (len+cs.length / es) else .fail)
    | none=> .fail
   | none=> .fail
  | _=> .fail
def pf(h:a9)(es:Nat)(x y:a7):Sh:=
 match A.jR y with
 | none=> .fail
 | some m=>
  match x with
  | .aA | .sz=> .val (.int .i64 0)
  | .sl id g off len _ _=>match A.rdv h y (min m len) es with
   | none=> .fail
   | some cs=>st h (.ptr id g off) (V.mf off (min m len*es) (.agg cs)) (min m len*es) 0 (.int .i64 (min m len:Nat))
  | _=> .fail
def eO(bytes:Nat)(z:Option (List a7))(l c:a7):Sh:=
 match z,l,c with
 | some z,.int _ l,.int _ c=>if 0 <= l /\ l <= c /\ c*bytes <= 281474976710656 /\ c <= 9223372036854775807 then .new (cG (bG c.toNat z)) λid=> .sl id 0 0 l.toNat z.length c.toNat else .fail
 | _,_,_=> .fail
def gk(h:a9)(x:a7):Sh:=
 match A.jR x with
 | some n=>(match A.rdv h x n 1 with
  | some cs=>(match V.vg cs with
   | some l=> .val (.str l)
   | none=> .fail)
  | none=> .fail)
 | none=> .fail
def rz(es bytes:Nat)(z:Option (List a7))(x y:a7):Sh:=
 match z,y with
 | some z,.int _ n=>if A.noRoom x=true /\ 0<n /\ n*(bytes:Int) <= 140737488355328 /\ n <= (maxLen:Int) then .new (cG (bG n.toNat z)) λid=> .sl id 0 0 n.toNat es n.toNat else .fail
 | _,_=> .fail
def conv(h:a9)(x:a7):Sh:=
 match x with
 | .sl id g _ n _ _=>(match h id with
  | some b=>if (b.own&&((b.eE.lookup g).isSome&&Nat.blt 0 n))=true then .val x else .fail
  | none=> .fail)
 | _=> .fail
def oE(x:a7):Sh:=
 match x with
 | .str s=>if s.length <= 140737488355328 then .new (cG (s.map λb=> .int .u8 b.toNat)) λid=> .sl id 0 0 s.length 1 s.length else .fail
 | _=> .fail
def r9(x:a7):Sh:=
 match x with
 | .str s=> .new (jI (.iter s 0)) λid=> .ptr id 0 0
 | _=> .fail
def lM(h:a9)(x:a7):Sh:=
 match x with
 | .ptr id 0 0=>(match h id with
  | some b=>(match b.obj with
   | some (.iter s pos)=>if pos<s.length then .heap id { b with obj:=some (.iter s (pos+(A.rune s pos).2)) } (.bI [.bool true,.int .i64 pos,.int .i32 (A.rune s pos).1])
     else .val (.bI [.bool false])
   | _=> .fail)
  | none=> .fail)
 | _=> .fail
def pg(h:a9)(z:Option (List a7))(x:a7):Sh:=
 match z with
 | none=> .fail
 | some z=>
  match x with
  | .aA | .sz=> .val (.bI [])
  | .sl id g off len es _=>if len=0 then .val (.bI []) else st h (.ptr id g off) (V.mf off (len*es) (.agg (List.replicate len z).flatten)) (len*es) 0 (.bI [])
  | _=> .fail
def kA(h:a9)(x:a7)(f:List (a7×a7×Nat)->Nat->Option (List (a7×a7×Nat)×Nat×a7))(g:a7->a7):Sh:=
 match x with
 | .mp id=>(match h id with
  | some b=>(match b.obj with
   | some (.map es c)=>(match f es c with
    | some (a,c',v)=> .heap id { b with obj:=some (.map a c') } (g v)
    | none=> .fail)
   | _=> .fail)
  | none=> .fail)
 | _=> .fail
def ru(h:a9)(kd:Option KD)(x k:a7):Sh:=
 match x with
 | .nV=>if kd.isSome=true then .val (.bI []) else .fail
 | x=>kA h x (A.yT kd k) λv=>v
def rangeMap(h:a9)(x:a7):Sh:=
 match x with
 | .nV=> .new (jI (.mapIter none 0 [] 0)) λid=> .ptr id 0 0
 | .mp m=>(match A.pV h x with
  | some (_,c)=> .new (jI (.mapIter (some m) c [] c)) λid=> .ptr id 0 0
  | none=> .fail)
 | _=> .fail
def oI(h:a9)(x:a7):Sh:=
 match A.steps h x with
 | some (id,l)=> .many id l
 | none=> .fail
def ks(f:a7)(args:List a7):Sh:=
 match f with
 | .fn f first gX=> .call f (first++args++gX)
 | .qb id=> .call sy (vO id::args)
 | _=> .fail
def pick(c a b:a7):Sh:=
 match c with
 | .bool c=> .val (bif c then a else b)
 | _=> .fail
def nilCheck(v:a7):Sh:=
 match v with
 | .ptr _ _ _=> .val v
 | .fn _ _ _=> .val v
 | _=> .fail
end Sh
section
variable{C:aC}{h:a9}{K:zQ}
theorem kQ{o:Option a7}:A.pv o (λv=>K v h)↔(Sh.pv o).run C h K:=by
 cases o<;>exact Iff.rfl
theorem Dv{o:Option (List a7)}{mk:Nat->a7}:A.bL h o (λid h=>K (mk id) h)↔(Sh.bL o mk).run C h K:=by
 cases o<;>exact Iff.rfl
theorem O2{c a b:a7}:A.pick c a b (λv=>K v h)↔(Sh.pick c a b).run C h K:=by
 cases c<;>exact Iff.rfl
theorem LD{v:a7}:A.nilCheck v (λv=>K v h)↔(Sh.nilCheck v).run C h K:=by
 cases v<;>exact Iff.rfl
theorem Bl{p:a7}{f:List a7->Option (List a7)}{n off:Nat}{v:a7}:A.ph (A.sb h p f n off) (λh=>K v h)↔(Sh.st h p f n off v).run C h K:=by
 cases p<;>try exact Iff.rfl
 rename_i id g o;simp only[A.sb,Sh.st];cases h id with
 | none=>exact Iff.rfl
 | some b=>
  simp only;cases b.eE.lookup g with
  | none=>exact Iff.rfl
  | some hi=>
   simp only;cases (b.own&&Nat.ble (off+o+n) hi) with
   | false=>exact Iff.rfl
   | true=>
    simp only[cond_true];cases f b.cells<;>exact Iff.rfl
theorem oO{p:Prop}[Decidable p]{x:Sh}{q:Prop}(b:q↔x.run C h K):(p /\ q)↔(if p then x else .fail).run C h K:=by
 by_cases a:p
 ·rw[if_pos a];exact⟨λ⟨_,k⟩=>b.1 k,λk=>⟨a,b.2 k⟩⟩
 ·rw[if_neg a];exact⟨λ⟨k,_⟩=>a k,λk=>k.elim⟩
theorem HI{es bytes:Nat}{x:a7}{news:Option (List a7)}:A.app h es bytes x news K↔(Sh.app h es bytes x news).run C h K:=by
 cases news with
 | none=>exact Iff.rfl
 | some cs=>
  cases x<;>(try exact Iff.rfl)
  ·simp only[A.app,Sh.app]
   by_cases h0:cs.length=0
   ·rw[if_pos h0,if_pos h0];exact Iff.rfl
   ·rw[if_neg h0,if_neg h0,<-and_assoc];exact oO Iff.rfl
  ·simp only[A.app,Sh.app]
   by_cases h0:cs.length=0
   ·rw[if_pos h0,if_pos h0];exact Iff.rfl
   ·rw[if_neg h0,if_neg h0,<-and_assoc];exact oO Iff.rfl
  ·rename_i id g off len i j
   simp only[A.app,Sh.app];cases h id with
   | none=>exact Iff.rfl
   | some b=>
    simp only;cases b.eE.lookup g with
    | none=>exact Iff.rfl
    | some hi=>
     simp only;cases b.own with
     | true=>
      simp only[cond_true];rw[show ∀a b c d e f:Prop,(a /\ b /\ c /\ d /\ e /\ f)↔((a /\ b /\ c /\ d /\ e) /\ f) from λa b c d e f=>by simp only[and_assoc]];exact oO Iff.rfl
     | false=>
      simp only[cond_false];exact oO Iff.rfl
theorem Pd{es:Nat}{x y:a7}:A.pf h es x y K↔(Sh.pf h es x y).run C h K:=by
 simp only[A.pf,Sh.pf];cases A.jR y with
 | none=>exact Iff.rfl
 | some m=>
  cases x<;>(try exact Iff.rfl);simp only;cases A.rdv h y _ es with
  | none=>exact Iff.rfl
  | some cs=>exact Bl
theorem Pc{bytes:Nat}{z:Option (List a7)}{l c:a7}:A.eO h bytes z l c K↔(Sh.eO bytes z l c).run C h K:=by
 cases z<;>cases l<;>cases c<;>(try exact Iff.rfl);simp only[A.eO,Sh.eO];rw[show ∀a b c d f:Prop,(a /\ b /\ c /\ d /\ f)↔((a /\ b /\ c /\ d) /\ f) from λa b c d f=>by simp only[and_assoc]];exact oO Iff.rfl
theorem LF{x:a7}:A.gk h x (λv=>K v h)↔(Sh.gk h x).run C h K:=by
 simp only[A.gk,Sh.gk];cases A.jR x with
 | none=>exact Iff.rfl
 | some n=>
  simp only;cases A.rdv h x n 1 with
  | none=>exact Iff.rfl
  | some cs=>
   simp only;cases V.vg cs<;>exact Iff.rfl
theorem O5{es bytes:Nat}{z:Option (List a7)}{x y:a7}:A.rz h es bytes z x y K↔(Sh.rz es bytes z x y).run C h K:=by
 cases z<;>cases y<;>(try exact Iff.rfl);simp only[A.rz,Sh.rz];exact oO Iff.rfl
theorem O4{x:a7}:A.conv h x (λv=>K v h)↔(Sh.conv h x).run C h K:=by
 cases x<;>(try exact Iff.rfl);rename_i id g off n es cp;simp only[A.conv,Sh.conv];cases h id with
 | none=>exact Iff.rfl
 | some b=>exact oO Iff.rfl
theorem L8{x:a7}:A.oE h x K↔(Sh.oE x).run C h K:=by
 cases x<;>(try exact Iff.rfl);simp only[A.oE,Sh.oE];exact oO Iff.rfl
theorem L9{x:a7}:A.r9 h x K↔(Sh.r9 x).run C h K:=by
 cases x<;>exact Iff.rfl
theorem Mm{x:a7}:A.lM h x K↔(Sh.lM h x).run C h K:=by
 cases x<;>(try exact Iff.rfl);rename_i id g off;cases g with
 | succ _=>exact Iff.rfl
 | zero=>
  cases off with
  | succ _=>exact Iff.rfl
  | zero=>
   simp only[A.lM,Sh.lM];cases h id with
   | none=>exact Iff.rfl
   | some b=>
    simp only;cases b.obj with
    | none=>exact Iff.rfl
    | some o=>
     cases o with
     | iter s pos=>
      simp only;by_cases a:pos<s.length
      ·rw[if_pos a,if_pos a];exact Iff.rfl
      ·rw[if_neg a,if_neg a];exact Iff.rfl
     | map _ _=>exact Iff.rfl
     | mapIter _ _ _ _=>exact Iff.rfl
     | loop _ _ _ _ _ _=>exact Iff.rfl
     | sf _=>exact Iff.rfl
     | gone=>exact Iff.rfl
theorem Pe{z:Option (List a7)}{x:a7}:A.pg h z x K↔(Sh.pg h z x).run C h K:=by
 cases z with
 | none=>exact Iff.rfl
 | some z=>
  cases x<;>(try exact Iff.rfl);simp only[A.pg,Sh.pg];split
  ·exact Iff.rfl
  ·exact Bl
theorem AB{x:a7}{f:List (a7×a7×Nat)->Nat->Option (List (a7×a7×Nat)×Nat×a7)}{g:a7->a7}:A.kA h x f (λv h=>K (g v) h)↔(Sh.kA h x f g).run C h K:=by
 cases x<;>(try exact Iff.rfl);rename_i id;simp only[A.kA,Sh.kA];cases h id with
 | none=>exact Iff.rfl
 | some b=>
  simp only;cases b.obj with
  | none=>exact Iff.rfl
  | some o=>
   cases o with
   | iter _ _=>exact Iff.rfl
   | mapIter _ _ _ _=>exact Iff.rfl
   | loop _ _ _ _ _ _=>exact Iff.rfl
   | sf _=>exact Iff.rfl
   | gone=>exact Iff.rfl
   | map es c=>
    simp only;cases f es c with
    | none=>exact Iff.rfl
    | some r=>obtain⟨_,_,_⟩:=r;exact Iff.rfl
theorem O3{kd:Option KD}{x k:a7}:A.ru h kd x k K↔(Sh.ru h kd x k).run C h K:=by
 cases x<;>(try exact Iff.rfl)
 ·exact oO Iff.rfl
 ·rename_i i
  show A.kA h (.mp i) (A.yT kd k) K↔(Sh.kA h (.mp i) (A.yT kd k) λv=>v).run C h K;exact AB (g:=λv=>v)
theorem LB{x:a7}:A.rangeMap h x K↔(Sh.rangeMap h x).run C h K:=by
 cases x<;>(try exact Iff.rfl);rename_i id;simp only[A.rangeMap,Sh.rangeMap];cases A.pV h (.mp id) with
 | none=>exact Iff.rfl
 | some r=>exact Iff.rfl
theorem Mn{x:a7}:A.oI h x K↔(Sh.oI h x).run C h K:=by
 simp only[A.oI,Sh.oI];cases A.steps h x with
 | none=>exact Iff.rfl
 | some r=>exact Iff.rfl
theorem NG{f:a7}{args:List a7}:A.ks h C f args K↔(Sh.ks f args).run C h K:=by
 cases f<;>exact Iff.rfl
theorem su{b:Bool}{p q:Prop}{x y:Sh}(h1:p↔x.run C h K)(a:q↔y.run C h K):(bif b then p else q)↔(bif b then x else y).run C h K:=by
 cases b
 ·exact a
 ·exact h1
end
def oB(P:Program)(b:Builtin)(at_:List TypeId)(args:List a7)(h:a9):Sh:=
 match b,at_,args with
 | .len,t::_,[x]=>match P.underlying t with
  | some .string=>Sh.pv (V.lR x)
  | some (.slice _)=>Sh.pv (V.aE x)
  | some (.array n _)=> .val (.int .i64 n)
  | some (.map _ _)=>Sh.pv (A.w8 h x)
  | _=> .fail
 | .clear,[t],[x]=>match P.underlying t with
  | some (.slice e)=>if 0<P.cellsOf e then Sh.pg h (zeroOf P e) x else .fail
  | _=> .fail
 | .delete,t::_,[x,k]=>match P.underlying t with
  | some (.map a _)=>Sh.ru h (pP P a) x k
  | _=> .fail
 | .append,[t,u],[x,y]=>match P.underlying t,P.underlying u with
  | some (.slice e),some (.slice _)=>if 0<P.cellsOf e /\ t=u /\ (zeroOf P e).isSome=true then (match A.jR y with
   | some n=>Sh.app h (P.cellsOf e) (P.bytesOf e) x (A.rdv h y n (P.cellsOf e))
   | none=> .fail) else .fail
  | some (.slice e),some .string=>if jC P e=true /\ (zeroOf P e).isSome=true then Sh.app h 1 (P.bytesOf e) x (A.Ax y) else .fail
  | some (.slice e),some (.int _)=>if 0<P.cellsOf e then Sh.rz (P.cellsOf e) (P.bytesOf e) (zeroOf P e) x y else .fail
  | _,_=> .fail
 | .copy,[t,u],[x,y]=>match P.underlying t with
  | some (.slice e)=>if t=u /\ 0<P.cellsOf e then Sh.pf h (P.cellsOf e) x y else .fail
  | _=> .fail
 | .min,_,[x,y]=>Sh.pv (V.min2 x y)
 | .max,_,[x,y]=>Sh.pv (V.max2 x y)
 | .cap,t::_,[x]=>match P.underlying t with
  | some (.slice _)=>Sh.pv (V.vI x)
  | _=> .fail
 | _,_,_=> .fail
def dT (P : Program) (op : Op) (ρ : Operand -> a7) (h : a9) : Sh :=
  match op with
  | .move x | .assign x => .val (ρ x)
  | .pick c a b => Sh.pick (ρ c) (ρ a) (ρ b)
  | .alloc t => Sh.bL (zeroOf P t) fun id => .ptr id 0 0
  | .box t x => Sh.bL (bif e8 P t then A.kZ (P.cellsOf t) (ρ x) else A.sD (ρ x)) fun id => .ptr id 0 0
  | .build t parts => Sh.pv (match zeroOf P t, placesOf P t (parts.toList.map fun p => (p.1, ρ p.2)) with
      | some z, some ps => (match bN ps z with | some cs => some (.agg cs) | none => none)
      | _, _ => none)
  | .buildSlice t len parts => match vv P t with
    | some e => if len = 0 then (match parts.toList, partOf P e with | [], some _ => .val .sz | _, _ => .fail) else
        Sh.bL (match zeroOf P e, partOf P e with
          | some z, some pz => bif Nat.ble (len * P.cellsOf e) 16777216 && Nat.ble 1 (P.cellsOf e) then bN (yu (P.cellsOf e) pz (parts.toList.map fun p => (p.1, ρ p.2))) (bG len z) else none
          | _, _ => none) fun id => .sl id 0 0 len (P.cellsOf e) len
    | none => .fail
  | .load t x => match P.underlying t with
    | none => .fail
    | some _ => bif e8 P t then Sh.pv (A.fF h (ρ x) (P.cellsOf t)) else Sh.pv (A.bX h (ρ x))
  | .store t x v => bif e8 P t then Sh.st h (ρ x) (V.mf (A.uB (ρ x)) (P.cellsOf t) (ρ v)) (P.cellsOf t) 0 .undef
      else bif Nat.beq (P.cellsOf t) 1 then Sh.st h (ρ x) (V.pY (A.uB (ρ x)) (ρ v)) 1 0 .undef else .fail
  | .nilCheck x => Sh.nilCheck (ρ x)
  | .binOp op t x y _ => match P.underlying t with
    | some (.int _) | some .string => Sh.pv (V.bin op (ρ x) (ρ y))
    | some .bool => Sh.pv (V.vC op (ρ x) (ρ y))
    | some (.pointer _) => Sh.pv (V.Bo op (ρ x) (ρ y))
    | some (.slice _) => Sh.pv (V.ry op (ρ x) (ρ y))
    | some (.func ..) => Sh.pv (V.B0 op (ρ x) (ρ y))
    | some (.map _ _) => Sh.pv (V.Bp op (ρ x) (ρ y))
    | some (.struct _) => (match yr P t with
      | some sh => Sh.pv (V.rN op sh (ρ x) (ρ y))
      | none => .fail)
    | _ => .fail
  | .unOp op _ x => Sh.pv (V.un op (ρ x))
  | .convert src dst x => match P.underlying src, P.underlying dst with
    | some (.int _), some (.int k) => Sh.pv (V.toInt k (ρ x))
    | some .string, some .string => Sh.pv (V.AW (ρ x))
    | some (.slice e), some .string => bif jC P e then Sh.gk h (ρ x) else .fail
    | some .string, some (.slice e) => bif jC P e then Sh.oE (ρ x) else .fail
    | some (.slice e), some (.slice _) => bif Nat.beq src dst && jC P e then Sh.conv h (ρ x) else .fail
    | _, _ => .fail
  | .range t x => match P.underlying t with
    | some .string => Sh.r9 (ρ x)
    | some (.map _ _) => Sh.rangeMap h (ρ x)
    | _ => .fail
  | .next x true => Sh.lM h (ρ x)
  | .next x false => Sh.oI h (ρ x)
  | .entry x => Sh.pv (A.wv h (ρ x))
  | .makeMap t none => match P.underlying t with
    | some (.map _ _) => .new (jI (.map [] 0)) fun id => .mp id
    | _ => .fail
  | .lookup t x i ok => match P.underlying t with
    | some (.map d e) => Sh.pv (A.wO h (pP P d) (zeroV P e) ok (ρ x) (ρ i))
    | _ => .fail
  | .mapUpdate t m k v => match P.underlying t with
    | some (.map d _) => Sh.kA h (ρ m) (A.Ea (pP P d) (ρ k) (ρ v)) fun _ => .undef
    | _ => .fail
  | .mapEntry t m k => match P.underlying t with
    | some (.map d e) => Sh.kA h (ρ m) (A.DL (pP P d) (zeroV P e) (ρ k)) fun v => v
    | _ => .fail
  | .entryStore t m n v => match P.underlying t with
    | some (.map _ _) => Sh.kA h (ρ m) (A.DI (ρ n) (ρ v)) fun _ => .undef
    | _ => .fail
  | .makeSlice t l c => match vv P t with
    | some e => if 0 < P.cellsOf e then Sh.eO (P.bytesOf e) (zeroOf P e) (ρ l) (ρ c) else .fail
    | none => .fail
  | .slice t x lo hi g => match P.underlying t, g with
    | some .string, none => Sh.pv (V.uD (ρ x) (lo.map ρ) (hi.map ρ))
    | some (.slice e), none => bif Nat.beq (P.cellsOf e) 0 then .fail else Sh.pv (V.dS (P.cellsOf e) (ρ x) (lo.map ρ) (hi.map ρ))
    | some (.slice e), some g => bif Nat.beq (P.cellsOf e) 0 then .fail else (match lo, hi with
      | some lo, some hi => Sh.pv (V.nX (P.cellsOf e) (ρ x) (ρ lo) (ρ hi) (ρ g))
      | none, some hi => Sh.pv (V.nX (P.cellsOf e) (ρ x) (.int .i64 0) (ρ hi) (ρ g))
      | _, _ => .fail)
    | _, _ => .fail
  | .fieldAddr t x f => match P.underlying t with
    | some (.struct fs) => (match fs[f]? with
      | some fd => bif Nat.beq (P.cellsOf fd.type) 0 then .fail else Sh.pv (V.fieldAddr fd.offset (ρ x))
      | none => .fail)
    | _ => .fail
  | .field t x f => match P.underlying t with
    | some (.struct fs) => (match fs[f]? with
      | some fd => (match P.underlying fd.type with
        | none => .fail
        | some _ => bif e8 P fd.type then Sh.pv (V.bM fd.offset (P.cellsOf fd.type) (ρ x)) else Sh.pv (V.aF fd.offset (ρ x)))
      | none => .fail)
    | _ => .fail
  | .indexAddr t x i => match P.underlying t with
    | some (.slice e) => bif Nat.beq (P.cellsOf e) 0 then .fail else Sh.pv (V.aM (P.cellsOf e) (ρ x) (ρ i))
    | some (.array n e) => bif Nat.beq (P.cellsOf e) 0 then .fail else Sh.pv (V.Bz n (P.cellsOf e) (ρ x) (ρ i))
    | _ => .fail
  | .index t x i => match P.underlying t with
    | some .string => Sh.pv (V.lS (ρ x) (ρ i))
    | _ => .fail
  | .makeFunc (.func f) first gX => .val (.fn f (first.toList.map ρ) (gX.toList.map ρ))
  | .extract x i => Sh.pv (V.ext i (ρ x))
  | .call c => match c.callee with
    | .value (.func f) => .call f (c.args.toList.map ρ)
    | .value x => Sh.ks (ρ x) (c.args.toList.map ρ)
    | .builtin b => oB P b c.argTypes.toList (c.args.toList.map ρ) h
    | .invoke _ _ => .fail
  | _ => .fail
section
variable{P:Program}{C:aC}{h:a9}{K:zQ}{s:bB}
theorem se{a t u:Nat}{b:Bool}:(Nat.blt 0 a&&(Nat.beq t u&&b))=true↔0<a /\ t=u /\ b=true:=by
 rw[Bool.and_eq_true,Bool.and_eq_true,Nat.blt_eq,Nat.beq_eq]
theorem Qt{a t u:Nat}:(Nat.beq t u&&Nat.blt 0 a)=true↔t=u /\ 0<a:=by
 rw[Bool.and_eq_true,Nat.blt_eq,Nat.beq_eq]
theorem Lu{b:Builtin}{at_:List TypeId}{args:List a7}:yf P b at_ args h K↔(oB P b at_ args h).run C h K:=by
 unfold yf;split
 ·rename_i t _ x
  simp only[oB];cases P.underlying t with
  | none=>exact Iff.rfl
  | some d=>cases d<;>first|exact Iff.rfl|exact kQ
 ·rename_i t x
  simp only[oB];cases P.underlying t with
  | none=>exact Iff.rfl
  | some d=>
   cases d<;>(try exact Iff.rfl);simp only;rw[A.tJ,Nat.blt_eq];exact oO Pe
 ·rename_i t _ x k
  simp only[oB];cases P.underlying t with
  | none=>exact Iff.rfl
  | some d=>cases d<;>first|exact Iff.rfl|exact O3
 ·rename_i t u x y
  simp only[oB];cases P.underlying t with
  | none=>exact Iff.rfl
  | some d=>
   cases P.underlying u with
   | none=>cases d<;>exact Iff.rfl
   | some g=>
    cases d<;>(try exact Iff.rfl);cases g<;>(try exact Iff.rfl)
    ·simp only
     rw[A.tJ,Nat.blt_eq];exact oO O5
    ·simp only
     rw[A.tJ,Bool.and_eq_true];exact oO HI
    ·simp only
     rw[A.tJ,se];refine oO ?_;unfold A.bO;cases A.jR y with
     | none=>exact Iff.rfl
     | some n=>exact HI
 ·rename_i t u x y
  simp only[oB];cases P.underlying t with
  | none=>exact Iff.rfl
  | some d=>
   cases d<;>(try exact Iff.rfl);simp only;rw[A.tJ,Qt];exact oO Pd
 ·exact kQ
 ·exact kQ
 ·rename_i t _ x
  simp only[oB];cases P.underlying t with
  | none=>exact Iff.rfl
  | some d=>cases d<;>first|exact Iff.rfl|exact kQ
 ·rename_i h1 l j i f e c a
  have:oB P b at_ args h= .fail:=by
   unfold oB;split<;>simp_all<;>(exfalso;first|exact e _ _ _ _ rfl rfl rfl rfl|exact c _ _ _ _ rfl rfl rfl rfl|exact f _ _ _ _ rfl rfl rfl rfl|exact a _ _ _ _ rfl rfl rfl rfl)
  rw[this];exact Iff.rfl
theorem u5{op:Op}:fJ P C op s h K↔(dT P op (aO s) h).run C h K:=by
 cases op with
 | move x=>exact Iff.rfl
 | assign x=>exact Iff.rfl
 | pick c a b=>exact O2
 | alloc t=>exact Dv
 | box t x=>exact Dv
 | build t ps=>exact kQ
 | buildSlice t n ps=>
  simp only[fJ,dT];cases vv P t with
  | none=>exact Iff.rfl
  | some e=>
   simp only;by_cases h0:n=0
   ·rw[if_pos h0,if_pos h0]
    cases ps.toList<;>cases partOf P e<;>exact Iff.rfl
   ·rw[if_neg h0,if_neg h0];exact Dv
 | load t x=>
  simp only[fJ,dT];cases P.underlying t with
  | none=>exact Iff.rfl
  | some d=>exact su kQ kQ
 | store t x v=>exact su Bl (su Bl Iff.rfl)
 | nilCheck x=>exact LD
 | binOp op t x y u=>
  simp only[fJ,dT];cases P.underlying t with
  | none=>exact Iff.rfl
  | some d=>
   cases d<;>(try exact Iff.rfl)<;>(try exact kQ);simp only;cases yr P t with
   | none=>exact Iff.rfl
   | some sh=>exact kQ
 | unOp op t x=>exact kQ
 | convert src dst x=>
  simp only[fJ,dT];cases P.underlying src with
  | none=>exact Iff.rfl
  | some d=>
   cases P.underlying dst with
   | none=>cases d<;>exact Iff.rfl
   | some o=>
    cases d<;>(try exact Iff.rfl)<;>cases o<;>(try exact Iff.rfl)<;>(try exact kQ)
    ·exact su L8 Iff.rfl
    ·exact su LF Iff.rfl
    ·exact su O4 Iff.rfl
 | makeSlice t l c=>
  simp only[fJ,dT];cases vv P t with
  | none=>exact Iff.rfl
  | some e=>exact oO Pc
 | slice t x lo hi j=>
  simp only[fJ,dT];cases P.underlying t with
  | none=>cases j<;>exact Iff.rfl
  | some d=>
   cases j with
   | none=>
    cases d<;>(try exact Iff.rfl)<;>(try exact kQ);exact su Iff.rfl kQ
   | some j=>
    cases d<;>(try exact Iff.rfl);refine su Iff.rfl ?_;cases lo<;>cases hi<;>first|exact Iff.rfl|exact kQ
 | fieldAddr t x f=>
  simp only[fJ,dT];cases P.underlying t with
  | none=>exact Iff.rfl
  | some d=>
   cases d<;>(try exact Iff.rfl);rename_i fs;simp only;cases fs[f]? with
   | some fd=>exact su Iff.rfl kQ
   | none=>exact Iff.rfl
 | field t x f=>
  simp only[fJ,dT];cases P.underlying t with
  | none=>exact Iff.rfl
  | some d=>
   cases d<;>(try exact Iff.rfl);rename_i fs;simp only;cases fs[f]? with
   | some fd=>
    simp only;cases P.underlying fd.type with
    | none=>exact Iff.rfl
    | some d=>exact su kQ kQ
   | none=>exact Iff.rfl
 | indexAddr t x i=>
  simp only[fJ,dT];cases P.underlying t with
  | none=>exact Iff.rfl
  | some d=>cases d<;>(try exact Iff.rfl)<;>exact su Iff.rfl kQ
 | index t x i=>
  simp only[fJ,dT];cases P.underlying t with
  | none=>exact Iff.rfl
  | some d=>cases d<;>(try exact Iff.rfl)<;>exact kQ
 | makeFunc fn first gX=>cases fn<;>exact Iff.rfl
 | extract x i=>exact kQ
 | range t x=>
  simp only[fJ,dT];cases P.underlying t with
  | none=>exact Iff.rfl
  | some d=>cases d<;>(try exact Iff.rfl)<;>first|exact L9|exact LB
 | next x b=>
  cases b with
  | false=>exact Mn
  | true=>exact Mm
 | entry x=>exact kQ
 | makeMap t r=>
  cases r with
  | some _=>exact Iff.rfl
  | none=>
   simp only[fJ,dT];cases P.underlying t with
   | none=>exact Iff.rfl
   | some d=>cases d<;>exact Iff.rfl
 | lookup t x i ok=>
  simp only[fJ,dT];cases P.underlying t with
  | none=>exact Iff.rfl
  | some d=>cases d<;>first|exact Iff.rfl|exact kQ
 | mapUpdate t m k v=>
  simp only[fJ,dT];cases P.underlying t with
  | none=>exact Iff.rfl
  | some d=>cases d<;>(try exact Iff.rfl);exact AB (g:=λ_=> .undef)
 | mapEntry t m k=>
  simp only[fJ,dT];cases P.underlying t with
  | none=>exact Iff.rfl
  | some d=>cases d<;>(try exact Iff.rfl);exact AB (g:=λv=>v)
 | entryStore t m n v=>
  simp only[fJ,dT];cases P.underlying t with
  | none=>exact Iff.rfl
  | some d=>cases d<;>(try exact Iff.rfl);exact AB (g:=λ_=> .undef)
 | call c=>
  simp only[fJ,dT];cases c.callee with
  | value f=>cases f<;>first|exact Iff.rfl|exact NG
  | invoke _ _=>exact Iff.rfl
  | builtin b=>exact Lu
 | insert _ _ _ _|ready _|waits _|sliceToArrayPointer _ _|makeInterface _ _|makeChan _ _|typeAssert _ _ _ _|go _|defer _|panic _|send _ _|recv _ _ _|select _ _=>exact Iff.rfl
theorem ng(e:∀f args h (Q Q':zQ),(∀v h,Q v h->Q' v h)->C f args h Q->C f args h Q'){c:zQ}(hk:∀v h,K v h->c v h){x:Sh}(hx:x.run C h K):x.run C h c:=by
 cases x with
 | val v=>exact hk _ _ hx
 | heap id b v=>exact hk _ _ hx
 | many id l=>exact λp d=>hk _ _ (hx p d)
 | new b mk=>exact λid a=>hk _ _ (hx id a)
 | call f args=>exact e _ _ _ _ _ hk hx
 | fail=>exact hx
end
section
variable{P:Program}{h H:a9}{ρ ρ':Operand->a7}
theorem Fx{ps:Array (Nat×Operand)}(h:∀x∈(ps.toList.map (·.2)).toArray,ρ x=ρ' x):(ps.toList.map λp=>(p.1,ρ p.2))=ps.toList.map λp=>(p.1,ρ' p.2):=
 map_congr_left λp a=>by rw[h p.2 (by simp only[mem_toArray,mem_map];exact⟨p,a,rfl⟩)]
theorem CO{xs:Array Operand}(h:∀x∈xs,ρ x=ρ' x):xs.toList.map ρ=xs.toList.map ρ':=map_congr_left λx hx=>h x (by simpa using hx)
theorem xY{op:Op}(a:∀x∈op.operands,ρ x=ρ' x):dT P op ρ h=dT P op ρ' h:=by
 cases op<;>simp only[Op.operands]at a<;>simp only[dT]
 case build t ps=>rw[Fx a]
 case buildSlice t n ps=>rw[Fx a]
 case makeFunc fn first gX=>
  cases fn<;>simp only;rw[CO λx hx=>a x (by simp[hx]),CO λx hx=>a x (by simp[hx])]
 case call c=>
  have j:c.args.toList.map ρ=c.args.toList.map ρ':=CO λx hx=>a x (by simp[Call.operands,hx]);rw[j];cases i:c.callee with
  | value f=>
   have g:ρ f=ρ' f:=a f (by simp[Call.operands,i]);cases f<;>simp only[g]
  | invoke r m=>rfl
  | builtin b=>rfl
 case next x b=>cases b<;>simp_all
 case makeMap t r=>cases r<;>rfl
 case slice t x lo hi e=>cases lo<;>cases hi<;>cases e<;>simp_all<;>(cases hu:P.underlying t with|none=>rfl|some d=>cases d<;>simp_all)
 all_goals (first|rfl|(simp_all;done))
theorem vA(hle:h.le H){p v:a7}(a:A.bX h p=some v):A.bX H p=some v:=by
 unfold A.bX at a ⊢;split at a<;>(try (cases a;done));split at a<;>(try (cases a;done));rename_i b hb;rw[hle _ b hb];exact a
theorem AM(hle:h.le H){p v:a7}{n:Nat}(a:A.fF h p n=some v):A.fF H p n=some v:=by
 unfold A.fF at a ⊢;split at a<;>(try (cases a;done));split at a<;>(try (cases a;done));rename_i b hb;rw[hle _ b hb];exact a
theorem DB(hle:h.le H){p:a7}{n es:Nat}{cs:List a7}(a:A.rdv h p n es=some cs):A.rdv H p n es=some cs:=by
 unfold A.rdv at a ⊢;split at a
 ·exact a
 ·exact a
 ·split at a<;>(try (cases a;done))
  rename_i b hb;rw[hle _ b hb];exact a
 ·cases a
theorem Bk(hle:h.le H){p v:a7}{f:List a7->Option (List a7)}{n off:Nat}(hx:Sh.st h p f n off v≠ .fail):Sh.st H p f n off v=Sh.st h p f n off v:=by
 unfold Sh.st at hx ⊢;split
 ·rename_i id g o
  cases hb:h id with
  | none=>simp[hb]at hx
  | some b=>rw[hle _ b hb]
 ·rfl
theorem HV(hle:h.le H){es bytes:Nat}{x:a7}{news:Option (List a7)}(hx:Sh.app h es bytes x news≠ .fail):Sh.app H es bytes x news=Sh.app h es bytes x news:=by
 unfold Sh.app at hx ⊢;cases news with
 | none=>rfl
 | some cs=>
  cases x<;>(try rfl);rename_i id g off len c d;cases hb:h id with
  | none=>simp[hb]at hx
  | some b=>
   have a:=hle _ b hb;simp only[a,hb]
theorem Pv(hle:h.le H){es:Nat}{x y:a7}(hx:Sh.pf h es x y≠ .fail):Sh.pf H es x y=Sh.pf h es x y:=by
 unfold Sh.pf at hx ⊢;cases hm:A.jR y with
 | none=>rfl
 | some m=>
  simp only[hm]at hx;cases x<;>(try rfl);simp only at hx ⊢;rename_i id g off len b c;cases a:A.rdv h y (min m len) es with
  | none=>simp[a]at hx
  | some cs=>
   simp only[a]at hx;rw[DB hle a];exact Bk hle hx
theorem LX(hle:h.le H){x:a7}(hx:Sh.gk h x≠ .fail):Sh.gk H x=Sh.gk h x:=by
 unfold Sh.gk at hx ⊢;cases hm:A.jR x with
 | none=>rfl
 | some m=>
  simp only[hm]at hx ⊢;cases a:A.rdv h x m 1 with
  | none=>simp[a]at hx
  | some cs=>rw[DB hle a]
theorem OS(hle:h.le H){x:a7}(hx:Sh.conv h x≠ .fail):Sh.conv H x=Sh.conv h x:=by
 unfold Sh.conv at hx ⊢
 split
 ·rename_i id g off n es cp
  cases hb:h id with
  | none=>simp[hb]at hx
  | some b=>rw[hle _ b hb]
 ·rfl
theorem Du(h:a9)(x:a7):Sh.conv h x= .val x \/ Sh.conv h x= .fail:=by
 unfold Sh.conv
 split
 ·split
  ·split
   ·exact .inl rfl
   ·exact .inr rfl
  ·exact .inr rfl
 ·exact .inr rfl
theorem Lt(h:a9)(x:a7):(∃v,Sh.gk h x= .val v) \/ Sh.gk h x= .fail:=by
 unfold Sh.gk;split
 ·split
  ·split
   ·exact .inl ⟨_,rfl⟩
   ·exact .inr rfl
  ·exact .inr rfl
 ·exact .inr rfl
theorem M1(hle:h.le H){x:a7}(hx:Sh.lM h x≠ .fail):Sh.lM H x=Sh.lM h x:=by
 unfold Sh.lM at hx ⊢;split
 ·rename_i id
  cases hb:h id with
  | none=>simp[hb]at hx
  | some b=>rw[hle _ b hb]
 ·rfl
theorem A4(hle:h.le H){x:a7}{r:List (a7×a7×Nat)×Nat}(hx:A.pV h x=some r):A.pV H x=some r:=by
 unfold A.pV at hx ⊢;split at hx<;>(try (cases hx;done));split at hx<;>(try (cases hx;done));rename_i b hb;rw[hle _ b hb];exact hx
theorem Gc(hle:h.le H){x:a7}{r:List (a7×a7×Nat)}(hx:A.entries h x=some r):A.entries H x=some r:=by
 unfold A.entries at hx ⊢;split at hx
 ·exact hx
 ·rename_i a
  split at hx<;>(try (cases hx;done));rename_i es c hm;rw[A4 hle hm];cases x<;>first|exact hx|exact absurd rfl a
theorem Pr(hle:h.le H){kd:Option KD}{z:Option a7}{ok:Bool}{x k v:a7}(hx:A.wO h kd z ok x k=some v):A.wO H kd z ok x k=some v:=by
 unfold A.wO at hx ⊢;cases kd with
 | none=>cases hx
 | some kd=>
  cases z with
  | none=>cases hx
  | some z=>
   cases he:A.entries h x with
   | none=>rw[he]at hx;cases hx
   | some es=>rw[he]at hx;rw[Gc hle he];exact hx
theorem Nr(hle:h.le H){x v:a7}(hx:A.w8 h x=some v):A.w8 H x=some v:=by
 unfold A.w8 at hx ⊢;cases he:A.entries h x with
 | none=>rw[he]at hx;cases hx
 | some es=>rw[he]at hx;rw[Gc hle he];exact hx
theorem MH(hle:h.le H){x v:a7}(hx:A.wv h x=some v):A.wv H x=some v:=by
 unfold A.wv at hx ⊢;split at hx<;>(try (cases hx;done));split at hx<;>(try (cases hx;done));rename_i b hb;rw[hle _ b hb];simp only;split at hx<;>(try (cases hx;done));rename_i m _ seen last a;cases hm:A.pV h (.mp m) with
 | none=>rw[hm]at hx;cases hx
 | some r=>rw[hm]at hx;rw[A4 hle hm];exact hx
theorem Pw(hle:h.le H){z:Option (List a7)}{x:a7}(hx:Sh.pg h z x≠ .fail):Sh.pg H z x=Sh.pg h z x:=by
 unfold Sh.pg at hx ⊢;cases z with
 | none=>rfl
 | some z=>
  cases x<;>(try rfl);simp only at hx ⊢;split
  ·rfl
  ·rename_i h0
   rw[if_neg h0]at hx;exact Bk hle hx
theorem AJ(hle:h.le H){x:a7}{f:List (a7×a7×Nat)->Nat->Option (List (a7×a7×Nat)×Nat×a7)}{g:a7->a7}(hx:Sh.kA h x f g≠ .fail):Sh.kA H x f g=Sh.kA h x f g:=by
 unfold Sh.kA at hx ⊢;cases x<;>(try rfl);rename_i id;simp only at hx ⊢;cases hb:h id with
 | none=>simp[hb]at hx
 | some b=>rw[hle _ b hb]
theorem OI(hle:h.le H){kd:Option KD}{x k:a7}(hx:Sh.ru h kd x k≠ .fail):Sh.ru H kd x k=Sh.ru h kd x k:=by
 unfold Sh.ru at hx ⊢;cases x<;>first|rfl|exact AJ hle hx
theorem LN(hle:h.le H){x:a7}(hx:Sh.rangeMap h x≠ .fail):Sh.rangeMap H x=Sh.rangeMap h x:=by
 unfold Sh.rangeMap at hx ⊢;cases x<;>(try rfl);rename_i id;simp only at hx ⊢;cases hm:A.pV h (.mp id) with
 | none=>rw[hm]at hx;exact absurd rfl hx
 | some r=>rw[A4 hle hm]
theorem ND(hle:h.le H){x:a7}{r:Nat×List (fB×a7)}(hx:A.steps h x=some r):A.steps H x=some r:=by
 unfold A.steps at hx ⊢;split at hx<;>(try (cases hx;done));split at hx<;>(try (cases hx;done));rename_i b hb;rw[hle _ b hb];simp only;split at hx<;>(try (cases hx;done))
 ·exact hx
 ·rename_i m _ seen last a
  cases hm:A.pV h (.mp m) with
  | none=>rw[hm]at hx;cases hx
  | some r=>rw[hm]at hx;rw[A4 hle hm];exact hx
theorem M4(hle:h.le H){x:a7}(hx:Sh.oI h x≠ .fail):Sh.oI H x=Sh.oI h x:=by
 unfold Sh.oI at hx ⊢;cases a:A.steps h x with
 | none=>rw[a]at hx;exact absurd rfl hx
 | some r=>rw[ND hle a]
theorem yH{o o':Option a7}(a:∀v,o=some v->o'=some v)(hx:Sh.pv o≠ .fail):Sh.pv o'=Sh.pv o:=by
 cases o with
 | none=>exact absurd rfl hx
 | some v=>rw[a v rfl]
theorem Hs(hle:h.le H){op:Op}(hx:dT P op ρ h≠ .fail):dT P op ρ H=dT P op ρ h:=by
 cases op<;>(try rfl)
 case makeFunc fn _ _=>cases fn<;>rfl
 all_goals simp only[dT]at hx ⊢
 case load t p=>
  cases hu:P.underlying t with
  | none=>rfl
  | some d=>
   simp only[hu]at hx ⊢;cases hb:e8 P t<;>simp only[hb,cond_true,cond_false]at hx ⊢
   ·exact yH (λv=>vA hle) hx
   ·exact yH (λv=>AM hle) hx
 case store t p v=>
  cases hb:e8 P t<;>simp only[hb,cond_true,cond_false]at hx ⊢
  ·cases o:Nat.beq (P.cellsOf t) 1<;>simp only[o,cond_true,cond_false]at hx ⊢
   exact Bk hle hx
  ·exact Bk hle hx
 case convert src dst y=>
  cases a:P.underlying src with
  | none=>rfl
  | some d=>
   cases l:P.underlying dst with
   | none=>cases d<;>rfl
   | some q=>
    simp only[a,l]at hx ⊢;cases d<;>(try rfl)<;>cases q<;>(try rfl)
    ·rename_i e
     simp only at hx ⊢;cases hu:jC P e<;>simp only[hu,cond_true,cond_false]at hx ⊢;exact LX hle hx
    ·rename_i e _
     simp only at hx ⊢;cases hu:Nat.beq src dst&&jC P e<;>simp only[hu,cond_true,cond_false]at hx ⊢;exact OS hle hx
 case next y b=>
  cases b
  ·exact M4 hle hx
  ·exact M1 hle hx
 case entry y=>exact yH (λv=>MH hle) hx
 case range t y=>
  cases hu:P.underlying t with
  | none=>rfl
  | some d=>
   simp only[hu]at hx ⊢;cases d<;>first|rfl|exact LN hle hx
 case makeMap t r=>cases r<;>rfl
 case lookup t y i ok=>
  cases hu:P.underlying t with
  | none=>rfl
  | some d=>
   simp only[hu]at hx ⊢;cases d<;>first|rfl|exact yH (λv=>Pr hle) hx
 case mapUpdate t m k v=>
  cases hu:P.underlying t with
  | none=>rfl
  | some d=>
   simp only[hu]at hx ⊢;cases d<;>first|rfl|exact AJ hle hx
 case mapEntry t m k=>
  cases hu:P.underlying t with
  | none=>rfl
  | some d=>
   simp only[hu]at hx ⊢;cases d<;>first|rfl|exact AJ hle hx
 case entryStore t m k v=>
  cases hu:P.underlying t with
  | none=>rfl
  | some d=>
   simp only[hu]at hx ⊢;cases d<;>first|rfl|exact AJ hle hx
 case call c=>
  cases o:c.callee with
  | value f=>cases f<;>rfl
  | invoke _ _=>rfl
  | builtin b=>
   simp only[o]at hx ⊢;unfold oB at hx ⊢;split<;>(try rfl)
   ·rename_i t _ x e1 g
    simp only[e1,g]at hx;cases a:P.underlying t with
    | none=>rfl
    | some d=>
     simp only[a]at hx ⊢;cases d<;>first|rfl|exact yH (λv=>Nr hle) hx
   ·rename_i t x e1 g
    simp only[e1,g]at hx;cases a:P.underlying t with
    | none=>rfl
    | some d=>
     simp only[a]at hx ⊢;cases d<;>(try rfl);simp only at hx ⊢;split
     ·rename_i h0
      rw[if_pos h0]at hx;exact Pw hle hx
     ·rfl
   ·rename_i t _ x k e1 g
    simp only[e1,g]at hx;cases a:P.underlying t with
    | none=>rfl
    | some d=>
     simp only[a]at hx ⊢;cases d<;>first|rfl|exact OI hle hx
   ·rename_i t u x y e1 g
    simp only[e1,g]at hx;cases a:P.underlying t with
    | none=>rfl
    | some d=>
     cases l:P.underlying u with
     | none=>cases d<;>rfl
     | some q=>
      simp only[a,l]at hx ⊢;cases d<;>(try rfl)<;>cases q<;>(try rfl)
      ·rename_i e
       simp only at hx ⊢;split
       ·rename_i h0
        rw[if_pos h0]at hx;exact HV hle hx
       ·rfl
      ·rename_i e w
       simp only at hx ⊢;split
       ·rename_i h0
        rw[if_pos h0]at hx;cases s:A.jR y with
        | none=>rfl
        | some n=>
         simp only[s]at hx ⊢;cases j:A.rdv h y n (P.cellsOf e) with
         | none=>rw[j]at hx;exact absurd rfl hx
         | some cs=>rw[j]at hx;rw[DB hle j];exact HV hle hx
       ·rfl
   ·rename_i t u x y e1 g
    simp only[e1,g]at hx;cases a:P.underlying t with
    | none=>rfl
    | some d=>
     simp only[a]at hx ⊢;cases d<;>(try rfl);simp only at hx ⊢;split
     ·rename_i h0
      rw[if_pos h0]at hx;exact Pv hle hx
     ·rfl
def Sh.known(h:a9):Sh->Prop | .heap id _ _=>∃b,h id=some b | .many id _=>∃b,h id=some b|_=>True
theorem Ay{p v:a7}{f:List a7->Option (List a7)}{n off:Nat}:(Sh.st h p f n off v).known h:=by
 unfold Sh.st;split<;>(try trivial);split<;>(try trivial);rename_i b hb;split<;>(try trivial);rename_i hi _;cases (b.own&&_)<;>simp only[cond_true,cond_false]<;>(try trivial);split<;>(try trivial);exact⟨b,hb⟩
theorem mu{o:Option a7}:(Sh.pv o).known h:=by cases o<;>trivial
theorem FQ{o:Option (List a7)}{mk:Nat->a7}:(Sh.bL o mk).known h:=by cases o<;>trivial
theorem lJ{p:Prop}[Decidable p]{x y:Sh}(hx:x.known h)(a:y.known h):(if p then x else y).known h:=by split<;>assumption
theorem r8{p:Bool}{x y:Sh}(hx:x.known h)(a:y.known h):(bif p then x else y).known h:=by cases p<;>assumption
theorem GP{es bytes:Nat}{x:a7}{news:Option (List a7)}:(Sh.app h es bytes x news).known h:=by
 unfold Sh.app;cases news with
 | none=>trivial
 | some cs=>
  cases x<;>(try trivial)
  ·exact lJ trivial (lJ trivial trivial)
  ·exact lJ trivial (lJ trivial trivial)
  ·simp only
   split<;>(try trivial);rename_i b hb;split<;>(try trivial);exact r8 (lJ ⟨b,hb⟩ trivial) (lJ trivial trivial)
theorem N1{es:Nat}{x y:a7}:(Sh.pf h es x y).known h:=by
 unfold Sh.pf;split<;>(try trivial);split<;>(try trivial);split<;>(try trivial);exact Ay
theorem N4{z:Option (List a7)}{x:a7}:(Sh.pg h z x).known h:=by
 unfold Sh.pg;cases z with
 | none=>trivial
 | some z=>cases x<;>(try trivial);exact lJ trivial Ay
theorem zR{x:a7}{f:List (a7×a7×Nat)->Nat->Option (List (a7×a7×Nat)×Nat×a7)}{g:a7->a7}:(Sh.kA h x f g).known h:=by
 unfold Sh.kA;split<;>(try trivial);split<;>(try trivial);rename_i b hb;split<;>(try trivial);split<;>(try trivial);exact⟨b,hb⟩
theorem M6{kd:Option KD}{x k:a7}:(Sh.ru h kd x k).known h:=by
 unfold Sh.ru;cases x<;>first|exact zR|exact lJ trivial trivial
theorem KL{x:a7}:(Sh.rangeMap h x).known h:=by
 unfold Sh.rangeMap;split<;>(try trivial);split<;>trivial
theorem KV{x:a7}:(Sh.oI h x).known h:=by
 unfold Sh.oI;split<;>(try trivial);rename_i id l a;unfold A.steps at a;split at a<;>(try (cases a;done));split at a<;>(try (cases a;done));rename_i b hb;split at a<;>(try (cases a;done))
 ·cases a;exact⟨b,hb⟩
 ·split at a<;>(try (cases a;done))
  rename_i es c hm;cases d:(es.all λe=>Nat.blt e.2.2 _)&&Nat.ble _ _ with
  | false=>rw[d]at a;cases a
  | true=>
   rw[d]at a;simp only[cond_true,Option.some.injEq,Prod.mk.injEq]at a;obtain⟨rfl,_⟩:=a;exact⟨b,hb⟩
theorem FH{op:Op}:(dT P op ρ h).known h:=by
 cases op<;>(try trivial)<;>simp only[dT]<;>(try exact mu)<;>(try exact FQ)
 case pick=>unfold Sh.pick;split<;>trivial
 case nilCheck=>unfold Sh.nilCheck;split<;>trivial
 case buildSlice=>
  split<;>(try trivial);refine lJ ?_ FQ;split<;>trivial
 case load=>split<;>(try trivial);exact r8 mu mu
 case store=>exact r8 Ay (r8 Ay trivial)
 case binOp=>split<;>(try trivial)<;>(try exact mu);split<;>(try trivial)<;>exact mu
 case convert=>
  split<;>(try trivial)<;>(try exact mu)
  ·refine r8 ?_ trivial
   unfold Sh.gk;split<;>(try trivial);split<;>(try trivial);split<;>trivial
  ·refine r8 ?_ trivial
   unfold Sh.oE;split<;>(try trivial);exact lJ trivial trivial
  ·refine r8 ?_ trivial
   rcases Du h _ with e|e<;>rw[e]<;>trivial
 case range=>
  split<;>(try trivial)
  ·unfold Sh.r9;split<;>trivial
  ·exact KL
 case makeMap t r=>cases r<;>(try trivial);simp only;split<;>trivial
 case lookup=>split<;>(try trivial);exact mu
 case mapUpdate=>split<;>(try trivial);exact zR
 case mapEntry=>split<;>(try trivial);exact zR
 case entryStore=>split<;>(try trivial);exact zR
 case next y b=>
  cases b
  ·exact KV
  simp only;unfold Sh.lM;split<;>(try trivial);split<;>(try trivial);rename_i b hb;split<;>(try trivial);exact lJ ⟨b,hb⟩ trivial
 case makeSlice=>
  split<;>(try trivial);refine lJ ?_ trivial;unfold Sh.eO;split<;>(try trivial);exact lJ trivial trivial
 case slice=>
  split<;>(try trivial)<;>(try exact mu)
  ·exact r8 trivial mu
  ·refine r8 trivial ?_
   split<;>(try trivial)<;>exact mu
 case fieldAddr=>split<;>(try trivial);split<;>(try trivial);exact r8 trivial mu
 case field=>split<;>(try trivial);split<;>(try trivial);split<;>(try trivial);exact r8 mu mu
 case indexAddr=>split<;>(try trivial)<;>exact r8 trivial mu
 case index=>split<;>(try trivial);exact mu
 case makeFunc fn _ _=>cases fn<;>trivial
 case call c=>
  split<;>(try trivial)
  ·unfold Sh.ks;split<;>trivial
  ·unfold oB
   split<;>(try trivial)<;>(try exact mu)
   ·split<;>(try trivial)<;>exact mu
   ·split<;>(try trivial);exact lJ N4 trivial
   ·split<;>(try trivial);exact M6
   ·split<;>(try trivial)
    ·refine lJ ?_ trivial
     split<;>(try trivial);exact GP
    ·exact lJ GP trivial
    ·refine lJ ?_ trivial
     unfold Sh.rz;split<;>(try trivial);exact lJ trivial trivial
   ·split<;>(try trivial)
    exact lJ N1 trivial
   ·split<;>(try trivial);exact mu
theorem NF{K:zQ}{x:Sh}{id:Nat}{b:fB}(c:h id=none)(g:x.known h)(hx:x.run (AC P) h K):
  x.run (AC P) (bQ h id b) λv j=>∃h',K v h' /\ h' id=none /\ j=bQ h' id b:=by
 cases x with
 | val v=>exact⟨h,hx,c,rfl⟩
 | heap i k v=>
  obtain⟨n,d⟩:=g;have a:id≠i:=λe=>by subst e;rw[c]at d;cases d
  exact⟨bQ h i k,hx,by rw[cQ _ _ a];exact c,Ar _ _ _ a⟩
 | many i l=>
  obtain⟨n,d⟩:=g;have a:id≠i:=λe=>by subst e;rw[c]at d;cases d
  exact λp m=>⟨bQ h i p.1,hx p m,by rw[cQ _ _ a];exact c,Ar _ _ _ a⟩
 | new k mk=>
  intro i hi;have a:id≠i:=λe=>by subst e;rw[dR]at hi;cases hi
  rw[cQ _ _ (Ne.symm a)]at hi;exact⟨bQ h i k,hx i hi,by rw[cQ _ _ a];exact c,Ar _ _ _ a⟩
 | call f args=>exact AC.frame hx c
 | fail=>exact hx
theorem Ml{op:Op}(hk:gO P op= .pure):(∀h H:a9,dT P op ρ h=dT P op ρ H) /\ ((∃v,dT P op ρ h= .val v) \/ dT P op ρ h= .fail):=by
 have pvc:∀o:Option a7,(∃v,Sh.pv o= .val v) \/ Sh.pv o= .fail:=λo=>by
  cases o with
  | none=>exact .inr rfl
  | some v=>exact .inl ⟨v,rfl⟩
 have bc:∀(b:Bool)(x y:Sh),((∃v,x= .val v) \/ x= .fail)->((∃v,y= .val v) \/ y= .fail)->((∃v,(bif b then x else y)= .val v) \/ (bif b then x else y)= .fail):=λb x y hx k=>by
  cases b
  ·exact k
  ·exact hx
 cases op<;>(try (simp only[gO]at hk;cases hk;done))<;>(try (exact⟨λ_ _=>rfl,.inl ⟨_,rfl⟩⟩))<;>(try (exact⟨λ_ _=>rfl,pvc _⟩))
 case pick=>exact⟨λ_ _=>rfl,by simp only[dT];unfold Sh.pick;split<;>simp⟩
 case nilCheck=>exact⟨λ_ _=>rfl,by simp only[dT];unfold Sh.nilCheck;split<;>simp⟩
 case binOp=>exact⟨λ_ _=>rfl,by simp only[dT];split<;>(try exact pvc _)<;>(try exact .inr rfl);split<;>first|exact pvc _|exact .inr rfl⟩
 case convert src dst y=>
  simp only[gO]at hk;simp only[dT];cases g:P.underlying src with
  | none=>simp[g]at hk
  | some d=>
   cases j:P.underlying dst with
   | none=>rw[g,j]at hk;cases d<;>cases hk
   | some l=>
    rw[g,j]at hk;cases d<;>(try (cases hk;done))<;>cases l<;>(try (cases hk;done))<;>exact⟨λ_ _=>rfl,pvc _⟩
 case slice=>exact⟨λ_ _=>rfl,by
  simp only[dT];split<;>(try exact pvc _)<;>(try exact .inr rfl)
  ·exact bc _ _ _ (.inr rfl) (pvc _)
  ·exact bc _ _ _ (.inr rfl) (by split<;>(try exact pvc _)<;>exact .inr rfl)⟩
 case fieldAddr=>exact⟨λ_ _=>rfl,by simp only[dT];split<;>(try exact .inr rfl);split<;>(try exact .inr rfl);exact bc _ _ _ (.inr rfl) (pvc _)⟩
 case field=>exact⟨λ_ _=>rfl,by simp only[dT];split<;>(try exact .inr rfl);split<;>(try exact .inr rfl);split<;>(try exact .inr rfl);exact bc _ _ _ (pvc _) (pvc _)⟩
 case indexAddr=>exact⟨λ_ _=>rfl,by simp only[dT];split<;>(try exact .inr rfl)<;>exact bc _ _ _ (.inr rfl) (pvc _)⟩
 case index=>exact⟨λ_ _=>rfl,by simp only[dT];split<;>(try exact .inr rfl);exact pvc _⟩
 case makeFunc fn _ _=>cases fn<;>exact⟨λ_ _=>rfl,by first|exact .inl ⟨_,rfl⟩|exact .inr rfl⟩
 case call c=>
  obtain⟨callee,args,ats⟩:=c;cases callee with
  | value _=>simp[gO]at hk
  | invoke _ _=>simp[gO]at hk
  | builtin b=>
   have hb:(b= .len /\ vB P ats.toList=false) \/ b= .min \/ b= .max \/ b= .cap:=by
    cases b<;>simp[gO]at hk ⊢;cases hm:vB P ats.toList
    ·rfl
    ·rw[hm]at hk;cases hk
   simp only[dT];generalize ats.toList=as at *;generalize args.toList.map ρ=bs;rcases hb with⟨rfl,i⟩|rfl|rfl|rfl
   ·cases as with
    | nil=>exact⟨λ_ _=>rfl,.inr rfl⟩
    | cons t r=>
     rcases bs with _|⟨x,_|⟨y,r'⟩⟩
     ·exact⟨λ_ _=>rfl,.inr rfl⟩
     ·have f:∀a b,P.underlying t≠some (.map a b):=λa b e=>by simp[vB,e]at i
      refine⟨λh H=>?_,?_⟩
      ·simp only[oB]
       cases hu:P.underlying t with
       | none=>rfl
       | some d=>cases d<;>first|rfl|exact absurd hu (f _ _)
      ·simp only[oB]
       split<;>(try exact pvc _)
       ·exact .inl ⟨_,rfl⟩
       ·exact .inr rfl
     ·exact⟨λ_ _=>rfl,.inr rfl⟩
   ·rcases bs with _|⟨x,_|⟨y,_|⟨z,r'⟩⟩⟩
    ·exact⟨λ_ _=>rfl,.inr rfl⟩
    ·exact⟨λ_ _=>rfl,.inr rfl⟩
    ·exact⟨λ_ _=>rfl,pvc _⟩
    ·exact⟨λ_ _=>rfl,.inr rfl⟩
   ·rcases bs with _|⟨x,_|⟨y,_|⟨z,r'⟩⟩⟩
    ·exact⟨λ_ _=>rfl,.inr rfl⟩
    ·exact⟨λ_ _=>rfl,.inr rfl⟩
    ·exact⟨λ_ _=>rfl,pvc _⟩
    ·exact⟨λ_ _=>rfl,.inr rfl⟩
   ·cases as with
    | nil=>exact⟨λ_ _=>rfl,.inr rfl⟩
    | cons t r=>
     rcases bs with _|⟨x,_|⟨y,r'⟩⟩
     ·exact⟨λ_ _=>rfl,.inr rfl⟩
     ·refine⟨λ_ _=>rfl,?_⟩
      simp only[oB];split<;>(try exact pvc _)<;>exact .inr rfl
     ·exact⟨λ_ _=>rfl,.inr rfl⟩
theorem Mj{op:Op}(hk:gO P op= .read):(∃v,dT P op ρ h= .val v) \/ dT P op ρ h= .fail:=by
 cases op<;>(try (simp only[gO]at hk;cases hk;done))
 case convert src dst y=>
  simp only[gO]at hk;simp only[dT];cases a:P.underlying src with
  | none=>simp[a]at hk
  | some d=>
   cases f:P.underlying dst with
   | none=>rw[a,f]at hk;cases d<;>cases hk
   | some g=>
    rw[a,f]at hk;cases d<;>(try (cases hk;done))<;>cases g<;>(try (cases hk;done));simp only;rename_i e;cases jC P e
    ·exact .inr rfl
    ·exact Lt h (ρ y)
 case call c=>
  obtain⟨callee,args,ats⟩:=c;cases callee with
  | value _=>simp[gO]at hk
  | invoke _ _=>simp[gO]at hk
  | builtin b=>
   cases b<;>simp[gO]at hk;cases hm:vB P ats.toList<;>rw[hm]at hk<;>cases hk
theorem CE{op:Op}(hk:gO P op= .conv):∃src dst y e g,op= .convert src dst y /\ P.underlying src=some (.slice e) /\ P.underlying dst=some (.slice g) /\ ∀h:a9,dT P op ρ h=bif Nat.beq src dst&&jC P e then Sh.conv h (ρ y) else .fail:=by
 cases op<;>(try (simp only[gO]at hk;cases hk;done))
 case convert src dst y=>
  simp only[gO]at hk;simp only[dT];cases a:P.underlying src with
  | none=>simp[a]at hk
  | some d=>
   cases f:P.underlying dst with
   | none=>rw[a,f]at hk;cases d<;>cases hk
   | some i=>
    rw[a,f]at hk;cases d<;>(try (cases hk;done))<;>cases i<;>(try (cases hk;done));rename_i e g;exact⟨src,dst,y,e,g,rfl,a,f,λ_=>rfl⟩
 case call c=>
  obtain⟨callee,args,ats⟩:=c;cases callee with
  | value _=>simp[gO]at hk
  | invoke _ _=>simp[gO]at hk
  | builtin b=>
   cases b<;>simp[gO]at hk;cases hm:vB P ats.toList<;>rw[hm]at hk<;>cases hk
theorem LC{op:Op}(hk:gO P op= .alloc):(∀h H:a9,dT P op ρ h=dT P op ρ H) /\ ((∃v,dT P op ρ h= .val v) \/ (∃b mk,dT P op ρ h= .new b mk) \/ dT P op ρ h= .fail):=by
 have a:∀(o:Option (List a7)) mk,(∃v,Sh.bL o mk= .val v) \/ (∃b m,Sh.bL o mk= .new b m) \/ Sh.bL o mk= .fail:=λo mk=>by
  cases o with
  | none=>exact .inr (.inr rfl)
  | some v=>exact .inr (.inl ⟨_,_,rfl⟩)
 cases op<;>(try (simp only[gO]at hk;cases hk;done))<;>(try (exact⟨λ_ _=>rfl,a _ _⟩))
 case buildSlice=>
  refine⟨λ_ _=>rfl,?_⟩;simp only[dT];split
  ·split
   ·split
    ·exact .inl ⟨_,rfl⟩
    ·exact .inr (.inr rfl)
   ·exact a _ _
  ·exact .inr (.inr rfl)
 case makeSlice=>
  refine⟨λ_ _=>rfl,?_⟩;simp only[dT];split
  ·split
   ·unfold Sh.eO
    split
    ·split
     ·exact .inr (.inl ⟨_,_,rfl⟩)
     ·exact .inr (.inr rfl)
    ·exact .inr (.inr rfl)
   ·exact .inr (.inr rfl)
  ·exact .inr (.inr rfl)
 case convert src dst y=>
  simp only[gO]at hk;split at hk<;>cases hk
 case call c=>
  obtain⟨callee,args,ats⟩:=c;cases callee with
  | value _=>simp[gO]at hk
  | invoke _ _=>simp[gO]at hk
  | builtin b=>
   cases b<;>simp[gO]at hk;cases hm:vB P ats.toList<;>rw[hm]at hk<;>cases hk
end
def cN(P:Program)(ops:List Oper)(o:Oper)(s:bB)(h:a9):Sh:=
 match o.guard with
 | none=>dT P o.op (aO s) h
 | some (j,b)=>match lj ops j with
  | some t=>match s t with
   | .bool a=>if a=b then dT P o.op (aO s) h else .val (.bI [])
   | .bI []=> .val (.bI [])
   | _=> .fail
  | none=> .fail
def sameAt(h' h:a9)(p:a7×Option Nat):Prop:=
 match p.2 with
 | none=>A.bX h' p.1=A.bX h p.1
 | some n=>A.fF h' p.1 n=A.fF h p.1 n
theorem sameAt.refl(h:a9)(p:a7×Option Nat):sameAt h h p:=by unfold sameAt;split<;>rfl
theorem sameAt.bQ{h' h:a9}{p:a7×Option Nat}(x:sameAt h' h p)(id:Nat)(b:fB):sameAt (Ab.bQ h' id b) (Ab.bQ h id b) p:=by
 obtain⟨v,n⟩:=p;have c:∀i,(Ab.bQ h' id b i=Ab.bQ h id b i) \/ (i≠id /\ Ab.bQ h' id b i=h' i /\ Ab.bQ h id b i=h i):=λi=>by
  by_cases hi:i=id
  ·subst hi;exact .inl (by rw[dR,dR])
  ·exact .inr ⟨hi,cQ _ _ hi,cQ _ _ hi⟩
 unfold sameAt at x ⊢;cases n with
 | none=>
  simp only at x ⊢;cases v<;>(try rfl);rename_i i g o;rcases c i with e|⟨_,e1,a⟩
  ·simp only[A.bX,e]
  ·simp only[A.bX,e1,a]at x ⊢;exact x
 | some n=>
  simp only at x ⊢;cases v<;>(try rfl);rename_i i g o;rcases c i with e|⟨_,e1,a⟩
  ·simp only[A.fF,e]
  ·simp only[A.fF,e1,a]at x ⊢;exact x
section
variable{P:Program}{C:aC}{h H:a9}{s s':bB}{ops:List Oper}{o:Oper}{K:zQ}
theorem PG{c:a7}{b:Bool}{x:Sh}{M:(zQ)->Prop}(f:M K↔x.run C h K):A.gd h c b M K↔(match c with
  | .bool d=>if d=b then x else .val (.bI [])
  | .bI []=> .val (.bI [])
  | _=>Sh.fail).run C h K:=by
 cases c<;>(try exact Iff.rfl)
 case bI l=>cases l<;>exact Iff.rfl
 rename_i d;simp only[A.gd];by_cases e:d=b
 ·rw[if_pos e];exact⟨λ⟨k,_⟩=>f.1 (k e),λk=>⟨λ_=>f.2 k,λa=>absurd e a⟩⟩
 ·rw[if_neg e];exact⟨λ⟨_,k⟩=>k e,λk=>⟨λa=>absurd a e,λ_=>k⟩⟩
theorem xc:vy P C ops o s h K↔(cN P ops o s h).run C h K:=by
 unfold vy cN;cases o.guard with
 | none=>exact u5
 | some a=>
  obtain⟨j,b⟩:=a;simp only;cases lj ops j with
  | none=>exact Iff.rfl
  | some t=>exact PG u5
theorem CB(d:∀f args h (Q Q':zQ),(∀v h,Q v h->Q' v h)->C f args h Q->C f args h Q'){a:List (Operand×TypeId)}:
  xo P C ops o a s h K↔(cN P ops o s h).run C h (A.dQ h (gK P s a) K):=by
 cases a with
 | nil=>
  have e:∀v h',A.dQ h (gK P s []) K v h'↔K v h':=λv h'=>⟨λk=>k.2,λk=>⟨λp i=>(by cases i),k⟩⟩;rw[show xo P C ops o [] s h K=vy P C ops o s h K from rfl,xc];exact⟨ng d λv h' k=>(e v h').2 k,ng d λv h' k=>(e v h').1 k⟩
 | cons q r=>
  unfold xo cN;simp only;cases o.guard with
  | none=>exact u5
  | some g=>
   obtain⟨j,b⟩:=g;simp only;cases lj ops j with
   | none=>exact Iff.rfl
   | some t=>
    simp only;cases s t<;>(try exact Iff.rfl)
    case bI l=>
     cases l with
     | nil=>exact⟨λk=>⟨λp _=>sameAt.refl h p,k⟩,λk=>k.2⟩
     | cons _ _=>exact Iff.rfl
    rename_i m;simp only[A.gd];by_cases e:m=b
    ·rw[if_pos e]
     exact⟨λ⟨k,_⟩=>u5.1 (k e),λk=>⟨λ_=>u5.2 k,λc=>absurd e c⟩⟩
    ·rw[if_neg e]
     exact⟨λ⟨_,k⟩=>⟨λp _=>sameAt.refl h p,k e⟩,λk=>⟨λc=>absurd c e,λ_=>k.2⟩⟩
theorem tv(s:bB)(d:Nat)(v:a7):bW s (some d) v d=v:=by simp[bW]
theorem gQ(s:bB){d k:Nat}(v:a7)(hk:k≠d):bW s (some d) v k=s k:=by
 have:Nat.beq k d=false:=by rw[<-Bool.not_eq_true,Nat.beq_eq];exact hk
 simp[bW,this]
theorem Gy(s:bB){x y:Option Nat}(u v:a7)(a:∀d,x=some d->y≠some d):bW (bW s x u) y v=bW (bW s y v) x u:=by
 cases x with
 | none=>rfl
 | some d=>
  cases y with
  | none=>rfl
  | some e=>
   have b:d≠e:=λhe=>a d rfl (by rw[he]);funext k;by_cases h1:k=d
   ·subst h1;rw[gQ _ _ b,tv,tv]
   ·by_cases c:k=e
    ·subst c;rw[tv,gQ _ _ h1,tv]
    ·rw[gQ _ _ c,gQ _ _ h1,gQ _ _ h1,gQ _ _ c]
theorem D3{d:Option Nat}{v:a7}{x:Operand}(hx:∀k,d=some k->x≠ .tmp k):aO (bW s d v) x=aO s x:=by
 cases x<;>(try rfl);rename_i t;cases d with
 | none=>rfl
 | some d=>exact gQ _ _ λe=>hx d rfl (by rw[e])
theorem vT{ops:Array Oper}{d:Option Nat}{v:a7}(c:∀k,d=some k->k∉o.looksAt ops):cN P ops.toList o (bW s d v) h=cN P ops.toList o s h:=by
 have h1:∀x∈o.op.operands,aO (bW s d v) x=aO s x:=λx hx=>D3 λk hk e=>c k hk (by
  subst e;exact mem_append_left _ (mem_filterMap.2 ⟨.tmp k,by simpa using hx,rfl⟩))
 unfold cN;split
 ·exact xY h1
 ·rename_i j b f
  cases a:lj ops.toList j with
  | none=>rfl
  | some t=>
   have:bW s d v t=s t:=by
    cases d with
    | none=>rfl
    | some d=>
     refine gQ _ _ λe=>c d rfl ?_;subst e;unfold Oper.looksAt;rw[f];refine mem_append_right _ ?_;have:(ops[j]?).bind (·.dst)=some t:=by unfold lj at a;simpa using a
     simp[this]
   simp only[this];split
   ·split
    ·exact xY h1
    ·rfl
   ·rfl
   ·rfl
theorem yd(hle:h.le H)(hx:cN P ops o s h≠ .fail):cN P ops o s H=cN P ops o s h:=by
 unfold cN at hx ⊢;split
 ·rename_i a;simp only[a]at hx;exact Hs hle hx
 ·rename_i j b a
  simp only[a]at hx;split
  ·rename_i t c
   simp only[c]at hx;split
   ·rename_i d hb
    simp only[hb]at hx;split
    ·rename_i e;rw[if_pos e]at hx;exact Hs hle hx
    ·rfl
   ·rfl
   ·rfl
  ·rfl
theorem Fe:(cN P ops o s h).known h:=by
 unfold cN;split
 ·exact FH
 ·split
  ·split
   ·exact lJ FH trivial
   ·trivial
   ·trivial
  ·trivial
theorem vS(hk:gO P o.op= .pure):(∀h H:a9,cN P ops o s h=cN P ops o s H) /\ ((∃v,cN P ops o s h= .val v) \/ cN P ops o s h= .fail):=by
 have a:=fun(h:a9)=>Ml (P:=P) (h:=h) (ρ:=aO s) hk;constructor
 ·intro h H
  unfold cN;rw[(a h).1 h H]
 ·unfold cN
  split
  ·exact(a h).2
  ·split
   ·split
    ·split
     ·exact(a h).2
     ·exact .inl ⟨_,rfl⟩
    ·exact .inl ⟨_,rfl⟩
    ·exact .inr rfl
   ·exact .inr rfl
theorem vQ(hk:gO P o.op= .alloc):(∀h H:a9,cN P ops o s h=cN P ops o s H) /\ ((∃v,cN P ops o s h= .val v) \/ (∃b mk,cN P ops o s h= .new b mk) \/ cN P ops o s h= .fail):=by
 have a:=fun(h:a9)=>LC (P:=P) (h:=h) (ρ:=aO s) hk;constructor
 ·intro h H
  unfold cN;rw[(a h).1 h H]
 ·unfold cN
  split
  ·exact(a h).2
  ·split
   ·split
    ·split
     ·exact(a h).2
     ·exact .inl ⟨_,rfl⟩
    ·exact .inl ⟨_,rfl⟩
    ·exact .inr (.inr rfl)
   ·exact .inr (.inr rfl)
theorem Fu(hk:gO P o.op= .read):(∃v,cN P ops o s h= .val v) \/ cN P ops o s h= .fail:=by
 have main:=Mj (P:=P) (h:=h) (ρ:=aO s) hk;unfold cN;split
 ·exact main
 ·split
  ·split
   ·split
    ·exact main
    ·exact .inl ⟨_,rfl⟩
   ·exact .inl ⟨_,rfl⟩
   ·exact .inr rfl
  ·exact .inr rfl
theorem Fv(hk:gO P o.op= .conv):∃v,∀h,cN P ops o s h= .val v \/ cN P ops o s h= .fail:=by
 obtain⟨src,dst,y,e,b,_,_,_,a⟩:=CE (P:=P) (ρ:=aO s) hk;have main:∀h,dT P o.op (aO s) h= .val (aO s y) \/ dT P o.op (aO s) h= .fail:=λh=>by
  rw[a h];cases Nat.beq src dst&&jC P e
  ·exact .inr rfl
  ·exact Du h _
 unfold cN;split
 ·exact⟨_,main⟩
 ·split
  ·split
   ·split
    ·exact⟨_,main⟩
    ·exact⟨_,λ_=> .inl rfl⟩
   ·exact⟨_,λ_=> .inl rfl⟩
   ·exact⟨.undef,λ_=> .inr rfl⟩
  ·exact⟨.undef,λ_=> .inr rfl⟩
theorem H4(hk:gO P o.op= .load):∃t x,o.op= .load t x:=by
 cases a:o.op<;>rw[a]at hk<;>(try (simp only[gO]at hk;cases hk;done))
 ·exact⟨_,_,rfl⟩
 ·simp only[gO]at hk;split at hk<;>cases hk
 ·rename_i c
  obtain⟨callee,args,ats⟩:=c;cases callee with
  | value _=>simp[gO]at hk
  | invoke _ _=>simp[gO]at hk
  | builtin b=>
   cases b<;>simp[gO]at hk;cases hm:vB P ats.toList<;>rw[hm]at hk<;>cases hk
theorem C1{t:TypeId}{x:Operand}(b:o.op= .load t x):
  (sameAt H h (aO s x,bif e8 P t then some (P.cellsOf t) else none)->cN P ops o s H=cN P ops o s h) /\ ((∃v,cN P ops o s h= .val v) \/ cN P ops o s h= .fail):=by
 have main:(sameAt H h (aO s x,bif e8 P t then some (P.cellsOf t) else none)->dT P o.op (aO s) H=dT P o.op (aO s) h) /\ ((∃v,dT P o.op (aO s) h= .val v) \/ dT P o.op (aO s) h= .fail):=by
  have pvc:∀o:Option a7,(∃v,Sh.pv o= .val v) \/ Sh.pv o= .fail:=λo=>by
   cases o with
   | none=>exact .inr rfl
   | some v=>exact .inl ⟨v,rfl⟩
  rw[b];simp only[dT];cases P.underlying t with
  | none=>exact⟨λ_=>rfl,.inr rfl⟩
  | some d=>
   cases hb:e8 P t
   ·exact⟨λa=>by simp only[sameAt,cond_false]at a ⊢;rw[a],pvc _⟩
   ·exact⟨λa=>by simp only[sameAt,cond_true]at a ⊢;rw[a],pvc _⟩
 constructor
 ·intro a
  unfold cN;rw[main.1 a]
 ·unfold cN
  split
  ·exact main.2
  ·split
   ·split
    ·split
     ·exact main.2
     ·exact .inl ⟨_,rfl⟩
    ·exact .inl ⟨_,rfl⟩
    ·exact .inr rfl
   ·exact .inr rfl
theorem zJ{a:List (Operand×TypeId)}{d:Option Nat}{v:a7}(c:∀q∈a,∀k,d=some k->q.1≠ .tmp k):gK P (bW s d v) a=gK P s a:=
 map_congr_left λq b=>by rw[D3 λk hk=>c q b k hk]
end
abbrev kS:=Item×List (Operand×TypeId)
structure wN(ops:Array Oper)(x y:kS):Prop where
 Nm:x.1.m.testBit y.1.i=false
 place:∀t a,x.1.o.op= .load t a->∀d,y.1.o.dst=some d->a≠ .tmp d
 free:y.1.m.testBit x.1.i=true \/ (x.1.k.fits y.1.k=true /\ x.1.o.apart ops y.1.o=true)
 keeps:∀t a,x.1.o.op= .load t a->y.1.k= .effect->y.1.m.testBit x.1.i=false->(a,t)∈y.2
 HX:∀q∈x.2,∀d,y.1.o.dst=some d->q.1≠ .tmp d
structure Good(P:Program)(x:kS):Prop where
 place:∀t a,x.1.o.op= .load t a->∀d,x.1.o.dst=some d->a≠ .tmp d
 self:x.1.m.testBit x.1.i=false
 quiet:x.1.k≠ .effect->x.2=[]
 kind:x.1.k=gO P x.1.o.op
theorem xZ{ops:Array Oper}{x y:Oper}(a:x.apart ops y=true):(∀d,x.dst=some d->d∉y.looksAt ops) /\ (∀d,x.dst=some d->y.dst≠some d) /\ (∀d,y.dst=some d->d∉x.looksAt ops):=Oper.apart_spec a
section
variable{P:Program}{ops:Array Oper}
theorem sw(P:Program):∀f args h (Q Q':zQ),(∀v h,Q v h->Q' v h)->AC P f args h Q->AC P f args h Q':=λ_ _ _ _ _ a x=>AC.mono a x
theorem oy{x:kS}{r:List kS}{Q:bB->a9->Prop}{s:bB}{h:a9}:iB P (AC P) ops.toList (x::r) Q s h↔(cN P ops.toList x.1.o s h).run (AC P) h (A.dQ h (gK P s x.2) λv h=>iB P (AC P) ops.toList r Q (bW s x.1.o.dst v) h):=CB (sw P)
theorem HU (t : kS) (Y : Good P t) (ys : List kS) (Q : bB -> a9 -> Prop) : ∀ (xs : List kS) (s : bB) (h : a9) (E : List (Operand × TypeId)), (∀ q ∈ E, q ∈ t.2) -> (t.1.k ≠ .effect -> E = []) ->
    (∀ x ∈ xs, ∀ q ∈ E, ∀ d, x.1.o.dst = some d -> q.1 ≠ .tmp d) -> (∀ x ∈ xs, Good P x) -> (∀ x ∈ xs, wN ops x t) -> (∀ x ∈ xs, t.1.m.testBit x.1.i = false) -> xs.Pairwise (wN ops) ->
    t.1.k ≠ .conv -> (t.1.k ≠ .effect -> t.1.k ≠ .load -> t.1.k ≠ .read -> cN P ops.toList t.1.o s h ≠ .fail) ->
    iB P (AC P) ops.toList (xs ++ t :: ys) Q s h ->
    (cN P ops.toList t.1.o s h).run (AC P) h fun v h' => (∀ p ∈ gK P s E, sameAt h' h p) /\ iB P (AC P) ops.toList (xs ++ ys) Q (bW s t.1.o.dst v) h'
  | [], s, h, E, K, _, _, _, _, _, _, _, _, H => by
    rw [nil_append, oy] at H
    refine ng (sw P) (fun v h' hk => ⟨fun p A => ?_, hk.2⟩) H
    refine hk.1 p ?_
    simp only [gK, mem_map] at A ⊢
    obtain ⟨q, l, e⟩ := A
    exact ⟨q, K q l, e⟩
  | x :: xs, s, h, E, K, C, R, hg, Z, hunord, V, O, U, H => by
    have S := hg x (by simp)
    have px := Z x (by simp)
    obtain ⟨f, hap⟩ := px.free.resolve_left (by rw [hunord x (by simp)]; simp)
    obtain ⟨ap1, ap2, ap3⟩ := xZ hap
    rw [pairwise_cons] at V
    have tsh : ∀ v h1, cN P ops.toList t.1.o (bW s x.1.o.dst v) h1 = cN P ops.toList t.1.o s h1 := fun v h1 => vT fun d L => ap1 d L
    have xsh : ∀ u h1, cN P ops.toList x.1.o (bW s t.1.o.dst u) h1 = cN P ops.toList x.1.o s h1 := fun u h1 => vT fun d L => ap3 d L
    have comm : ∀ u v, bW (bW s x.1.o.dst v) t.1.o.dst u = bW (bW s t.1.o.dst u) x.1.o.dst v := fun u v => Gy s v u fun d L => ap2 d L
    have kx : ∀ u, gK P (bW s t.1.o.dst u) x.2 = gK P s x.2 := fun u => zJ fun q l d L => px.HX q l d L
    have ih := fun s h E a b c d => HU t Y ys Q xs s h E a b c (fun y B => hg y (by simp [B])) (fun y B => Z y (by simp [B])) (fun y B => hunord y (by simp [B])) V.2 O d
    have kput : ∀ v, gK P (bW s x.1.o.dst v) E = gK P s E := fun v => zJ fun q l d L => R x (by simp) q l d L
    rw [cons_append, oy] at H
    have viaVal : ∀ v, cN P ops.toList x.1.o s h = .val v -> x.2 = [] -> (∀ n, (∀ q ∈ n, q ∈ t.2) -> (t.1.k ≠ .effect -> n = []) -> (∀ y ∈ x :: xs, ∀ q ∈ n, ∀ d, y.1.o.dst = some d -> q.1 ≠ .tmp d) ->
        (∀ q ∈ E, q ∈ n) -> (∀ u h', (cN P ops.toList t.1.o s h).run (AC P) h (fun u' h'' => u' = u -> h'' = h' -> True) -> True) ->
        (∀ h', (∀ p ∈ gK P s n, sameAt h' h p) -> (t.1.k ≠ .effect -> h.le h') -> cN P ops.toList x.1.o s h' = .val v) ->
        (cN P ops.toList t.1.o s h).run (AC P) h fun u h' => (∀ p ∈ gK P s E, sameAt h' h p) /\ iB P (AC P) ops.toList (x :: xs ++ ys) Q (bW s t.1.o.dst u) h') := by
      intro v g N n k1 k2 k3 k4 _ k5
      rw [g] at H
      have H' := H.2
      have r := ih (bW s x.1.o.dst v) h n k1 k2 (fun y B => k3 y (by simp [B])) (fun a b c => by rw [tsh]; exact U a b c) H'
      rw [tsh] at r
      have kput' : gK P (bW s x.1.o.dst v) n = gK P s n := zJ fun q l d L => k3 x (by simp) q l d L
      rw [kput'] at r
      have hle : t.1.k ≠ .effect -> (cN P ops.toList t.1.o s h).run (AC P) h (fun u h' => h.le h' /\ ((∀ p ∈ gK P s n, sameAt h' h p) /\ iB P (AC P) ops.toList (xs ++ ys) Q (bW (bW s x.1.o.dst v) t.1.o.dst u) h')) := by
        intro j
        have vn : (∃ v, cN P ops.toList t.1.o s h = .val v) \/ (∃ b mk, cN P ops.toList t.1.o s h = .new b mk) \/ cN P ops.toList t.1.o s h = .fail := by
          have hk := Y.kind
          cases e : t.1.k with
          | effect => exact absurd e j
          | pure => rw [e] at hk; rcases (vS (h := h) (s := s) (ops := ops.toList) hk.symm).2 with h' | h'
                    · exact .inl h'
                    · exact .inr (.inr h')
          | load => rw [e] at hk; obtain ⟨_, _, W⟩ := H4 hk.symm; rcases (C1 (P := P) (H := h) (h := h) (s := s) (ops := ops.toList) W).2 with h' | h'
                    · exact .inl h'
                    · exact .inr (.inr h')
          | alloc => rw [e] at hk; exact (vQ (h := h) (s := s) (ops := ops.toList) hk.symm).2
          | read => rw [e] at hk; rcases Fu (h := h) (s := s) (ops := ops.toList) hk.symm with h' | h'
                    · exact .inl h'
                    · exact .inr (.inr h')
          | conv => exact absurd e O
        rcases vn with ⟨w, hw⟩ | ⟨b, mk, hw⟩ | hw <;> rw [hw] at r ⊢
        · exact ⟨a9.le_refl h, r⟩
        · exact fun id z => ⟨hU b z, r id z⟩
        · exact r
      have fin : ∀ u h', (∀ p ∈ gK P s n, sameAt h' h p) -> (t.1.k ≠ .effect -> h.le h') -> iB P (AC P) ops.toList (xs ++ ys) Q (bW (bW s x.1.o.dst v) t.1.o.dst u) h' ->
          (∀ p ∈ gK P s E, sameAt h' h p) /\ iB P (AC P) ops.toList (x :: xs ++ ys) Q (bW s t.1.o.dst u) h' := by
        intro u h' q1 q2 q3
        refine ⟨fun p A => q1 p ?_, ?_⟩
        · simp only [gK, mem_map] at A ⊢
          obtain ⟨q, l, e⟩ := A
          exact ⟨q, k4 q l, e⟩
        · rw [cons_append, oy, xsh, k5 h' q1 q2, N]
          refine ⟨fun p A => by simp [gK] at A, ?_⟩
          show iB P (AC P) ops.toList (xs ++ ys) Q (bW (bW s t.1.o.dst _) x.1.o.dst _) _
          rw [<- comm]; exact q3
      by_cases j : t.1.k = .effect
      · exact ng (sw P) (fun u h' J => fin u h' J.1 (fun hh => absurd j hh) J.2) r
      · exact ng (sw P) (fun u h' J => fin u h' J.2.1 (fun _ => J.1) J.2.2) (hle j)
    have simple : ∀ v, cN P ops.toList x.1.o s h = .val v -> x.2 = [] -> (∀ h', cN P ops.toList x.1.o s h' = .val v) ->
        (cN P ops.toList t.1.o s h).run (AC P) h fun u h' => (∀ p ∈ gK P s E, sameAt h' h p) /\ iB P (AC P) ops.toList (x :: xs ++ ys) Q (bW s t.1.o.dst u) h' := fun v g N hind =>
      viaVal v g N E K C (fun y B => R y B) (fun _ l => l) (fun _ _ _ => trivial) fun h' _ _ => hind h'
    cases D : x.1.k with
    | pure =>
      have hk := S.kind
      rw [D] at hk
      obtain ⟨i1, i2⟩ := vS (h := h) (s := s) (ops := ops.toList) hk.symm
      rcases i2 with ⟨v, g⟩ | g
      · exact simple v g (S.quiet (by rw [D]; simp)) fun h' => by rw [i1 h' h]; exact g
      · rw [g] at H; exact H.elim
    | load =>
      have hk := S.kind
      rw [D] at hk
      obtain ⟨ty, ad, W⟩ := H4 hk.symm
      rcases (C1 (P := P) (H := h) (h := h) (s := s) (ops := ops.toList) W).2 with ⟨v, g⟩ | g
      · by_cases j : t.1.k = .effect
        · have hmem := px.keeps ty ad W j (hunord x (by simp))
          refine viaVal v g (S.quiet (by rw [D]; simp)) ((ad, ty) :: E) (fun q l => ?_) (fun hh => absurd j hh) (fun y B q l d L => ?_) (fun q l => by simp [l]) (fun _ _ _ => trivial) fun h' hs _ => ?_
          · rcases mem_cons.1 l with rfl | l
            · exact hmem
            · exact K q l
          · rcases mem_cons.1 l with rfl | l
            · rcases mem_cons.1 B with rfl | B
              · exact S.place ty ad W d L
              · exact (V.1 y B).place ty ad W d L
            · exact R y B q l d L
          · rw [(C1 (P := P) (H := h') (h := h) (s := s) (ops := ops.toList) W).1 (hs _ (by simp [gK]))]; exact g
        · refine viaVal v g (S.quiet (by rw [D]; simp)) E K C (fun y B => R y B) (fun _ l => l) (fun _ _ _ => trivial) fun h' _ hle => ?_
          rw [yd (hle j) (by rw [g]; simp)]; exact g
      · rw [g] at H; exact H.elim
    | read =>
      have hk := S.kind
      rw [D] at hk
      have j : t.1.k ≠ .effect := fun e => by rw [D, e] at f; simp [Kd.fits] at f
      rcases Fu (h := h) (s := s) (ops := ops.toList) hk.symm with ⟨v, g⟩ | g
      · refine viaVal v g (S.quiet (by rw [D]; simp)) E K C (fun y B => R y B) (fun _ l => l) (fun _ _ _ => trivial) fun h' _ hle => ?_
        rw [yd (hle j) (by rw [g]; simp)]; exact g
      · rw [g] at H; exact H.elim
    | conv =>
      have hk := S.kind
      rw [D] at hk
      have j : t.1.k ≠ .effect := fun e => by rw [D, e] at f; simp [Kd.fits] at f
      obtain ⟨v, hor⟩ := Fv (s := s) (ops := ops.toList) hk.symm
      rcases hor h with g | g
      · refine viaVal v g (S.quiet (by rw [D]; simp)) E K C (fun y B => R y B) (fun _ l => l) (fun _ _ _ => trivial) fun h' _ hle => ?_
        rw [yd (hle j) (by rw [g]; simp)]; exact g
      · rw [g] at H; exact H.elim
    | alloc =>
      have hk := S.kind
      rw [D] at hk
      obtain ⟨i1, i2⟩ := vQ (h := h) (s := s) (ops := ops.toList) hk.symm
      rcases i2 with ⟨v, g⟩ | ⟨b, mk, g⟩ | g
      · exact simple v g (S.quiet (by rw [D]; simp)) fun h' => by rw [i1 h' h]; exact g
      · have N := S.quiet (by rw [D]; simp)
        have F : t.1.k ≠ .effect := fun e => by rw [D, e] at f; simp [Kd.fits] at f
        have I : t.1.k ≠ .load := fun e => by rw [D, e] at f; simp [Kd.fits] at f
        have G : t.1.k ≠ .read := fun e => by rw [D, e] at f; simp [Kd.fits] at f
        have X := C F
        subst X
        rw [g] at H
        have tind : ∀ h h' : a9, cN P ops.toList t.1.o s h = cN P ops.toList t.1.o s h' := by
          have hk := Y.kind
          cases e : t.1.k with
          | effect => exact absurd e F
          | load => exact absurd e I
          | read => exact absurd e G
          | conv => exact absurd e O
          | pure => rw [e] at hk; exact (vS (h := h) (s := s) (ops := ops.toList) hk.symm).1
          | alloc => rw [e] at hk; exact (vQ (h := h) (s := s) (ops := ops.toList) hk.symm).1
        have tval : (∃ v, cN P ops.toList t.1.o s h = .val v) \/ (∃ b mk, cN P ops.toList t.1.o s h = .new b mk) \/ cN P ops.toList t.1.o s h = .fail := by
          have hk := Y.kind
          cases e : t.1.k with
          | effect => exact absurd e F
          | load => exact absurd e I
          | read => exact absurd e G
          | conv => exact absurd e O
          | pure => rw [e] at hk; rcases (vS (h := h) (s := s) (ops := ops.toList) hk.symm).2 with h' | h'
                    · exact .inl h'
                    · exact .inr (.inr h')
          | alloc => rw [e] at hk; exact (vQ (h := h) (s := s) (ops := ops.toList) hk.symm).2
        have each : ∀ id, h id = none -> (cN P ops.toList t.1.o s h).run (AC P) (bQ h id b) fun u h' => iB P (AC P) ops.toList (xs ++ ys) Q (bW (bW s x.1.o.dst (mk id)) t.1.o.dst u) h' := fun id z => by
          have r := ih (bW s x.1.o.dst (mk id)) (bQ h id b) [] (by simp) (fun _ => rfl) (by simp) (fun a c d => by rw [tsh, tind _ h]; exact U a c d) (H id z).2
          rw [tsh, tind _ h] at r
          exact ng (sw P) (fun u h' J => J.2) r
        have xind : ∀ h', cN P ops.toList x.1.o s h' = .new b mk := fun h' => by rw [i1 h' h]; exact g
        rcases tval with ⟨u, hu⟩ | ⟨b2, mk2, hu⟩ | hu
        · rw [hu] at each ⊢
          refine ⟨fun p A => by simp [gK] at A, ?_⟩
          rw [cons_append, oy, xsh, xind, N]
          intro id z
          refine ⟨fun p A => by simp [gK] at A, ?_⟩
          show iB P (AC P) ops.toList (xs ++ ys) Q (bW (bW s t.1.o.dst _) x.1.o.dst _) _
          rw [<- comm]; exact each id z
        · rw [hu] at each ⊢
          intro T M
          refine ⟨fun p A => by simp [gK] at A, ?_⟩
          rw [cons_append, oy, xsh, xind, N]
          intro id z
          have j : id ≠ T := fun e => by subst e; rw [dR] at z; cases z
          rw [cQ _ _ j] at z
          refine ⟨fun p A => by simp [gK] at A, ?_⟩
          show iB P (AC P) ops.toList (xs ++ ys) Q (bW (bW s t.1.o.dst _) x.1.o.dst _) _
          rw [<- comm, Ar _ _ _ (Ne.symm j)]
          exact each id z T (by rw [cQ _ _ (Ne.symm j)]; exact M)
        · exact absurd hu (U F I G)
      · rw [g] at H; exact H.elim
    | effect =>
      have F : t.1.k ≠ .effect := fun e => by rw [D, e] at f; simp [Kd.fits] at f
      have I : t.1.k ≠ .load := fun e => by rw [D, e] at f; simp [Kd.fits] at f
      have G : t.1.k ≠ .read := fun e => by rw [D, e] at f; simp [Kd.fits] at f
      have X := C F
      subst X
      have tind : ∀ h h' : a9, cN P ops.toList t.1.o s h = cN P ops.toList t.1.o s h' := by
        have hk := Y.kind
        cases e : t.1.k with
        | effect => exact absurd e F
        | load => exact absurd e I
        | read => exact absurd e G
        | conv => exact absurd e O
        | pure => rw [e] at hk; exact (vS (h := h) (s := s) (ops := ops.toList) hk.symm).1
        | alloc => rw [e] at hk; exact (vQ (h := h) (s := s) (ops := ops.toList) hk.symm).1
      have tval : (∃ v, cN P ops.toList t.1.o s h = .val v) \/ (∃ b mk, cN P ops.toList t.1.o s h = .new b mk) \/ cN P ops.toList t.1.o s h = .fail := by
        have hk := Y.kind
        cases e : t.1.k with
        | effect => exact absurd e F
        | load => exact absurd e I
        | read => exact absurd e G
        | conv => exact absurd e O
        | pure => rw [e] at hk; rcases (vS (h := h) (s := s) (ops := ops.toList) hk.symm).2 with h' | h'
                  · exact .inl h'
                  · exact .inr (.inr h')
        | alloc => rw [e] at hk; exact (vQ (h := h) (s := s) (ops := ops.toList) hk.symm).2
      have each : ∀ v h1, iB P (AC P) ops.toList (xs ++ t :: ys) Q (bW s x.1.o.dst v) h1 -> (cN P ops.toList t.1.o s h).run (AC P) h1 fun u h' => iB P (AC P) ops.toList (xs ++ ys) Q (bW (bW s x.1.o.dst v) t.1.o.dst u) h' := fun v h1 hh => by
        have r := ih (bW s x.1.o.dst v) h1 [] (by simp) (fun _ => rfl) (by simp) (fun a c d => by rw [tsh, tind _ h]; exact U a c d) hh
        rw [tsh, tind _ h] at r
        exact ng (sw P) (fun u h' J => J.2) r
      rcases tval with ⟨u, hu⟩ | ⟨b2, mk2, hu⟩ | hu
      · rw [hu] at each ⊢
        refine ⟨fun p A => by simp [gK] at A, ?_⟩
        rw [cons_append, oy, xsh, kx]
        refine ng (sw P) (fun v h1 J => ⟨J.1, ?_⟩) H
        show iB P (AC P) ops.toList (xs ++ ys) Q (bW (bW s t.1.o.dst _) x.1.o.dst _) _
        rw [<- comm]; exact each v h1 J.2
      · rw [hu] at each ⊢
        intro T M
        refine ⟨fun p A => by simp [gK] at A, ?_⟩
        rw [cons_append, oy, xsh, kx]
        have hnfx : cN P ops.toList x.1.o s h ≠ .fail := fun e => by rw [e] at H; exact H
        rw [yd (hU b2 M) hnfx]
        refine ng (sw P) (fun v h'' J => ?_) (NF (b := b2) M Fe H)
        obtain ⟨h1, ⟨q1, q2⟩, q3, rfl⟩ := J
        refine ⟨fun p A => sameAt.bQ (q1 p A) T b2, ?_⟩
        show iB P (AC P) ops.toList (xs ++ ys) Q (bW (bW s t.1.o.dst _) x.1.o.dst _) _
        rw [<- comm]; exact each v h1 q2 T q3
      · exact absurd hu (U F I G)
theorem D6(t:kS)(A:Good P t)(hk:t.1.k= .conv)(ys:List kS)(Q:bB->a9->Prop):∀(xs:List kS)(s:bB)(h:a9)(v:a7),(∀h,cN P ops.toList t.1.o s h= .val v \/ cN P ops.toList t.1.o s h= .fail) ->
  (∀x∈xs,wN ops x t)->(∀x∈xs,t.1.m.testBit x.1.i=false)->iB P (AC P) ops.toList (xs++t::ys) Q s h->iB P (AC P) ops.toList (xs++ys) Q (bW s t.1.o.dst v) h
 | [],s,h,v,f,_,_,H=>by
  rw[nil_append,oy]at H
  rcases f h with e|e
  ·rw[e]at H;exact H.2
  ·rw[e]at H;exact H.elim
 | x::xs,s,h,v,f,b,hunord,H=>by
  have p:=b x (by simp)
  obtain⟨w,g⟩:=p.free.resolve_left (by rw[hunord x (by simp)];simp)
  obtain⟨n,l,j⟩:=xZ g
  have tsh:∀v h1,cN P ops.toList t.1.o (bW s x.1.o.dst v) h1=cN P ops.toList t.1.o s h1:=λv h1=>vT λd a=>n d a
  have xsh:∀u h1,cN P ops.toList x.1.o (bW s t.1.o.dst u) h1=cN P ops.toList x.1.o s h1:=λu h1=>vT λd a=>j d a
  have comm:∀u v,bW (bW s x.1.o.dst v) t.1.o.dst u=bW (bW s t.1.o.dst u) x.1.o.dst v:=λu v=>Gy s v u λd a=>l d a
  have z:∀u,gK P (bW s t.1.o.dst u) x.2=gK P s x.2:=λu=>zJ λq B d a=>p.HX q B d a
  rw[cons_append,oy]at H ⊢
  rw[xsh,z]
  refine ng (sw P) (λu h' r=>⟨r.1,?_⟩) H
  show iB P (AC P) ops.toList (xs++ys) Q (bW (bW s t.1.o.dst _) x.1.o.dst _) _
  rw[<-comm]
  exact D6 t A hk ys Q xs _ h' v (λh1=>by rw[tsh];exact f h1) (λy c=>b y (by simp[c])) (λy c=>hunord y (by simp[c])) r.2
end
end Go.Ab
namespace Go.Ab
open List
open Go.RowKit (Below)
def qf(ρ:bP)(h0 H0 h H:a9):List Deferred->List Nat->Prop|[],l=>l=[]|d::ds,l=>∃i is L,l=i::is /\ d={ target:= .collected L.bT,args:= #[] } /\ ρ i 0=some L /\ H i=some (jI (.sf true)) /\ h i=none /\ (h0 i=none->H0 i=none) /\ i∉is /\ qf ρ h0 H0 h H ds is
theorem qf.step{ρ ρ':bP}{h0 H0 h H h' H':a9}(hρ:ρ.le ρ')(a:Fr h H h' H'):∀{ds:List Deferred}{l:List Nat},qf ρ h0 H0 h H ds l->qf ρ' h0 H0 h' H' ds l|[],_,e=>e|_::_,_,⟨i,is,L,e1,g,e3,e4,b,f,d,c⟩=>⟨i,is,L,e1,g,hρ _ _ _ e3,(a i b _ e4).1,(a i b _ e4).2,f,d,c.step hρ a⟩
structure St(w0:World)(ρ0:bP)(h0 H0:a9)(n:Nat)(s:bB)(h:a9)(a:Act)(w:World):Prop where
 ex:∃ρ H,ρ0.le ρ /\ h.le H /\ Fr h0 H0 h H /\ R w0 ρ H w /\ eo ρ s a /\ ∃l,qf ρ h0 H0 h H a.defers l
 size:n <= a.tmps.size
def sH(n:Nat)(o:Oper):Bool:=
 match o.dst with
 | none=>true
 | some d=>Nat.blt d n
section
variable{P:Program}{w0:World}{ρ0:bP}{h0 H0:a9}{n:Nat}{s:bB}{h:a9}{a:Act}{w:World}{ops:Array Oper}{Q:Exit->Act->World->Prop}{r:Option Nat}{m:Nat}
theorem wV{i:Nat}{o:Oper}(hi:ops[i]?=some o)(R:sH n o=true)(S:St w0 ρ0 h0 H0 n s h a w){K:zQ}(hx:(cN P ops.toList o s h).run (AC P) h K):
  wpOpIn (WF r) m P ops Q i (λC w'=>∃v h',K v h' /\ St w0 ρ0 h0 H0 n (bW s o.dst v) h' C w' /\ ∃u,C=a.put o.dst u) a w:=by
 obtain⟨ρ,H,N,M,L,J,z,lds,I⟩:=S.ex;have p:∀k,o.dst=some k->k<a.tmps.size:=λk hk=>by
  unfold sH at R;rw[hk]at R;have E:Nat.blt k n=true:=R;rw[Nat.blt_eq]at E;exact Nat.lt_of_lt_of_le E S.size
 have f:∀v,(a.put o.dst v).defers=a.defers /\ n <= (a.put o.dst v).tmps.size:=λv=>by
  have:=S.size;cases o.dst with
  | none=>exact⟨rfl,by assumption⟩
  | some d=>exact⟨rfl,by simpa[Act.put]using this⟩
 have go:(dT P o.op (aO s) h).run (AC P) h K->o.wpIn (WF r) m P a w (λC w'=>∃v h',K v h' /\ St w0 ρ0 h0 H0 n (bW s o.dst v) h' C w' /\ ∃u,C=a.put o.dst u) Q:=λhx=>by
  refine Oper.wpIn_mono ?_ (NN (Q:=Q) J M z (u5.2 hx) (λc V=>by rw[V]at hx;exact hx.elim) r m);rintro C w' ⟨v,W,rfl⟩;obtain⟨x,ρ',h',H',k1,k2,k3,k4,k5,k6⟩:=W.ex;exact⟨x,h',k3,⟨⟨ρ',H',bP.le_trans N k1,k4,L.trans k5,k6,(z.mono k1).put k2 p,lds,by rw[(f v).1];exact I.step k1 k5⟩,(f v).2⟩,v,rfl⟩
 unfold wpOpIn;simp only[hi];unfold cN at hx;cases B:o.guard with
 | none=>
  simp only[B]at hx;have:Region.wanted o (yielded ops a.tmps)=true:=by simp[Region.wanted,B]
  rw[if_pos this];exact go hx
 | some U=>
  obtain⟨j,b⟩:=U;simp only[B]at hx;cases A:lj ops.toList j with
  | none=>simp only[A]at hx;exact hx.elim
  | some t=>
   simp only[A]at hx;cases q:s t<;>simp only[q]at hx<;>(try exact hx.elim)
   case bI l=>
    cases l with
    | cons _ _=>exact hx.elim
    | nil=>
     have D:=z t;rw[q]at D;obtain⟨l,g,O⟩:=D;have O:l=[]:=O;subst O;have F:yielded ops a.tmps j=none:=by
      unfold yielded;have y:(ops[j]?).bind (·.dst)=some t:=by unfold lj at A;simpa using A
      rw[y];simp only[Option.bind_some];cases G:a.tmps[t]? with
      | none=>rfl
      | some v=>simp[G]at g;subst g;rfl
     have:¬ Region.wanted o (yielded ops a.tmps)=true:=by simp[Region.wanted,B,F]
     rw[if_neg this];exact⟨λ_ _=>trivial,.bI [],h,hx,⟨⟨ρ,H,N,M,L,J,z.put (x:= .bI []) (v:=Go.undef) ⟨[],rfl,rfl⟩ p,lds,by rw[(f _).1];exact I⟩,(f _).2⟩,_,rfl⟩
   rename_i T;have D:=z t;rw[q]at D;have F:yielded ops a.tmps j=some T:=by
    unfold yielded;have y:(ops[j]?).bind (·.dst)=some t:=by unfold lj at A;simpa using A
    rw[y];simp only[Option.bind_some];have g:a.tmps.getD t Go.undef= .bool T:=D;cases G:a.tmps[t]? with
    | none=>simp[G,Go.undef]at g
    | some v=>simp[G]at g;subst g;rfl
   by_cases e:T=b
   ·rw[if_pos e]at hx
    have:Region.wanted o (yielded ops a.tmps)=true:=by simp[Region.wanted,B,F,e]
    rw[if_pos this];exact go hx
   ·rw[if_neg e]at hx
    have:¬ Region.wanted o (yielded ops a.tmps)=true:=by simp[Region.wanted,B,F,e]
    rw[if_neg this];exact⟨λ_ _=>trivial,.bI [],h,hx,⟨⟨ρ,H,N,M,L,J,z.put (x:= .bI []) (v:=Go.undef) ⟨[],rfl,rfl⟩ p,lds,by rw[(f _).1];exact I⟩,(f _).2⟩,_,rfl⟩
theorem G3(g:∀o∈ops.toList,sH n o=true){e:bB->a9->Prop}(j:∀s h a w,St w0 ρ0 h0 H0 n s h a w->e s h->Q .normal a w):
  ∀(l:List Oper)(i:Nat)(s:bB)(h:a9)(a:Act)(w:World),ops.toList.drop i=l->wB P (AC P) ops.toList l e s h->St w0 ρ0 h0 H0 n s h a w->wpOpsIn (WF r) m P ops Q (List.range' i l.length) a w
 | [],i,s,h,a,w,_,hx,d=>j s h a w d hx
 | o::r,i,s,h,a,w,f,hx,d=>by
  have hi:ops[i]?=some o:=by
   have:(ops.toList.drop i)[0]?=some o:=by rw[f];rfl
   simpa using this
  rw[length_cons,range'_succ,wpOpsIn_cons];have b:(cN P ops.toList o s h).run (AC P) h λv h=>wB P (AC P) ops.toList r e (bW s o.dst v) h:=xc.1 hx;refine wpOpIn_mono ?_ (wV (Q:=Q) hi (g o (by have:=Array.mem_of_getElem? hi;simpa using this)) d b);rintro k w' ⟨v,h',hk,c,_⟩;refine G3 g j r (i+1) _ h' k w' ?_ hk c;rw[<-tail_drop,f];rfl
theorem Oper.MN{o:Oper}{K:Act->World->Prop}(c:o.wpIn (WF r) m P a w K λ_ _ _=>False):∃f w',K f w':=by
 have c:=c.2;generalize (o.semAt (WF r).round a.eval).run P w=res at c;cases res with
 | ok x w'=>
  cases x<;>simp only[Oper.uponIn]at c<;>(try exact⟨_,_,c⟩)<;>(try exact c.elim)
  ·obtain⟨e,d,_,b,_⟩:=c.2.2 [] (room_wide _)
   cases e with
   | returned v=>exact⟨_,_,b⟩
   | panicked _=>exact b.elim
   | outgrown=>obtain⟨_,_,b⟩:=b;exact b.elim
  ·obtain⟨e,d,b,_⟩:=c.2.2 default [] (room_wide _)
   cases e with
   | returned v=>exact⟨_,_,b⟩
   | panicked _=>exact b.elim
   | outgrown=>obtain⟨_,_,b⟩:=b;exact b.elim
  ·obtain⟨v,d,b,_⟩:=c.2 default [] (room_wide _)
   exact⟨_,_,b⟩
 | halt x w'=>cases x<;>simp only[Oper.uponIn]at c
theorem Cw{i:Nat}{o:Oper}(hi:ops[i]?=some o){K:Act->World->Prop}(b:wpOpIn (WF r) m P ops (λ_ _ _=>False) i K a w):∃c w',K c w':=by
 unfold wpOpIn at b;simp only[hi]at b;split at b
 ·exact Oper.MN b
 ·exact⟨_,_,b.2⟩
theorem Hy(p:∀o∈ops.toList,sH n o=true)(t:kS)(A:Good P t)(ys:List kS)(B:bB->a9->Prop)(g:t.1.k≠ .effect)(f:t.1.k≠ .load)(c:t.1.k≠ .read)(j:t.1.k≠ .conv):
  ∀(xs:List kS)(s:bB)(h:a9)(a:Act)(w:World),(∀x∈xs,ops[x.1.i]?=some x.1.o)->(∀x∈xs,x.1.o.apart ops t.1.o=true)->iB P (AC P) ops.toList (xs++t::ys) B s h->St w0 ρ0 h0 H0 n s h a w ->
   cN P ops.toList t.1.o s h≠ .fail
 | [],s,h,a,w,_,_,hx,_=>λe=>by
  rw[nil_append,oy,e]at hx
  exact hx
 | x::xs,s,h,a,w,hi,l,hx,C=>by
  rw[cons_append,oy]at hx
  have b:=hi x (by simp)
  obtain⟨D,w',v,h',hk,u,_⟩:=Cw (r:=none) (m:=0) b (wV (Q:=λ_ _ _=>False) b (p _ (by have:=Array.mem_of_getElem? b;simpa using this)) C hx)
  have r:=Hy p t A ys B g f c j xs _ h' D w' (λy q=>hi y (by simp[q])) (λy q=>l y (by simp[q])) hk.2 u
  obtain⟨z,_,_⟩:=xZ (l x (by simp))
  rw[vT λd p=>z d p]at r
  have hk:=A.kind
  cases e:t.1.k with
  | effect=>exact absurd e g
  | load=>exact absurd e f
  | read=>exact absurd e c
  | conv=>exact absurd e j
  | pure=>rw[e]at hk;rw[(vS (h:=h) (s:=s) (ops:=ops.toList) hk.symm).1 h h'];exact r
  | alloc=>rw[e]at hk;rw[(vQ (h:=h) (s:=s) (ops:=ops.toList) hk.symm).1 h h'];exact r
theorem MO{ρ:bP}{o:Oper}(d:eo ρ s a):(Region.wanted o (yielded ops a.tmps)=true /\ ∀h,cN P ops.toList o s h=dT P o.op (aO s) h) \/ (∃v,∀h,cN P ops.toList o s h= .val v) \/ ∀h,cN P ops.toList o s h= .fail:=by
 unfold cN;cases n:o.guard with
 | none=>exact .inl ⟨by simp[Region.wanted,n],λ_=>rfl⟩
 | some p=>
  obtain⟨j,b⟩:=p;simp only;cases m:lj ops.toList j with
  | none=>exact .inr (.inr λ_=>rfl)
  | some t=>
   simp only;cases f:s t<;>(try exact .inr (.inr λ_=>rfl))
   case bI l=>
    cases l with
    | cons _ _=>exact .inr (.inr λ_=>rfl)
    | nil=>exact .inr (.inl ⟨_,λ_=>rfl⟩)
   rename_i i;have d:=d t;rw[f]at d;have q:yielded ops a.tmps j=some i:=by
    unfold yielded;have g:(ops[j]?).bind (·.dst)=some t:=by unfold lj at m;simpa using m
    rw[g];simp only[Option.bind_some];have c:a.tmps.getD t Go.undef= .bool i:=d;cases k:a.tmps[t]? with
    | none=>simp[k,Go.undef]at c
    | some v=>simp[k]at c;subst c;rfl
   by_cases e:i=b
   ·exact .inl ⟨by simp[Region.wanted,n,q,e],λ_=>if_pos e⟩
   ·exact .inr (.inl ⟨_,λ_=>if_neg e⟩)
theorem H7(D:∀o∈ops.toList,sH n o=true)(t:kS){src dst:TypeId}{y:Operand}{e:TypeId}(p:t.1.o.op= .convert src dst y)(f:∀(s:bB)(h:a9),dT P t.1.o.op (aO s) h=bif Nat.beq src dst&&jC P e then Sh.conv h (aO s y) else .fail)(ys:List kS)(O:bB->a9->Prop):
  ∀(xs:List kS)(s:bB)(h:a9)(a:Act)(w:World),(∀x∈xs,ops[x.1.i]?=some x.1.o)->(∀x∈xs,x.1.o.apart ops t.1.o=true)->(∀h,cN P ops.toList t.1.o s h=dT P t.1.o.op (aO s) h)->iB P (AC P) ops.toList (xs++t::ys) O s h->St w0 ρ0 h0 H0 n s h a w ->
   src=dst /\ jC P e=true /\ ∃ad m c,a.eval y= .slice (some ad) m c /\ w0.heap.size <= ad.block
 | [],s,h,a,w,_,_,j,hx,K=>by
  rw[nil_append,oy,j,f]at hx
  cases hu:Nat.beq src dst&&jC P e with
  | false=>rw[hu]at hx;exact hx.elim
  | true=>
   rw[hu]at hx
   rw[Bool.and_eq_true]at hu
   refine⟨Nat.eq_of_beq_eq_true hu.1,hu.2,?_⟩
   have hx:(Sh.conv h (aO s y)).run (AC P) h _:=hx
   obtain⟨ρ,H,Z,T,Y,S,R,_⟩:=K.ex
   have M:=dX R y
   unfold Sh.conv at hx
   split at hx<;>(try exact hx.elim)
   rename_i id g off m es cp he
   split at hx<;>(try exact hx.elim)
   rename_i b hb
   split at hx<;>(try exact hx.elim)
   rename_i N
   rw[Bool.and_eq_true,Bool.and_eq_true,Nat.blt_eq]at N
   obtain⟨l,G,hn⟩:=N
   obtain⟨hi,G⟩:=Option.isSome_iff_exists.1 G
   obtain⟨_,L,arr,e',fr,X,c3,c4,c5,W,c7⟩:=(S.bT id b (T id b hb)).gen g hi (qn G)
   rw[he]at M
   obtain⟨L',B,U,F⟩:=M
   rw[X]at B
   cases B
   rcases F with⟨cap,V,_⟩|⟨q,_⟩
   ·exact⟨_,_,_,V,(W l).1⟩
   ·omega
 | x::xs,s,h,a,w,hi,A,j,hx,K=>by
  rw[cons_append,oy]at hx
  have k:=hi x (by simp)
  obtain⟨a',w',v,h',hk,J,u,rfl⟩:=Cw (r:=none) (m:=0) k (wV (Q:=λ_ _ _=>False) k (D _ (by have:=Array.mem_of_getElem? k;simpa using this)) K hx)
  obtain⟨C,_,_⟩:=xZ (A x (by simp))
  have z:∀d,x.1.o.dst=some d->y≠ .tmp d:=λd I e=>C d I (by
   subst e
   exact mem_append_left _ (mem_filterMap.2 ⟨.tmp d,by rw[p];simp[Op.operands],rfl⟩))
  have r:=H7 D t p f ys O xs _ h' _ w' (λy E=>hi y (by simp[E])) (λy E=>A y (by simp[E])) (λh1=>by rw[vT λd D=>C d D,j,f,f,D3 z]) hk.2 J
  rw[Act.eval_put z]at r
  exact r
theorem N2{i:Nat}{o:Oper}(hi:ops[i]?=some o)(C:sH n o=true)(D:St w0 ρ0 h0 H0 n s h a w)(hw:Region.wanted o (yielded ops a.tmps)=true){src:TypeId}{y:Operand}{e:TypeId}(g:o.op= .convert src src y)(l:P.underlying src=some (.slice e))(hu:jC P e=true)
  (hb:∃ad m c,a.eval y= .slice (some ad) m c /\ w0.heap.size <= ad.block):wpOpIn (WF r) m P ops Q i (λB w'=>St w0 ρ0 h0 H0 n (bW s o.dst (aO s y)) h B w') a w:=by
 obtain⟨ad,I,c,E,z⟩:=hb;obtain⟨ρ,H,N,M,L,G,F,lds,J⟩:=D.ex;obtain⟨he,_⟩:=Ah hu;have t:∀k,o.dst=some k->k<a.tmps.size:=λk hk=>by
  unfold sH at C;rw[hk]at C;have u:Nat.blt k n=true:=C;rw[Nat.blt_eq]at u;exact Nat.lt_of_lt_of_le u D.size
 have f:∀v,(a.put o.dst v).defers=a.defers /\ n <= (a.put o.dst v).tmps.size:=λv=>by
  have:=D.size;cases o.dst with
  | none=>exact⟨rfl,by assumption⟩
  | some d=>exact⟨rfl,by simpa[Act.put]using this⟩
 have O:dB ρ (aO s y) (.slice (some ad) I c):=by have:=dX F y;rw[E]at this;exact this
 have fin:∀w',R w0 ρ H w'->(execOp a.eval o).run P w= .ok (.value (.slice (some ad) I c)) w'->o.wpIn (WF r) m P a w (λB w'=>St w0 ρ0 h0 H0 n (bW s o.dst (aO s y)) h B w') Q:=λw' S q=>by
  refine Oper.wpIn_mono ?_ (ja (P:=P) (Q:=Q) (K:=λv h'=>v=aO s y /\ h'=h) q ⟨⟨aO s y,ρ,h,H,bP.le_refl ρ,O,⟨rfl,rfl⟩,M,Fr.refl h H,S⟩⟩ (λc A=>by rw[g]at A;cases A) r m);rintro B w' ⟨v,T,rfl⟩;obtain⟨x,ρ',h',H',k1,k2,⟨rfl,rfl⟩,k4,k5,k6⟩:=T.ex;exact⟨⟨ρ',H',bP.le_trans N k1,k4,L.trans k5,k6,(F.mono k1).put k2 t,lds,by rw[(f v).1];exact J.step k1 k5⟩,(f v).2⟩
 unfold wpOpIn;simp only[hi];rw[if_pos hw];cases b:w.shape? ad.block with
 | none=>exact fin w G (by simp[execOp,g,E,convert,run_underlying l,run_underlying he,markStringish,b])
 | some p=>
  obtain⟨U,sz⟩:=p;have j:∃arr fr,w.heap[ad.block]?=some (.cells arr U fr) /\ arr.size=sz:=by
   unfold World.shape? at b;split at b
   ·rename_i c el fr A
    cases b;exact⟨c,fr,A,rfl⟩
   ·cases b
  obtain⟨arr,fr,j,rfl⟩:=j;exact fin _ (G.freeze z j) (by simp[execOp,g,E,convert,run_underlying l,run_underlying he,markStringish,b])
structure Inv(P:Program)(ops:Array Oper)(ms:List Nat)(rem:List kS)(nK:Array Bool):Prop where
 sz:nK.size=ops.size
 open_:∀i,i<ops.size->(nK.getD i true=false↔∃t∈rem,t.1.i=i)
 at_:∀t∈rem,ops[t.1.i]?=some t.1.o /\ ms[t.1.i]?=some t.1.m
 tT:∀t∈rem,Good P t
 pair:rem.Pairwise (wN ops)
 nodup:(rem.map (·.1.i)).Pairwise (· ≠ ·)
 down:∀i,nK.getD i false=true->∀x,(ms.getD i 0).testBit x=true->nK.getD x false=true
def DN(ops:Array Oper)(ms:List Nat):Prop:=∀(i:Nat)(o:Oper),ops[i]?=some o->(∀e∈o.after,Region.binds .any e=true->(ms.getD i 0).testBit e.on=true /\ e.on<ops.size) /\ ∀x,(ms.getD i 0).testBit x=true->∃e∈o.after,Region.binds .any e=true /\ (x=e.on \/ (ms.getD e.on 0).testBit x=true)
theorem KM{α:Type}{r:α->α->Prop}{xs ys:List α}{t:α}(a:(xs++t::ys).Pairwise r):∀x∈xs,r x t:=λx hx=>(pairwise_append.1 a).2.2 x hx t (by simp)
theorem Ge{mm:Nat}{ms:List Nat}(U:DN ops ms)(Y:∀o∈ops.toList,sH n o=true){I:bB->a9->Prop}(hQ:∀s h a w,St w0 ρ0 h0 H0 n s h a w->I s h->Q .normal a w):
  ∀(m:Nat)(rem:List kS)(nK:Array Bool)(s:bB)(h:a9)(a:Act)(w:World),rem.length=m->Inv P ops ms rem nK->iB P (AC P) ops.toList rem I s h->St w0 ρ0 h0 H0 n s h a w->wpAnyIn (WF r) mm P .any ops Q m nK a w
 | 0,rem,nK,s,h,a,w,V,inv,hx,C=>by
  have:rem=[]:=eq_nil_of_length_eq_zero V;subst this;refine⟨?_,hQ s h a w C hx⟩;apply eq_nil_iff_forall_not_mem.2;intro j hj;obtain⟨h1,o,p,_⟩:=mem_ready.1 hj;have B:=(Array.getElem?_eq_some_iff.1 p).1;obtain⟨t,D,_⟩:=(inv.open_ j B).1 h1;cases D
 | m+1,rem,nK,s,h,a,w,V,inv,hx,C=>by
  have getD_of:∀j,j<ops.size->nK.getD j true=nK.getD j false:=λj hj=>by
   have:j<nK.size:=by rw[inv.sz];exact hj
   simp[this]
  refine⟨λhr=>?_,λi hi=>?_⟩
  ·
   exfalso;cases rem with
   | nil=>simp at V
   | cons t r=>
    obtain⟨p,hm⟩:=inv.at_ t (by simp);have B:=(Array.getElem?_eq_some_iff.1 p).1;have L:t.1.i∈Region.ready .any ops nK:=by
     refine mem_ready.2 ⟨(inv.open_ _ B).2 ⟨t,by simp,rfl⟩,t.1.o,p,λe he hb=>?_⟩;obtain⟨l,N⟩:=(U _ _ p).1 e he hb;have F:ms.getD t.1.i 0=t.1.m:=by simp[List.getD,hm]
     rw[F]at l;cases hle:nK.getD e.on false with
     | true=>rfl
     | false=>
      exfalso;obtain⟨y,b,Z⟩:=(inv.open_ _ N).1 (by rw[getD_of _ N];exact hle);rcases mem_cons.1 b with rfl|b
      ·rw[<-Z]at l
       rw[(inv.tT y (by simp)).self]at l;cases l
      ·have:=((pairwise_cons.1 inv.pair).1 y b).Nm
       rw[Z,l]at this;cases this
    rw[hr]at L;cases L
  ·obtain⟨h1,o,p,f⟩:=mem_ready.1 hi
   have B:=(Array.getElem?_eq_some_iff.1 p).1;obtain⟨t,D,rfl⟩:=(inv.open_ i B).1 h1;obtain⟨xs,ys,rfl⟩:=append_of_mem D;obtain⟨ho',hm⟩:=inv.at_ t D;rw[p]at ho';cases ho';have F:ms.getD t.1.i 0=t.1.m:=by simp[List.getD,hm]
   have A:∀x,t.1.m.testBit x=true->nK.getD x false=true:=λx hx=>by
    rw[<-F]at hx;obtain⟨e,he,hb,S⟩:=(U _ _ p).2 x hx;have V:=f e he hb;rcases S with rfl|S
    ·exact V
    ·exact inv.down _ V x S
   have hunord:∀x∈xs,t.1.m.testBit x.1.i=false:=λx hx=>by
    cases hb:t.1.m.testBit x.1.i with
    | false=>rfl
    | true=>
     have O:=A _ hb;obtain⟨hox,_⟩:=inv.at_ x (by simp[hx]);have M:=(Array.getElem?_eq_some_iff.1 hox).1;have:=(inv.open_ _ M).2 ⟨x,by simp[hx],rfl⟩;rw[getD_of _ M,O]at this;cases this
   have E:∀x∈xs,wN ops x t:=KM inv.pair;have q:∀x∈xs,x.1.o.apart ops t.1.o=true:=λx hx=>((E x hx).free.resolve_left (by rw[hunord x hx];simp)).2;have hpxs:xs.Pairwise (wN ops):=(pairwise_append.1 inv.pair).1;have X:sH n t.1.o=true:=Y _ (by have:=Array.mem_of_getElem? p;simpa using this);have both:wpOpIn (WF r) mm P ops Q t.1.i (λR w'=>∃v h',iB P (AC P) ops.toList (xs++ys) I (bW s t.1.o.dst v) h' /\ St w0 ρ0 h0 H0 n (bW s t.1.o.dst v) h' R w') a w:=by
    by_cases hc:t.1.k= .conv
    ·have G:=(inv.tT t D).kind
     rw[hc]at G;obtain⟨v,hv⟩:=Fv (s:=s) (ops:=ops.toList) G.symm;have hk:=D6 t (inv.tT t D) hc ys I xs s h v hv E hunord hx;obtain⟨ρ,H,_,_,_,_,q5,_⟩:=C.ex;rcases MO (P:=P) (ops:=ops) (o:=t.1.o) q5 with⟨hw,hst⟩|⟨u,hu⟩|hf
     ·obtain⟨src,dst,y,e,e',T,hs',_,hsh⟩:=CE (P:=P) (ρ:=aO s) G.symm
      have z:∀(s:bB)(h:a9),dT P t.1.o.op (aO s) h=bif Nat.beq src dst&&jC P e then Sh.conv h (aO s y) else .fail:=λs h=>by
       obtain⟨src',dst',y',e1,e1',J,hs1,_,z⟩:=CE (P:=P) (ρ:=aO s) G.symm;rw[T]at J;cases J;rw[hs']at hs1;cases hs1;exact z h
      obtain⟨hsd,hu8,hb⟩:=H7 Y t T z ys I xs s h a w (λx hx=>(inv.at_ x (by simp[hx])).1) q hst hx C;subst hsd;refine wpOpIn_mono ?_ (N2 (Q:=Q) p X C hw T hs' hu8 hb);intro R w' c;have ev:v=aO s y \/ ∀h,cN P ops.toList t.1.o s h= .fail:=by
       by_cases f:∀h,cN P ops.toList t.1.o s h= .fail
       ·exact .inr f
       ·left
        obtain⟨h1,hne⟩:=Classical.not_forall.1 f;have O:=(hv h1).resolve_right hne;rw[hst,hsh]at O;cases hbb:Nat.beq src src&&jC P e with
        | false=>rw[hbb]at O;cases O
        | true=>
         rw[hbb]at O;rcases Du h1 (aO s y) with e1|e1
         ·have h3:Sh.conv h1 (aO s y)= .val v:=O
          rw[e1]at h3;cases h3;rfl
         ·have h3:Sh.conv h1 (aO s y)= .val v:=O
          rw[e1]at h3;cases h3
      rcases ev with rfl|f
      ·exact⟨_,h,hk,c⟩
      ·exact⟨_,h,D6 t (inv.tT t D) hc ys I xs s h (aO s y) (λh=> .inr (f h)) E hunord hx,c⟩
     ·have e:u=v \/ False:=by
       rcases hv h with e|e
       ·rw[hu]at e;cases e;exact .inl rfl
       ·rw[hu]at e;cases e
      rcases e with rfl|e
      ·refine wpOpIn_mono ?_ (wV (Q:=Q) (K:=λv' h'=>v'=u /\ h'=h) p X C (by rw[hu];exact⟨rfl,rfl⟩))
       rintro R w' ⟨_,_,⟨rfl,rfl⟩,c,_⟩;exact⟨_,_,hk,c⟩
      ·exact e.elim
     ·exfalso
      have:∀(xs:List kS)(s:bB)(h:a9)(a:Act)(w:World),(∀x∈xs,ops[x.1.i]?=some x.1.o)->(∀x∈xs,x.1.o.apart ops t.1.o=true)->(∀h,cN P ops.toList t.1.o s h= .fail)->iB P (AC P) ops.toList (xs++t::ys) I s h->St w0 ρ0 h0 H0 n s h a w->False:=by
       intro xs
       induction xs with
       | nil=>intro s h a w _ _ hf hx _;rw[nil_append,oy,hf]at hx;exact hx
       | cons x xs ih=>
        intro s h a w hi q hf hx C;rw[cons_append,oy]at hx;have W:=hi x (by simp);obtain⟨R,w',v,h',hk,c,_⟩:=Cw (r:=none) (m:=0) W (wV (Q:=λ_ _ _=>False) W (Y _ (by have:=Array.mem_of_getElem? W;simpa using this)) C hx);obtain⟨ap1,_,_⟩:=xZ (q x (by simp));exact ih _ h' R w' (λy b=>hi y (by simp[b])) (λy b=>q y (by simp[b])) (λh1=>by rw[vT λd Y=>ap1 d Y];exact hf h1) hk.2 c
      exact this xs s h a w (λx hx=>(inv.at_ x (by simp[hx])).1) q hf hx C
    ·have hb:=HU t (inv.tT t D) ys I xs s h [] (by simp) (λ_=>rfl) (by simp) (λx hx=>inv.tT x (by simp[hx])) E hunord hpxs hc
      (λc1 c2 c3=>Hy Y t (inv.tT t D) ys I c1 c2 c3 hc xs s h a w (λx hx=>(inv.at_ x (by simp[hx])).1) q hx C) hx
     refine wpOpIn_mono ?_ (wV (Q:=Q) p X C hb);rintro R w' ⟨v,h',⟨_,hk⟩,c,_⟩;exact⟨v,h',hk,c⟩
   refine wpOpIn_mono ?_ both;rintro R w' ⟨v,h',hk,c⟩;refine Ge U Y hQ m (xs++ys) _ _ h' R w' (by simp only[length_append,length_cons]at V ⊢;omega) ?_ hk c;have g:(xs++ys).Sublist (xs++t::ys):=List.Sublist.append_left (sublist_cons_self t ys) xs;have hnd:∀y∈xs++ys,y.1.i≠t.1.i:=λy b=>by
    have hn:=inv.nodup;rw[map_append,map_cons]at hn;rcases mem_append.1 b with b|b
    ·exact(pairwise_append.1 hn).2.2 _ (mem_map.2 ⟨y,b,rfl⟩) _ (by simp)
    ·have:=((pairwise_cons.1 (pairwise_append.1 hn).2.1).1 _ (mem_map.2 ⟨y,b,rfl⟩))
     exact λe=>this e.symm
   exact {
    sz:=by simpa using inv.sz
    open_:=λi hi=>by
     by_cases e:t.1.i=i
     ·subst e
      have:(nK.setIfInBounds t.1.i true).getD t.1.i true=true:=by simp
      rw[this];constructor
      ·intro h;cases h
      ·rintro⟨y,b,e⟩;exact absurd e (hnd y b)
     ·rw[getD_set_ne true e,inv.open_ i hi]
      constructor
      ·rintro⟨y,b,e'⟩
       refine⟨y,?_,e'⟩;rcases mem_append.1 b with b|b
       ·exact mem_append_left _ b
       ·rcases mem_cons.1 b with rfl|b
        ·exact absurd e' e
        ·exact mem_append_right _ b
      ·rintro⟨y,b,e'⟩;exact⟨y,g.subset b,e'⟩
    at_:=λy b=>inv.at_ y (g.subset b)
    tT:=λy b=>inv.tT y (g.subset b)
    pair:=inv.pair.sublist g
    nodup:=inv.nodup.sublist (g.map _)
    down:=λi hi x hx=>by
     by_cases e:t.1.i=i
     ·subst e
      rw[F]at hx;exact getD_set_true (A x hx)
     ·rw[getD_set_ne false e]at hi
      exact getD_set_true (inv.down i hi x hx) }
end
end Go.Ab
namespace Go.Ab
open List
open Go.RowKit (Below)
def yx(o:Oper)(acc:List Nat):Nat:=o.after.toList.foldl (λm e=>bif Region.binds .any e then m ||| 2 ^ e.on ||| acc.getD e.on 0 else m) 0
theorem CL(acc:List Nat):∀(l:List Edge)(m x:Nat),(l.foldl (λm e=>bif Region.binds .any e then m ||| 2 ^ e.on ||| acc.getD e.on 0 else m) m).testBit x=true ↔
  m.testBit x=true \/ ∃e∈l,Region.binds .any e=true /\ (x=e.on \/ (acc.getD e.on 0).testBit x=true)
 | [],m,x=>by simp
 | e::l,m,x=>by
  rw[foldl_cons,CL acc l]
  cases hb:Region.binds .any e with
  | false=>
   simp only[cond_false,mem_cons]
   constructor
   ·rintro(h|⟨b,he,h⟩)
    ·exact .inl h
    ·exact .inr ⟨b,.inr he,h⟩
   ·rintro(h|⟨b,rfl|he,h1,a⟩)
    ·exact .inl h
    ·rw[hb]at h1;cases h1
    ·exact .inr ⟨b,he,h1,a⟩
  | true=>
   simp only[cond_true,Nat.testBit_or,Nat.testBit_two_pow,Bool.or_eq_true,decide_eq_true_eq,mem_cons]
   constructor
   ·rintro(((h|h)|h)|⟨b,he,h⟩)
    ·exact .inl h
    ·exact .inr ⟨e,.inl rfl,hb,.inl h.symm⟩
    ·exact .inr ⟨e,.inl rfl,hb,.inr h⟩
    ·exact .inr ⟨b,.inr he,h⟩
   ·rintro(h|⟨b,rfl|he,h1,a⟩)
    ·exact .inl (.inl (.inl h))
    ·rcases a with a|a
     ·exact .inl (.inl (.inr a.symm))
     ·exact .inl (.inr a)
    ·exact .inr ⟨b,he,h1,a⟩
theorem Fh:∀(l:List Oper)(acc:List Nat),(oJ l acc).length=acc.length+l.length /\ (∀i,i<acc.length->(oJ l acc).getD i 0=acc.getD i 0) /\
  ∀(i:Nat)(o:Oper),l[i]?=some o->(oJ l acc).getD (acc.length+i) 0=yx o ((oJ l acc).take (acc.length+i))
 | [],acc=>⟨by simp[oJ],λ_ _=>rfl,λi o h=>by simp at h⟩
 | o::l,acc=>by
  have e:oJ (o::l) acc=oJ l (acc++[yx o acc]):=rfl;obtain⟨h1,c,g⟩:=Fh l (acc++[yx o acc]);rw[e];refine⟨by rw[h1];simp;omega,λi hi=>?_,λi o' a=>?_⟩
  ·rw[c i (by simp;omega)]
   simp[List.getD,getElem?_append_left hi]
  ·cases i with
   | zero=>
    simp at a;subst a;rw[Nat.add_zero,c acc.length (by simp)];have d:(oJ l (acc++[yx o acc])).take acc.length=acc:=by
     apply ext_getElem?;intro j;by_cases b:j<acc.length
     ·rw[getElem?_take_of_lt b]
      have:=c j (by simp;omega);simp only[List.getD,getElem?_append_left b]at this;have f:j<(oJ l (acc++[yx o acc])).length:=by rw[h1];simp;omega
      rw[getElem?_eq_getElem f,getElem?_eq_getElem b]at this ⊢;simpa using this
     ·rw[getElem?_eq_none (by rw[length_take];omega),getElem?_eq_none (by omega)]
    rw[d];simp[List.getD]
   | succ i=>
    have:=g i o' (by simpa using a);simp only[length_append,length_singleton]at this;rw[show acc.length+(i+1)=acc.length+1+i by omega];exact this
theorem Pq{ops:Array Oper}(hb:ops.toList.all (λo=>o.after.toList.all λe=>Nat.blt e.on ops.size)=true):DN ops (oJ ops.toList []):=by
 obtain⟨h1,_,g⟩:=Fh ops.toList [];intro i o d;have b:=g i o (by simpa using d);simp only[length_nil,Nat.zero_add]at b h1;have hi:i<ops.size:=(Array.getElem?_eq_some_iff.1 d).1;rw[b];constructor
 ·intro e he a
  refine⟨(CL _ _ _ _).2 (.inr ⟨e,by simpa using he,a,.inl rfl⟩),?_⟩;rw[all_eq_true]at hb;have:=hb o (by have:=Array.mem_of_getElem? d;simpa using this);rw[all_eq_true]at this;have:=this e (by simpa using he)
  rwa [Nat.blt_eq]at this
 ·intro x hx
  rcases (CL _ _ _ _).1 hx with h|⟨e,he,a,c⟩
  ·simp at h
  ·refine⟨e,by simpa using he,a,c.imp id λh=>?_⟩
   by_cases f:e.on<i
   ·simp only[List.getD,getElem?_take_of_lt f]at h
    exact h
   ·rw[List.getD,getElem?_eq_none (by rw[length_take];omega)]at h
    simp at h
theorem CZ{P:Program}{ops:Array Oper}{t:Item}(b:t∈items P ops.toList):ops[t.i]?=some t.o /\ (oJ ops.toList [])[t.i]?=some t.m /\ t.k=gO P t.o.op:=by
 unfold items at b;obtain⟨⟨⟨m,o⟩,i⟩,hm,rfl⟩:=mem_map.1 b;have a:=mk_mem_zipIdx_iff_getElem?.1 hm;rw[getElem?_zip_eq_some]at a;exact⟨by simpa using a.2,a.1,rfl⟩
theorem GU{its:List Item}{t:Item}(a:t∈tI its):t∈its:=by
 unfold tI at a;obtain⟨i,_,hi⟩:=mem_filterMap.1 a;exact mem_of_getElem? hi
theorem Gz{its:List Item}{t:Item}(a:t∈yq its):t∈its:=by
 unfold yq at a;obtain⟨i,_,hi⟩:=mem_filterMap.1 a;exact mem_of_getElem? hi
theorem Cj{x y:Item}(h:vV x y=true)(t:TypeId)(a:Operand)(hx:x.o.op= .load t a)(d:Nat)(b:y.o.dst=some d):a≠ .tmp d:=by
 rintro rfl;unfold vV at h;simp only[hx,b]at h;simp at h
theorem Cs{ops:Array Oper}:∀{l:List Item},rj ops l=true ->
  l.Pairwise (λx y=>x.m.testBit y.i=false /\ vV x y=true /\ (y.m.testBit x.i=true \/ (x.k.fits y.k=true /\ x.o.apart ops y.o=true))) /\ ∀x∈l,vV x x=true /\ x.m.testBit x.i=false
 | [],_=>⟨.nil,by simp⟩
 | x::r,h=>by
  simp only[rj,Bool.and_eq_true,Bool.not_eq_true',all_eq_true,Bool.or_eq_true]at h
  obtain⟨⟨⟨h1,d⟩,c⟩,b⟩:=h
  obtain⟨k1,k2⟩:=Cs b
  refine⟨pairwise_cons.2 ⟨λy a=>⟨(h1 y a).1.1,(h1 y a).1.2,(h1 y a).2⟩,k1⟩,λy a=>?_⟩
  rcases mem_cons.1 a with rfl|a
  ·exact⟨d,c⟩
  ·exact k2 y a
theorem F3{x y:Item}{t:TypeId}{a:Operand}(b:x.o.op= .load t a)(hb:y.m.testBit x.i=false):∀{l:List Item},x∈l->(a,t)∈ss l y
 | [],hx=>by cases hx
 | z::l,hx=>by
  simp only[ss]
  rcases mem_cons.1 hx with e|hx
  ·refine mem_append_left _ ?_
   rw[<-e,b]
   simp only[hb,cond_false,mem_singleton]
  ·exact mem_append_right _ (F3 b hb hx)
theorem Fi:∀{l:List Item}{y:Item}{q:Operand×TypeId},q∈ss l y->∃x∈l,x.o.op= .load q.2 q.1
 | [],_,_,h=>by simp[ss]at h
 | z::l,y,q,h=>by
  simp only[ss]at h
  rcases mem_append.1 h with h|h
  ·split at h
   ·rename_i t a b
    cases hb:y.m.testBit z.i<;>simp[hb]at h
    subst h
    exact⟨z,by simp,b⟩
   ·cases h
  ·obtain⟨x,hx,b⟩:=Fi h
   exact⟨x,by simp[hx],b⟩
theorem xS:∀(seen l:List Item),(nD seen l).map (·.1)=l
 | _,[]=>rfl
 | seen,y::r=>by simp[nD,xS]
theorem zD:∀(seen l:List Item)(y:kS),y∈nD seen l->y.1∈l /\ ∃l1,(∃l2,l=l1++y.1::l2) /\ y.2=bif y.1.k.sq then ss (seen++l1) y.1 else []
 | _,[],y,h=>by simp[nD]at h
 | seen,z::r,y,h=>by
  simp only[nD]at h
  rcases mem_cons.1 h with rfl|h
  ·exact⟨by simp,[],⟨r,rfl⟩,by simp⟩
  ·obtain⟨k1,l1,⟨l2,k2⟩,k3⟩:=zD _ _ _ h
   exact⟨by simp[k1],z::l1,⟨l2,by rw[k2];rfl⟩,by rw[k3];simp⟩
theorem Mt{P:Program}{ops:Array Oper}{l:List kS}(h:wK P ops=some l):∃p:List Item,l=nD [] p /\ rj ops p=true /\ ∀t∈p,t∈items P ops.toList:=by
 unfold wK at h;simp only at h;generalize c:(bif rj ops (tI (items P ops.toList)) then tI (items P ops.toList) else yq (items P ops.toList))=p at h;cases a:(rj ops p&&Nat.beq p.length ops.size&&distinct (p.map (·.i))&&(List.range ops.size).all (λi=>p.any λt=>Nat.beq t.i i)&&ops.toList.all (λo=>o.after.toList.all λe=>Nat.blt e.on ops.size)) with
 | false=>rw[a]at h;cases h
 | true=>
  rw[a]at h;cases h;simp only[Bool.and_eq_true]at a;refine⟨p,rfl,a.1.1.1.1,λt k=>?_⟩;rw[<-c]at k;cases b:rj ops (tI (items P ops.toList)) with
  | true=>rw[b]at k;exact GU k
  | false=>rw[b]at k;exact Gz k
theorem Lq{k:Kd}:k.sq=true↔k= .effect:=by cases k<;>simp[Kd.sq]
theorem ER{ops:Array Oper}:∀(l seen:List Item),rj ops (seen++l)=true->(nD seen l).Pairwise (wN ops)
 | [],_,_=> .nil
 | x::r,seen,h=>by
  have s:=Cs h
  simp only[nD]
  refine pairwise_cons.2 ⟨λy p=>?_,ER r (seen++[x]) (by simpa using h)⟩
  obtain⟨c,l1,⟨l2,_⟩,hk⟩:=zD _ _ _ p
  have e:=s.1
  have b:x.m.testBit y.1.i=false /\ vV x y.1=true /\ (y.1.m.testBit x.i=true \/ (x.k.fits y.1.k=true /\ x.o.apart ops y.1.o=true)):=
   (pairwise_cons.1 (pairwise_append.1 e).2.1).1 y.1 c
  refine⟨b.1,λt a f d j=>Cj b.2.1 t a f d j,b.2.2,λt a f he hb=>?_,λq g d j=>?_⟩
  ·rw[hk,he]
   exact F3 f hb (by simp)
  ·cases he:x.k.sq with
   | false=>simp[he]at g
   | true=>
    simp only[he,cond_true]at g
    obtain⟨z,n,f⟩:=Fi g
    have:=(pairwise_append.1 e).2.2 z n y.1 (by simp[c])
    exact Cj this.2.1 q.2 q.1 f d j
theorem Fa:∀{l:List Nat},distinct l=true->l.Pairwise (· ≠ ·)
 | [],_=> .nil
 | x::r,h=>by
  simp only[distinct,Bool.and_eq_true,all_eq_true,Bool.not_eq_true']at h
  refine pairwise_cons.2 ⟨λy a e=>?_,Fa h.2⟩
  have:=h.1 y a
  rw[e]at this
  simp at this
theorem NM{P:Program}{ops:Array Oper}{l:List kS}(h:wK P ops=some l):DN ops (oJ ops.toList []) /\ l.length=ops.size /\ Inv P ops (oJ ops.toList []) l (Array.replicate ops.size false):=by
 unfold wK at h;simp only at h;generalize v:(bif rj ops (tI (items P ops.toList)) then tI (items P ops.toList) else yq (items P ops.toList))=p at h;cases g:(rj ops p&&Nat.beq p.length ops.size&&distinct (p.map (·.i))&&(List.range ops.size).all (λi=>p.any λt=>Nat.beq t.i i)&&ops.toList.all (λo=>o.after.toList.all λe=>Nat.blt e.on ops.size)) with
 | false=>rw[g]at h;cases h
 | true=>
  rw[g]at h;cases h;simp only[Bool.and_eq_true]at g;obtain⟨⟨⟨⟨h1,B⟩,A⟩,q⟩,z⟩:=g;have hlen:(nD [] p).length=ops.size:=by
   have:=congrArg List.length (xS [] p);rw[length_map]at this;rw[this];exact Nat.eq_of_beq_eq_true B
  have m:=Cs h1;have f:∀y∈nD [] p,y.1∈items P ops.toList:=λy c=>by
   obtain⟨k,_⟩:=zD _ _ _ c;rw[<-v]at k;cases n:rj ops (tI (items P ops.toList)) with
   | true=>rw[n]at k;exact GU k
   | false=>rw[n]at k;exact Gz k
  refine⟨Pq z,hlen,?_⟩;exact {
   sz:=by simp
   open_:=λi hi=>by
    simp only[Array.getD_eq_getD_getElem?,Array.getElem?_replicate,hi,if_true,Option.getD_some,true_iff];rw[all_eq_true]at q;have:=q i (by simpa using hi);rw[any_eq_true]at this;obtain⟨t,u,e⟩:=this;have:t∈(nD [] p).map (·.1):=by rw[xS];exact u
    obtain⟨y,c,rfl⟩:=mem_map.1 this;exact⟨y,c,Nat.eq_of_beq_eq_true e⟩
   at_:=λy c=>by obtain⟨a,b,_⟩:=CZ (f y c);exact⟨a,b⟩
   tT:=λy c=>by
    obtain⟨k1,l1,_,k3⟩:=zD _ _ _ c;obtain⟨s,r⟩:=m.2 y.1 k1;refine⟨λt a w d x=>Cj s t a w d x,r,λj=>?_,(CZ (f y c)).2.2⟩;rw[k3];cases he:y.1.k.sq with
    | false=>rfl
    | true=>exact absurd (Lq.1 he) j
   pair:=ER p [] (by simpa using h1)
   nodup:=by
    have:=Fa A;rw[<-xS [] p,map_map]at this;exact this
   down:=λi hi=>by
    exfalso;rw[Array.getD_eq_getD_getElem?,Array.getElem?_replicate]at hi;split at hi<;>simp at hi }
def rf:Code->Bool | .rangeFunc .. =>false | .seq a b=>rf a&&rf b | .cond _ a b=>rf a&&rf b | .block _ a=>rf a | .loop a=>rf a | .scope a=>rf a|_=>true
def nj(n:Nat):Code->Bool | .region _ ops _=>ops.toList.all (sH n) | .seq a b=>nj n a&&nj n b | .cond _ a b=>nj n a&&nj n b | .block _ a=>nj n a | .loop a=>nj n a | .scope a=>nj n a | .rangeFunc _ ps a b=>(ps.toList.all λp=>Nat.blt p n)&&(rf a&&rf b)&&(nj n a&&nj n b)|_=>true
def Ie:Exit->Ex->Prop | .normal,.normal=>True | .exit i,.exit j=>i=j | .ret,.ret=>True|_,_=>False
section
variable{P:Program}{n:Nat}
def kT(w0:World)(ρ0:bP)(h0 H0:a9)(n:Nat)(Q:Ex->bB->a9->Prop):Exit->Act->World->Prop:=λe a w=>∃b s h,Ie e b /\ St w0 ρ0 h0 H0 n s h a w /\ Q b s h
theorem St.drew{w0:World}{ρ0:bP}{h0 H0:a9}{s:bB}{h:a9}{a:Act}{w:World}(x:St w0 ρ0 h0 H0 n s h a w)(k:Nat):St w0 ρ0 h0 H0 n s h a { w with drawn:=k }:=by
 obtain⟨ρ,H,f,e,d,c,b⟩:=x.ex;exact⟨⟨ρ,H,f,e,d,c.drew k,b⟩,x.size⟩
theorem JC{F:Fence}{m:Nat}{c:Code}{Q:Exit->Act->World->Prop}{a:Act}{w:World}(h:c.wpIn F m P (Exit.noGoto Q) a w):(Code.scope c).wpIn F m P Q a w:=by
 intro b k cs g hb j;have s1:step P (lone (b.atR a (.code (.scope c)::k)) cs w)= .next (lone (b.atR a (.code c:: .inScope c::k)) cs w):=step_lone_go (by simp[stepG,stepG.exec,Frame.atR])
 have s2:∀{a w},step P (lone (b.atR a (.inScope c::k)) cs w)= .next (lone (b.atR a k) cs w):=fun{a w}=>step_lone_go (by simp[stepG,stepG.exec,Frame.atR])
 have h0:(lone (b.atR a (.code (.scope c)::k)) cs w).fenced P F:=fenced_calm hb j rfl;obtain⟨e,a₁,w₁,f,d⟩:=h b (.inScope c::k) cs g hb j;cases e with
 | normal=>exact⟨.normal,a₁,w₁,f,.head h0 s1 (StepsIn.trans d (.one (fenced_calm hb j rfl) s2))⟩
 | exit id=>exact⟨.exit id,a₁,w₁,f,λn hk=> .head h0 s1 (d.1 n (by simp[exitTo,hk])),λi hk=>let ⟨k₁,h1,o⟩:=d.2 i (by simp[exitTo,hk]);⟨k₁,h1,.head h0 s1 o⟩⟩
 | goto l=>exact f.elim
 | ret=>exact⟨_,a₁,w₁,f,.of_steps (.one h0 s1) d⟩
 | panic ch=>exact⟨_,a₁,w₁,f,.of_steps (.one h0 s1) d⟩
 | outgrown=>exact⟨_,a₁,w₁,f,.of_steps (.one h0 s1) d⟩
theorem Gs{ρ:bP}:∀{ps:List Nat}{xs:List a7}{us:List Value}{s:bB}{tm:Array Value}{ds:List Deferred},dJ ρ xs us->xs.length=ps.length->(∀p∈ps,p<tm.size)->eo ρ s { tmps:=tm,defers:=ds } ->
  eo ρ (lV ps xs s) { tmps:=(ps.zip us).foldl (λtm x=>tm.setIfInBounds x.1 x.2) tm,defers:=ds } /\ ((ps.zip us).foldl (λtm x=>tm.setIfInBounds x.1 x.2) tm).size=tm.size
 | [],[],_,_,_,_,_,_,_,h=>⟨h,rfl⟩
 | p::ps,x::xs,_,s,tm,ds,⟨u,us,rfl,h1,e⟩,c,a,h=>by
  have h':eo ρ (bW s (some p) x) { tmps:=tm.setIfInBounds p u,defers:=ds }:=h.put (d:=some p) h1 λk hk=>by cases hk;exact a p (by simp)
  have:=Gs (tm:=tm.setIfInBounds p u) e (by simpa using c) (λq b=>by rw[Array.size_setIfInBounds];exact a q (by simp[b])) h'
  exact⟨this.1,this.2.trans (by simp)⟩
theorem qf.bQ{ρ:bP}{h0 H0 h H:a9}{id:Nat}{b m c:fB}(h1:H id=some c)(a:c≠jI (.sf true)):∀{ds:List Deferred}{l:List Nat},qf ρ h0 H0 h H ds l->qf ρ h0 (Ab.bQ H0 id b) h (Ab.bQ H id m) ds l
 | [],_,e=>e
 | _::_,_,⟨i,is,L,e1,k,e3,e4,j,g,f,d⟩=>by
  have hi:i≠id:=λe=>by subst e;rw[h1]at e4;exact a (Option.some.inj e4)
  exact⟨i,is,L,e1,k,e3,by rw[cQ _ _ hi];exact e4,j,by rw[cQ _ _ hi];exact g,f,d.bQ h1 a⟩
theorem qf.mem{ρ:bP}{h0 H0 h H:a9}{k:Nat}:∀{ds:List Deferred}{l:List Nat},qf ρ h0 H0 h H ds l->k∈l->H k=some (jI (.sf true))
 | [],_,e,hk=>by have e:_=[]:=e;subst e;cases hk
 | _::_,_,⟨i,is,L,e1,f,e3,e4,d,c,b,a⟩,hk=>by
  subst e1
  rcases mem_cons.1 hk with rfl|hk
  ·exact e4
  ·exact a.mem hk
theorem qf.off{ρ:bP}{h0 H0 h H:a9}{k:Nat}{b:fB}:∀{ds:List Deferred}{l:List Nat},qf ρ h0 H0 h H ds l->k∉l->qf ρ h0 H0 h (Ab.bQ H k b) ds l
 | [],_,e,_=>e
 | _::_,_,⟨i,is,L,e1,g,e3,e4,f,d,c,a⟩,hk=>by
  subst e1
  have hi:i≠k:=λe=>hk (by simp[e])
  exact⟨i,is,L,rfl,g,e3,by rw[cQ _ _ hi];exact e4,f,d,c,a.off λh=>hk (by simp[h])⟩
theorem O1{e:Exit}{b:Ex}(he:Ie e b):∃jump:Option Code,xC (jn b+1)=(if jump.isNone then .ready else .done,jump) /\ jump.isNone=Nat.beq (jn b) 0 /\ ∀{P l R a w},(∃v w',(Instr.endRound l jump).run P w= .ok v w' /\ R (.returned v) w')->roundPost P l R e a w:=by
 cases e<;>cases b<;>(try exact he.elim)
 ·exact⟨none,rfl,rfl,λh=>h⟩
 ·rename_i i j
  have he:i=j:=he;subst he;exact⟨some (.exit i),rfl,rfl,λh=>h⟩
 ·exact⟨some .ret,rfl,rfl,λh=>h⟩
theorem LH{sz id:Nat}{s:bB}{ps:Array Tmp}{A B:Code}(y:n <= sz)(hps:∀p∈ps.toList,p<n)
  (hA:∀(l:Nat)(w0:World)(ρ0:bP)(h0 H0:a9)(Q:Ex->bB->a9->Prop)(s:bB)(h:a9)(a:Act)(w:World),jt P (AC P) A Q s h->St w0 ρ0 h0 H0 n s h a w->A.wpIn (WF (some l)) 0 P (kT w0 ρ0 h0 H0 n Q) a w)
  (hB:∀(l:Nat)(w0:World)(ρ0:bP)(h0 H0:a9)(Q:Ex->bB->a9->Prop)(s:bB)(h:a9)(a:Act)(w:World),jt P (AC P) B Q s h->St w0 ρ0 h0 H0 n s h a w->B.wpIn (WF (some l)) 0 P (kT w0 ρ0 h0 H0 n Q) a w)
  {xs:List a7} {h1:a9} {Ky:zQ} (u:h1 id=none) (hlen:xs.length=ps.size)
  (hx:jt P (AC P) A (Ex.then (jt P (AC P) B λe _ h2=>Ig id (sr sz s ps A B) Ky (jn e) h2) λ_ _ _=>False) (lV ps.toList xs s) h1):
  AC P sy (vO id::xs) (bQ h1 id (sr sz s ps A B 0)) Ky:=by
 intro w0 ρ H w va hle hR hva;refine⟨λh=>(by cases h),λ_ _=>?_⟩;obtain⟨id',xs',us,L,e1,hL,rfl,v⟩:=hva.resolve_left (λh=>by have:=h.BA;cases this);simp only[vO,List.cons.injEq,a7.agg.injEq,a7.qb.injEq,and_true]at e1;obtain⟨rfl,rfl⟩:=e1;have E:H id=some (sr sz s ps A B 0):=hle id _ (dR ..);have objAt:∀{ρ':bP}{H':a9}{w':World}{st:Nat},ρ.le ρ'->R w0 ρ' H' w'->H' id=some (jI (.loop sz s ps A B st))->∃r:Loop,w'.heap[L.bT]?=some (.loop r) /\ r.params=ps /\ r.assign=A /\ r.body=B /\ r.tmps.size=sz /\ (∀k,dB ρ' (s k) (r.tmps.getD k Go.undef)) /\ r.state=(xC st).1 /\ r.pending=(xC st).2:=λ{ρ' H' w' st} hρ hR' D=>by
  obtain⟨_,L',ob,q1,q2,q3,q4,q5,q6⟩:=(hR'.bT id _ D).obj _ rfl;rw[hρ _ _ _ hL]at q1;cases q1;obtain⟨r,rfl,rest⟩:=q6;exact⟨r,q5,rest⟩
 obtain⟨r,q5,rp,ra,rb,rs,rt,rst,rpe⟩:=objAt (bP.le_refl ρ) hR E;have hy:=run_yield (P:=P) (args:=us.toArray) q5 (by rw[rp,<-hlen,v.length];simp);rw[ra,rb,rp]at hy;have j:(ps.zip us.toArray).foldl (fun(tm:Array Value)(x:Tmp×Value)=>tm.setIfInBounds x.1 x.2) r.tmps=(ps.toList.zip us).foldl (fun(tm:Array Value)(x:Nat×Value)=>tm.setIfInBounds x.1 x.2) r.tmps:=by
  rw[<-Array.foldl_toList];simp
 refine⟨L.bT,us,r.fn,_,A,B,rfl,hy,?_⟩;obtain⟨z,t⟩:=Gs (ps:=ps.toList) (ds:=[]) (s:=s) (tm:=r.tmps) v (by simpa using hlen) (λp hp=>by rw[rs];exact Nat.lt_of_lt_of_le (hps p hp) y) rt;have C:h1.le H:=a9.le_trans (hU _ u) hle;have hSt:St w0 ρ h1 H n (lV ps.toList xs s) h1 { tmps:=(ps.zip us.toArray).foldl (fun(tm:Array Value)(x:Tmp×Value)=>tm.setIfInBounds x.1 x.2) r.tmps,defers:=[] } w:=
  ⟨⟨ρ,H,bP.le_refl ρ,C,Fr.refl h1 H,hR,by rw[j];exact z,[],rfl⟩,by rw[j];show n <= Array.size _;rw[t,rs];exact y⟩
 refine roundIn_of_wpIn (F:=Fence.wide) trivial (wpIn_mono (hA L.bT _ _ _ _ _ _ _ _ _ hx hSt) ?_);rintro e a1 w1 ⟨e',s1,h2,he,I,hq⟩;cases e<;>cases e'<;>(try exact he.elim)<;>(try exact hq.elim);obtain⟨ρ1,H1,p1,p2,p3,p4,p5,lds,p6⟩:=I.ex;obtain⟨g,f⟩:=p3 id u _ E;obtain⟨r1,q51,U,Y,W,S,N,rst1,rpe1⟩:=objAt p1 p4 g;refine⟨_,run_beginRound q51 rst1,?_⟩;have hR2:=p4.setObj g rfl (p1 _ _ _ hL) (o':= .loop sz s ps A B 0) (ob':= .loop { r1 with state:= .busy }) ⟨_,rfl,U,Y,W,S,N,rfl,rpe1⟩
 have G:St w0 ρ h1 (bQ H id (jI (.loop sz s ps A B 0))) n s1 h2 a1 (w1.putObj L.bT (.loop { r1 with state:= .busy })):=
  ⟨⟨ρ1,bQ H1 id (jI (.loop sz s ps A B 0)),p1,λi b hb=>by
   have:i≠id:=λe=>by subst e;rw[f]at hb;cases hb
   rw[cQ _ _ this];exact p2 i b hb,λi hi b hb=>by
   by_cases e:i=id
   ·subst e;rw[dR]at hb ⊢;exact⟨hb,f⟩
   ·rw[cQ _ _ e]at hb ⊢;exact p3 i hi b hb,hR2,p5,lds,p6.bQ g (λe=>by simp[sr,jI]at e)⟩,I.size⟩
 refine wpIn_mono (hB L.bT _ _ _ _ _ _ _ _ _ hq G) ?_;rintro e3 a3 w3 ⟨o,s3,h3,he3,hS3,K,c,hK⟩;obtain⟨ρ3,H3,t1,t2,t3,t4,_⟩:=hS3.ex;obtain⟨q,d⟩:=t3 id u _ (dR ..);obtain⟨r3,Z,T,X,V,O,M,_,_⟩:=objAt t1 t4 q;obtain⟨jump,j1,j2,j3⟩:=O1 he3;refine j3 ⟨_,_,run_endRound jump Z,?_⟩;have J:K id=none:=by
  cases e:K id with
  | none=>rfl
  | some b=>rw[c id b e]at d;cases d
 have hR4:=t4.setObj q rfl (t1 _ _ _ hL) (o':= .loop sz s ps A B (jn o+1)) (ob':= .loop { r3 with state:=if jump.isNone then .ready else .done,pending:=jump })
  ⟨_,rfl,T,X,V,O,M,by rw[j1],by rw[j1]⟩
 refine⟨_,rfl,⟨⟨.bool (Nat.beq (jn o) 0),ρ3,bQ K id (sr sz s ps A B (jn o)),bQ H3 id (sr sz s ps A B (jn o)),t1,by rw[j2];rfl,hK J,mc _ (a9.le_trans c t2),?_,hR4⟩⟩⟩;intro i hi b hb;have m:i≠id:=λe=>by subst e;rw[dR]at hi;cases hi
 rw[cQ _ _ m]at hi;obtain⟨m1,m2⟩:=t3 i hi b (by rw[cQ _ _ m];exact hb);rw[cQ _ _ m,cQ _ _ m];refine⟨m1,?_⟩;cases e:K i with
 | none=>rfl
 | some b=>rw[c i b e]at m2;cases m2
theorem LM{w0:World}{ρ0:bP}{h0 H0:a9}{s:bB}{h:a9}{a:Act}{w:World}{m:Nat}{g:Operand}{ps:Array Tmp}{A B:Code}{Q:Ex->bB->a9->Prop}(R:∀p∈ps.toList,p<n)
  (hA:∀(l:Nat)(w0:World)(ρ0:bP)(h0 H0:a9)(Q:Ex->bB->a9->Prop)(s:bB)(h:a9)(a:Act)(w:World),jt P (AC P) A Q s h->St w0 ρ0 h0 H0 n s h a w->A.wpIn (WF (some l)) 0 P (kT w0 ρ0 h0 H0 n Q) a w)
  (hB:∀(l:Nat)(w0:World)(ρ0:bP)(h0 H0:a9)(Q:Ex->bB->a9->Prop)(s:bB)(h:a9)(a:Act)(w:World),jt P (AC P) B Q s h->St w0 ρ0 h0 H0 n s h a w->B.wpIn (WF (some l)) 0 P (kT w0 ρ0 h0 H0 n Q) a w)
  (hx:jt P (AC P) (.rangeFunc g ps A B) Q s h) (V:St w0 ρ0 h0 H0 n s h a w):(Code.rangeFunc g ps A B).wpIn (WF none) m P (kT w0 ρ0 h0 H0 n Q) a w:=by
 refine wpIn_rangeFunc λfn _=>?_;obtain⟨ρ,H,q1,q2,q3,q4,M,lds,q6⟩:=V.ex;obtain⟨N,c⟩:=q4.fin;have u:∀i,N <= i->h i=none:=λi hi=>by
  cases e:h i with
  | none=>rfl
  | some b=>have:=q2 i b e;rw[(c i hi).1]at this;cases this
 have J:=q4.newObj (c N (Nat.le_refl N)).1 (c N (Nat.le_refl N)).2 (o:= .sf true) (ob:= .deferred (some [])) rfl;generalize hρD:ρ.put N 0 ⟨w.heap.size,0,0,0⟩=ρD at J;have hρ1:ρ.le ρD:=by rw[<-hρD];exact bP.sB _ ((c N (Nat.le_refl N)).2 0)
 have Z:(bQ H N (jI (.sf true))) (N+1)=none:=by rw[cQ _ _ (by omega)];exact(c (N+1) (by omega)).1
 have hρn:∀g,ρD (N+1) g=none:=λg=>by rw[<-hρD,bP.iJ _ _ (by omega)];exact(c (N+1) (by omega)).2 g
 have q:=J.newObj Z hρn (o:= .loop a.tmps.size (jX (jr ps.toList A B) s) ps A B 1) (ob:= .loop { state:= .ready,pending:=none,fn,tmps:=a.tmps,params:=ps,assign:=A,body:=B,defers:=w.heap.size })
  ⟨_,rfl,rfl,rfl,rfl,rfl,λk=>by
   unfold jX;cases dK (jr ps.toList A B) k with
   | true=>exact(M k).mono hρ1
   | false=>trivial,rfl,rfl⟩
 have E:({ w with heap:=w.heap.push (.deferred (some [])) }:World).heap.size=w.heap.size+1:=by simp
 rw[E]at q;generalize hρL:ρD.put (N+1) 0 ⟨w.heap.size+1,0,0,0⟩=ρL at q;have hρ2:ρD.le ρL:=by rw[<-hρL];exact bP.sB _ (hρn 0)
 have X:ρL N 0=some ⟨w.heap.size,0,0,0⟩:=by rw[<-hρL,bP.iJ _ _ (by omega),<-hρD,bP.kX]
 have y:ρL (N+1) 0=some ⟨w.heap.size+1,0,0,0⟩:=by rw[<-hρL,bP.kX]
 have hρ3:ρ.le ρL:=bP.le_trans hρ1 hρ2;generalize z:bQ (bQ H N (jI (.sf true))) (N+1) (jI (.loop a.tmps.size (jX (jr ps.toList A B) s) ps A B 1))=H2 at q;have G:(bQ h (N+1) (sr a.tmps.size (jX (jr ps.toList A B) s) ps A B 0)).le H2:=by
  rw[<-z];refine mc _ λi b hb=>?_;have:i≠N:=λe=>by subst e;rw[u i (Nat.le_refl i)]at hb;cases hb
  rw[cQ _ _ this];exact q2 i b hb
 have Y:=hx a.tmps.size (N+1) (u (N+1) (by omega)) (λxs h1 Ky T hW=>LH V.size R hA hB T hW.1 hW.2);have hg:=dX M g;split at Y
 rotate_left
 ·exact Y.elim
 rename_i f first gX hf
 rw[hf]at hg;obtain⟨l,l',ev,g1,g2⟩:=hg;have hv:dJ ρL (first++[.qb (N+1)]++gX) (l++[.func (.yield (w.heap.size+1)) #[] #[]]++l'):=
  ((dJ.mono hρ3 _ _ g1).append (show dJ ρL [.qb (N+1)] [.func (.yield (w.heap.size+1)) #[] #[]] from ⟨_,_,rfl,⟨_,y,rfl⟩,rfl⟩)).append (dJ.mono hρ3 _ _ g2)
 rcases (Y w0 ρL H2 _ _ G q (.inl hv)).1 hv.BA with⟨c1,c2⟩|⟨_,_,_,_,c3⟩
 rotate_left
 ·exact(c3 (.func (.yield (w.heap.size+1)) #[] #[]) (by simp) _ _ _ rfl).elim
 have O:(l++[Value.func (.yield (w.heap.size+1)) #[] #[]]++l').toArray=l.toArray++ #[Value.func (.yield (w.heap.size+1)) #[] #[]]++l'.toArray:=by apply Array.ext';simp
 refine⟨w.heap.size+1,[{ target:= .collected w.heap.size,args:= #[] }],_,{ target:= .fn (.func f) l'.toArray,args:=l.toArray++ #[.func (.yield (w.heap.size+1)) #[] #[]] },(w.alloc (.deferred (some []))).alloc (.loop { state:= .ready,pending:=none,fn,tmps:=a.tmps,params:=ps,assign:=A,body:=B,defers:=w.heap.size }),f,_,_,run_enterLoop_outer fn a.tmps ps A B,?_,λ_ _=>trivial,?_,λh=>(by cases h),Gj (c2.mono ?_)⟩
 ·have F:Array.map a.eval #[Operand.const (Value.func (Fn.yield (w.heap.size+1)) #[] #[])]= #[Value.func (Fn.yield (w.heap.size+1)) #[] #[]]:=by simp[Act.eval]
  simp only[resolve,ev,Deferred.ofValue,Sem.run_pure,F]
 ·rw[O]at c1 ⊢
  exact c1
 rintro e w3 ⟨v,rfl,hAf⟩;obtain⟨x,ρ3,h3,H3,k1,k2,⟨j,t,m1,m2,m3⟩,k4,k5,k6⟩:=hAf.ex;have r:H3 (N+1)=some (sr a.tmps.size (jX (jr ps.toList A B) s) ps A B j):=k4 _ _ (m2 _ _ (dR ..));obtain⟨_,L',ob,o1,o2,o3,o4,o5,L,rfl,rp,ra,rb,rs,rt,rst,rpe⟩:=(k6.bT _ _ r).obj _ rfl;rw[k1 _ _ _ y]at o1;cases o1;have S:L.state≠ .busy:=by
  rw[rst];rcases j with _|_|j<;>simp[xC]
 refine⟨_,_,run_endLoop o5 S,?_⟩;have W:=k6.setObj r rfl (k1 _ _ _ y) (o':= .gone) (ob':= .loop { L with state:= .exhausted }) (λ_ _ _=>by simp);have C:∀i b,t i=some b->i≠N+1 /\ h3 i=some b:=λi b hb=>by
  have:i≠N+1:=λe=>by subst e;rw[m1]at hb;cases hb
  exact⟨this,m2 i b (by rw[cQ _ _ this];exact hb)⟩
 have I:Fr h H t (bQ H3 (N+1) (jI .gone)):=λi hi b hb=>by
  have n1:i≠N:=λe=>by subst e;rw[(c i (Nat.le_refl i)).1]at hb;cases hb
  have n2:i≠N+1:=λe=>by subst e;rw[(c (N+1) (by omega)).1]at hb;cases hb
  obtain⟨K,D⟩:=k5 i (by rw[cQ _ _ n2];exact hi) b (by rw[<-z,cQ _ _ n2,cQ _ _ n1];exact hb);refine⟨by rw[cQ _ _ n2];exact K,?_⟩;cases e:t i with
  | none=>rfl
  | some b=>rw[(C i b e).2]at D;cases D
 obtain⟨K,D⟩:=k5 N (by rw[cQ _ _ (by omega)];exact u N (Nat.le_refl N)) _ (by rw[<-z,cQ _ _ (by omega),dR])
 have d:St w0 ρ0 h0 H0 n s t { a with defers:=[{ target:= .collected w.heap.size,args:= #[] }]++a.defers } (w3.putObj (w.heap.size+1) (.loop { L with state:= .exhausted })):=by
  refine⟨⟨ρ3,_,bP.le_trans q1 (bP.le_trans hρ3 k1),λi b hb=>?_,q3.trans I,W,λk=>(M k).mono (bP.le_trans hρ3 k1),N::lds,N,lds,⟨w.heap.size,0,0,0⟩,rfl,rfl,k1 _ _ _ X,?_,?_,λhn=>?_,λhm=>?_,q6.step (bP.le_trans hρ3 k1) I⟩,V.size⟩
  ·obtain⟨n2,U⟩:=C i b hb
   rw[cQ _ _ n2];exact k4 i b U
  ·rw[cQ _ _ (by omega)];exact K
  ·cases e:t N with
   | none=>rfl
   | some b=>rw[(C N b e).2]at D;cases D
  ·cases e:H0 N with
   | none=>rfl
   | some b=>have:=(q3 N hn b e).1;rw[(c N (Nat.le_refl N)).1]at this;cases this
  ·have:=q6.mem hm
   rw[(c N (Nat.le_refl N)).1]at this;cases this
 rw[rpe]at d ⊢;rcases j with _|_|j
 ·exact⟨.normal,s,t,trivial,d,m3⟩
 ·exact wpIn_ret ⟨.ret,s,t,trivial,d,m3⟩
 ·exact wpIn_exit ⟨.exit j,s,t,rfl,d,m3⟩
theorem tt(hm:P.follows .mixedOrders=true):∀(c:Code)(r:Option Nat)(m:Nat)(w0:World)(ρ0:bP)(h0 H0:a9)(Q:Ex->bB->a9->Prop)(s:bB)(h:a9)(a:Act)(w:World),nj n c=true->(r=none \/ rf c=true) ->
  jt P (AC P) c Q s h->St w0 ρ0 h0 H0 n s h a w->c.wpIn (WF r) m P (kT w0 ρ0 h0 H0 n Q) a w
 | .skip,r,m,w0,ρ0,h0,H0,Q,s,h,a,w,_,_,hx,f=>wpIn_skip ⟨.normal,s,h,trivial,f,hx⟩
 | .region id ops draw,r,m,w0,ρ0,h0,H0,Q,s,h,a,w,u,_,hx,f=>by
  have L:∀o∈ops.toList,sH n o=true:=all_eq_true.1 u
  have M:∀s h a w,St w0 ρ0 h0 H0 n s h a w->Q .normal s h->kT w0 ρ0 h0 H0 n Q .normal a w:=λs h a w k1 k2=>⟨.normal,s,h,trivial,k1,k2⟩
  cases draw with
  | false=>
   refine wpIn_region ?_
   rw[range_eq_range',show ops.size=ops.toList.length by simp]
   exact G3 L M ops.toList 0 s h a w rfl hx f
  | true=>
   simp only[jt]at hx
   split at hx
   ·rename_i l U
    obtain⟨h1,N,V⟩:=NM U
    refine wpIn_region_any hm ?_
    rw[<-N]
    exact Ge h1 L M l.length l _ s h a _ rfl (by rw[N];exact V) hx (f.drew _)
   ·exact hx.elim
 | .seq x y,r,m,w0,ρ0,h0,H0,Q,s,h,a,w,u,v,hx,f=>by
  simp only[nj,rf,Bool.and_eq_true]at u v
  refine wpIn_seq (wpIn_mono (tt hm x r m _ _ _ _ _ s h a w u.1 (v.imp id And.left) hx f) ?_)
  rintro e D w' ⟨F,s',h',he,d,q⟩
  cases e<;>cases F<;>(try exact he.elim)
  ·exact tt hm y r m _ _ _ _ Q s' h' D w' u.2 (v.imp id And.right) q d
  ·exact⟨_,s',h',he,d,q⟩
  ·exact⟨_,s',h',he,d,q⟩
 | .cond c x y,r,m,w0,ρ0,h0,H0,Q,s,h,a,w,u,v,hx,f=>by
  simp only[nj,rf,Bool.and_eq_true]at u v
  simp only[jt]at hx
  obtain⟨ρ,H,Z,Y,X,W,O,_⟩:=f.ex
  have K:=dX O c
  unfold A.cond at hx
  split at hx
  ·rename_i b hb
   rw[hb]at K
   exact wpIn_cond_split (t:=b) K (λe=>tt hm x r m _ _ _ _ Q s h a w u.1 (v.imp id And.left) (hx.1 e) f) (λe=>tt hm y r m _ _ _ _ Q s h a w u.2 (v.imp id And.right) (hx.2 e) f)
  ·exact hx.elim
 | .label _,r,m,w0,ρ0,h0,H0,Q,s,h,a,w,u,_,hx,f=>wpIn_label ⟨.normal,s,h,trivial,f,hx⟩
 | .scope c,r,m,w0,ρ0,h0,H0,Q,s,h,a,w,u,v,hx,f=>by
  refine JC (wpIn_mono (tt hm c r m _ _ _ _ Q s h a w u v hx f) ?_)
  rintro e D w' ⟨F,s',h',he,d,q⟩
  cases e<;>cases F<;>first|exact he.elim|exact ⟨_,s',h',he,d,q⟩
 | .block id c,r,m,w0,ρ0,h0,H0,Q,s,h,a,w,u,v,hx,f=>by
  refine wpIn_block (wpIn_mono (tt hm c r m _ _ _ _ _ s h a w u v hx f) ?_)
  rintro e D w' ⟨F,s',h',he,d,q⟩
  cases e<;>cases F<;>(try exact he.elim)
  ·exact⟨.normal,s',h',trivial,d,q⟩
  ·rename_i i j
   have J:i=j:=he
   subst J
   simp only[Exit.inBlock,Ex.inBlock]at q ⊢
   by_cases hi:i=id
   ·rw[if_pos hi]
    rw[show Nat.beq i id=true by simp[hi]]at q
    exact⟨.normal,s',h',trivial,d,q⟩
   ·rw[if_neg hi]
    rw[show Nat.beq i id=false by rw[<-Bool.not_eq_true,Nat.beq_eq];exact hi]at q
    exact⟨.exit i,s',h',rfl,d,q⟩
  ·exact⟨.ret,s',h',trivial,d,q⟩
 | .loop c,r,m,w0,ρ0,h0,H0,Q,s,h,a,w,u,v,hx,f=>by
  intro b k cs G hb C
  have key:=hx (λs h=>∀a w,St w0 ρ0 h0 H0 n s h a w->∃e D w',kT w0 ρ0 h0 H0 n Q e D w' /\ ArrivesIn (Machine.fenced P (WF r)) P (lone (b.atR a (.code c:: .inLoop c::k)) cs w) b k cs e D w') ?_ a w f
  ·obtain⟨e,D,w',q,z⟩:=key
   exact⟨e,D,w',q,.of_steps (.one (fenced_calm hb C rfl) stepR_loop) z⟩
  ·intro s h E a w f
   obtain⟨e,a₁,w₁,⟨F,s',h',he,d,q⟩,z⟩:=tt hm c r m _ _ _ _ _ s h a w u v E f b (.inLoop c::k) cs G hb C
   cases e<;>cases F<;>(try exact he.elim)
   ·obtain⟨e₂,a₂,w₂,hq₂,harr₂⟩:=q a₁ w₁ d
    exact⟨e₂,a₂,w₂,hq₂,.of_steps (StepsIn.trans z (.one (fenced_calm hb C rfl) stepR_inLoop)) harr₂⟩
   ·exact⟨_,a₁,w₁,⟨_,s',h',he,d,q⟩,.pass (x:= .inLoop c) rfl (λ_ _=> .inl (by simp)) z⟩
   ·exact⟨_,a₁,w₁,⟨_,s',h',he,d,q⟩,.pass (x:= .inLoop c) rfl (λ_ _=> .inl (by simp)) z⟩
 | .exit id,r,m,w0,ρ0,h0,H0,Q,s,h,a,w,_,_,hx,f=>wpIn_exit ⟨.exit id,s,h,rfl,f,hx⟩
 | .ret,r,m,w0,ρ0,h0,H0,Q,s,h,a,w,_,_,hx,f=>wpIn_ret ⟨.ret,s,h,trivial,f,hx⟩
 | .rangeFunc g ps A B,r,m,w0,ρ0,h0,H0,Q,s,h,a,w,u,v,hx,f=>by
  simp only[nj,Bool.and_eq_true]at u
  obtain⟨⟨T,S,R⟩,cA,cB⟩:=u
  have v:r=none:=v.resolve_right (by simp[rf])
  subst v
  exact LM (λp I=>by have:=all_eq_true.1 T p I;rwa [Nat.blt_eq]at this)
   (λl w0 ρ0 h0 H0 Q s h a w x y=>tt hm A (some l) 0 w0 ρ0 h0 H0 Q s h a w cA (.inr S) x y)
   (λl w0 ρ0 h0 H0 Q s h a w x y=>tt hm B (some l) 0 w0 ρ0 h0 H0 Q s h a w cB (.inr R) x y) hx f
 | .goto _,_,_,_,_,_,_,_,_,_,_,_,_,_,hx,_=>hx.elim
 | .refuse _,_,_,_,_,_,_,_,_,_,_,_,_,_,hx,_=>hx.elim
def AY(a:Act):ResultVar->Sem Value
 | .tmp t=>pure (a.tmps.getD t Go.undef)
 | .cell x t=>do loadVar t (<- asAddr (a.tmps.getD x Go.undef))
theorem Dh{w0:World}{ρ:bP}{h H:a9}{s:bB}{a:Act}{w:World}(f:R w0 ρ H w)(hle:h.le H)(c:eo ρ s a):∀(rs:List ResultVar)(l:List a7),sL P h s rs=some l ->
  ∃vs:List Value,(rs.mapM (AY a)).run P w= .ok vs w /\ dJ ρ l vs
 | [],l,h=>by cases h;exact⟨[],rfl,rfl⟩
 | .cell x t::r,l,b=>by
  simp only[sL,cJ]at b
  split at b
  ·rename_i v l' d e
   cases b
   obtain⟨vs,k1,k2⟩:=Dh f hle c r l' e
   obtain⟨ad,u,e1,g,e3⟩:=LJ (P:=P) f hle (c x) d
   refine⟨u::vs,?_,⟨_,_,rfl,e3,k2⟩⟩
   rw[mapM_cons]
   simp only[AY,e1,asAddr,Sem.run_bind,Sem.run_pure,Result.andThen_ok,g,k1]
  ·cases b
 | .tmp t::r,l,b=>by
  simp only[sL,cJ]at b
  split at b
  ·rename_i v l' d e
   cases d
   cases b
   obtain⟨vs,k1,k2⟩:=Dh f hle c r l' e
   refine⟨a.tmps.getD t Go.undef::vs,?_,⟨_,_,rfl,c t,k2⟩⟩
   rw[mapM_cons]
   simp only[AY,Sem.run_bind,Sem.run_pure,Result.andThen_ok,k1]
  ·cases b
theorem LI{w0:World}{ρ:bP}{m H:a9}{s:bB}{a:Act}{w:World}(g:R w0 ρ H w)(hle:m.le H)(e:eo ρ s a){fn:Func}{v:a7}(h:xD P m s fn.results.toList=some v):∃u,(results fn a.tmps).run P w= .ok u w /\ dB ρ v u:=by
 unfold xD oneOf at h;cases c:sL P m s fn.results.toList with
 | none=>rw[c]at h;cases h
 | some l=>
  obtain⟨vs,k1,k2⟩:=Dh (P:=P) g hle e _ l c
  have f:(results fn a.tmps).run P w= .ok (if h:vs.toArray.size=1 then vs.toArray[0] else .tuple vs.toArray) w:=by
   have h0:results fn a.tmps=(do
     let vs <- fn.results.mapM (AY a)
     pure (if h:vs.size=1 then vs[0] else .tuple vs)):=by
    unfold results;congr 1
   rw[h0,Array.mapM_eq_mapM_toList];simp only[Sem.run_bind,Sem.run_map,k1,Result.andThen_ok,Sem.run_pure]
  rw[c]at h;rw[f];cases l with
  | nil=>
   cases h;have:vs=[]:=k2;subst this;exact⟨_,rfl,[],rfl,rfl⟩
  | cons x r=>
   obtain⟨u,us,rfl,k3,k4⟩:=k2;cases r with
   | nil=>
    cases h;have:us=[]:=k4;subst this;exact⟨u,rfl,k3⟩
   | cons y r=>
    cases h;obtain⟨d,b,rfl,k5,k6⟩:=k4;refine⟨.tuple (u::d::b).toArray,?_,_,rfl,⟨_,_,rfl,k3,_,_,rfl,k5,k6⟩⟩;simp
theorem FU{w0:World}{fn:Func}{tmps:Array Value}{j:Ending->World->Prop}{ρ:bP}{h0 H0 h:a9}
  (fin:∀H' w',R w0 ρ H' w'->h.le H'->Fr h0 H0 h H'->∃v,(results fn tmps).run P w'= .ok v w' /\ j (.returned v) w'):
  ∀(ds:List Deferred)(l:List Nat)(H:a9)(w:World),qf ρ h0 H0 h H ds l->R w0 ρ H w->h.le H->Fr h0 H0 h H->LeavesInM Fence.wide 0 P fn tmps j ds .returning w
 | [],_,H,w,_,a,hle,f=>fin H w a hle f
 | d::ds,_,H,w,⟨i,is,L,e1,r,e3,e4,q,p,o,n⟩,a,hle,f=>by
  subst e1 r
  obtain⟨_,L',ob,g,_,_,_,m,c⟩:=(a.bT _ _ e4).obj _ rfl
  rw[e3]at g
  cases g
  have c:ob= .deferred (some []):=c
  subst c
  refine⟨by simp,.inl ⟨L.bT,_,rfl,run_takeDeferred m,FU fin ds is _ _ (n.off o) (a.setObj e4 rfl e3 (o':= .sf false) (ob':= .deferred none) rfl) (λk b hb=>?_) λk hk b hb=>?_⟩⟩
  ·have:k≠i:=λe=>by subst e;rw[q]at hb;cases hb
   rw[cQ _ _ this];exact hle k b hb
  ·have:k≠i:=λe=>by subst e;rw[p hk]at hb;cases hb
   rw[cQ _ _ this];exact f k hk b hb
theorem O0(hm:P.follows .mixedOrders=true){f:FuncId}{fn:Func}{c:Code}(I:P.funcs[f]?=some fn)(hb:fn.body=some c)(g:∀(va:Array Value)(w:World),(callFunc f va).run P w= .ok (.enter f va) w)
  (J:nj fn.ntmps c=true) (j:Nat.beq f sy=false) {args:List a7} (R:args.length <= fn.ntmps) {h:a9} {Q:zQ} (hx:jt P (AC P) c (Qf P fn.results.toList Q) (fv args) h):AC P f args h Q:=by
 refine λw0 ρ H w va hle M p=>⟨λr=>?_,λ_ h=>by subst h;rw[Nat.beq_refl]at j;cases j⟩;have m:=p.resolve_right λ⟨id,xs,us,L,e,_⟩=>by subst e;cases r
 refine .inl ⟨g _ _,?_⟩;refine(callsIn_wide (n:=0)).1 (callsIn_of_wp_marks I hb trivial ?_);have hlen:=m.length;have K:St w0 ρ h H fn.ntmps (fv args) h { tmps:=va.toArray++Array.replicate (fn.ntmps-va.toArray.size) undef,defers:=[] } w:=by
  refine⟨⟨ρ,H,bP.le_refl ρ,hle,Fr.refl h H,M,λk=>?_,[],rfl⟩,by simp;omega⟩;unfold fv;cases s:args[k]? with
  | none=>simp only[List.getD,s];exact trivial
  | some x=>
   obtain⟨u,k1,k2⟩:=m.get s;have hk:k<va.length:=(List.getElem?_eq_some_iff.1 k1).1;have:(va.toArray++Array.replicate (fn.ntmps-va.toArray.size) Go.undef).getD k Go.undef=u:=by
    simp[Array.getElem?_append,hk];have:=(List.getElem?_eq_some_iff.1 k1).2;exact this
   rw[show (List.getD args k a7.undef)=x by simp[List.getD,s]];show dB ρ x ((va.toArray++Array.replicate (fn.ntmps-va.toArray.size) Go.undef).getD k Go.undef);rw[this];exact k2
 refine wpIn_mono (tt hm c none 0 _ _ _ _ _ _ h _ w J (.inl rfl) hx K) ?_;rintro e o w' ⟨O,s',h',he,t,i⟩;obtain⟨ρ',H',G,F,E,D,C,lds,B⟩:=t.ex;have fin:∀b,(b= .normal \/ b= .ret)->A.pv (xD P h' s' fn.results.toList) (λv=>Q v h')->bodyPostM Fence.wide 0 P fn (λe w'=>∃v,e= .returned v /\ pa w0 ρ h H Q v w') b o w':=by
  intro b q i;obtain⟨v,m,N⟩:=aK i;have:LeavesInM Fence.wide 0 P fn o.tmps (λe w'=>∃v,e= .returned v /\ pa w0 ρ h H Q v w') o.defers .returning w':=
   FU (λy z d a l=>by
    obtain⟨u,k1,k2⟩:=LI (P:=P) d a C m;exact⟨u,k1,u,rfl,⟨⟨v,ρ',h',y,G,k2,N,a,l,d⟩⟩⟩) o.defers lds H' w' B D F E
  rcases q with rfl|rfl<;>exact this
 cases e<;>cases O<;>(try exact he.elim)
 ·exact fin _ (.inl rfl) i
 ·exact i.elim
 ·exact fin _ (.inr rfl) i
end
end Go.Ab
namespace Go.Ab
open List
open Go.RowKit (Below)
open Go.ChangeShapes Go.WideShapes Go.ChangeAt Go.RowKit
theorem MA{HT:Type}{enc:TypeId×Value->HT}{P:Program}{fn:Func}{f:Nat}{s:ChangeSpec}{tb:TypeId}(b:fn.params.toList=[])
  (d:s.vars=[]) (k:∀(H:Type),s.fn H []={ results:=[.lit (.bool true)],args:=[] })
  (g:fn.resultTypes= #[tb]) (j:P.underlying tb=some .bool)
  (i:∀(va:Array Value)(w:World),(callFunc f va).run P w= .ok (.enter f va) w) (n:∀(H:a9),AC P f [] H λv _=>v= .bool true)
  {W:World} {args:Array Value} {ds gs:List (DataW HT)} {before:List MemPlace}
  (r:DataW.Whole enc P fn.params.toList s.vars false W args.toList ds gs before):
  Calls P f args W λe x=>∃v,e= .returned v /\ s.post enc P fn false true false false W args v x:=by
 have m:=r;obtain⟨p,q,u,t,hb,z,y⟩:=r;rw[d]at t;obtain⟨rfl,rfl⟩:=trodVars_none t;rw[b]at u;obtain⟨o,rfl,rfl⟩:=trodAll_nil u;have rel:R W (λ_ _=>none) a9.empty W:={ below:=Below.refl _ _,fin:=⟨0,λ_ _=>⟨rfl,λ_=>rfl⟩⟩,bT:=λ_ _ h=>(by cases h),sep:=λ_ _ _ _ _ h=>(by cases h),nT:=λ_ _ _ _ _ h=>(by cases h) };have k4:dJ (λ_ _=>none) [] args.toList:=by rw[o];rfl
 have l:Calls P f args.toList.toArray W λe w'=>∃v,e= .returned v /\ pa W (λ_ _=>none) a9.empty a9.empty (λv _=>v= .bool true) v w':=by
  rcases (n a9.empty W _ a9.empty W args.toList (a9.le_refl _) rel (.inl k4)).1 k4.BA with h|⟨v,w',h,_⟩
  ·exact h.2
  ·rw[i]at h;cases h
 refine Calls.mono l λe x ⟨v,e1,A⟩=>⟨v,e1,?_⟩;obtain⟨a,ρ',h',H',_,m2,m3,_,_,m6⟩:=A.ex;subst m3;cases m2;have c:=k HT;refine⟨[],[],before,[],[],[],m,?_,?_,?_,m6.below.frame _,λh=>by cases h⟩
 ·rw[append_nil,c,g]
  exact trodAll_cons_mk (shut_bool j _) trodAll_mk0
 ·rw[append_nil,c,b,o]
  exact trodAll_mk0
 ·rw[append_nil,c,d]
  rfl
end Go.Ab
namespace Go.Ab
open List
def gD(C:aC):Prop:=∀f args h (Q Q':zQ),(∀v h,Q v h->Q' v h)->C f args h Q->C f args h Q'
theorem Hn(P:Program):gD (AC P):=sw P
section
variable{P:Program}{C:aC}
theorem Ft(b:gD C){ops:List Oper}{o:Oper}{s:bB}{h:a9}{K a:zQ}(hk:∀v h,K v h->a v h)(x:vy P C ops o s h K):vy P C ops o s h a:=xc.2 (ng b hk (xc.1 x))
theorem Le(d:gD C){ops:List Oper}{o:Oper}{c:List (Operand×TypeId)}{s:bB}{h:a9}{K e:zQ}(hk:∀v h,K v h->e v h)(x:xo P C ops o c s h K):xo P C ops o c s h e:=by
 rw[CB d]at x ⊢;exact ng d (λv h ⟨a,b⟩=>⟨a,hk v h b⟩) x
def kz(l:List Nat)(s s':bB):Prop:=∀k,k∉l->s' k=s k
theorem kz.refl(l:List Nat)(s:bB):kz l s s:=λ_ _=>rfl
theorem kz.trans{l:List Nat}{a b c:bB}(x:kz l a b)(y:kz l b c):kz l a c:=λk hk=>(y k hk).trans (x k hk)
theorem kz.mono{l l':List Nat}{a b:bB}(c:∀k∈l,k∈l')(x:kz l a b):kz l' a b:=λk hk=>x k λh=>hk (c k h)
theorem C3(m:gD C){f:a7}{mk:Nat->fB}{W e:List a7->a9->(Nat->a9->Prop)->Prop}{h:a9}{K g:Nat->a9->Prop}(l:∀xs h E,W xs h E->e xs h E)(hk:∀j h,K j h->g j h)(x:y9 C f mk W h K):y9 C f mk e h g:=by
 intro id d i;have y:=x id d λxs h1 o k w=>i xs h1 o k (l _ _ _ w);revert y;cases f<;>first|exact λy=>y|exact λy=>m _ _ _ _ _ (λv p ⟨j,n,a,b,c⟩=>⟨j,n,a,b,hk _ _ c⟩) y
theorem qX(f:gD C):∀(c:Code){Q Q':Ex->bB->a9->Prop},(∀e s h,Q e s h->Q' e s h)->∀{s:bB}{h:a9},jt P C c Q s h->jt P C c Q' s h
 | .skip,_,_,d,_,_,x=>d _ _ _ x
 | .ret,_,_,d,_,_,x=>d _ _ _ x
 | .exit _,_,_,d,_,_,x=>d _ _ _ x
 | .region _ ops false,Q,Q',d,s,h,x=>by
  have:∀(l:List Oper)(s:bB)(h:a9),wB P C ops.toList l (Q .normal) s h->wB P C ops.toList l (Q' .normal) s h:=by
   intro l
   induction l with
   | nil=>exact λs h x=>d _ _ _ x
   | cons o r i=>exact λs h x=>Ft f (λv h y=>i _ _ y) x
  exact this _ _ _ x
 | .region _ ops true,Q,Q',d,s,h,x=>by
  have:∀(l:List (Item×List (Operand×TypeId)))(s:bB)(h:a9),iB P C ops.toList l (Q .normal) s h->iB P C ops.toList l (Q' .normal) s h:=by
   intro l
   induction l with
   | nil=>exact λs h x=>d _ _ _ x
   | cons o r i=>exact λs h x=>Le f (λv h y=>i _ _ y) x
  simp only[jt]at x ⊢;split at x
  ·exact this _ _ _ x
  ·exact x.elim
 | .seq a b,Q,Q',d,s,h,x=>qX f a (λe s h y=>by
   cases e with
   | normal=>exact qX f b d y
   | exit _=>exact d _ _ _ y
   | ret=>exact d _ _ _ y) x
 | .cond c a b,Q,Q',d,s,h,x=>by
  simp only[jt,A.cond]at x ⊢;split at x
  ·exact⟨λe=>qX f a d (x.1 e),λe=>qX f b d (x.2 e)⟩
  ·exact x.elim
 | .scope b,Q,Q',d,s,h,x=>qX f b d x
 | .label _,Q,Q',d,s,h,x=>d _ _ _ x
 | .block id b,Q,Q',d,s,h,x=>qX f b (λe s h y=>by
   cases e with
   | normal=>exact d _ _ _ y
   | ret=>exact d _ _ _ y
   | exit j=>
    simp only[Ex.inBlock]at y ⊢;cases k:Nat.beq j id with
    | true=>rw[k]at y;exact d _ _ _ y
    | false=>rw[k]at y;exact d _ _ _ y) x
 | .loop c,Q,Q',d,s,h,x=>λX m=>x X λs h y=>m s h (qX f c (λe s h z=>by
   cases e with
   | normal=>exact z
   | exit _=>exact d _ _ _ z
   | ret=>exact d _ _ _ z) y)
 | .rangeFunc g ps a b,Q,Q',d,s,h,x=>λsz=>C3 f (λ_ _ _ w=>w) (λj h y=>d _ _ _ y) (x sz)
 | .goto _,_,_,_,_,_,x=>x.elim
 | .refuse _,_,_,_,_,_,x=>x.elim
def aB(F:zG)(vs:List a7)(h:a9):Prop:=∀Y:zL,(∀vs h,F vs h Y->Y vs h)->Y vs h
end
theorem EV{P:Program}{f:FuncId}{fn:Func}(d:P.funcs[f]? =some fn)(hb:fn.body.isNone=false)(c:(fn.name== "runtime.NumGoroutine")=false)(va:Array Value)(w:World):
  (callFunc f va).run P w= .ok (.enter f va) w:=by
 have b:fn.body≠none:=λe=>by rw[e]at hb;cases hb
 have a:fn.name≠ "runtime.NumGoroutine" :=fun e=>by rw [e] at c;cases c
 unfold callFunc;simp[Sem.run_bind,run_program,d,b,a]
theorem aB.intro{F:zG}{vs:List a7}{h:a9}(I:Nat->zL)(n:Nat)
  (c:∀(Y:zL)(n:Nat)(vs:List a7)(h:a9),I n vs h->(∀m vs h,m<n->I m vs h->Y vs h)->F vs h Y) (h0:I n vs h):aB F vs h:=by
 intro Y b;have:∀n vs h,I n vs h->Y vs h:=by
  intro n
  induction n using Nat.strongRecOn with
  | ind n a=>exact λvs h hi=>b vs h (c Y n vs h hi λm vs h hm=>a m hm vs h)
 exact this n vs h h0
structure Bx where
 bs:List Nat
 ds:List Nat
 B:Nat
 pl:List (Nat×List (Nat×List Nat))
abbrev Gd:=Option (Nat×Bool)
abbrev gm:=List (Nat×Gd×Nat×Nat)
def xf:Gd->Gd->Bool|none,_=>true|some (j,true),some (i,true)=>Nat.beq j i|some (j,false),some (i,false)=>Nat.beq j i|_,_=>false
namespace Bx
variable(I:Bx)
def clean(k:Nat):Bool:=Nat.blt k I.B&&(!dK I.bs k&& !dK I.ds k)
def sc:Operand->Bool | .tmp t=>I.clean t|_=>true
def zb:Option Nat->Bool|none=>true|some d=>I.clean d
def find(g:Gd)(t:Nat):gm->Option (Nat×Nat)|[]=>none|(e,g',d,off)::r=>bif Nat.beq e t then (bif xf g' g then some (d,off) else none) else find g t r
def place(E:gm)(g:Gd):Operand->Option (Nat×Nat) | .tmp t=>bif dK I.bs t then some (t,0) else find g t E|_=>none
def uN(ops:List Oper):Gd->Bool
 | none=>true
 | some (j,_)=>match lj ops j with
  | some t=>I.clean t
  | none=>false
end Bx
def HH(o:Option Nat)(d:Nat):Bool:=
 match o with
 | some t=>Nat.beq t d
 | none=>false
def D1(ops:List Oper)(d:Nat):Gd->Bool|none=>false|some (j,_)=>HH (lj ops j) d
def lW(ops:List Oper)(d:Nat):gm->gm|[]=>[]|(e,g,b,off)::r=>bif D1 ops d g then lW ops d r else bif Nat.beq e d then lW ops d r else bif Nat.beq b d then lW ops d r else (e,g,b,off)::lW ops d r
def jU(ops:List Oper)(d:Option Nat)(E:gm):gm:=
 match d with
 | none=>E
 | some d=>lW ops d E
namespace A
def al(v:a7)(p:Prop):Prop:=
 match v with
 | .agg _=>p
 | _=>False
def ey(n:Nat)(v:a7):Option a7:=
 match v with
 | .agg cs=>if cs.length=n then some (.agg cs) else none
 | _=>none
def Ec(v:a7):Option a7:=bif v.aI then some (.agg [v]) else none
def jV(h:a9)(ls:List (a7×Option Nat))(K:zQ):zQ:=
 λv h'=>(∀p∈ls,match p.2 with|none=>∃x,bX h p.1=some x /\ bX h' p.1=some x|some n=>∃x,fF h p.1 n=some x /\ fF h' p.1 n=some x) /\ K v h'
def uO(ops:List Oper)(g:Gd)(s:bB)(h:a9)(M:(zQ)->Prop)(K:zQ):Prop:=
 match g with
 | none=>M K
 | some (j,b)=>match lj ops j with
  | some t=>A.gd h (s t) b M K
  | none=>False
end A
namespace V
def cL(off:Nat)(v c:a7):Option a7:=
 match c with
 | .agg cs=>match pY off v cs with|some cs=>some (.agg cs)|none=>none
 | _=>none
def bU(off n:Nat)(v c:a7):Option a7:=
 match c with
 | .agg cs=>match mf off n v cs with|some cs=>some (.agg cs)|none=>none
 | _=>none
end V
def w7:Option (List a7)->Option a7|some cs=>some (.agg cs)|none=>none
section
variable(P:Program)(C:aC)(I:Bx)(ops:List Oper)
def pS(E:gm)(s:bB):List (Operand×TypeId)->(List (Operand×TypeId)->Prop)->Prop|[],k=>k []|(.tmp t,ty)::r,k=>bif dK I.bs t then A.al (s (I.B+t)) (pS E s r k) else bif I.clean t then pS E s r (λl=>k ((.tmp t,ty)::l)) else bif dK (E.map (·.1)) t then pS E s r k else False|q::r,k=>pS E s r (λl=>k (q::l))
def vc(E:gm)(d:Nat)(s:bB):List (Operand×TypeId)->Prop->Prop
 | [],p=>p
 | (x,_)::r,p=>match I.place E none x with
  | some (a,_)=>bif Nat.beq a d then False else A.al (s (I.B+a)) (vc E d s r p)
  | none=>False
def pc(o:Oper)(b:List (Operand×TypeId))(E:gm)(s:bB)(h:a9)(K:gm->bB->a9->Prop):Prop:=
 pS I E s b λa=>
  match a with
  | []=>vy P C ops o s h λv h=>K (jU ops o.dst E) (bW s o.dst v) h
  | a=>A.uO ops o.guard s h (λK=>fJ P C o.op s h (A.jV h (gK P s a) K)) λv h=>K (jU ops o.dst E) (bW s o.dst v) h
def Bu(d:Nat)(c:Option a7)(E:gm)(s:bB)(h:a9)(K:gm->bB->a9->Prop):Prop:=A.pv c λc=>K (lW ops d E) (bW s (some (I.B+d)) c) h
def Bn:Gd->Bool|none=>true|some _=>false
def HQ:Option Nat->Bool|none=>true|some _=>false
def x9:List (Operand×TypeId)->Bool|[]=>true|_=>false
def uL(o:Oper)(d off:Nat)(E:gm)(s:bB)(h:a9)(K:gm->bB->a9->Prop):Prop:=
 match o.dst with
 | some e=>A.al (s (I.B+d)) (A.uO ops o.guard s h (λK=>K .undef h) λ_ h=>K ((e,o.guard,d,off)::lW ops e E) (bW s (some e) .undef) h)
 | none=>False
def x6(o:Oper)(a:List (Operand×TypeId))(E:gm)(s:bB)(h:a9)(K:gm->bB->a9->Prop):Prop:=
 match o.op with
 | .alloc t=>match o.dst with
  | some d=>bif dK I.bs d then Bu I ops d (w7 (zeroOf P t)) E s h K else pc P C I ops o a E s h K
  | none=>pc P C I ops o a E s h K
 | .box t x=>match o.dst with
  | some d=>bif dK I.bs d then Bu I ops d (bif e8 P t then A.ey (P.cellsOf t) (aO s x) else A.Ec (aO s x)) E s h K else pc P C I ops o a E s h K
  | none=>pc P C I ops o a E s h K
 | .load t x=>match I.place E o.guard x with
  | some (d,off)=>(match P.underlying t with
   | none=>False
   | some _=>A.uO ops o.guard s h (λK=>A.pv (bif e8 P t then V.bM off (P.cellsOf t) (s (I.B+d)) else V.aF off (s (I.B+d))) λv=>K v h) λv h=>K (jU ops o.dst E) (bW s o.dst v) h)
  | none=>pc P C I ops o a E s h K
 | .store t x v=>match I.place E o.guard x with
  | some (d,off)=>vc I E d s a (bif e8 P t then A.pv (V.bU off (P.cellsOf t) (aO s v) (s (I.B+d))) λc=>K E (bW s (some (I.B+d)) c) h
    else bif Nat.beq (P.cellsOf t) 1 then A.pv (V.cL off (aO s v) (s (I.B+d))) λc=>K E (bW s (some (I.B+d)) c) h else False)
  | none=>pc P C I ops o a E s h K
 | .fieldAddr t x f=>match I.place E o.guard x with
  | some (d,off)=>(match P.underlying t with
   | some (.struct fs)=>(match fs[f]? with
    | some fd=>bif Nat.beq (P.cellsOf fd.type) 0 then False else uL I ops o d (off+fd.offset) E s h K
    | none=>False)
   | _=>False)
  | none=>pc P C I ops o a E s h K
 | .nilCheck x=>match I.place E o.guard x with
  | some (d,off)=>uL I ops o d off E s h K
  | none=>pc P C I ops o a E s h K
 | _=>pc P C I ops o a E s h K
def wL:List (Oper×List (Operand×TypeId))->(bB->a9->Prop)->gm->bB->a9->Prop|[],Q,_,s,h=>Q s h|(o,a)::r,Q,E,s,h=>x6 P C I ops o a E s h λE s h=>wL r Q E s h
end
section
variable(P:Program)(I:Bx)(ops:List Oper)
def iG (o : Oper) (E : gm) : gm :=
  match o.op with
  | .alloc _ | .box _ _ => match o.dst with
    | some d => bif dK I.bs d then lW ops d E else jU ops o.dst E
    | none => jU ops o.dst E
  | .store _ x _ => match I.place E o.guard x with
    | some _ => E
    | none => jU ops o.dst E
  | .fieldAddr t x f => match I.place E o.guard x with
    | some (d, off) => (match P.underlying t with
      | some (.struct fs) => (match fs[f]? with
        | some fd => (match o.dst with
          | some e => (e, o.guard, d, off + fd.offset) :: lW ops e E
          | none => E)
        | none => E)
      | _ => E)
    | none => jU ops o.dst E
  | .nilCheck x => match I.place E o.guard x with
    | some (d, off) => (match o.dst with
      | some e => (e, o.guard, d, off) :: lW ops e E
      | none => E)
    | none => jU ops o.dst E
  | _ => jU ops o.dst E
def rX(o:Oper):Bool:=o.op.operands.toList.all I.sc&&(I.zb o.dst&&I.uN ops o.guard)
def xG(o:Oper)(a:List (Operand×TypeId)):Bool:=x9 a&&(match o.dst with
 | some e=>dK I.ds e&&(!dK I.bs e&&(Nat.blt e I.B&&I.uN ops o.guard))
 | none=>false)
def Eb(o:Oper)(a:List (Operand×TypeId))(E:gm):Bool:=
 match o.op with
 | .alloc _=>match o.dst with
  | some d=>bif dK I.bs d then Bn o.guard&&(x9 a&&Nat.blt d I.B) else rX I ops o
  | none=>rX I ops o
 | .box _ x=>match o.dst with
  | some d=>bif dK I.bs d then Bn o.guard&&(x9 a&&(Nat.blt d I.B&&I.sc x)) else rX I ops o
  | none=>rX I ops o
 | .load _ x=>match I.place E o.guard x with
  | some _=>x9 a&&(I.zb o.dst&&I.uN ops o.guard)
  | none=>rX I ops o
 | .store _ x v=>match I.place E o.guard x with
  | some _=>Bn o.guard&&(I.sc v&&HQ o.dst)
  | none=>rX I ops o
 | .fieldAddr _ x _=>match I.place E o.guard x with
  | some _=>xG I ops o a
  | none=>rX I ops o
 | .nilCheck x=>match I.place E o.guard x with
  | some _=>xG I ops o a
  | none=>rX I ops o
 | _=>rX I ops o
def yV:List (Oper×List (Operand×TypeId))->gm->Bool|[],_=>true|(o,a)::r,E=>Eb I ops o a E&&yV r (iG P I ops o E)
end
def plain(l:List Oper):List (Oper×List (Operand×TypeId)):=l.map λo=>(o,[])
def drawn(l:List (Item×List (Operand×TypeId))):List (Oper×List (Operand×TypeId)):=l.map λt=>(t.1.o,t.2)
def Bb:List Item->Item->List Nat
 | [],_=>[]
 | x::r,y=>(match x.o.op with
   | .load _ _=>bif y.m.testBit x.i then [] else [x.i]
   | _=>[])++Bb r y
def zK:List Item->List Item->List (List Nat)|_,[]=>[]|seen,y::r=>(bif y.k.sq then Bb seen y else [])::zK (seen++[y]) r
def v9:List Nat->List Nat->Bool|[],[]=>true|x::r,y::s=>Nat.beq x y&&v9 r s|_,_=>false
def AK:List (List Nat)->List (List Nat)->Bool|[],[]=>true|x::r,y::s=>v9 x y&&AK r s|_,_=>false
def yR(ops:List Oper)(i:Nat):Oper:=(ops[i]?).getD default
def xt(ops:List Oper):List Nat->List (Operand×TypeId)
 | []=>[]
 | j::r=>match (yR ops j).op with
  | .load t a=>(a,t)::xt ops r
  | _=>xt ops r
def wC(ops:List Oper)(pl:List (Nat×List Nat)):List (Oper×List (Operand×TypeId)):=pl.map λq=>(yR ops q.1,xt ops q.2)
def Dy(P:Program)(ops:Array Oper)(pl:List (Nat×List Nat)):Bool:=
 match wK P ops with
 | some l=>v9 (l.map λt=>t.1.i) (pl.map λq=>q.1)&&AK (zK [] (l.map λt=>t.1)) (pl.map λq=>q.2)
 | none=>false
def Bt(k:Nat):List (Nat×List (Nat×List Nat))->Option (List (Nat×List Nat))|[]=>none|(i,l)::r=>bif Nat.beq i k then some l else Bt k r
def dM(P:Program)(C:aC)(I:Bx):Code->(Ex->bB->a9->Prop)->bB->a9->Prop
 | .skip,Q,s,h=>Q .normal s h
 | .region k ops draw,Q,s,h=>
  match draw with
  | false=>wL P C I ops.toList (plain ops.toList) (Q .normal) [] s h
  | true=>match Bt k I.pl with
   | some pl=>wL P C I ops.toList (wC ops.toList pl) (Q .normal) [] s h
   | none=>False
 | .seq a b,Q,s,h=>dM P C I a (Ex.then (dM P C I b Q) Q) s h
 | .cond c x y,Q,s,h=>A.cond (aO s c) (dM P C I x Q s h) (dM P C I y Q s h)
 | .block id b,Q,s,h=>dM P C I b (Ex.inBlock id Q) s h
 | .loop c,Q,s,h=>∀X:bB->a9->Prop,(∀s h,dM P C I c (Ex.then X Q) s h->X s h)->X s h
 | .exit id,Q,s,h=>Q (.exit id) s h
 | .ret,Q,s,h=>Q .ret s h
 | .scope c,Q,s,h=>dM P C I c Q s h
 | .label _,Q,s,h=>Q .normal s h
 | .rangeFunc g ps a b,Q,s,h=>∀sz,y9 C (aO s g) (sr sz (jX (jr ps.toList a b) s) ps a b)
   (λxs h1 E=>xs.length=ps.size /\ dM P C I a (Ex.then (dM P C I b λe _ d=>E (jn e) d) λ_ _ _=>False) (lV ps.toList xs (jX (jr ps.toList a b) s)) h1) h λj d=>Q (uM j) s d
 | _,_,_,_=>False
def rU(P:Program)(I:Bx)(h:a9)(s:bB):List ResultVar->Option (List a7)
 | []=>some []
 | .tmp t::r=>bif I.clean t then cJ (some (s t)) (rU P I h s r) else none
 | .cell t ty::r=>bif dK I.bs t then (match P.underlying ty with
   | none=>none
   | some _=>cJ (bif e8 P ty then V.bM 0 (P.cellsOf ty) (s (I.B+t)) else V.aF 0 (s (I.B+t))) (rU P I h s r)) else (bif I.clean t then cJ (xp P h (s t) ty) (rU P I h s r) else none)
def pb(P:Program)(I:Bx)(rs:List ResultVar)(Q:zQ):Ex->bB->a9->Prop | .ret,s,h | .normal,s,h=>A.pv (oneOf (rU P I h s rs)) λv=>Q v h | .exit _,_,_=>False
def np(P:Program)(I:Bx):Code->Bool
 | .region k ops draw=>match draw with
  | false=>yV P I ops.toList (plain ops.toList) []
  | true=>match Bt k I.pl with
   | some pl=>Dy P ops pl&&yV P I ops.toList (wC ops.toList pl) []
   | none=>false
 | .seq a b=>np P I a&&np P I b
 | .cond c a b=>I.sc c&&(np P I a&&np P I b)
 | .block _ b=>np P I b
 | .loop b=>np P I b
 | .scope b=>np P I b
 | .rangeFunc g ps a b=>I.sc g&&((jr ps.toList a b).all I.clean&&ps.toList.all I.clean)&&(np P I a&&np P I b)
 | _=>true
structure wI(C:aC):Prop where
 mono:gD C
 frame:∀f args (h' h:a9) (K:zQ),h'.le h->C f args h' K->C f args h λv h1=>∃fl,K v fl /\ fl.le h1 /\ Fr h' h fl h1
def a9.join(h' h fl:a9):a9:=⟨λid=>match fl id with
 | some b=>some b
 | none=>match h' id with
  | none=>h id
  | some _=>none,by
 obtain⟨N,k⟩:=h.2
 obtain⟨M,m⟩:=fl.2
 refine⟨max N M,λi hi=>?_⟩
 have e1:fl i=none:=m i (by omega)
 have a:h i=none:=k i (by omega)
 simp only[e1,a]
 split<;>rfl⟩
theorem HC(P:Program):wI (AC P) where
 mono:=sw P
 frame:=by
  intro f args h' h K hle x;intro w0 ρ H w va h1 k j;refine(x w0 ρ H w va (a9.le_trans hle h1) k j).mono λe w' ⟨v,e1,d⟩=>⟨v,e1,?_⟩;obtain⟨a,ρ',fl,H1,k1,k2,k3,k4,k5,k6⟩:=d.ex;have i:∀id b,a9.join h' h fl id=some b->fl id=some b \/ (fl id=none /\ h' id=none /\ h id=some b):=λid b hb=>by
   simp only[a9.join]at hb;split at hb
   ·rename_i g e;exact .inl (by rw[e];exact hb)
   ·rename_i e
    split at hb
    ·rename_i l;exact .inr ⟨e,l,hb⟩
    ·cases hb
  refine⟨⟨a,ρ',a9.join h' h fl,H1,k1,k2,⟨fl,k3,?_,?_⟩,?_,?_,k6⟩⟩
  ·intro id b hb
   simp only[a9.join,hb]
  ·intro id h0 b hb
   obtain⟨m1,m2⟩:=k5 id h0 b (h1 id b hb);exact⟨by simp only[a9.join,m2,h0,hb],m2⟩
  ·intro id b hb
   rcases i id b hb with e|⟨_,d,e3⟩
   ·exact k4 id b e
   ·exact(k5 id d b (h1 id b e3)).1
  ·intro id h0 b hb
   have c:h' id=none:=by
    cases e:h' id with
    | none=>rfl
    | some g=>rw[hle id g e]at h0;cases h0
   obtain⟨m1,m2⟩:=k5 id c b hb;exact⟨m1,by simp only[a9.join,m2,c,h0]⟩
def erase(h:a9)(id:Nat):a9:=⟨λi=>bif Nat.beq i id then none else h i,by
 obtain⟨N,k⟩:=h.2
 refine⟨N,λi hi=>?_⟩
 have e:h i=none:=k i hi
 show (bif Nat.beq i id then none else h i)=none
 rw[e];cases Nat.beq i id<;>rfl⟩
theorem MF(h:a9)(id:Nat):erase h id id=none:=by
 show (bif Nat.beq id id then none else h id)=none;rw[Nat.beq_refl];rfl
theorem CA(h:a9){id i:Nat}(hi:i≠id):erase h id i=h i:=by
 show (bif Nat.beq i id then none else h i)=h i;rw[show Nat.beq i id=false from by rw[<-Bool.not_eq_true,Nat.beq_eq];exact hi];rfl
theorem Lc{h:a9}{id:Nat}{b:fB}(hb:h id=some b):(bQ (erase h id) id b).le h:=λi c a=>by
 by_cases e:i=id
 ·subst e;rw[dR]at a;rw[hb];exact a
 ·rw[cQ _ _ e,CA _ e]at a;exact a
theorem HD{P:Program}{f:Nat}{args:List a7}{h:a9}{Q:zQ}(x:AC P f args h λv h=>∃h',Q v h' /\ h'.le h):AC P f args h Q:=by
 intro w0 ρ H w va h1 i g;refine(x w0 ρ H w va h1 i g).mono λe w' ⟨v,e1,j⟩=>⟨v,e1,?_⟩;obtain⟨a,ρ',fl,H1,k1,k2,⟨c,k3,d⟩,k4,k5,k6⟩:=j.ex;refine⟨⟨a,ρ',c,H1,k1,k2,k3,a9.le_trans d k4,λid h0 b hb=>?_,k6⟩⟩;obtain⟨m1,m2⟩:=k5 id h0 b hb;refine⟨m1,?_⟩;cases e:c id with
 | none=>rfl
 | some k=>rw[d id k e]at m2;cases m2
theorem MS{C:aC}(i:wI C){h' h:a9}{K:zQ}{x:Sh}(hle:h'.le h)(d:x.known h')(hx:x.run C h' K):x.run C h λv h1=>∃fl,K v fl /\ fl.le h1 /\ Fr h' h fl h1:=by
 cases x with
 | val v=>exact⟨h',hx,hle,Fr.refl h' h⟩
 | heap id b v=>
  obtain⟨j,c⟩:=d;exact⟨bQ h' id b,hx,mc b hle,Fr.bQ c⟩
 | many id l=>
  obtain⟨j,c⟩:=d;exact λp g=>⟨bQ h' id p.1,hx p g,mc p.1 hle,Fr.bQ c⟩
 | new b mk=>
  intro id a;have h0:h' id=none:=by
   cases e:h' id with
   | none=>rfl
   | some k=>rw[hle id k e]at a;cases a
  exact⟨bQ h' id b,hx id h0,mc b hle,Fr.fresh a⟩
 | call f args=>exact i.frame _ _ _ _ _ hle hx
 | fail=>exact hx
structure jE(I:Bx)(s':bB)(h':a9)(s:bB)(h:a9)(β:Nat->Nat):Prop where
 le:h'.le h
 cl:∀k,I.clean k=true->s' k=s k
 bx:∀d cs,dK I.bs d=true->s' (I.B+d)= .agg cs->s d= .ptr (β d) 0 0 /\ h (β d)=some (cG cs) /\ h' (β d)=none
 ap:∀d e cs fq,dK I.bs d=true->dK I.bs e=true->d≠e->s' (I.B+d)= .agg cs->s' (I.B+e)= .agg fq->β d≠β e
def AU(ops:List Oper)(s:bB)(g:Gd):Prop:=∃j b t,g=some (j,b) /\ lj ops j=some t /\ s t≠ .bool b
def Ee(ops:List Oper)(s:bB)(g:Gd):Prop:=∀j b,g=some (j,b)->∃t,lj ops j=some t /\ s t= .bool b
structure PZ(I:Bx)(ops:List Oper)(s' s:bB)(β:Nat->Nat)(e:Nat)(g:Gd)(d off:Nat):Prop where
 xF:dK I.bs d=true
 Bv:dK I.ds e=true
 BB:dK I.bs e=false
 lt:e<I.B
 al:∃cs,s' (I.B+d)= .agg cs
 at_:s e= .ptr (β d) 0 off \/ (s e= .bI [] /\ AU ops s g)
def mI(I:Bx)(ops:List Oper)(E:gm)(s' s:bB)(β:Nat->Nat):Prop:=∀e g d off,(e,g,d,off)∈E->PZ I ops s' s β e g d off
theorem uj{I:Bx}{k:Nat}(h:I.clean k=true):k<I.B /\ dK I.bs k=false /\ dK I.ds k=false:=by
 simp only[Bx.clean,Bool.and_eq_true,Bool.not_eq_true',Nat.blt_eq]at h;exact h
theorem wY{a b:Nat}(h:a≠b):Nat.beq a b=false:=by rw[<-Bool.not_eq_true,Nat.beq_eq];exact h
theorem yw{a b:Nat}(h:Nat.beq a b=true):a=b:=Nat.eq_of_beq_eq_true h
theorem zU{ops:List Oper}{d:Nat}:∀{E:gm}{e:Nat}{g:Gd}{b off:Nat},(e,g,b,off)∈lW ops d E->(e,g,b,off)∈E /\ e≠d /\ b≠d /\ ∀j x,g=some (j,x)->lj ops j≠some d
 | [],_,_,_,_,h=>by simp[lW]at h
 | (f,g',i,off')::r,e,g,b,off,h=>by
  unfold lW at h
  have rec_:(e,g,b,off)∈lW ops d r->(e,g,b,off)∈(f,g',i,off')::r /\ e≠d /\ b≠d /\ ∀j x,g=some (j,x)->lj ops j≠some d:=λh=>by
   obtain⟨k1,k2⟩:=zU h
   exact⟨mem_cons_of_mem _ k1,k2⟩
  cases a:D1 ops d g' with
  | true=>rw[a]at h;exact rec_ h
  | false=>
   rw[a]at h
   cases he:Nat.beq f d with
   | true=>rw[he]at h;exact rec_ h
   | false=>
    rw[he]at h
    cases hb:Nat.beq i d with
    | true=>rw[hb]at h;exact rec_ h
    | false=>
     rw[hb]at h
     rcases mem_cons.1 h with h|h
     ·cases h
      refine⟨mem_cons_self ..,λc=>?_,λc=>?_,λj x l k=>?_⟩
      ·rw[c,Nat.beq_refl]at he;cases he
      ·rw[c,Nat.beq_refl]at hb;cases hb
      ·subst l
       simp only[D1,k,HH,Nat.beq_refl]at a
       cases a
     ·exact rec_ h
theorem KN{ops:List Oper}{s:bB}{a b:Gd}(h:xf a b=true)(hb:Ee ops s b)(d:AU ops s a):False:=by
 obtain⟨j,x,t,e1,c,e3⟩:=d;subst e1;cases b with
 | none=>cases x<;>simp[xf]at h
 | some p=>
  obtain⟨i,y⟩:=p;obtain⟨e,k1,k2⟩:=hb i y rfl;cases x<;>cases y<;>simp only[xf]at h
  ·have:=yw h;subst this;rw[c]at k1;cases k1;exact e3 k2
  ·cases h
  ·cases h
  ·have:=yw h;subst this;rw[c]at k1;cases k1;exact e3 k2
section
variable{P:Program}{C:aC}{I:Bx}{ops:List Oper}{E:gm}{s' s:bB}{h' h:a9}{β:Nat->Nat}
theorem find_spec{g:Gd}{t d off:Nat}:∀{E:gm},Bx.find g t E=some (d,off)->∃g',(t,g',d,off)∈E /\ xf g' g=true
 | [],h=>by simp[Bx.find]at h
 | (e,g',b,off')::r,h=>by
  unfold Bx.find at h
  cases he:Nat.beq e t with
  | true=>
   rw[he]at h
   cases a:xf g' g with
   | true=>
    rw[a]at h
    cases h
    have:=yw he
    subst this
    exact⟨g',mem_cons_self ..,a⟩
   | false=>rw[a]at h;cases h
  | false=>
   rw[he]at h
   obtain⟨g',k1,k2⟩:=find_spec h
   exact⟨g',mem_cons_of_mem _ k1,k2⟩
theorem Az{g:Gd}{x:Operand}{d off:Nat}(b:mI I ops E s' s β)(a:I.place E g x=some (d,off)):dK I.bs d=true:=by
 cases x<;>(try (simp[Bx.place]at a;done));rename_i t;simp only[Bx.place]at a;cases hb:dK I.bs t with
 | true=>rw[hb]at a;cases a;exact hb
 | false=>
  rw[hb]at a;obtain⟨g',k1,_⟩:=find_spec a;exact(b _ _ _ _ k1).xF
theorem CG{g:Gd}{x:Operand}{d off:Nat}{cs:List a7}(f:jE I s' h' s h β)(i:mI I ops E s' s β)(a:I.place E g x=some (d,off))(c:s' (I.B+d)= .agg cs)(b:Ee ops s g):aO s x= .ptr (β d) 0 off:=by
 cases x<;>(try (simp[Bx.place]at a;done));rename_i t;simp only[Bx.place]at a;cases hb:dK I.bs t with
 | true=>
  rw[hb]at a;cases a;exact(f.bx _ _ hb c).1
 | false=>
  rw[hb]at a;obtain⟨g',k1,k2⟩:=find_spec a;rcases (i _ _ _ _ k1).at_ with e|⟨_,e⟩
  ·exact e
  ·exact(KN k2 b e).elim
theorem G0{x:Operand}{d off:Nat}{cs:List a7}(c:jE I s' h' s h β)(f:mI I ops E s' s β)(a:I.place E none x=some (d,off))(b:s' (I.B+d)= .agg cs):aO s x= .ptr (β d) 0 off:=
 CG c f a b λ_ _ e=>by cases e
theorem Dx{dst:Option Nat}{v:a7}{fl h1:a9}(f:jE I s' h' s h β)(j:I.zb dst=true)(hle:fl.le h1)(l:Fr h' h fl h1):jE I (bW s' dst v) fl (bW s dst v) h1 β:=by
 have i:∀k,(∀d,dst=some d->k≠d)->bW s' dst v k=s' k /\ bW s dst v k=s k:=λk hk=>by
  cases dst with
  | none=>exact⟨rfl,rfl⟩
  | some d=>exact⟨gQ _ _ (hk d rfl),gQ _ _ (hk d rfl)⟩
 have m:∀d,I.B+d≠dst.getD (I.B+d+1):=λd=>by
  cases dst with
  | none=>simp
  | some e=>have:=(uj (I:=I) (k:=e) j).1;simp;omega
 have c:∀d,bW s' dst v (I.B+d)=s' (I.B+d):=λd=>(i _ λe he=>by subst he;exact m d).1;refine⟨hle,λk hk=>?_,λd cs hb b=>?_,λd e cs fq hb he g b a=>?_⟩
 ·cases dst with
  | none=>exact f.cl k hk
  | some d=>
   by_cases e:k=d
   ·subst e;rw[tv,tv]
   ·rw[gQ _ _ e,gQ _ _ e];exact f.cl k hk
 ·rw[c]at b
  obtain⟨k1,k2,k3⟩:=f.bx d cs hb b;obtain⟨m1,m2⟩:=l _ k3 _ k2;refine⟨?_,m1,m2⟩;rw[(i d λe he=>?_).2]
  ·exact k1
  ·subst he
   intro n;subst n;have:=(uj (I:=I) (k:=d) j).2.1;rw[this]at hb;cases hb
 ·rw[c]at b a
  exact f.ap d e cs fq hb he g b a
theorem Dt{dst:Option Nat}{v:a7}(c:mI I ops E s' s β)(l:I.zb dst=true):mI I ops (jU ops dst E) (bW s' dst v) (bW s dst v) β:=by
 cases dst with
 | none=>exact c
 | some d=>
  intro e g b off hm;obtain⟨k1,k2,k3,k4⟩:=zU hm;have a:=c _ _ _ _ k1;have i:=(uj (I:=I) (k:=d) l).1;refine⟨a.xF,a.Bv,a.BB,a.lt,?_,?_⟩
  ·rw[gQ _ _ (by omega)];exact a.al
  ·rw[gQ _ _ k2]
   rcases a.at_ with e|⟨e,j,x,t,e1,f,e3⟩
   ·exact .inl e
   ·refine .inr ⟨e,j,x,t,e1,f,?_⟩
    rw[gQ]
    ·exact e3
    ·intro h;subst h;exact k4 j x e1 f
theorem vZ(a:jE I s' h' s h β){x:Operand}(hx:I.sc x=true):aO s' x=aO s x:=by
 cases x<;>(try rfl);exact a.cl _ hx
theorem Dp{o:Oper}{K:zQ}{M:(zQ)->Prop}(f:jE I s' h' s h β)(hG:I.uN ops o.guard=true)(hx:A.uO ops o.guard s' h' M K):
  ((∀H,cN P ops o s H=dT P o.op (aO s) H) /\ M K /\ Ee ops s o.guard) \/ ((∀H,cN P ops o s H= .val (.bI [])) /\ K (.bI []) h' /\ AU ops s o.guard):=by
 unfold cN;cases d:o.guard with
 | none=>
  rw[d]at hx;exact .inl ⟨λ_=>rfl,hx,λ_ _ e=>by cases e⟩
 | some p=>
  obtain⟨j,b⟩:=p;rw[d]at hx hG;simp only[A.uO,Bx.uN]at hx hG;cases a:lj ops j with
  | none=>rw[a]at hx;exact hx.elim
  | some t=>
   rw[a]at hx hG;simp only at hx hG ⊢;rw[f.cl t hG]at hx;cases c:s t<;>rw[c]at hx<;>(try exact hx.elim)
   ·rename_i k
    simp only[A.gd]at hx;by_cases e:k=b
    ·refine .inl ⟨λ_=>by simp[a,c,e],hx.1 e,λm i g=>?_⟩
     cases g;exact⟨t,a,by rw[c,e]⟩
    ·exact .inr ⟨λ_=>by simp[a,c,e],hx.2 e,j,b,t,rfl,a,by rw[c];simpa using e⟩
   ·rename_i l
    cases l with
    | nil=>exact .inr ⟨λ_=>by simp[a,c],hx,j,b,t,rfl,a,by rw[c];simp⟩
    | cons _ _=>exact hx.elim
theorem FG{o:Oper}(a:jE I s' h' s h β)(d:o.op.operands.toList.all I.sc=true)(hG:I.uN ops o.guard=true)(H:a9):cN P ops o s' H=cN P ops o s H:=by
 have h1:∀x∈o.op.operands,aO s' x=aO s x:=λx hx=>vZ a (all_eq_true.1 d x (by simpa using hx));unfold cN;split
 ·exact xY h1
 ·rename_i j b e
  rw[e]at hG;simp only[Bx.uN]at hG;cases c:lj ops j with
  | none=>rfl
  | some t=>
   rw[c]at hG;simp only[a.cl t hG];split
   ·split
    ·exact xY h1
    ·rfl
   ·rfl
   ·rfl
def Goal(P:Program)(C:aC)(I:Bx)(ops:List Oper)(o:Oper)(b:List (Operand×TypeId))(E:gm)(s:bB)(h:a9)(K:gm->bB->a9->Prop):Prop:=(cN P ops o s h).run C h (A.dQ h (gK P s b) λv h1=>∃a fl β1,jE I a fl (bW s o.dst v) h1 β1 /\ mI I ops (iG P I ops o E) a (bW s o.dst v) β1 /\ K (iG P I ops o E) a fl)
theorem C9(m:jE I s' h' s h β)(o:mI I ops E s' s β):∀(p:List (Operand×TypeId))(k:List (Operand×TypeId)->Prop),pS I E s' p k ->
  ∃c,k c /\ (∀q∈c,I.sc q.1=true) /\ ∀q∈p,q∈c \/ (∃id,aO s q.1= .bI [] \/ ∃off b,aO s q.1= .ptr id 0 off /\ h id=some b /\ h' id=none)
 | [],k,hx=>⟨[],hx,λ_ h=>(by cases h),λ_ h=>(by cases h)⟩
 | (x,ty)::r,k,hx=>by
  have other:I.sc x=true->pS I E s' r (λl=>k ((x,ty)::l))->∃c,k c /\ (∀q∈c,I.sc q.1=true) /\ ∀q∈(x,ty)::r,q∈c \/ (∃id,aO s q.1= .bI [] \/ ∃off b,aO s q.1= .ptr id 0 off /\ h id=some b /\ h' id=none):=λy hx=>by
   obtain⟨l,k1,k2,k3⟩:=C9 m o r _ hx;refine⟨(x,ty)::l,k1,λq f=>?_,λq f=>?_⟩
   ·rcases mem_cons.1 f with rfl|f
    ·exact y
    ·exact k2 q f
   ·rcases mem_cons.1 f with rfl|f
    ·exact .inl (mem_cons_self ..)
    ·rcases k3 q f with e|e
     ·exact .inl (mem_cons_of_mem _ e)
     ·exact .inr e
  have skip:(∃id,aO s x= .bI [] \/ ∃off b,aO s x= .ptr id 0 off /\ h id=some b /\ h' id=none)->pS I E s' r k->∃c,k c /\ (∀q∈c,I.sc q.1=true) /\ ∀q∈(x,ty)::r,q∈c \/ (∃id,aO s q.1= .bI [] \/ ∃off b,aO s q.1= .ptr id 0 off /\ h id=some b /\ h' id=none):=λw hx=>by
   obtain⟨l,k1,k2,k3⟩:=C9 m o r _ hx;refine⟨l,k1,k2,λq f=>?_⟩;rcases mem_cons.1 f with rfl|f
   ·exact .inr w
   ·exact k3 q f
  cases x<;>(try exact other rfl hx);rename_i t;simp only[pS]at hx;cases hb:dK I.bs t with
  | true=>
   rw[hb]at hx;simp only[cond_true,A.al]at hx;split at hx
   ·rename_i cs j
    obtain⟨k1,k2,k3⟩:=m.bx t cs hb j;exact skip ⟨β t,.inr ⟨0,_,k1,k2,k3⟩⟩ hx
   ·exact hx.elim
  | false=>
   rw[hb]at hx;simp only[cond_false]at hx;cases j:I.clean t with
   | true=>rw[j]at hx;exact other j hx
   | false=>
    rw[j]at hx;simp only[cond_false]at hx;cases hm:dK (E.map (·.1)) t with
    | false=>rw[hm]at hx;exact hx.elim
    | true=>
     rw[hm]at hx;have:∃g d off,(t,g,d,off)∈E:=by
      have mem:∀(E:gm),dK (E.map (·.1)) t=true->∃g d off,(t,g,d,off)∈E:=by
       intro E
       induction E with
       | nil=>intro h;simp[dK]at h
       | cons a r v=>
        intro h;simp only[map_cons,dK]at h;cases u:Nat.beq a.1 t with
        | true=>
         have:=yw u;obtain⟨D,C,B,z⟩:=a;simp only at this;subst this;exact⟨C,B,z,mem_cons_self ..⟩
        | false=>
         rw[u]at h;obtain⟨g,d,off,k⟩:=v h;exact⟨g,d,off,mem_cons_of_mem _ k⟩
      exact mem E hm
     obtain⟨g,d,off,i⟩:=this;have a:=o _ _ _ _ i;obtain⟨cs,n⟩:=a.al;obtain⟨_,k2,k3⟩:=m.bx d cs a.xF n;rcases a.at_ with e|⟨e,_⟩
     ·exact skip ⟨β d,.inr ⟨off,_,e,k2,k3⟩⟩ hx
     ·exact skip ⟨0,.inl e⟩ hx
theorem Gu{H H1:a9}{p:a7}{n:Option Nat}{id:Nat}(a:p= .bI [] \/ ∃off,p= .ptr id 0 off)(he:H1 id=H id):sameAt H1 H (p,n):=by
 rcases a with rfl|⟨off,rfl⟩<;>cases n<;>simp[sameAt,A.bX,A.fF,he]
theorem Nv(D:wI C){o:Oper}{m:List (Operand×TypeId)}{K:gm->bB->a9->Prop}(a:jE I s' h' s h β)(B:mI I ops E s' s β)(f:rX I ops o=true)(y:iG P I ops o E=jU ops o.dst E)(hx:pc P C I ops o m E s' h' K):Goal P C I ops o m E s h K:=by
 unfold pc at hx;simp only[rX,Bool.and_eq_true]at f;obtain⟨t,i,hG⟩:=f;obtain⟨d,hx,z,w⟩:=C9 a B m _ hx;have H1:(cN P ops o s' h').run C h' (A.jV h' (gK P s' d) λv h1=>K (jU ops o.dst E) (bW s' o.dst v) h1) \/ ((∀H,cN P ops o s H= .val (.bI [])) /\ K (jU ops o.dst E) (bW s' o.dst (.bI [])) h'):=by
  cases d with
  | nil=>
   refine .inl (ng D.mono (λv h1 k=>⟨λp g=>(by cases g),k⟩) (xc.1 hx))
  | cons q r=>
   rcases Dp (P:=P) (o:=o) a hG hx with⟨k1,k2,k3⟩|⟨k1,k2,k3⟩
   ·refine .inl ?_
    have:=u5.1 k2;rw[show cN P ops o s' h'=dT P o.op (aO s') h' from ?_]
    ·exact this
    ·rw[FG a t hG,k1]
     exact(xY λx hx=>vZ a (all_eq_true.1 t x (by simpa using hx))).symm
   ·exact .inr ⟨k1,k2⟩
 unfold Goal;rw[y];rcases H1 with H1|⟨k1,k2⟩
 ·rw[FG a t hG]at H1
  have u:cN P ops o s h'≠ .fail:=λe=>by rw[e]at H1;exact H1
  rw[yd a.le u];refine ng D.mono (λv h1 ⟨fl,⟨G,m1⟩,m2,m3⟩=>⟨λp g=>?_,_,fl,β,Dx a i m2 m3,Dt B i,m1⟩) (MS D a.le Fe H1);simp only[gK,mem_map]at g;obtain⟨q,c,rfl⟩:=g;rcases w q c with c|⟨id,c⟩
  ·have:=G (aO s' q.1,bif e8 P q.2 then some (P.cellsOf q.2) else none) (mem_map.2 ⟨q,c,rfl⟩)
   rw[vZ a (z q c)]at this;cases F:(bif e8 P q.2 then some (P.cellsOf q.2) else none) with
   | none=>
    rw[F]at this;obtain⟨x,l,j⟩:=this;simp only;rw[vA m2 j,vA a.le l]
   | some n=>
    rw[F]at this;obtain⟨x,l,j⟩:=this;simp only;rw[AM m2 j,AM a.le l]
  ·rcases c with e|⟨off,b,e,e1,J⟩
   ·rw[e]
    cases (bif e8 P q.2 then some (P.cellsOf q.2) else none)<;>simp[A.bX,A.fF]
   ·exact Gu (id:=id) (.inr ⟨off,e⟩) (by rw[(m3 id J b e1).1,e1])
 ·rw[k1]
  exact⟨λp _=>sameAt.refl h p,_,h',β,Dx a i a.le (Fr.refl h' h),Dt B i,k2⟩
end
section
variable{P:Program}{C:aC}{I:Bx}{ops:List Oper}{E:gm}{s' s:bB}{h' h:a9}{β:Nat->Nat}
theorem HB{v:a7}{p:Prop}(h:A.al v p):(∃cs,v= .agg cs) /\ p:=by
 unfold A.al at h;split at h
 ·exact⟨⟨_,rfl⟩,h⟩
 ·exact h.elim
theorem Pn{d:Option Nat}(a:HQ d=true):d=none:=by
 cases d with
 | none=>rfl
 | some _=>cases a
theorem Dr{g:Gd}(a:Bn g=true):g=none:=by
 cases g with
 | none=>rfl
 | some _=>cases a
theorem yk{a:List (Operand×TypeId)}(hk:x9 a=true):a=[]:=by
 cases a with
 | nil=>rfl
 | cons _ _=>cases hk
theorem G9{o:Oper}{d:Nat}{z:Option (List a7)}{c:Option a7}{K:gm->bB->a9->Prop}(r:jE I s' h' s h β)(N:mI I ops E s' s β)
  (L:o.dst=some d) (hb:dK I.bs d=true) (H:d<I.B) (A:cN P ops o s h=Sh.bL z λid=> .ptr id 0 0) (M:∀v,c=some v->∃cs,v= .agg cs /\ z=some cs) (D:iG P I ops o E=lW ops d E) (hx:Bu I ops d c E s' h' K):Goal P C I ops o [] E s h K:=by
 unfold Bu at hx;obtain⟨v,h1,O⟩:=aK hx;obtain⟨cs,rfl,rfl⟩:=M v h1;unfold Goal;rw[A,L,D];intro id i;refine⟨λp G=>(by cases G),_,h',λk=>bif Nat.beq k d then id else β k,?_,?_,O⟩
 ·have n:∀{k fq},dK I.bs k=true->s' (I.B+k)= .agg fq->β k≠id:=λhk f e=>by
   have:=(r.bx _ _ hk f).2.1;rw[e,i]at this;cases this
  have y:∀{k},k≠d->bW s' (some (I.B+d)) (.agg cs) (I.B+k)=s' (I.B+k):=λhk=>gQ _ _ (by omega);refine⟨a9.le_trans r.le (hU _ i),λk hk=>?_,λk fq hk f=>?_,λk e F cs2 hk he q m l=>?_⟩
  ·have w:=uj hk
   rw[gQ _ _ (by omega),gQ]
   ·exact r.cl k hk
   ·intro e;subst e;rw[hb]at w;exact absurd w.2.1 (by simp)
  ·by_cases e:k=d
   ·subst e
    rw[tv]at f ⊢;cases f;simp only[Nat.beq_refl,cond_true];refine⟨trivial,dR ..,?_⟩;cases e:h' id with
    | none=>rfl
    | some b=>rw[r.le _ _ e]at i;cases i
   ·rw[y e]at f
    obtain⟨k1,k2,k3⟩:=r.bx k fq hk f;simp only[wY e,cond_false];refine⟨?_,?_,k3⟩
    ·rw[gQ _ _ e];exact k1
    ·rw[cQ _ _ (n hk f)];exact k2
  ·show (bif Nat.beq k d then id else β k)≠bif Nat.beq e d then id else β e
   by_cases e1:k=d
   ·subst e1
    rw[y (Ne.symm q)]at l;rw[Nat.beq_refl,wY (Ne.symm q)];exact(n he l).symm
   ·by_cases u:e=d
    ·subst u
     rw[y e1]at m;rw[Nat.beq_refl,wY e1];exact n hk m
    ·rw[y e1]at m
     rw[y u]at l;rw[wY e1,wY u];exact r.ap k e F cs2 hk he q m l
 ·intro e g b off hm
  obtain⟨k1,k2,k3,k4⟩:=zU hm;have a:=N _ _ _ _ k1;refine⟨a.xF,a.Bv,a.BB,a.lt,?_,?_⟩
  ·rw[gQ _ _ (by omega)];exact a.al
  ·simp only[wY k3,cond_false]
   rw[gQ _ _ k2];rcases a.at_ with e|⟨e,j,x,t,e1,u,e3⟩
   ·exact .inl e
   ·refine .inr ⟨e,j,x,t,e1,u,?_⟩
    rw[gQ]
    ·exact e3
    ·intro J;subst J;exact k4 j x e1 u
theorem M8{o:Oper}{t:TypeId}{x:Operand}{d off:Nat}{K:gm->bB->a9->Prop}(c:jE I s' h' s h β)(j:mI I ops E s' s β)(n:o.op= .load t x)(e:I.place E o.guard x=some (d,off))
  (k:I.zb o.dst=true) (hG:I.uN ops o.guard=true) (g:iG P I ops o E=jU ops o.dst E) {u:TypeDesc} (hu:P.underlying t=some u)
  (hx:A.uO ops o.guard s' h' (λK=>A.pv (bif e8 P t then V.bM off (P.cellsOf t) (s' (I.B+d)) else V.aF off (s' (I.B+d))) λv=>K v h') λv h=>K (jU ops o.dst E) (bW s' o.dst v) h):Goal P C I ops o [] E s h K:=by
 unfold Goal;rw[g];have fin:∀v,K (jU ops o.dst E) (bW s' o.dst v) h'->(A.dQ h (gK P s []) λv h1=>∃a fl β1,jE I a fl (bW s o.dst v) h1 β1 /\ mI I ops (jU ops o.dst E) a (bW s o.dst v) β1 /\ K (jU ops o.dst E) a fl) v h:=λv hk=>
  ⟨λp e=>(by cases e),_,h',β,Dx c k c.le (Fr.refl h' h),Dt j k,hk⟩
 rcases Dp (P:=P) (o:=o) c hG hx with⟨k1,k2,k3⟩|⟨k1,k2,k3⟩
 ·obtain⟨v,h1,q⟩:=aK k2
  have hb:=Az j e;have i:∃cs,s' (I.B+d)= .agg cs:=by
   cases m:s' (I.B+d) with
   | agg cs=>exact⟨cs,rfl⟩
   | _=>rw[m]at h1;cases f:e8 P t<;>rw[f]at h1<;>simp[V.bM,V.aF]at h1
  obtain⟨cs,b⟩:=i;have l:=CG c j e b k3;obtain⟨_,m2,_⟩:=c.bx d cs hb b;rw[b]at h1;rw[k1,n];simp only[dT,hu,l];have e1:A.fF h (.ptr (β d) 0 off) (P.cellsOf t)=V.bM off (P.cellsOf t) (.agg cs):=by
   simp only[A.fF,m2,cG,List.lookup,beq_self_eq_true,V.bM]
  have r:A.bX h (.ptr (β d) 0 off)=V.aF off (.agg cs):=by
   simp only[A.bX,m2,cG,List.lookup,beq_self_eq_true,V.aF];split
   ·rfl
   ·rw[getElem?_eq_none (by omega)]
  rw[e1,r]
  have:(bif e8 P t then Sh.pv (V.bM off (P.cellsOf t) (.agg cs)) else Sh.pv (V.aF off (.agg cs)))= .val v:=by
   cases f:e8 P t<;>rw[f]at h1<;>simp only[cond_true,cond_false]at h1 ⊢ <;>rw[h1]<;>rfl
  rw[this];exact fin v q
 ·rw[k1];exact fin _ k2
theorem NL{off:Nat}{v:a7}{cs fq:List a7}(h:V.pY off v cs=some fq):off<cs.length /\ fq.length=cs.length:=by
 unfold V.pY at h;cases b:v.aI with
 | false=>rw[b]at h;cases h
 | true=>
  rw[b]at h;simp only[cond_true]at h;split at h
  ·rename_i a;cases h;exact⟨a,by simp⟩
  ·cases h
theorem NK{off n:Nat}{v:a7}{cs fq:List a7}(h:V.mf off n v cs=some fq):off+n <= cs.length /\ fq.length=cs.length:=by
 unfold V.mf at h;split at h
 ·split at h
  ·rename_i a;cases h;exact⟨a.2,by simp;omega⟩
  ·cases h
 ·cases h
theorem Gr{id off n:Nat}{cs fq:List a7}{f:List a7->Option (List a7)}(hb:h id=some (cG cs))(b:f cs=some fq)(hle:off+n <= cs.length)(a:fq.length=cs.length):
  Sh.st h (.ptr id 0 off) f n 0 .undef= .heap id (cG fq) .undef:=by
 have h1:Nat.ble (0+off+n) cs.length=true:=by rw[Nat.ble_eq];omega
 simp only[Sh.st,hb,cG,List.lookup,beq_self_eq_true,Bool.true_and,h1,cond_true,b,a]
theorem EY{d:Nat}(j:jE I s' h' s h β)(g:mI I ops E s' s β):∀(i:List (Operand×TypeId))(p:Prop),vc I E d s' i p ->
  p /\ ∀q∈i,∃b off' cs2,dK I.bs b=true /\ b≠d /\ s' (I.B+b)= .agg cs2 /\ aO s q.1= .ptr (β b) 0 off'
 | [],p,hx=>⟨hx,λ_ h=>(by cases h)⟩
 | (x,ty)::r,p,hx=>by
  simp only[vc]at hx
  split at hx
  ·rename_i b off' c
   cases he:Nat.beq b d with
   | true=>rw[he]at hx;exact hx.elim
   | false=>
    rw[he]at hx
    obtain⟨⟨cs2,a⟩,hx⟩:=HB hx
    obtain⟨k1,k2⟩:=EY j g r p hx
    refine⟨k1,λq f=>?_⟩
    rcases mem_cons.1 f with rfl|f
    ·exact⟨b,off',cs2,Az g c,(λe=>by rw[e,Nat.beq_refl]at he;cases he),a,G0 j g c a⟩
    ·exact k2 q f
  ·exact hx.elim
theorem Ld{o:Oper}{t:TypeId}{x y:Operand}{d off:Nat}{G:List (Operand×TypeId)}{K:gm->bB->a9->Prop}(m:jE I s' h' s h β)(D:mI I ops E s' s β)(ho:o.op= .store t x y)(hg:o.guard=none)(W:I.place E none x=some (d,off))
  (hy:I.sc y=true) (hd:o.dst=none) (O:iG P I ops o E=E)
  (hx:vc I E d s' G (bif e8 P t then A.pv (V.bU off (P.cellsOf t) (aO s' y) (s' (I.B+d))) λc=>K E (bW s' (some (I.B+d)) c) h'
    else bif Nat.beq (P.cellsOf t) 1 then A.pv (V.cL off (aO s' y) (s' (I.B+d))) λc=>K E (bW s' (some (I.B+d)) c) h' else False)):Goal P C I ops o G E s h K:=by
 have hb:=Az D W;obtain⟨hx,M⟩:=EY m D G _ hx;have T:∃cs fq,s' (I.B+d)= .agg cs /\ fq.length=cs.length /\ K E (bW s' (some (I.B+d)) (.agg fq)) h' /\ (aO s x= .ptr (β d) 0 off->h (β d)=some (cG cs)->cN P ops o s h= .heap (β d) (cG fq) .undef):=by
  rw[vZ m hy]at hx;have H:cN P ops o s h=dT P o.op (aO s) h:=by unfold cN;rw[hg]
  rw[H,ho];cases F:e8 P t with
  | true=>
   rw[F]at hx;obtain⟨c,h1,U⟩:=aK hx;cases L:s' (I.B+d)<;>rw[L]at h1<;>(try (simp[V.bU]at h1;done));rename_i cs;simp only[V.bU]at h1;split at h1<;>(try (cases h1;done));rename_i fq f;cases h1;obtain⟨l1,l2⟩:=NK f;refine⟨cs,fq,rfl,l2,U,λv n=>?_⟩;simp only[dT,F,cond_true,v,A.uB];exact Gr n f l1 l2
  | false=>
   rw[F]at hx;simp only[cond_false]at hx;cases u:Nat.beq (P.cellsOf t) 1 with
   | false=>rw[u]at hx;exact hx.elim
   | true=>
    rw[u]at hx;obtain⟨c,h1,U⟩:=aK hx;cases L:s' (I.B+d)<;>rw[L]at h1<;>(try (simp[V.cL]at h1;done));rename_i cs;simp only[V.cL]at h1;split at h1<;>(try (cases h1;done));rename_i fq f;cases h1;obtain⟨l1,l2⟩:=NL f;refine⟨cs,fq,rfl,l2,U,λv n=>?_⟩;simp only[dT,F,u,cond_true,cond_false,v,A.uB];exact Gr n f (by omega) l2
 obtain⟨cs,fq,j,hl,hK,J⟩:=T;have v:=G0 m D W j;obtain⟨m1,m2,m3⟩:=m.bx d cs hb j;unfold Goal;rw[J v m2,hd,O];refine⟨λp w=>?_,_,h',β,?_,?_,hK⟩
 ·simp only[gK,mem_map]at w
  obtain⟨q,hq,rfl⟩:=w;obtain⟨Y,off',cs2,n1,n2,n3,Z⟩:=M q hq;rw[Z];exact Gu (id:=β Y) (.inr ⟨off',rfl⟩) (cQ _ _ (m.ap Y d cs2 cs n1 hb n2 n3 j))
 ·have X:∀{k},k≠d->bW s' (some (I.B+d)) (.agg fq) (I.B+k)=s' (I.B+k):=λhk=>gQ _ _ (by omega)
  have z:∀{k i},bW s' (some (I.B+d)) (.agg fq) (I.B+k)= .agg i->∃cs2,s' (I.B+k)= .agg cs2:=λ{k i} hk=>by
   by_cases e:k=d
   ·subst e;exact⟨cs,j⟩
   ·rw[X e]at hk;exact⟨i,hk⟩
  refine⟨λid b r=>?_,λk hk=>?_,λk i hk l=>?_,λk e i cs2 hk he N R Q=>?_⟩
  ·rw[cQ]
   ·exact m.le id b r
   ·intro e;subst e;rw[m3]at r;cases r
  ·have:=uj hk
   rw[gQ _ _ (by omega)];exact m.cl k hk
  ·by_cases e:k=d
   ·subst e
    rw[tv]at l;cases l;exact⟨m1,dR ..,m3⟩
   ·rw[X e]at l
    obtain⟨k1,k2,k3⟩:=m.bx k i hk l;exact⟨k1,by rw[cQ _ _ (m.ap k d i cs hk hb e l j)];exact k2,k3⟩
  ·obtain⟨a,ha⟩:=z R
   obtain⟨b,S⟩:=z Q;exact m.ap k e a b hk he N ha S
 ·intro e g b off' hm
  have a:=D _ _ _ _ hm;refine⟨a.xF,a.Bv,a.BB,a.lt,?_,a.at_⟩;by_cases e':b=d
  ·subst e';exact⟨fq,tv ..⟩
  ·rw[gQ _ _ (by omega)];exact a.al
theorem GM{o:Oper}{x:Operand}{d off off':Nat}{K:gm->bB->a9->Prop}(n:jE I s' h' s h β)(N:mI I ops E s' s β)(l:I.place E o.guard x=some (d,off))
  (H:aO s x= .ptr (β d) 0 off->dT P o.op (aO s) h= .val (.ptr (β d) 0 off')) (u:xG I ops o []=true) (L:∀e,o.dst=some e->iG P I ops o E=(e,o.guard,d,off')::lW ops e E) (hx:uL I ops o d off' E s' h' K):Goal P C I ops o [] E s h K:=by
 unfold uL at hx;cases m:o.dst with
 | none=>rw[m]at hx;exact hx.elim
 | some e=>
  rw[m]at hx;simp only at hx;simp only[xG,m,x9,Bool.true_and,Bool.and_eq_true,Bool.not_eq_true',Nat.blt_eq]at u;obtain⟨G,o2,R,hG⟩:=u;obtain⟨⟨cs,w⟩,hx⟩:=HB hx;have hb:=Az N l;have M:e<I.B:=R;have c:∀v,jE I (bW s' (some e) .undef) h' (bW s (some e) v) h β:=λv=>by
   have y:∀k,I.clean k=true->k≠e:=λk hk he=>by
    subst he;have:=uj hk;rw[G]at this;exact absurd this.2.2 (by simp)
   have O:∀k,dK I.bs k=true->k≠e:=λk hk he=>by subst he;rw[o2]at hk;cases hk
   have Q:∀k,bW s' (some e) .undef (I.B+k)=s' (I.B+k):=λk=>gQ _ _ (by omega);refine⟨n.le,λk hk=>?_,λk i hk z=>?_,λk q i cs2 hk he J D A=>?_⟩
   ·rw[gQ _ _ (y k hk),gQ _ _ (y k hk)];exact n.cl k hk
   ·rw[Q]at z
    rw[gQ _ _ (O k hk)];exact n.bx k i hk z
   ·rw[Q]at D A
    exact n.ap k q i cs2 hk he J D A
  have f:∀v,(v= .ptr (β d) 0 off' \/ (v= .bI [] /\ AU ops (bW s (some e) v) o.guard))->mI I ops ((e,o.guard,d,off')::lW ops e E) (bW s' (some e) .undef) (bW s (some e) v) β:=λv r=>by
   intro q g b o' hm;rcases mem_cons.1 hm with hm|hm
   ·cases hm
    refine⟨hb,G,o2,M,⟨cs,?_⟩,?_⟩
    ·rw[gQ _ _ (by omega)];exact w
    ·rw[tv]
     rcases r with r|r
     ·exact .inl r
     ·exact .inr r
   ·obtain⟨k1,k2,k3,k4⟩:=zU hm
    have a:=N _ _ _ _ k1;refine⟨a.xF,a.Bv,a.BB,a.lt,?_,?_⟩
    ·rw[gQ _ _ (by omega)];exact a.al
    ·rw[gQ _ _ k2]
     rcases a.at_ with q|⟨q,j,x,t,e1,F,e3⟩
     ·exact .inl q
     ·refine .inr ⟨q,j,x,t,e1,F,?_⟩
      rw[gQ]
      ·exact e3
      ·intro S;subst S;exact k4 j x e1 F
  unfold Goal;rw[L e m];rcases Dp (P:=P) (o:=o) n hG hx with⟨k1,k2,k3⟩|⟨k1,k2,k3⟩
  ·rw[k1,H (CG n N l w k3),m]
   exact⟨λp l=>(by cases l),_,h',β,c _,f _ (.inl rfl),k2⟩
  ·rw[k1,m]
   refine⟨λp l=>(by cases l),_,h',β,c _,f _ (.inr ⟨rfl,?_⟩),k2⟩;obtain⟨j,x,t,e1,F,e3⟩:=k3;refine⟨j,x,t,e1,F,?_⟩;rw[gQ]
   ·exact e3
   ·intro he
    subst he;rw[e1]at hG;simp only[Bx.uN,F]at hG;have:=uj hG;rw[G]at this;exact absurd this.2.2 (by simp)
theorem Fs(D:wI C){o:Oper}{k:List (Operand×TypeId)}{K:gm->bB->a9->Prop}(j:jE I s' h' s h β)(l:mI I ops E s' s β)(hk:Eb I ops o k E=true)(hx:x6 P C I ops o k E s' h' K):Goal P C I ops o k E s h K:=by
 have gen:rX I ops o=true->iG P I ops o E=jU ops o.dst E->pc P C I ops o k E s' h' K->Goal P C I ops o k E s h K:=Nv D j l;have m:o.guard=none->cN P ops o s h=dT P o.op (aO s) h:=λq=>by unfold cN;rw[q]
 unfold x6 at hx;unfold Eb at hk;split at hx
 ·rename_i t a
  simp only[a]at hk;cases i:o.dst with
  | none=>simp only[i]at hx hk;exact gen hk (by simp only[iG,a,i]) hx
  | some d=>
   simp only[i]at hx hk;cases hb:dK I.bs d with
   | false=>simp only[hb,cond_false]at hx hk;exact gen hk (by simp only[iG,a,i,hb,cond_false]) hx
   | true=>
    simp only[hb,cond_true,Bool.and_eq_true,Nat.blt_eq]at hx hk;have g:=yk hk.2.1;subst g;refine G9 (z:=zeroOf P t) j l i hb hk.2.2 ?_ (λv c=>?_) (by simp only[iG,a,i,hb,cond_true]) hx
    ·rw[m (Dr hk.1),a];rfl
    ·unfold w7 at c
     split at c
     ·rename_i cs n;cases c;exact⟨cs,rfl,n⟩
     ·cases c
 ·rename_i t x a
  simp only[a]at hk;cases i:o.dst with
  | none=>simp only[i]at hx hk;exact gen hk (by simp only[iG,a,i]) hx
  | some d=>
   simp only[i]at hx hk;cases hb:dK I.bs d with
   | false=>simp only[hb,cond_false]at hx hk;exact gen hk (by simp only[iG,a,i,hb,cond_false]) hx
   | true=>
    simp only[hb,cond_true,Bool.and_eq_true,Nat.blt_eq]at hx hk;have g:=yk hk.2.1;subst g;rw[vZ j hk.2.2.2]at hx;refine G9 (z:=bif e8 P t then A.kZ (P.cellsOf t) (aO s x) else A.sD (aO s x)) j l i hb hk.2.2.1 ?_ (λv c=>?_) (by simp only[iG,a,i,hb,cond_true]) hx
    ·rw[m (Dr hk.1),a];rfl
    ·cases w:e8 P t with
     | true=>
      rw[w]at c;simp only[cond_true]at c ⊢;unfold A.ey at c;split at c
      ·rename_i cs r
       split at c
       ·rename_i B
        cases c;exact⟨cs,rfl,by rw[r];simp only[A.kZ,B,if_true]⟩
       ·cases c
      ·cases c
     | false=>
      rw[w]at c;simp only[cond_false,A.Ec,A.sD]at c ⊢;cases r:(aO s x).aI with
      | true=>rw[r]at c;cases c;exact⟨_,rfl,rfl⟩
      | false=>rw[r]at c;cases c
 ·rename_i t x a
  simp only[a]at hk;split at hx
  ·rename_i d off b
   simp only[b,Bool.and_eq_true]at hk;have g:=yk hk.1;subst g;split at hx
   ·exact hx.elim
   ·rename_i u hu
    exact M8 j l a b hk.2.1 hk.2.2 (by simp only[iG,a]) hu hx
  ·rename_i b
   simp only[b]at hk;exact gen hk (by simp only[iG,a]) hx
 ·rename_i t x y a
  simp only[a]at hk;split at hx
  ·rename_i d off b
   simp only[b,Bool.and_eq_true]at hk;have q:=Dr hk.1;refine Ld j l a q (by rw[<-q];exact b) hk.2.1 (Pn hk.2.2) (by simp only[iG,a,b]) hx
  ·rename_i b
   simp only[b]at hk;exact gen hk (by simp only[iG,a,b]) hx
 ·rename_i t x f a
  simp only[a]at hk;split at hx
  ·rename_i d off b
   simp only[b]at hk;have g:k=[]:=by
    simp only[xG,Bool.and_eq_true]at hk;exact yk hk.1
   subst g;split at hx<;>(try exact hx.elim);rename_i fs hu;split at hx<;>(try exact hx.elim);rename_i fd p;cases n:Nat.beq (P.cellsOf fd.type) 0 with
   | true=>rw[n]at hx;exact hx.elim
   | false=>
    rw[n]at hx;refine GM j l b (λc=>?_) hk (λe i=>by simp only[iG,a,b,hu,p,i]) hx;rw[a];simp only[dT,hu,p,n,cond_false,c,V.fieldAddr,Sh.pv]
  ·rename_i b
   simp only[b]at hk;exact gen hk (by simp only[iG,a,b]) hx
 ·rename_i x a
  simp only[a]at hk;split at hx
  ·rename_i d off b
   simp only[b]at hk;have g:k=[]:=by
    simp only[xG,Bool.and_eq_true]at hk;exact yk hk.1
   subst g;refine GM j l b (λc=>?_) hk (λe i=>by simp only[iG,a,b,i]) hx;rw[a];simp only[dT,c,Sh.nilCheck]
  ·rename_i b
   simp only[b]at hk;exact gen hk (by simp only[iG,a,b]) hx
 ·rename_i n1 n2 n3 H G F
  cases a:o.op<;>(try (simp only[a]at hk;exact gen hk (by simp only[iG,a]) hx))<;>simp_all
def Ef(I:Bx)(Q:bB->a9->Prop):bB->a9->Prop:=λs h=>∃s' h' β,jE I s' h' s h β /\ Q s' h'
theorem FM(b:wI C){Q:bB->a9->Prop}:∀(l:List Oper){E:gm}{s' s:bB}{h' h:a9}{β:Nat->Nat},jE I s' h' s h β->mI I ops E s' s β->yV P I ops (plain l) E=true->wL P C I ops (plain l) Q E s' h'->wB P C ops l (Ef I Q) s h|[],_,_,_,_,_,β,a,_,_,hx=>⟨_,_,β,a,hx⟩|o::r,_,_,_,_,_,_,a,c,hk,hx=>xc.2 (ng b.mono (λ_ _ ⟨_,_,_,_,k1,k2,k3⟩=>FM b r k1 k2 (Bool.and_eq_true_iff.1 hk).2 k3) (Fs b a c (Bool.and_eq_true_iff.1 hk).1 hx))
theorem FN(a:wI C){Q:bB->a9->Prop}:∀(l:List (Item×List (Operand×TypeId))){E:gm}{s' s:bB}{h' h:a9}{β:Nat->Nat},jE I s' h' s h β->mI I ops E s' s β->yV P I ops (drawn l) E=true->wL P C I ops (drawn l) Q E s' h'->iB P C ops l (Ef I Q) s h|[],_,_,_,_,_,β,b,_,_,hx=>⟨_,_,β,b,hx⟩|(t,e)::r,_,_,_,_,_,_,b,d,hk,hx=>(CB a.mono).2 (ng a.mono (λ_ _ ⟨c,_,_,_,k1,k2,k3⟩=>⟨c,FN a r k1 k2 (Bool.and_eq_true_iff.1 hk).2 k3⟩) (Fs a b d (Bool.and_eq_true_iff.1 hk).1 hx))
end
theorem C6:∀{a b:List Nat},v9 a b=true->a=b
 | [],[],_=>rfl
 | x::r,y::s,h=>by
  simp only[v9,Bool.and_eq_true]at h
  rw[yw h.1,C6 h.2]
 | [],_::_,h=>by cases h
 | _::_,[],h=>by cases h
theorem Fg:∀{a b:List (List Nat)},AK a b=true->a=b
 | [],[],_=>rfl
 | x::r,y::s,h=>by
  simp only[AK,Bool.and_eq_true]at h
  rw[C6 h.1,Fg h.2]
 | [],_::_,h=>by cases h
 | _::_,[],h=>by cases h
theorem G7{P:Program}{ops:Array Oper}{t:Item}(a:t∈items P ops.toList):yR ops.toList t.i=t.o:=by
 have:=(CZ a).1;unfold yR;rw[show ops.toList[t.i]?=some t.o by simpa using this];rfl
theorem GG{P:Program}{ops:Array Oper}{y:Item}:∀{l:List Item},(∀t∈l,t∈items P ops.toList)->ss l y=xt ops.toList (Bb l y)
 | [],_=>rfl
 | x::r,h=>by
  have a:=GG (y:=y) (l:=r) (λt b=>h t (mem_cons_of_mem _ b))
  have hx:=G7 (h x (mem_cons_self ..))
  simp only[ss,Bb]
  rw[a]
  cases c:x.o.op<;>(try rfl)
  simp only
  cases y.m.testBit x.i with
  | true=>rfl
  | false=>simp only[cond_false,singleton_append,xt,hx,c]
theorem GL{P:Program}{ops:Array Oper}:∀(p seen:List Item),(∀t∈seen,t∈items P ops.toList)->(∀t∈p,t∈items P ops.toList)->∀pl:List (Nat×List Nat),p.map (λt=>t.i)=pl.map (λq=>q.1)->zK seen p=pl.map (λq=>q.2) ->
  drawn (nD seen p)=wC ops.toList pl
 | [],_,_,_,[],_,_=>rfl
 | [],_,_,_,_::_,h,_=>by simp at h
 | _::_,_,_,_,[],h,_=>by simp at h
 | y::r,seen,d,b,(i,e)::pl,h1,c=>by
  simp only[map_cons,List.cons.injEq,zK]at h1 c
  have f:=GL r (seen++[y]) (λt a=>by
   rcases mem_append.1 a with a|a
   ·exact d t a
   ·rw[mem_singleton.1 a];exact b y (mem_cons_self ..)) (λt a=>b t (mem_cons_of_mem _ a)) pl h1.2 c.2
  have g:=G7 (b y (mem_cons_self ..))
  show (y.o,bif y.k.sq then ss seen y else [])::drawn (nD (seen++[y]) r)=(yR ops.toList i,xt ops.toList e)::wC ops.toList pl
  rw[f,<-h1.1,g,<-c.1,GG d]
  cases y.k.sq<;>rfl
theorem Lg{P:Program}{ops:Array Oper}{pl:List (Nat×List Nat)}(h:Dy P ops pl=true):∃l,wK P ops=some l /\ drawn l=wC ops.toList pl:=by
 unfold Dy at h;split at h
 ·rename_i l a
  refine⟨l,a,?_⟩;simp only[Bool.and_eq_true]at h;obtain⟨p,rfl,_,hm⟩:=Mt a;have e1:=C6 h.1;have b:=Fg h.2;have em:(nD [] p).map (λt=>t.1)=p:=xS [] p;rw[em]at b;refine GL p [] (λ_ h=>by cases h) hm pl ?_ b;rw[<-e1]
  conv=>lhs;rw[<-em]
  rw[map_map];rfl
 ·cases h
def Qb(I:Bx)(Q:Ex->bB->a9->Prop):Ex->bB->a9->Prop:=λe=>Ef I (Q e)
theorem Dk:∀{l:List Nat}{k:Nat},dK l k=true->k∈l
 | [],_,h=>by cases h
 | x::r,k,h=>by
  simp only[dK]at h
  cases e:Nat.beq x k with
  | true=>rw[Nat.eq_of_beq_eq_true e];exact mem_cons_self ..
  | false=>rw[e]at h;exact mem_cons_of_mem _ (Dk h)
theorem C2{k:Nat}:∀{ps:List Nat}{xs:List a7}{s:bB},(∀p∈ps,k≠p)->lV ps xs s k=s k
 | [],[],_,_=>rfl
 | [],_::_,_,_=>rfl
 | _::_,[],_,_=>rfl
 | p::ps,x::xs,s,h=>by
  show lV ps xs (bW s (some p) x) k=s k
  rw[C2 λq a=>h q (by simp[a]),gQ _ _ (h p (by simp))]
theorem tw{P:Program}{C:aC}{I:Bx}(m:wI C):∀(c:Code),np P I c=true->∀{Q:Ex->bB->a9->Prop}{s' s:bB}{h' h:a9}{β:Nat->Nat},jE I s' h' s h β->dM P C I c Q s' h'->jt P C c (Qb I Q) s h
 | .skip,_,_,_,_,_,_,β,f,x=>⟨_,_,β,f,x⟩
 | .ret,_,_,_,_,_,_,β,f,x=>⟨_,_,β,f,x⟩
 | .exit _,_,_,_,_,_,_,β,f,x=>⟨_,_,β,f,x⟩
 | .region _ ops false,hk,_,_,_,_,_,_,f,x=>FM m ops.toList f (λ_ _ _ _ h=>(by cases h)) hk x
 | .region k ops true,hk,Q,s',s,h',h,β,f,x=>by
  simp only[dM]at x;simp only[np]at hk;simp only[jt];split at x
  ·rename_i pl H
   simp only[H,Bool.and_eq_true]at hk;obtain⟨l,N,M⟩:=Lg hk.1;have z:=hk.2;rw[<-M]at x z;simp only[N];exact FN m _ f (λ_ _ _ _ h=>(by cases h)) z x
  ·exact x.elim
 | .seq a b,hk,Q,s',s,h',h,β,f,x=>by
  simp only[np,Bool.and_eq_true]at hk;refine qX m.mono a (λe s h ⟨s',h',β,k1,k2⟩=>?_) (tw m a hk.1 f x);cases e with
  | normal=>exact tw m b hk.2 k1 k2
  | exit _=>exact⟨s',h',β,k1,k2⟩
  | ret=>exact⟨s',h',β,k1,k2⟩
 | .cond c a b,hk,Q,s',s,h',h,β,f,x=>by
  simp only[np,Bool.and_eq_true]at hk;simp only[dM]at x;rw[vZ f hk.1]at x;simp only[jt,A.cond]at x ⊢;split at x
  ·exact⟨λe=>tw m a hk.2.1 f (x.1 e),λe=>tw m b hk.2.2 f (x.2 e)⟩
  ·exact x.elim
 | .scope b,hk,Q,s',s,h',h,β,f,x=>tw m b hk f x
 | .label _,hk,Q,s',s,h',h,β,f,x=>⟨s',h',β,f,x⟩
 | .block id b,hk,Q,s',s,h',h,β,f,x=>qX m.mono b (λe s h ⟨s',h',β,k1,k2⟩=>by
   cases e with
   | normal=>exact⟨s',h',β,k1,k2⟩
   | ret=>exact⟨s',h',β,k1,k2⟩
   | exit j=>
    simp only[Ex.inBlock]at k2 ⊢;cases E:Nat.beq j id with
    | true=>rw[E]at k2;exact⟨s',h',β,k1,k2⟩
    | false=>rw[E]at k2;exact⟨s',h',β,k1,k2⟩) (tw m b hk f x)
 | .loop c,hk,Q,s',s,h',h,β,f,x=>λX hX=>by
  refine x (λs' h'=>∀s h β,jE I s' h' s h β->X s h) (λV fl y s1 h1 β1 t=>hX s1 h1 ?_) s h β f;refine qX m.mono c (λe s h ⟨s',h',β,k1,k2⟩=>?_) (tw m c hk t y);cases e with
  | normal=>exact k2 s h β k1
  | exit _=>exact⟨s',h',β,k1,k2⟩
  | ret=>exact⟨s',h',β,k1,k2⟩
 | .rangeFunc g ps a b,hk,Q,s',s,h',h,β,f,x=>λsz id r hround=>by
  simp only[np,Bool.and_eq_true]at hk;obtain⟨⟨Z,L,G⟩,Y,W⟩:=hk;have o:jX (jr ps.toList a b) s'=jX (jr ps.toList a b) s:=by
   funext k;unfold jX;cases hm:dK (jr ps.toList a b) k with
   | false=>rfl
   | true=>exact f.cl k (all_eq_true.1 L k (Dk hm))
  have D:h' id=none:=by
   cases e:h' id with
   | none=>rfl
   | some c=>rw[f.le _ _ e]at r;cases r
  have y:=x sz id D λxs h1 Ky J ⟨hlen,w⟩=>by
   rw[o]at w ⊢;refine hround xs h1 Ky J ⟨hlen,?_⟩;have h0:∀d cs,lV ps.toList xs (jX (jr ps.toList a b) s) (I.B+d)≠ .agg cs:=λd cs e=>by
    rw[C2 λp H=>by have:=(uj (all_eq_true.1 G p H)).1;omega]at e;unfold jX at e;cases hm:dK (jr ps.toList a b) (I.B+d) with
    | false=>rw[hm]at e;cases e
    | true=>have:=(uj (all_eq_true.1 L _ (Dk hm))).1;omega
   have t:jE I (lV ps.toList xs (jX (jr ps.toList a b) s)) h1 (lV ps.toList xs (jX (jr ps.toList a b) s)) h1 (λk=>k):=
    ⟨a9.le_refl h1,λ_ _=>rfl,λd cs _ e=>absurd e (h0 d cs),λd e cs fq _ _ _ n _=>absurd n (h0 d cs)⟩
   refine qX m.mono a (λe s2 N ⟨U,h2',β2,k1,k2⟩=>?_) (tw m a Y t w);cases e with
   | normal=>
    refine qX m.mono b (λe s3 M ⟨T,h3',β3,k3,k4⟩=>?_) (tw m b W k1 k2);obtain⟨h4,l4,k5⟩:=k4;exact⟨h4,a9.le_trans l4 k3.le,k5⟩
   | exit _=>exact k2
   | ret=>exact k2
  rw[vZ f Z,o]at y;revert y;split
  ·intro y
   refine m.mono _ _ _ _ _ (λv h1 ⟨fl,⟨j,u,m1,m2,m3⟩,l1,f1⟩=>?_) (m.frame _ _ _ _ _ (mc _ f.le) y);have E:h1 id=some (sr sz (jX (jr ps.toList a b) s) ps a b j):=l1 _ _ (m2 _ _ (dR ..));have q:∀i c,u i=some c->i≠id /\ fl i=some c:=λi c n=>by
    have:i≠id:=λe=>by subst e;rw[m1]at n;cases n
    exact⟨this,m2 i c (by rw[cQ _ _ this];exact n)⟩
   refine⟨j,erase h1 id,MF h1 id,Lc E,s',u,β,⟨λi c n=>?_,f.cl,λd cs hb n=>?_,f.ap⟩,m3⟩
   ·obtain⟨n1,n2⟩:=q i c n
    rw[CA _ n1];exact l1 i c n2
   ·obtain⟨S,F,R⟩:=f.bx d cs hb n
    have n1:β d≠id:=λe=>by rw[e,r]at F;cases F
    obtain⟨O,K⟩:=f1 (β d) (by rw[cQ _ _ n1];exact R) _ (by rw[cQ _ _ n1];exact F);refine⟨S,by rw[CA _ n1];exact O,?_⟩;cases e:u (β d) with
    | none=>rfl
    | some c=>rw[(q _ _ e).2]at K;cases K
  ·exact λy=>y
 | .goto _,_,_,_,_,_,_,_,_,x=>x.elim
 | .refuse _,_,_,_,_,_,_,_,_,x=>x.elim
theorem CF{P:Program}{I:Bx}{s' s:bB}{h' h:a9}{β:Nat->Nat}(d:jE I s' h' s h β):∀(rs:List ResultVar)(l:List a7),rU P I h' s' rs=some l->sL P h s rs=some l
 | [],l,e=>e
 | .tmp t::r,l,e=>by
  simp only[rU]at e;cases c:I.clean t with
  | false=>rw[c]at e;cases e
  | true=>
   rw[c,cond_true,d.cl t c]at e;simp only[sL];cases b:rU P I h' s' r with
   | none=>rw[b]at e;simp[cJ]at e
   | some l'=>rw[b]at e;rw[CF d r l' b];exact e
 | .cell t ty::r,l,e=>by
  simp only[rU]at e;simp only[sL];have go:∀o o',(∀v,o=some v->o'=some v)->cJ o (rU P I h' s' r)=some l->cJ o' (sL P h s r)=some l:=λo o' k e=>by
   cases b:rU P I h' s' r with
   | none=>rw[b]at e;cases o<;>simp[cJ]at e
   | some l'=>
    rw[b]at e;cases o with
    | none=>simp[cJ]at e
    | some v=>rw[k v rfl,CF d r l' b];exact e
  cases hb:dK I.bs t with
  | true=>
   rw[hb,cond_true]at e;split at e
   ·cases e
   ·rename_i u hu
    refine go _ _ (λv a=>?_) e;have g:∃cs,s' (I.B+t)= .agg cs:=by
     cases j:s' (I.B+t) with
     | agg cs=>exact⟨cs,rfl⟩
     | _=>rw[j]at a;cases m:e8 P ty<;>rw[m]at a<;>simp[V.bM,V.aF]at a
    obtain⟨cs,f⟩:=g;obtain⟨m1,m2,_⟩:=d.bx t cs hb f;rw[f]at a;simp only[xp,hu,m1];have e1:A.fF h (.ptr (β t) 0 0) (P.cellsOf ty)=V.bM 0 (P.cellsOf ty) (.agg cs):=by
     simp only[A.fF,m2,cG,List.lookup,beq_self_eq_true,V.bM]
    have n:A.bX h (.ptr (β t) 0 0)=V.aF 0 (.agg cs):=by
     simp only[A.bX,m2,cG,List.lookup,beq_self_eq_true,V.aF];split
     ·rfl
     ·rw[getElem?_eq_none (by omega)]
    rw[e1,n];exact a
  | false=>
   rw[hb,cond_false]at e;cases c:I.clean t with
   | false=>rw[c]at e;cases e
   | true=>
    rw[c,cond_true,d.cl t c]at e;refine go _ _ (λv a=>?_) e;unfold xp at a ⊢;split at a
    ·cases a
    ·rename_i u hu
     cases i:e8 P ty with
     | true=>rw[i]at a;exact AM d.le a
     | false=>rw[i]at a;exact vA d.le a
theorem NC{P:Program}(hm:P.follows .mixedOrders=true){f:FuncId}{fn:Func}{c:Code}{I:Bx}(m:P.funcs[f]?=some fn)(hb:fn.body=some c)(a:∀(va:Array Value)(w:World),(callFunc f va).run P w= .ok (.enter f va) w)
  (i:nj fn.ntmps c=true) (g:Nat.beq f sy=false) {args:List a7} (j:args.length <= fn.ntmps) (p:args.length <= I.B) (hk:np P I c=true) {h:a9} {Q:zQ} (hx:dM P (AC P) I c (pb P I fn.results.toList Q) (fv args) h):AC P f args h Q:=by
 refine HD (O0 hm m hb a i g j ?_);have n:jE I (fv args) h (fv args) h (λk=>k):=by
  have h0:∀d cs,fv args (I.B+d)≠ .agg cs:=λd cs e=>by
   simp only[fv,List.getD]at e;rw[getElem?_eq_none (by omega)]at e;cases e
  exact⟨a9.le_refl h,λ_ _=>rfl,λd cs _ e=>absurd e (h0 d cs),λd e cs fq _ _ _ i _=>absurd i (h0 d cs)⟩
 refine qX (HC P).mono c (λe s h ⟨s',h',β,k1,k2⟩=>?_) (tw (HC P) c hk n hx);have fin:A.pv (oneOf (rU P I h' s' fn.results.toList)) (λv=>Q v h')->A.pv (xD P h s fn.results.toList) λv=>∃h',Q v h' /\ h'.le h:=λhk=>by
  obtain⟨v,e1,o⟩:=aK hk;cases b:rU P I h' s' fn.results.toList with
  | none=>rw[b]at e1;cases e1
  | some l=>
   rw[b]at e1;have:=CF k1 _ _ b;unfold xD;rw[this,e1];exact⟨h',o,k1.le⟩
 cases e with
 | normal=>exact fin k2
 | ret=>exact fin k2
 | exit _=>exact k2
section
variable(P:Program)(I:Bx)(ops:List Oper)
def yY(o:Oper)(E:gm):List Nat:=
 match o.op with
 | .alloc _ | .box _ _=>match o.dst with
  | some d=>bif dK I.bs d then [I.B+d] else [d]
  | none=>[]
 | .store _ x _=>match I.place E o.guard x with
  | some (d,_)=>[I.B+d]
  | none=>o.dst.toList
 | _=>o.dst.toList
def A9:List (Oper×List (Operand×TypeId))->gm->List Nat|[],_=>[]|(o,_)::r,E=>yY I o E++A9 r (iG P I ops o E)
end
def ma(P:Program)(I:Bx):Code->List Nat
 | .region _ ops false=>A9 P I ops.toList (plain ops.toList) []
 | .region k ops true=>match Bt k I.pl with
  | some l=>A9 P I ops.toList (wC ops.toList l) []
  | none=>[]
 | .seq a b=>ma P I a++ma P I b
 | .cond _ a b=>ma P I a++ma P I b
 | .block _ b=>ma P I b
 | .loop b=>ma P I b
 | .scope b=>ma P I b
 | _=>[]
def x5(C:aC)(f:a7)(W:List a7->a9->(Nat->a9->Prop)->Prop)(h:a9)(K:Nat->a9->Prop):Prop:=∀mk:Nat->fB,(∀j,∃o,mk j=jI o)->y9 C f mk W h K
def W1(G:a7->a9->(Nat->a9->Prop)->Prop):List a7->a9->(Nat->a9->Prop)->Prop|[x],h,E=>G x h E|_,_,_=>False
def W2(G:a7->a7->a9->(Nat->a9->Prop)->Prop):List a7->a9->(Nat->a9->Prop)->Prop|[x,y],h,E=>G x y h E|_,_,_=>False
def RK:List (Nat×(a9->Prop))->Nat->a9->Prop|[],_,_=>False|(k,p)::r,j,h=>(j=k /\ p h) \/ RK r j h
def wg:Code->Bool | .region .. =>true | .skip=>true | .seq a b=>wg a&&wg b|_=>false
section
variable{P:Program}{C:aC}{I:Bx}{ops:List Oper}
theorem Dq{g:Gd}{s:bB}{h:a9}{M:(zQ)->Prop}{K a:zQ}(b:M K->M a)(hk:∀v h,K v h->a v h)(x:A.uO ops g s h M K):A.uO ops g s h M a:=by
 unfold A.uO at x ⊢;split at x
 ·exact b x
 ·split at x
  ·unfold A.gd at x ⊢
   split at x
   ·exact⟨λe=>b (x.1 e),λe=>hk _ _ (x.2 e)⟩
   ·exact hk _ _ x
   ·exact x
  ·exact x
theorem yp{o:Option a7}{K a:a7->Prop}(hk:∀v,K v->a v)(x:A.pv o K):A.pv o a:=by
 unfold A.pv at x ⊢;split at x
 ·exact hk _ x
 ·exact x
theorem D8{v:a7}{p q:Prop}(hk:p->q)(x:A.al v p):A.al v q:=by
 unfold A.al at x ⊢;split at x
 ·exact hk x
 ·exact x
theorem zI{E:gm}{s:bB}:∀{b:List (Operand×TypeId)}{k a:List (Operand×TypeId)->Prop},(∀l,k l->a l)->pS I E s b k->pS I E s b a
 | [],_,_,hk,x=>hk _ x
 | (x,ty)::r,k,a,hk,hx=>by
  have other:∀{x},pS I E s r (λl=>k ((x,ty)::l))->pS I E s r (λl=>a ((x,ty)::l)):=λhx=>zI (λl y=>hk _ y) hx
  cases x<;>(try exact other hx)
  rename_i t
  simp only[pS]at hx ⊢
  cases hb:dK I.bs t with
  | true=>rw[hb]at hx;exact D8 (λy=>zI hk y) hx
  | false=>
   rw[hb]at hx
   simp only[cond_false]at hx ⊢
   cases c:I.clean t with
   | true=>rw[c]at hx;exact other hx
   | false=>
    rw[c]at hx
    simp only[cond_false]at hx ⊢
    cases hm:dK (E.map (·.1)) t with
    | true=>rw[hm]at hx;exact zI hk hx
    | false=>rw[hm]at hx;exact hx
theorem EZ{E:gm}{d:Nat}{s:bB}:∀{a:List (Operand×TypeId)}{p q:Prop},(p->q)->vc I E d s a p->vc I E d s a q
 | [],_,_,hk,x=>hk x
 | (x,ty)::r,p,q,hk,hx=>by
  simp only[vc]at hx ⊢
  split at hx
  ·rename_i b off c
   cases hb:Nat.beq b d with
   | true=>rw[hb]at hx;exact hx.elim
   | false=>rw[hb]at hx;exact D8 (λy=>EZ hk y) hx
  ·exact hx
theorem Lf(B:gD C){o:Oper}{n:List (Operand×TypeId)}{E:gm}{s:bB}{h:a9}{K m:gm->bB->a9->Prop}
  (hk:∀s1 h1,kz (yY I o E) s s1->K (iG P I ops o E) s1 h1->m (iG P I ops o E) s1 h1) (x:x6 P C I ops o n E s h K):x6 P C I ops o n E s h m:=by
 have put:∀(d:Option Nat)(v:a7)(l:List Nat),d.toList=l->kz l s (bW s d v):=λd v l e=>by
  subst e;cases d with
  | none=>exact kz.refl _ _
  | some d=>exact λk hk=>gQ s v λe=>hk (by simp[e])
 have gen:iG P I ops o E=jU ops o.dst E->yY I o E=o.dst.toList->pc P C I ops o n E s h K->pc P C I ops o n E s h m:=λe1 w y=>by
  unfold pc at y ⊢;refine zI (λl z=>?_) y;have c:∀v h1,K (jU ops o.dst E) (bW s o.dst v) h1->m (jU ops o.dst E) (bW s o.dst v) h1:=λv h1 z=>by
   rw[<-e1];exact hk _ _ (put _ _ _ w.symm) (by rw[e1];exact z)
  cases l with
  | nil=>exact Ft B c z
  | cons q r=>exact Dq (λz=>u5.2 (ng B (λv h1 ⟨a,b⟩=>⟨a,c _ _ b⟩) (u5.1 z))) c z
 have der:∀(d off:Nat)(e:Nat),o.dst=some e->iG P I ops o E=(e,o.guard,d,off)::lW ops e E->yY I o E=o.dst.toList->uL I ops o d off E s h K->uL I ops o d off E s h m:=λd off e g e1 w y=>by
  unfold uL at y ⊢;rw[g]at y ⊢;refine D8 (λy=>?_) y;have c:∀h1,K ((e,o.guard,d,off)::lW ops e E) (bW s (some e) .undef) h1->m ((e,o.guard,d,off)::lW ops e E) (bW s (some e) .undef) h1:=λh1 z=>by
   rw[<-e1];exact hk _ _ (put _ _ _ (by rw[w,g])) (by rw[e1];exact z)
  exact Dq (c h) (λ_ h1 z=>c h1 z) y
 unfold x6 at x ⊢;unfold iG yY at gen der hk;cases j:o.op with
 | alloc t=>
  rw[j]at x gen hk;simp only at x gen hk ⊢;cases g:o.dst with
  | none=>rw[g]at x gen;exact gen rfl rfl x
  | some d=>
   rw[g]at x gen hk;simp only at x gen hk ⊢;cases hb:dK I.bs d with
   | false=>rw[hb]at gen x;exact gen rfl rfl x
   | true=>
    rw[hb]at x hk;exact yp (λv z=>hk _ _ (put _ _ _ rfl) z) x
 | box t y=>
  rw[j]at x gen hk;simp only at x gen hk ⊢;cases g:o.dst with
  | none=>rw[g]at x gen;exact gen rfl rfl x
  | some d=>
   rw[g]at x gen hk;simp only at x gen hk ⊢;cases hb:dK I.bs d with
   | false=>rw[hb]at gen x;exact gen rfl rfl x
   | true=>
    rw[hb]at x hk;exact yp (λv z=>hk _ _ (put _ _ _ rfl) z) x
 | load t y=>
  rw[j]at x gen hk;simp only at x gen hk ⊢;split at x
  ·rename_i d off i
   have y:=x;split at y
   ·exact y.elim
   ·rename_i u hu
    have c:∀v h1,K (jU ops o.dst E) (bW s o.dst v) h1->m (jU ops o.dst E) (bW s o.dst v) h1:=λv h1 z=>hk _ _ (put _ _ _ rfl) z;exact Dq (λz=>yp (λv z=>c _ _ z) z) c y
  ·rename_i i
   exact gen (by trivial) (by trivial) x
 | store t y v=>
  rw[j]at x gen hk;simp only at x gen hk ⊢;split at x
  ·rename_i d off i
   simp only[i]at hk ⊢;refine EZ (λy=>?_) x;cases D:e8 P t with
   | true=>rw[D]at y;exact yp (λv z=>hk _ _ (put _ _ _ rfl) z) y
   | false=>
    rw[D]at y;simp only[cond_false]at y ⊢;cases h1:Nat.beq (P.cellsOf t) 1 with
    | false=>rw[h1]at y;exact y
    | true=>rw[h1]at y;exact yp (λv z=>hk _ _ (put _ _ _ rfl) z) y
  ·rename_i i
   simp only[i]at gen ⊢;exact gen (by trivial) (by trivial) x
 | fieldAddr t y f=>
  rw[j]at x gen der hk;simp only at x gen der hk ⊢;split at x
  ·rename_i d off i
   simp only[i]at der ⊢;have y:=x;split at y<;>(try exact y.elim);rename_i fs hu;simp only[hu]at der ⊢;split at y<;>(try exact y.elim);rename_i fd p;simp only[p]at der ⊢;cases A:Nat.beq (P.cellsOf fd.type) 0 with
   | true=>rw[A]at y;exact y
   | false=>
    rw[A]at y;simp only[cond_false]at y ⊢;cases g:o.dst with
    | none=>simp only[uL,g]at y
    | some e=>exact der d _ e g (by simp only[g]) (by trivial) y
  ·rename_i i
   simp only[i]at gen ⊢;exact gen (by trivial) (by trivial) x
 | nilCheck y=>
  rw[j]at x gen der hk;simp only at x gen der hk ⊢;split at x
  ·rename_i d off i
   simp only[i]at der ⊢;have y:=x;cases g:o.dst with
   | none=>simp only[uL,g]at y
   | some e=>exact der d _ e g (by simp only[g]) (by trivial) y
  ·rename_i i
   simp only[i]at gen ⊢;exact gen (by trivial) (by trivial) x
 | _=>
  rw[j]at x gen;exact gen rfl rfl x
theorem CH(c:gD C){Q Q':bB->a9->Prop}{L:List Nat}:∀(l:List (Oper×List (Operand×TypeId))){E:gm}{s:bB}{h:a9},(∀k∈A9 P I ops l E,k∈L)->(∀s1 h1,kz L s s1->Q s1 h1->Q' s1 h1)->wL P C I ops l Q E s h->wL P C I ops l Q' E s h|[],_,_,_,_,a,x=>a _ _ (kz.refl _ _) x|(o,e)::r,E,s,h,b,a,x=>Lf c (λs1 h1 d y=>CH c r (λk hk=>b k (mem_append_right _ hk)) (λs2 f hb z=>a _ _ ((d.mono λk hk=>b k (mem_append_left _ hk)).trans hb) z) y) x
theorem uq(i:gD C):∀(c:Code){Q Q':Ex->bB->a9->Prop}{s:bB}{h:a9},(∀e s1 h1,kz (ma P I c) s s1->Q e s1 h1->Q' e s1 h1)->dM P C I c Q s h->dM P C I c Q' s h
 | .skip,_,_,_,_,d,x=>d _ _ _ (kz.refl _ _) x
 | .ret,_,_,_,_,d,x=>d _ _ _ (kz.refl _ _) x
 | .exit _,_,_,_,_,d,x=>d _ _ _ (kz.refl _ _) x
 | .region _ ops false,_,_,_,_,d,x=>CH i (plain ops.toList) (λ_ hk=>hk) (λs1 h1 f y=>d _ _ _ f y) x
 | .region _ ops true,Q,Q',s,h,d,x=>by
  simp only[dM]at x ⊢
  simp only[ma]at d
  split at x
  ·rename_i l o
   simp only[o]at d ⊢
   exact CH i (wC ops.toList l) (λ_ hk=>hk) (λs1 h1 f y=>d _ _ _ f y) x
  ·exact x.elim
 | .seq a b,Q,Q',s,h,d,x=>by
  refine uq i a (λe s1 h1 f y=>?_) x
  have m:kz (ma P I (.seq a b)) s s1:=f.mono λk hk=>mem_append_left _ hk
  cases e with
  | normal=>exact uq i b (λe s2 q hb z=>d _ _ _ (m.trans (hb.mono λk hk=>mem_append_right _ hk)) z) y
  | exit _=>exact d _ _ _ m y
  | ret=>exact d _ _ _ m y
 | .cond c a b,Q,Q',s,h,d,x=>by
  simp only[dM]at x ⊢
  unfold A.cond at x ⊢
  split at x
  ·exact⟨λe=>uq i a (λ_ _ _ f y=>d _ _ _ (f.mono λk hk=>mem_append_left _ hk) y) (x.1 e),λe=>uq i b (λ_ _ _ f y=>d _ _ _ (f.mono λk hk=>mem_append_right _ hk) y) (x.2 e)⟩
  ·exact x.elim
 | .scope b,Q,Q',s,h,d,x=>uq i b d x
 | .label _,Q,Q',s,h,d,x=>d _ _ _ (kz.refl _ _) x
 | .block id b,Q,Q',s,h,d,x=>uq i b (λe s1 h1 f y=>by
   cases e with
   | normal=>exact d _ _ _ f y
   | ret=>exact d _ _ _ f y
   | exit j=>
    simp only[Ex.inBlock]at y ⊢
    cases n:Nat.beq j id with
    | true=>rw[n]at y;exact d _ _ _ f y
    | false=>rw[n]at y;exact d _ _ _ f y) x
 | .loop c,Q,Q',s,h,d,x=>λX p=>by
  refine x (λs1 h1=>kz (ma P I c) s s1->X s1 h1) (λs1 h1 y f=>p s1 h1 ?_) (kz.refl _ _)
  refine uq i c (λe s2 q hb z=>?_) y
  cases e with
  | normal=>exact z (f.trans hb)
  | exit _=>exact d _ _ _ (f.trans hb) z
  | ret=>exact d _ _ _ (f.trans hb) z
 | .rangeFunc g ps a b,Q,Q',s,h,d,x=>λsz=>C3 i (λ_ _ _ w=>w) (λj h y=>d _ _ _ (kz.refl _ _) y) (x sz)
 | .goto _,_,_,_,_,_,x=>x.elim
 | .refuse _,_,_,_,_,_,x=>x.elim
theorem Qe(g:gD C){c a b:Code}{Q:Ex->bB->a9->Prop}{X:bB->a9->Prop}{s:bB}{h:a9}(d:c= .seq a b)(hb:∀s h,X s h->dM P C I b Q s h)(f:dM P C I a (Ex.then X Q) s h):dM P C I c Q s h:=by
 subst d;exact uq g a (λe s h _ y=>by
  cases e with
  | normal=>exact hb _ _ y
  | exit _=>exact y
  | ret=>exact y) f
theorem PW{c x y:Code}{o:Operand}{Q:Ex->bB->a9->Prop}{p q:Prop}{s:bB}{h:a9}(d:c= .cond o x y)(hx:p->dM P C I x Q s h)(b:q->dM P C I y Q s h)(a:A.cond (aO s o) p q):dM P C I c Q s h:=by
 subst d;simp only[dM,A.cond]at a ⊢;split at a
 ·exact⟨λe=>hx (a.1 e),λe=>b (a.2 e)⟩
 ·exact a.elim
theorem PD(p:gD C){c b:Code}{Q:Ex->bB->a9->Prop}{s:bB}{h:a9}(dQ live:List Nat){G:List a7->zG}
  (m:c= .loop b) (hk:(dQ.all λk=> !dK (ma P I b) k)=true)
  (hG:∀(Y:zL)(s:bB)(h:a9),G (dQ.map s) (live.map s) h Y->dM P C I b (Ex.then (λs h=>Y (live.map s) h) Q) s h)
  (j:aB (G (dQ.map s)) (live.map s) h):dM P C I c Q s h:=by
 subst m;intro X o;have hm:∀(l:List Nat)(k:Nat),k∈l->dK l k=true:=λl=>by
  induction l with
  | nil=>intro k h;cases h
  | cons a r i=>
   intro k h;simp only[dK];rcases mem_cons.1 h with rfl|h
   ·rw[Nat.beq_refl];rfl
   ·rw[i k h];cases Nat.beq a k<;>rfl
 have hw:∀k∈dQ,k∉ma P I b:=λk d f=>by
  have:=all_eq_true.1 hk k d;rw[hm _ _ f]at this;cases this
 refine j (λvs h=>∀s',dQ.map s'=dQ.map s->live.map s'=vs->X s' h) ?_ s rfl rfl;intro vs h1 g s1 e1 q;subst q;rw[<-e1]at g;refine o s1 h1 (uq p b (λe s2 t n z=>?_) (hG _ s1 h1 g));cases e with
 | normal=>
  refine z s2 ?_ rfl;exact map_congr_left λk d=>n k (hw k d)
 | exit _=>exact z
 | ret=>exact z
theorem Cv{P:Program}{C:aC}{I:Bx}:∀{c:Code},wg c=true->∀{Q Q':Ex->bB->a9->Prop},Q .normal=Q' .normal->dM P C I c Q=dM P C I c Q'
 | .skip,_,_,_,e=>by funext s h;simp only[dM,e]
 | .region _ _ false,_,_,_,e=>by funext s h;simp only[dM,e]
 | .region _ _ true,_,_,_,e=>by funext s h;simp only[dM,e]
 | .seq a b,hk,Q,Q',e=>by
  simp only[wg,Bool.and_eq_true]at hk
  funext s h
  simp only[dM]
  rw[Cv hk.2 e,Cv hk.1 (Q:=Ex.then (dM P C I b Q') Q) (Q':=Ex.then (dM P C I b Q') Q') rfl]
theorem HK(n:gD C){c a b:Code}{g:Operand}{ps:Array Tmp}{Q:Ex->bB->a9->Prop}{s:bB}{h:a9}{W:List a7->a9->(Nat->a9->Prop)->Prop}{K:Nat->a9->Prop}
  (k:c= .rangeFunc g ps a b) (f:wg a=true) (i:x5 C (aO s g) W h K) (m:∀j h,K j h->Q (uM j) s h)
  (l:∀xs h E,W xs h E->xs.length=ps.size /\ dM P C I (.seq a b) (λe _ d=>E (jn e) d) (lV ps.toList xs (jX (jr ps.toList a b) s)) h):dM P C I c Q s h:=by
 subst k;refine λsz=>C3 n (λxs h E w=>?_) m (i _ λj=>⟨_,rfl⟩);obtain⟨h1,d⟩:=l xs h E w;refine⟨h1,?_⟩;have d:dM P C I a (Ex.then (dM P C I b λe _ d=>E (jn e) d) λe _ d=>E (jn e) d) (lV ps.toList xs (jX (jr ps.toList a b) s)) h:=d;have e:=Cv (P:=P) (C:=C) (I:=I) f (Q:=Ex.then (dM P C I b λe _ d=>E (jn e) d) λe _ d=>E (jn e) d) (Q':=Ex.then (dM P C I b λe _ d=>E (jn e) d) λ_ _ _=>False) rfl;rw[e]at d;exact d
end
def dn(Q:zQ)(v:a7)(h:a9):Prop:=∃h',Q v h' /\ h'.le h
abbrev Ei(C:aC)(g:Nat)(f:a9->zQ->Prop):Prop:=∀(h:a9)(Q:zQ),f h (dn Q)->C g [] h Q
abbrev Q2(C:aC)(g:Nat)(f:zQ→a9→Prop):Prop:=∀(h:a9)(Q:zQ),f (dn Q) h→C g [] h Q
abbrev g9(C:aC)(g:Nat)(f:a7->a9->zQ->Prop):Prop:=∀(v0:a7)(h:a9)(Q:zQ),f v0 h (dn Q)->C g [v0] h Q
abbrev fy(C:aC)(g:Nat)(f:zQ→a7→a9→Prop):Prop:=∀(v0:a7)(h:a9)(Q:zQ),f (dn Q) v0 h→C g [v0] h Q
abbrev mi(C:aC)(g:Nat)(f:a7->a7->a9->zQ->Prop):Prop:=∀(v0 v1:a7)(h:a9)(Q:zQ),f v0 v1 h (dn Q)->C g [v0,v1] h Q
abbrev fk(C:aC)(g:Nat)(f:zQ→a7→a7→a9→Prop):Prop:=∀(v0 v1:a7)(h:a9)(Q:zQ),f (dn Q) v0 v1 h→C g [v0,v1] h Q
abbrev zj(C:aC)(g:Nat)(f:a7->a7->a7->a9->zQ->Prop):Prop:=∀(v0 v1 v2:a7)(h:a9)(Q:zQ),f v0 v1 v2 h (dn Q)->C g [v0,v1,v2] h Q
abbrev zh(C:aC)(g:Nat)(f:zQ→a7→a7→a7→a9→Prop):Prop:=∀(v0 v1 v2:a7)(h:a9)(Q:zQ),f (dn Q) v0 v1 v2 h→C g [v0,v1,v2] h Q
abbrev Q1(C:aC)(g:Nat)(f:zQ→a7→a7→a7→a7→a7→a9→Prop):Prop:=∀(v0 v1 v2 a v4:a7)(h:a9)(Q:zQ),f (dn Q) v0 v1 v2 a v4 h→C g [v0,v1,v2,a,v4] h Q
theorem aR{Q:zQ}{v:a7}{h:a9}(a:Q v h):dn Q v h:=⟨h,a,a9.le_refl h⟩
theorem ln{Q:zQ}{v:a7}{h h':a9}(hle:h.le h')(a:Q v h):dn Q v h':=⟨h,a,hle⟩
abbrev Wr{α:Sort _}(a:α):Type:=Prop
namespace B
variable(h:a9)
def pv(o:Option a7)(K:a7->Prop):Wr K:=A.pv o K
def cond(c:a7)(x y:Prop):Wr (x,y):=A.cond c x y
def al(v:a7)(p:Prop):Wr p:=A.al v p
def pick(c a b:a7)(K:a7->Prop):Wr K:=A.pick c a b K
def bL(o:Option (List a7))(K:Nat->a9->Prop):Wr K:=A.bL h o K
def ld(p:a7)(K:a7->Prop):Wr K:=A.ld h p K
def cR(p:a7)(n:Nat)(K:a7->Prop):Wr K:=A.cR h p n K
def st(p v:a7)(K:a9->Prop):Wr K:=A.st h p v K
def gp(p:a7)(n:Nat)(v:a7)(K:a9->Prop):Wr K:=A.gp h p n v K
def nilCheck(v:a7)(K:a7->Prop):Wr K:=A.nilCheck v K
def bO(es bytes:Nat)(x y:a7)(K:zQ):Wr K:=A.bO h es bytes x y K
def B1(bytes:Nat)(x y:a7)(K:zQ):Wr K:=A.app h 1 bytes x (A.Ax y) K
def eO(bytes:Nat)(z:Option (List a7))(l c:a7)(K:zQ):Wr K:=A.eO h bytes z l c K
def gk(x:a7)(K:a7->Prop):Wr K:=A.gk h x K
def conv(x:a7)(K:a7->Prop):Wr K:=A.conv h x K
def rz(es bytes:Nat)(z:List a7)(x y:a7)(K:zQ):Wr K:=A.rz h es bytes (some z) x y K
def oE(x:a7)(K:zQ):Wr K:=A.oE h x K
def r9(x:a7)(K:zQ):Wr K:=A.r9 h x K
def lM(x:a7)(K:zQ):Wr K:=A.lM h x K
def call(C:aC)(f:Nat)(args:List a7)(h:a9)(K:zQ):Wr K:=C f args h K
def ks(h:a9)(C:aC)(f:a7)(args:List a7)(K:zQ):Wr K:=A.ks h C f args K
def gd(c:a7)(want:Bool)(M:(zQ)->Prop)(K:zQ):Wr (M,K):=A.gd h c want M K
def mL(d:Bool)(M:(zQ)->Prop)(K:zQ):Wr K:=(d=true->M K) /\ (d=false->K (.bI []) h)
def jV(ls:List (a7×Option Nat))(K:zQ):zQ:=A.jV h ls K
end B
@[simp] theorem B.aK(v:a7)(K:a7->Prop):(B.pv (some v) K:Prop)=K v:=propext Iff.rfl
@[simp] theorem B.Ru(K:a7->Prop):(B.pv none K:Prop)=False:=propext Iff.rfl
@[simp] theorem B.eJ(cs:List a7)(p:Prop):(B.al (.agg cs) p:Prop)=p:=propext Iff.rfl
@[simp] theorem B.cond_true(x y:Prop):(B.cond (.bool true) x y:Prop)=x:=by simp[B.cond,A.cond]
@[simp] theorem B.cond_false(x y:Prop):(B.cond (.bool false) x y:Prop)=y:=by simp[B.cond,A.cond]
theorem B.bF{b:Bool}{x y:Prop}(hx:b=true->x)(a:b=false->y):B.cond (.bool b) x y:=⟨hx,a⟩
@[simp] theorem B.fw(h:a9)(p:a7)(K:a7->Prop):(B.ld h p K:Prop)=B.pv (A.bX h p) K:=propext Iff.rfl
@[simp] theorem B.iL(h:a9)(p:a7)(n:Nat)(K:a7->Prop):(B.cR h p n K:Prop)=B.pv (A.fF h p n) K:=propext Iff.rfl
@[simp] theorem B.mZ(id g off:Nat)(K:a7->Prop):(B.nilCheck (.ptr id g off) K:Prop)=K (.ptr id g off):=propext Iff.rfl
@[simp] theorem B.ym(h:a9)(C:aC)(f:Nat)(first gX args:List a7)(K:zQ):(B.ks h C (.fn f first gX) args K:Prop)=B.call C f (first++args++gX) h K:=propext Iff.rfl
def gv(b:Bool)(v:a7):a7:=bif b then v else .bI []
@[simp] theorem vr(v:a7):gv true v=v:=eq_of_heq HEq.rfl
@[simp] theorem Og(v:a7):gv false v= .bI []:=eq_of_heq HEq.rfl
@[simp] theorem R8(b c:Bool)(v:a7):gv b (gv c v)=gv (b&&c) v:=by cases b<;>cases c<;>exact eq_of_heq HEq.rfl
section
variable(h:a9)(b c:Bool)(M:(zQ)->Prop)(K:zQ)(v:a7)
@[simp] theorem B.mg:(B.gd h (.bool b) true M K:Prop)=B.mL h b M K:=by cases b<;>simp[B.gd,A.gd,B.mL]
@[simp] theorem B.ia:(B.gd h (.bool b) false M K:Prop)=B.mL h (!b) M K:=by cases b<;>simp[B.gd,A.gd,B.mL]
@[simp] theorem B.R9:(B.gd h (gv b (.bool c)) true M K:Prop)=B.mL h (b&&c) M K:=by cases b<;>cases c<;>simp[B.gd,A.gd,B.mL,gv]
@[simp] theorem B.RA:(B.gd h (gv b (.bool c)) false M K:Prop)=B.mL h (b&& !c) M K:=by cases b<;>cases c<;>simp[B.gd,A.gd,B.mL,gv]
@[simp] theorem B.Pt(w:Bool):(B.gd h (.bI []) w M K:Prop)=K (.bI []) h:=propext Iff.rfl
@[simp] theorem B.Hg:(B.mL h b (λK=>K v h) K:Prop)=K (gv b v) h:=by cases b<;>simp[B.mL,gv]
@[simp] theorem B.fN:(B.mL h true M K:Prop)=M K:=by simp[B.mL]
@[simp] theorem B.Aj:(B.mL h false M K:Prop)=K (.bI []) h:=by simp[B.mL]
end
@[congr] theorem B.QW{h:a9}{c c':Bool}{M a:(zQ)->Prop}{K:zQ}(b:c=c')(d:c'=true->∀K,M K=a K):(B.mL h c M K:Prop)=B.mL h c' a K:=by
 subst b;unfold B.mL;cases c
 ·simp
 ·simp[d rfl]
theorem B.gG{h:a9}{b:Bool}{v:a7}{M:(zQ)->Prop}{K:zQ}(a:b=true->∀Q:zQ,Q v h->M Q)
  (hk:K (gv b v) h):B.mL h b M K:=by
 cases b
 ·exact⟨λe=>(by cases e),λ_=>hk⟩
 ·exact⟨λ_=>a rfl _ hk,λe=>(by cases e)⟩
section
variable(b c d:Bool)(u x y:a7)(K:a7->Prop)
@[simp] theorem B.Rh:(B.pick (.bool b) (gv b (.bool c)) (.bool d) K:Prop)=K (.bool (bif b then c else d)):=by cases b<;>exact eq_of_heq HEq.rfl
@[simp] theorem B.Rw:(B.pick (.bool b) (.bool d) (gv (!b) (.bool c)) K:Prop)=K (.bool (bif b then d else c)):=by cases b<;>exact eq_of_heq HEq.rfl
@[simp] theorem B.Rf:(B.pick (.bool !b) (.bool d) (gv b (.bool c)) K:Prop)=K (.bool (bif b then c else d)):=by cases b<;>exact eq_of_heq HEq.rfl
@[simp] theorem B.pR:(B.pick (.bool true) x y K:Prop)=K x:=eq_of_heq HEq.rfl
@[simp] theorem B.nJ:(B.pick (.bool false) x y K:Prop)=K y:=eq_of_heq HEq.rfl
@[simp] theorem B.QE:(B.pick (.bool b) (.bool c) (.bool d) K:Prop)=K (.bool (bif b then c else d)):=by cases b<;>exact eq_of_heq HEq.rfl
@[simp] theorem B.Rg(k:IntKind)(x y:Int):(B.pick (.bool b) (.int k x) (.int k y) K:Prop)=K (.int k (bif b then x else y)):=by cases b<;>exact eq_of_heq HEq.rfl
@[simp] theorem B.Re{b c d e:Bool}{K:a7->Prop}(a:e= !b):(B.pick (.bool b) (.bool d) (gv e (.bool c)) K:Prop)=K (.bool (bif b then d else c)):=by subst a;cases b<;>exact eq_of_heq HEq.rfl
@[simp] theorem B.QQ{b c d e:Bool}{K:a7->Prop}(a:e=b):(B.pick (.bool b) (gv e (.bool c)) (.bool d) K:Prop)=K (.bool (bif b then c else d)):=by subst a;cases e<;>exact eq_of_heq HEq.rfl
theorem N3:(bif b then c else false)=(b&&c):=by cases b<;>rfl
theorem Om:(bif b then true else c)=(b||c):=by cases b<;>rfl
attribute [simp] N3 Om
end
namespace V
variable(k:IntKind)(a b:Int)
@[simp] theorem fP:bin .add (.int k a) (.int k b)=some (.int k (k.wrap (a+b))):=by simp[bin,arith]
@[simp] theorem nI:bin .sub (.int k a) (.int k b)=some (.int k (k.wrap (a-b))):=by simp[bin,arith]
@[simp] theorem yz:bin .mul (.int k a) (.int k b)=some (.int k (k.wrap (a*b))):=by simp[bin,arith]
@[simp] theorem Rz(hb:b≠0):bin .quo (.int k a) (.int k b)=some (.int k (k.wrap (a.tdiv b))):=by simp[bin,arith,hb]
@[simp] theorem HA(hb:b≠0):bin .rem (.int k a) (.int k b)=some (.int k (a.tmod b)):=by simp[bin,arith,hb]
@[simp] theorem tF:bin .eql (.int k a) (.int k b)=some (.bool (decide (a=b))):=by simp[bin,arith];rfl
@[simp] theorem OT:bin .neq (.int k a) (.int k b)=some (.bool (!decide (a=b))):=by simp[bin,arith];rfl
@[simp] theorem mw:bin .lss (.int k a) (.int k b)=some (.bool (decide (a<b))):=by simp[bin,arith]
@[simp] theorem AQ:bin .leq (.int k a) (.int k b)=some (.bool (decide (a <= b))):=by simp[bin,arith]
@[simp] theorem D7:bin .gtr (.int k a) (.int k b)=some (.bool (decide (b<a))):=by simp[bin,arith]
@[simp] theorem xw:bin .geq (.int k a) (.int k b)=some (.bool (decide (b <= a))):=by simp[bin,arith]
@[simp] theorem rB(x y:List UInt8):bin .eql (.str x) (.str y)=some (.bool (decide (x=y))):=by simp only[bin,yG];congr 2;rw[Bool.eq_iff_iff];simp
@[simp] theorem Oq(x y:List UInt8):bin .neq (.str x) (.str y)=some (.bool (!decide (x=y))):=by simp only[bin,yG];congr 3;rw[Bool.eq_iff_iff];simp
@[simp] theorem QO(x y:Bool):vC .eql (.bool x) (.bool y)=some (.bool (x==y)):=eq_of_heq HEq.rfl
@[simp] theorem QN(x y:Bool):vC .neq (.bool x) (.bool y)=some (.bool (!(x==y))):=eq_of_heq HEq.rfl
@[simp] theorem jq(x:Bool):un .not (.bool x)=some (.bool !x):=eq_of_heq HEq.rfl
@[simp] theorem R5:un .neg (.int k a)=some (.int k (k.wrap (0-a))):=eq_of_heq HEq.rfl
@[simp] theorem toInt_int(j:IntKind):toInt k (.int j a)=some (.int k (k.wrap a)):=eq_of_heq HEq.rfl
@[simp] theorem QD(x:List UInt8):AW (.str x)=some (.str x):=eq_of_heq HEq.rfl
@[simp] theorem mW(o id g off:Nat):fieldAddr o (.ptr id g off)=some (.ptr id g (off+o)):=eq_of_heq HEq.rfl
@[simp] theorem kH(o:Nat)(cs:List a7):aF o (.agg cs)=cs[o]? :=eq_of_heq HEq.rfl
@[simp] theorem QM(o n:Nat)(cs:List a7):bM o n (.agg cs)=if o+n <= cs.length then some (.agg ((cs.drop o).take n)) else none:=eq_of_heq HEq.rfl
@[simp] theorem Dg(o:Nat)(v:a7)(cs:List a7):cL o v (.agg cs)=w7 (pY o v cs):=by unfold cL w7;rfl
@[simp] theorem Rc(o n:Nat)(v:a7)(cs:List a7):bU o n v (.agg cs)=w7 (mf o n v cs):=by unfold bU w7;rfl
@[simp] theorem CW(o:Nat)(v:a7)(cs:List a7):pY o v cs=bif v.aI then (if o<cs.length then some (cs.set o v) else none) else none:=eq_of_heq HEq.rfl
@[simp] theorem Rd(o n:Nat)(xs cs:List a7):mf o n (.agg xs) cs=if xs.length=n /\ o+n <= cs.length then some (cs.take o++xs++cs.drop (o+n)) else none:=eq_of_heq HEq.rfl
@[simp] theorem AP(i:Nat)(cs:List a7):ext i (.bI cs)=cs[i]? :=eq_of_heq HEq.rfl
@[simp] theorem QG(x:List UInt8):lR (.str x)=some (.int .i64 x.length):=eq_of_heq HEq.rfl
@[simp] theorem QH:aE .aA=some (.int .i64 0):=eq_of_heq HEq.rfl
@[simp] theorem Rj:aE .sz=some (.int .i64 0):=eq_of_heq HEq.rfl
@[simp] theorem Rm(id g off n es cp:Nat):aE (.sl id g off n es cp)=some (.int .i64 n):=eq_of_heq HEq.rfl
@[simp] theorem Ri:max2 (.int k a) (.int k b)=some (.int k (max a b)):=by
 simp only[max2];congr 2;split<;>omega
@[simp] theorem GY:min2 (.int k a) (.int k b)=some (.int k (min a b)):=by
 simp only[min2];congr 2;split<;>omega
attribute [simp] lN eqv
@[simp] theorem Rq(x y:Bool):tL .b (.bool x) (.bool y)=some (decide (x=y)):=by cases x<;>cases y<;>rfl
@[simp] theorem Rp:tL (.i k) (.int k a) (.int k b)=some (decide (a=b)):=by simp only[tL];rw[if_pos ⟨trivial,trivial⟩];rfl
@[simp] theorem Ro(x y:List UInt8):tL .s (.str x) (.str y)=some (decide (x=y)):=by simp only[tL];congr 1;rw[Bool.eq_iff_iff];simp
end V
@[simp] theorem C5(cs:List a7):w7 (some cs)=some (.agg cs):=eq_of_heq HEq.rfl
@[simp] theorem Rr(n:Nat)(cs:List a7):A.ey n (.agg cs)=if cs.length=n then some (.agg cs) else none:=eq_of_heq HEq.rfl
@[simp] theorem Rx(v:a7):A.Ec v=bif v.aI then some (.agg [v]) else none:=eq_of_heq HEq.rfl
@[simp] theorem QP(n:Nat)(cs:List a7):A.kZ n (.agg cs)=if cs.length=n then some cs else none:=eq_of_heq HEq.rfl
@[simp] theorem QX(v:a7):A.sD v=bif v.aI then some [v] else none:=eq_of_heq HEq.rfl
attribute [simp] A.cD bN bG
@[simp] theorem QB(b:Bool):(a7.bool b).aI=true:=eq_of_heq HEq.rfl
@[simp] theorem QL(k:IntKind)(n:Int):(a7.int k n).aI=true:=eq_of_heq HEq.rfl
@[simp] theorem QJ(s:List UInt8):(a7.str s).aI=true:=eq_of_heq HEq.rfl
@[simp] theorem QK(a b c:Nat):(a7.ptr a b c).aI=true:=eq_of_heq HEq.rfl
@[simp] theorem Q8:a7.sP.aI=true:=eq_of_heq HEq.rfl
@[simp] theorem Q7:a7.aA.aI=true:=eq_of_heq HEq.rfl
@[simp] theorem QS:a7.sz.aI=true:=eq_of_heq HEq.rfl
@[simp] theorem QT(a b c d e f:Nat):(a7.sl a b c d e f).aI=true:=eq_of_heq HEq.rfl
@[simp] theorem QV(f:Nat)(a b:List a7):(a7.fn f a b).aI=true:=eq_of_heq HEq.rfl
@[simp] theorem Q9:a7.nV.aI=true:=eq_of_heq HEq.rfl
@[simp] theorem QU(i:Nat):(a7.mp i).aI=true:=eq_of_heq HEq.rfl
@[simp] theorem QA:a7.sQ.aI=true:=eq_of_heq HEq.rfl
@[simp] theorem Rs(h:a9)(id:Nat)(b:fB):bQ h id b id=some b:=dR h id b
@[simp] theorem QC(h:a9){id i:Nat}(b:fB)(a:i≠id):bQ h id b i=h i:=cQ h b a
@[simp] theorem QZ(h:a9)(id i:Nat)(b:fB):bQ h id b i=none↔i≠id /\ h i=none:=by
 by_cases hi:i=id
 ·subst hi;simp
 ·simp[hi]
attribute [simp] Ho
@[simp] theorem QI(v:a7)(l:List a7):cJ (some v) (some l)=some (v::l):=eq_of_heq HEq.rfl
@[simp] theorem QR(v:a7):oneOf (some [v])=some v:=eq_of_heq HEq.rfl
@[simp] theorem QF(v w:a7)(l:List a7):oneOf (some (v::w::l))=some (.bI (v::w::l)):=eq_of_heq HEq.rfl
theorem wrap_i64{n:Int}(h1: -9223372036854775808 <= n)(a:n <= 9223372036854775807):IntKind.i64.wrap n=n:=by
 rw[IntKind.wrap_i64];omega
@[simp] abbrev bD(h:a9)(a:a7)(o:Option a7)(K:a7→a9→Prop):Prop:=B.gd h a true (λK=>B.pv o λv=>K v h) K
@[simp] abbrev bH(h:a9)(a:a7)(o:Option a7)(K:a7→a9→Prop):Prop:=B.gd h a false (λK=>B.pv o λv=>K v h) K
@[simp] abbrev bV(h:a9)(a:a7)(o:Option a7)(K:a7→a9→Prop):Prop:=B.gd h a true (λK=>K .undef h) λ_ h=>B.gd h a true (λK=>B.pv o λv=>K v h) K
@[simp] abbrev eN(h:a9)(a:a7)(o:Option a7)(K:a7→a9→Prop):Prop:=B.gd h a false (λK=>K .undef h) λ_ h=>B.gd h a false (λK=>B.pv o λv=>K v h) K
@[simp] abbrev gb(h:a9)(a:a7)(o:a7)(K:a7→a9→Prop):Prop:=B.gd h a true (λK=>B.ld h o λv=>K v h) K
@[simp] abbrev jZ(h:a9)(a:a7)(o:a7)(K:a7→a9→Prop):Prop:=B.gd h a false (λK=>B.ld h o λv=>K v h) K
@[simp] abbrev dG(C:aC)(h:a9)(a:a7)(n:Nat)(u:List a7)(K:a7→a9→Prop):Prop:=B.gd h a true (λK=>B.call C n u h K) K
@[simp] abbrev gE(C:aC)(h:a9)(a:a7)(n:Nat)(u:List a7)(K:a7→a9→Prop):Prop:=B.gd h a false (λK=>B.call C n u h K) K
abbrev i6(n:Int):a7:= .int .i64 n
end Go.Ab
