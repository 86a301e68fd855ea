/- What is proved: a part of the way to the statement: AbQ. No conditions. -/
import Derived.Test.YtneeejngeoaaoaaQ1
import Derived.OrdersIn
import Derived.Scope
import Derived.KernelRfl
set_option linter.unusedVariables false
set_option linter.unusedSimpArgs false
namespace Go.Ab
open List
open Go.RowKit (Below)
theorem zih{p q:Prop}{b:Bool}(h:bif b then p else q):(b=true /\ p) \/ (b=false /\ q):=by
 cases b
 ·exact .inr ⟨rfl,h⟩
 ·exact .inl ⟨rfl,h⟩
section
variable{P:Program}{w0:World}{ρ:zdr}{h H:zb}{w:World}{s:zbq}{a:Act}{K:zQ}{o:Oper}{Q:Exit->Act->World->Prop}
theorem zho{t:TypeId}(h:Nat.beq (P.cellsOf t) 0=false):∃i,P.info? t=some i:=by
 cases hh:P.info? t with
 | none=>simp[Program.cellsOf,hh]at h
 | some i=>exact⟨i,rfl⟩
theorem builtin_sound{c:Call}{b:Builtin}(ho:o.op= .call c)(hc:c.callee= .builtin b)(hR:R w0 ρ H w)(hle:h.le H)(hs:zgs ρ s a)
  (hop:zlq P b c.argTypes.toList (c.args.toList.map (evS s)) h K):zgj P w0 ρ h H K o a w Q:=by
 unfold zlq at hop;split at hop
 ·
  rename_i t r x e1 e2;obtain⟨x',ha,hx'⟩:∃x',c.args.toList=[x'] /\ evS s x'=x:=by
   cases hl:c.args.toList with
   | nil=>rw[hl]at e2;cases e2
   | cons y r=>rw[hl]at e2;simp at e2;exact⟨y,by rw[e2.2],e2.1⟩
  subst hx';split at hop
  ·rename_i ht;exact op_len ho hc e1 ha hR hle hs (by rw[ht];exact hop)
  ·rename_i ht;exact op_len ho hc e1 ha hR hle hs (by rw[ht];exact hop)
  ·rename_i ht;exact op_len ho hc e1 ha hR hle hs (by rw[ht];exact hop)
  ·rename_i ht;exact op_lenMap ho hc e1 ha ht hR hle hs hop
  ·exact hop.elim
 ·
  rename_i t x e1 e2;obtain⟨x',ha,rfl⟩:∃x',c.args.toList=[x'] /\ evS s x'=x:=by
   cases hl:c.args.toList with
   | nil=>rw[hl]at e2;cases e2
   | cons y r=>rw[hl]at e2;simp at e2;exact⟨y,by rw[e2.2],e2.1⟩
  split at hop
  ·rename_i e ht
   obtain⟨hok,hop2⟩:=A.zmi.1 hop;rw[Nat.blt_eq]at hok;exact op_clear ho hc e1 ha ht hok hR hle hs hop2
  ·exact hop.elim
 ·
  rename_i t r x k e1 e2;obtain⟨x',y',ha,rfl,rfl⟩:∃x' y',c.args.toList=[x',y'] /\ evS s x'=x /\ evS s y'=k:=by
   cases hl:c.args.toList with
   | nil=>rw[hl]at e2;cases e2
   | cons p r=>
    cases r with
    | nil=>rw[hl]at e2;simp at e2
    | cons q r=>rw[hl]at e2;simp at e2;exact⟨p,q,by rw[e2.2.2],e2.1,e2.2.1⟩
  split at hop
  ·rename_i ht;exact op_delete ho hc e1 ha ht hR hle hs hop
  ·exact hop.elim
 ·
  rename_i t u x y e1 e2;obtain⟨x',y',ha,rfl,rfl⟩:∃x' y',c.args.toList=[x',y'] /\ evS s x'=x /\ evS s y'=y:=by
   cases hl:c.args.toList with
   | nil=>rw[hl]at e2;cases e2
   | cons p r=>
    cases r with
    | nil=>rw[hl]at e2;simp at e2
    | cons q r=>rw[hl]at e2;simp at e2;exact⟨p,q,by rw[e2.2.2],e2.1,e2.2.1⟩
  split at hop
  ·rename_i e e' ht hu
   obtain⟨hok,hop2⟩:=A.zmi.1 hop;rw[Bool.and_eq_true,Bool.and_eq_true,Nat.blt_eq,Nat.beq_eq]at hok;obtain⟨hpos,rfl,hz⟩:=hok;exact op_append ho hc (by apply Array.ext';simpa using e1) (by apply Array.ext';simpa using ha) ht hpos hz hR hle hs hop2
  ·rename_i e ht hu
   obtain⟨hok,hop2⟩:=A.zmi.1 hop;rw[Bool.and_eq_true]at hok;exact op_appendStr ho hc (by apply Array.ext';simpa using e1) (by apply Array.ext';simpa using ha) ht hu hok.1 hok.2 hR hle hs hop2
  ·rename_i e k ht hu
   obtain⟨hok,hop2⟩:=A.zmi.1 hop;rw[Nat.blt_eq]at hok;exact op_appendZ ho hc (by apply Array.ext';simpa using e1) (by apply Array.ext';simpa using ha) ht hu hok hR hle hs hop2
  ·exact hop.elim
 ·
  rename_i t u x y e1 e2;obtain⟨x',y',ha,rfl,rfl⟩:∃x' y',c.args.toList=[x',y'] /\ evS s x'=x /\ evS s y'=y:=by
   cases hl:c.args.toList with
   | nil=>rw[hl]at e2;cases e2
   | cons p r=>
    cases r with
    | nil=>rw[hl]at e2;simp at e2
    | cons q r=>rw[hl]at e2;simp at e2;exact⟨p,q,by rw[e2.2.2],e2.1,e2.2.1⟩
  split at hop
  ·rename_i e ht
   obtain⟨hok,hop2⟩:=A.zmi.1 hop;rw[Bool.and_eq_true,Nat.blt_eq,Nat.beq_eq]at hok;obtain⟨_,hpos⟩:=hok;exact op_copy ho hc e1 ha ht hpos hR hle hs hop2
  ·exact hop.elim
 ·rename_i x y e2
  obtain⟨x',y',ha,rfl,rfl⟩:∃x' y',c.args.toList=[x',y'] /\ evS s x'=x /\ evS s y'=y:=by
   cases hl:c.args.toList with
   | nil=>rw[hl]at e2;cases e2
   | cons p r=>
    cases r with
    | nil=>rw[hl]at e2;simp at e2
    | cons q r=>rw[hl]at e2;simp at e2;exact⟨p,q,by rw[e2.2.2],e2.1,e2.2.1⟩
  exact op_minmax (.inl ⟨rfl,rfl⟩) ho hc ha hR hle hs hop
 ·rename_i x y e2
  obtain⟨x',y',ha,rfl,rfl⟩:∃x' y',c.args.toList=[x',y'] /\ evS s x'=x /\ evS s y'=y:=by
   cases hl:c.args.toList with
   | nil=>rw[hl]at e2;cases e2
   | cons p r=>
    cases r with
    | nil=>rw[hl]at e2;simp at e2
    | cons q r=>rw[hl]at e2;simp at e2;exact⟨p,q,by rw[e2.2.2],e2.1,e2.2.1⟩
  exact op_minmax (.inr ⟨rfl,rfl⟩) ho hc ha hR hle hs hop
 ·
  rename_i t r x e1 e2;obtain⟨x',ha,hx'⟩:∃x',c.args.toList=[x'] /\ evS s x'=x:=by
   cases hl:c.args.toList with
   | nil=>rw[hl]at e2;cases e2
   | cons y r=>rw[hl]at e2;simp at e2;exact⟨y,by rw[e2.2],e2.1⟩
  subst hx';split at hop
  ·rename_i ht;exact op_cap ho hc e1 ha ht hR hle hs hop
  ·exact hop.elim
 ·exact hop.elim
theorem op_sound(hR:R w0 ρ H w)(hle:h.le H)(hs:zgs ρ s a)(hop:ziw P (AC P) o.op s h K):zgj P w0 ρ h H K o a w Q:=by
 cases ho:o.op with
 | move x=>rw[ho]at hop;exact op_move (.inl ho) hR hle hs hop
 | assign x=>rw[ho]at hop;exact op_move (.inr ho) hR hle hs hop
 | pick c x y=>rw[ho]at hop;exact op_pick ho hR hle hs hop
 | alloc t=>rw[ho]at hop;exact op_alloc ho hR hle hop
 | box t x=>rw[ho]at hop;exact op_box ho hR hle hs hop
 | build t ps=>rw[ho]at hop;exact op_build ho hR hle hs hop
 | buildSlice t n ps=>rw[ho]at hop;exact op_buildSlice ho hR hle hs hop
 | load t x=>
  rw[ho]at hop;simp only[ziw]at hop;split at hop
  ·exact hop.elim
  ·rename_i d hd
   rcases zih hop with⟨hb,hop⟩|⟨hb,hop⟩
   ·exact op_loadN ho hb hR hle hs hop
   ·exact op_load1 ho hb ⟨d,hd⟩ hR hle hs hop
 | store t x v=>
  rw[ho]at hop;simp only[ziw]at hop;rcases zih hop with⟨hb,hop⟩|⟨hb,hop⟩
  ·have hd:∃i,P.info? t=some i:=by
    unfold zdz at hb;cases hu:P.underlying t with
    | none=>simp[hu]at hb
    | some d=>exact info_of_underlying hu
   exact op_storeN ho hd hR hle hs hop
  ·rcases zih hop with⟨hc,hop⟩|⟨_,hop⟩
   ·exact op_store1 ho (Nat.eq_of_beq_eq_true hc) hR hle hs hop
   ·exact hop.elim
 | nilCheck x=>rw[ho]at hop;exact op_nilCheck ho hR hle hs hop
 | binOp op t x y u=>rw[ho]at hop;exact op_bin ho hR hle hs hop
 | unOp op t x=>rw[ho]at hop;exact op_un ho hR hle hs hop
 | convert src dst x=>rw[ho]at hop;exact op_convert ho hR hle hs hop
 | makeSlice t l c=>rw[ho]at hop;exact op_makeSlice ho hR hle hs hop
 | slice t x lo hi mx=>
  rw[ho]at hop;simp only[ziw]at hop;split at hop
  ·rename_i ht;exact op_cutStr ho ht hR hle hs hop
  ·rename_i e ht
   rcases zih hop with⟨_,hop⟩|⟨hb,hop⟩
   ·exact hop.elim
   ·exact op_cutSl ho ht (zho hb) hR hle hs hop
  ·rename_i e mx ht
   rcases zih hop with⟨_,hop⟩|⟨hb,hop⟩
   ·exact hop.elim
   ·split at hop
    ·rename_i lo hi _
     exact op_cut3 ho ht (zho hb) hR hle hs (.inr ⟨lo,rfl,zcq hs lo⟩) ⟨hi,rfl,zcq hs hi⟩ hop
    ·rename_i hi _
     exact op_cut3 ho ht (zho hb) hR hle hs (.inl ⟨rfl,rfl⟩) ⟨hi,rfl,zcq hs hi⟩ hop
    ·exact hop.elim
  ·exact hop.elim
 | fieldAddr t x f=>
  rw[ho]at hop;simp only[ziw]at hop;split at hop
  ·rename_i fs ht
   split at hop
   ·rename_i fd hf
    rcases zih hop with⟨_,hop⟩|⟨hb,hop⟩
    ·exact hop.elim
    ·exact op_fieldAddr ho ht hf hb hR hle hs hop
   ·exact hop.elim
  ·exact hop.elim
 | field t x f=>
  rw[ho]at hop;simp only[ziw]at hop;split at hop
  ·rename_i fs ht
   split at hop
   ·rename_i fd hf
    split at hop
    ·exact hop.elim
    ·rename_i d hd
     exact op_field ho ht hf hd hR hle hs hop
   ·exact hop.elim
  ·exact hop.elim
 | indexAddr t x i=>
  rw[ho]at hop;simp only[ziw]at hop;split at hop
  ·rename_i e ht
   rcases zih hop with⟨_,hop⟩|⟨hb,hop⟩
   ·exact hop.elim
   ·exact op_indexS ho ht hR hle hs (zho hb) hop
  ·rename_i n e ht
   rcases zih hop with⟨_,hop⟩|⟨hb,hop⟩
   ·exact hop.elim
   ·exact op_indexA ho ht hR hle hs (zho hb) hop
  ·exact hop.elim
 | index t x i=>
  rw[ho]at hop;simp only[ziw]at hop;split at hop
  ·rename_i ht;exact op_indexStr ho ht hR hle hs hop
  ·exact hop.elim
 | makeFunc fn first zjb=>
  rw[ho]at hop;cases fn with
  | func f=>exact op_makeFunc ho hR hle hs hop
  | method _|methodOf _ _|via _ _ _ _|yield _=>exact hop.elim
 | extract x i=>rw[ho]at hop;exact op_extract ho hR hle hs hop
 | range t x=>
  rw[ho]at hop;simp only[ziw]at hop;split at hop
  ·rename_i ht;exact op_range ho ht hR hle hs hop
  ·rename_i ht;exact op_rangeMap ho ht hR hle hs hop
  ·exact hop.elim
 | next x b=>
  rw[ho]at hop;cases b with
  | true=>exact op_next ho hR hle hs hop
  | false=>exact op_nextMap ho hR hle hs hop
 | entry x=>rw[ho]at hop;exact op_entry ho hR hle hs hop
 | makeMap t r=>
  rw[ho]at hop;cases r with
  | none=>
   simp only[ziw]at hop;split at hop
   ·rename_i ht;exact op_makeMap ho ht hR hle hop
   ·exact hop.elim
  | some _=>exact hop.elim
 | lookup t x i ok=>
  rw[ho]at hop;simp only[ziw]at hop;split at hop
  ·rename_i ht;exact op_lookup ho ht hR hle hs hop
  ·exact hop.elim
 | mapUpdate t m k v=>
  rw[ho]at hop;simp only[ziw]at hop;split at hop
  ·rename_i ht;exact op_mapUpdate ho ht hR hle hs hop
  ·exact hop.elim
 | mapEntry t m k=>
  rw[ho]at hop;simp only[ziw]at hop;split at hop
  ·rename_i ht;exact op_mapEntry ho ht hR hle hs hop
  ·exact hop.elim
 | entryStore t m n v=>
  rw[ho]at hop;simp only[ziw]at hop;split at hop
  ·rename_i ht;exact op_entryStore ho ht hR hle hs hop
  ·exact hop.elim
 | call c=>
  rw[ho]at hop;simp only[ziw]at hop;split at hop
  ·rename_i f hc;exact op_call ho hc hR hle hs hop
  ·rename_i x _ hc;exact op_callv ho hc hR hle hs hop
  ·rename_i b hc;exact builtin_sound ho hc hR hle hs hop
  ·exact hop.elim
 | insert _ _ _ _|ready _|waits _|sliceToArrayPointer _ _|makeInterface _ _|makeChan _ _|typeAssert _ _ _ _|go _|defer _|panic _|send _ _|recv _ _ _|select _ _=>rw[ho]at hop;exact hop.elim
end
end Go.Ab
namespace Go.Ab
open List
inductive Sh where
 | val (v:za)
 | heap (id:Nat) (b:Blk) (v:za)
 | many (id:Nat) (l:List (Blk×za))
 | new (b:Blk) (mk:Nat->za)
 | call (f:Nat) (args:List za)
 | fail
def Sh.run(C:z5)(h:zb)(K:zQ):Sh->Prop | .val v=>K v h | .heap id b v=>K v (upd h id b) | .many id l=>∀p∈l,K p.2 (upd h id p.1) | .new b mk=>∀id,h id=none->K (mk id) (upd h id b) | .call f args=>C f args h K | .fail=>False
namespace Sh
def pv:Option za->Sh|some v=> .val v|none=> .fail
def zgn(o:Option (List za))(mk:Nat->za):Sh:=
 match o with
 | some cs=> .new (zdo cs) mk
 | none=> .fail
def st (h : zb) (p : za) (f : List za -> Option (List za)) (n off : Nat) (v : za) : Sh :=
  match p with
  | .ptr id g o => match h id with
    | some b => match b.zia.lookup g with
      | some hi => bif b.own && Nat.ble (off + o + n) hi then (match f b.cells with
        | some cs => .heap id { b with cells := cs, zia := [(g, hi)] } v
        | none => .fail) else .fail
      | none => .fail
    | none => .fail
  | _ => .fail
def app(h:zb)(es bytes:Nat)(x:za)(news:Option (List za)):Sh:=
 match news with
 | none=> .fail
 | some cs=>
  match x with
  | .zeg=>if cs.length=0 then .val .zeg else if (cs.length / es)*bytes <= 140737488355328 /\ (cs.length / es) <= maxLen then .new (zdo cs) λid=> .sl id 0 0 (cs.length / es) es (cs.length / es) else .fail
  | .sz=>if cs.length=0 then .val .sz else if (cs.length / es)*bytes <= 140737488355328 /\ (cs.length / es) <= maxLen then .new (zdo cs) λid=> .sl id 0 0 (cs.length / es) es (cs.length / es) else .fail
  | .sl id g off len es' cp=>match h id with
   | some b=>match b.zia.lookup g with
    | some hi=>bif b.own then (if es'=es /\ b.own=true /\ off+len*es <= hi /\ (len+cs.length / es)*bytes <= 140737488355328 /\ len+cs.length / es <= maxLen then
      .heap id (zhr b (off+len*es) cs) (.sl id b.next off (len+cs.length / es) es (len+cs.length / es)) else .fail)
     else (if es'=es /\ cp=0 /\ 0<len /\ 0<cs.length / es /\ off+len*es <= hi /\ hi <= b.cells.length /\ (len+cs.length / es)*bytes <= 140737488355328 /\ len+cs.length / es <= maxLen then
      .new (zdo ((b.cells.drop off).take (len*es)++cs)) λid=> .sl id 0 0 (len+cs.length / es) es (len+cs.length / es) else .fail)
    | none=> .fail
   | none=> .fail
  | _=> .fail
def cpy(h:zb)(es:Nat)(x y:za):Sh:=
 match A.zgl y with
 | none=> .fail
 | some m=>
  match x with
  | .zeg | .sz=> .val (.int .i64 0)
  | .sl id g off len _ _=>match A.rdv h y (min m len) es with
   | none=> .fail
   | some cs=>st h (.ptr id g off) (V.putN off (min m len*es) (.agg cs)) (min m len*es) 0 (.int .i64 (min m len:Nat))
  | _=> .fail
def mks(bytes:Nat)(z:Option (List za))(l c:za):Sh:=
 match z,l,c with
 | some z,.int _ l,.int _ c=>if 0 <= l /\ l <= c /\ c*bytes <= 281474976710656 /\ c <= 9223372036854775807 then .new (zdo (zh2 c.toNat z)) λid=> .sl id 0 0 l.toNat z.length c.toNat else .fail
 | _,_,_=> .fail
def zew(h:zb)(x:za):Sh:=
 match A.zgl x with
 | some n=>(match A.rdv h x n 1 with
  | some cs=>(match V.zjn cs with
   | some l=> .val (.str l)
   | none=> .fail)
  | none=> .fail)
 | none=> .fail
def appZ(es bytes:Nat)(z:Option (List za))(x y:za):Sh:=
 match z,y with
 | some z,.int _ n=>if A.noRoom x=true /\ 0<n /\ n*(bytes:Int) <= 140737488355328 /\ n <= (maxLen:Int) then .new (zdo (zh2 n.toNat z)) λid=> .sl id 0 0 n.toNat es n.toNat else .fail
 | _,_=> .fail
def conv(h:zb)(x:za):Sh:=
 match x with
 | .sl id g _ n _ _=>(match h id with
  | some b=>if ((b.own&&((b.zia.lookup g).isSome&&Nat.blt 0 n))&&false)=true then .val x else .fail
  | none=> .fail)
 | _=> .fail
def zir(x:za):Sh:=
 match x with
 | .str s=>if s.length <= 140737488355328 /\ False then .new (zdo (s.map λb=> .int .u8 b.toNat)) λid=> .sl id 0 0 s.length 1 s.length else .fail
 | _=> .fail
def zji(x:za):Sh:=
 match x with
 | .str s=> .new (zf6 (.iter s 0)) λid=> .ptr id 0 0
 | _=> .fail
def zhj(h:zb)(x:za):Sh:=
 match x with
 | .ptr id 0 0=>(match h id with
  | some b=>(match b.obj with
   | some (.iter s pos)=>if pos<s.length then .heap id { b with obj:=some (.iter s (pos+(A.rune s pos).2)) } (.tup [.bool true,.int .i64 pos,.int .i32 (A.rune s pos).1])
     else .val (.tup [.bool false])
   | _=> .fail)
  | none=> .fail)
 | _=> .fail
def clr(h:zb)(z:Option (List za))(x:za):Sh:=
 match z with
 | none=> .fail
 | some z=>
  match x with
  | .zeg | .sz=> .val (.tup [])
  | .sl id g off len es _=>if len=0 then .val (.tup []) else st h (.ptr id g off) (V.putN off (len*es) (.agg (List.replicate len z).flatten)) (len*es) 0 (.tup [])
  | _=> .fail
def zpk(h:zb)(x:za)(f:List (za×za×Nat)->Nat->Option (List (za×za×Nat)×Nat×za))(g:za->za):Sh:=
 match x with
 | .mp id=>(match h id with
  | some b=>(match b.obj with
   | some (.map es c)=>(match f es c with
    | some (es',c',v)=> .heap id { b with obj:=some (.map es' c') } (g v)
    | none=> .fail)
   | _=> .fail)
  | none=> .fail)
 | _=> .fail
def mdel(h:zb)(kd:Option KD)(x k:za):Sh:=
 match x with
 | .zo2=>if kd.isSome=true then .val (.tup []) else .fail
 | x=>zpk h x (A.fdel kd k) λv=>v
def rangeMap(h:zb)(x:za):Sh:=
 match x with
 | .zo2=> .new (zf6 (.mapIter none 0 [] 0)) λid=> .ptr id 0 0
 | .mp m=>(match A.zmd h x with
  | some (_,c)=> .new (zf6 (.mapIter (some m) c [] c)) λid=> .ptr id 0 0
  | none=> .fail)
 | _=> .fail
def zeq(h:zb)(x:za):Sh:=
 match A.steps h x with
 | some (id,l)=> .many id l
 | none=> .fail
def zkt(f:za)(args:List za):Sh:=
 match f with
 | .fn f first zjb=> .call f (first++args++zjb)
 | .yld id=> .call zla (mkY id::args)
 | _=> .fail
def pick(c a b:za):Sh:=
 match c with
 | .bool c=> .val (bif c then a else b)
 | _=> .fail
def nilCheck(v:za):Sh:=
 match v with
 | .ptr _ _ _=> .val v
 | .fn _ _ _=> .val v
 | _=> .fail
end Sh
section
variable{C:z5}{h:zb}{K:zQ}
theorem zis{o:Option za}:A.pv o (λv=>K v h)↔(Sh.pv o).run C h K:=by
 cases o<;>exact Iff.rfl
theorem sh_newO{o:Option (List za)}{mk:Nat->za}:A.zgn h o (λid h=>K (mk id) h)↔(Sh.zgn o mk).run C h K:=by
 cases o<;>exact Iff.rfl
theorem sh_pick{c a b:za}:A.pick c a b (λv=>K v h)↔(Sh.pick c a b).run C h K:=by
 cases c<;>exact Iff.rfl
theorem sh_nilCheck{v:za}:A.nilCheck v (λv=>K v h)↔(Sh.nilCheck v).run C h K:=by
 cases v<;>exact Iff.rfl
theorem sh_st{p:za}{f:List za->Option (List za)}{n off:Nat}{v:za}:A.ph (A.stv h p f n off) (λh=>K v h)↔(Sh.st h p f n off v).run C h K:=by
 cases p<;>try exact Iff.rfl
 rename_i id g o;simp only[A.stv,Sh.st];cases h id with
 | none=>exact Iff.rfl
 | some b=>
  simp only;cases b.zia.lookup g with
  | none=>exact Iff.rfl
  | some hi=>
   simp only;cases (b.own&&Nat.ble (off+o+n) hi) with
   | false=>exact Iff.rfl
   | true=>
    simp only[cond_true];cases f b.cells<;>exact Iff.rfl
theorem zg6{p:Prop}[Decidable p]{x:Sh}{q:Prop}(hq:q↔x.run C h K):(p /\ q)↔(if p then x else .fail).run C h K:=by
 by_cases hp:p
 ·rw[if_pos hp];exact⟨λ⟨_,k⟩=>hq.1 k,λk=>⟨hp,hq.2 k⟩⟩
 ·rw[if_neg hp];exact⟨λ⟨k,_⟩=>hp k,λk=>k.elim⟩
theorem sh_app{es bytes:Nat}{x:za}{news:Option (List za)}:A.app h es bytes x news K↔(Sh.app h es bytes x news).run C h K:=by
 cases news with
 | none=>exact Iff.rfl
 | some cs=>
  cases x<;>(try exact Iff.rfl)
  ·simp only[A.app,Sh.app]
   by_cases h0:cs.length=0
   ·rw[if_pos h0,if_pos h0];exact Iff.rfl
   ·rw[if_neg h0,if_neg h0,<-and_assoc];exact zg6 Iff.rfl
  ·simp only[A.app,Sh.app]
   by_cases h0:cs.length=0
   ·rw[if_pos h0,if_pos h0];exact Iff.rfl
   ·rw[if_neg h0,if_neg h0,<-and_assoc];exact zg6 Iff.rfl
  ·rename_i id g off len es' cp'
   simp only[A.app,Sh.app];cases h id with
   | none=>exact Iff.rfl
   | some b=>
    simp only;cases b.zia.lookup g with
    | none=>exact Iff.rfl
    | some hi=>
     simp only;cases b.own with
     | true=>
      simp only[cond_true];rw[show ∀a b c d e f:Prop,(a /\ b /\ c /\ d /\ e /\ f)↔((a /\ b /\ c /\ d /\ e) /\ f) from λa b c d e f=>by simp only[and_assoc]];exact zg6 Iff.rfl
     | false=>
      simp only[cond_false];exact zg6 Iff.rfl
theorem sh_cpy{es:Nat}{x y:za}:A.cpy h es x y K↔(Sh.cpy h es x y).run C h K:=by
 simp only[A.cpy,Sh.cpy];cases A.zgl y with
 | none=>exact Iff.rfl
 | some m=>
  cases x<;>(try exact Iff.rfl);simp only;cases A.rdv h y _ es with
  | none=>exact Iff.rfl
  | some cs=>exact sh_st
theorem sh_mks{bytes:Nat}{z:Option (List za)}{l c:za}:A.mks h bytes z l c K↔(Sh.mks bytes z l c).run C h K:=by
 cases z<;>cases l<;>cases c<;>(try exact Iff.rfl);simp only[A.mks,Sh.mks];rw[show ∀a b c d f:Prop,(a /\ b /\ c /\ d /\ f)↔((a /\ b /\ c /\ d) /\ f) from λa b c d f=>by simp only[and_assoc]];exact zg6 Iff.rfl
theorem sh_bytesStr{x:za}:A.zew h x (λv=>K v h)↔(Sh.zew h x).run C h K:=by
 simp only[A.zew,Sh.zew];cases A.zgl x with
 | none=>exact Iff.rfl
 | some n=>
  simp only;cases A.rdv h x n 1 with
  | none=>exact Iff.rfl
  | some cs=>
   simp only;cases V.zjn cs<;>exact Iff.rfl
theorem sh_appZ{es bytes:Nat}{z:Option (List za)}{x y:za}:A.appZ h es bytes z x y K↔(Sh.appZ es bytes z x y).run C h K:=by
 cases z<;>cases y<;>(try exact Iff.rfl);simp only[A.appZ,Sh.appZ];exact zg6 Iff.rfl
theorem sh_conv{x:za}:A.conv h x (λv=>K v h)↔(Sh.conv h x).run C h K:=by
 cases x<;>(try exact Iff.rfl);rename_i id g off n es cp;simp only[A.conv,Sh.conv];cases h id with
 | none=>exact Iff.rfl
 | some b=>exact zg6 Iff.rfl
theorem sh_strBytes{x:za}:A.zir h x K↔(Sh.zir x).run C h K:=by
 cases x<;>(try exact Iff.rfl);simp only[A.zir,Sh.zir];exact zg6 Iff.rfl
theorem sh_rangeStr{x:za}:A.zji h x K↔(Sh.zji x).run C h K:=by
 cases x<;>exact Iff.rfl
theorem sh_nextStr{x:za}:A.zhj h x K↔(Sh.zhj h x).run C h K:=by
 cases x<;>(try exact Iff.rfl);rename_i id g off;cases g with
 | succ _=>exact Iff.rfl
 | zero=>
  cases off with
  | succ _=>exact Iff.rfl
  | zero=>
   simp only[A.zhj,Sh.zhj];cases h id with
   | none=>exact Iff.rfl
   | some b=>
    simp only;cases b.obj with
    | none=>exact Iff.rfl
    | some o=>
     cases o with
     | iter s pos=>
      simp only;by_cases hp:pos<s.length
      ·rw[if_pos hp,if_pos hp];exact Iff.rfl
      ·rw[if_neg hp,if_neg hp];exact Iff.rfl
     | map _ _=>exact Iff.rfl
     | mapIter _ _ _ _=>exact Iff.rfl
     | loop _ _ _ _ _ _=>exact Iff.rfl
     | dfr _=>exact Iff.rfl
     | gone=>exact Iff.rfl
theorem sh_clr{z:Option (List za)}{x:za}:A.clr h z x K↔(Sh.clr h z x).run C h K:=by
 cases z with
 | none=>exact Iff.rfl
 | some z=>
  cases x<;>(try exact Iff.rfl);simp only[A.clr,Sh.clr];split
  ·exact Iff.rfl
  ·exact sh_st
theorem sh_objT{x:za}{f:List (za×za×Nat)->Nat->Option (List (za×za×Nat)×Nat×za)}{g:za->za}:A.zpk h x f (λv h=>K (g v) h)↔(Sh.zpk h x f g).run C h K:=by
 cases x<;>(try exact Iff.rfl);rename_i id;simp only[A.zpk,Sh.zpk];cases h id with
 | none=>exact Iff.rfl
 | some b=>
  simp only;cases b.obj with
  | none=>exact Iff.rfl
  | some o=>
   cases o with
   | iter _ _=>exact Iff.rfl
   | mapIter _ _ _ _=>exact Iff.rfl
   | loop _ _ _ _ _ _=>exact Iff.rfl
   | dfr _=>exact Iff.rfl
   | gone=>exact Iff.rfl
   | map es c=>
    simp only;cases f es c with
    | none=>exact Iff.rfl
    | some r=>obtain⟨_,_,_⟩:=r;exact Iff.rfl
theorem sh_mdel{kd:Option KD}{x k:za}:A.mdel h kd x k K↔(Sh.mdel h kd x k).run C h K:=by
 cases x<;>(try exact Iff.rfl)
 ·exact zg6 Iff.rfl
 ·rename_i i
  show A.zpk h (.mp i) (A.fdel kd k) K↔(Sh.zpk h (.mp i) (A.fdel kd k) λv=>v).run C h K;exact sh_objT (g:=λv=>v)
theorem sh_rangeMap{x:za}:A.rangeMap h x K↔(Sh.rangeMap h x).run C h K:=by
 cases x<;>(try exact Iff.rfl);rename_i id;simp only[A.rangeMap,Sh.rangeMap];cases A.zmd h (.mp id) with
 | none=>exact Iff.rfl
 | some r=>exact Iff.rfl
theorem sh_nextMap{x:za}:A.zeq h x K↔(Sh.zeq h x).run C h K:=by
 simp only[A.zeq,Sh.zeq];cases A.steps h x with
 | none=>exact Iff.rfl
 | some r=>exact Iff.rfl
theorem sh_callv{f:za}{args:List za}:A.zkt h C f args K↔(Sh.zkt f args).run C h K:=by
 cases f<;>exact Iff.rfl
theorem zij{b:Bool}{p q:Prop}{x y:Sh}(h1:p↔x.run C h K)(h2:q↔y.run C h K):(bif b then p else q)↔(bif b then x else y).run C h K:=by
 cases b
 ·exact h2
 ·exact h1
end
def zfi(P:Program)(b:Builtin)(at_:List TypeId)(args:List za)(h:zb):Sh:=
 match b,at_,args with
 | .len,t::_,[x]=>match P.underlying t with
  | some .string=>Sh.pv (V.zqx x)
  | some (.slice _)=>Sh.pv (V.zde x)
  | some (.array n _)=> .val (.int .i64 n)
  | some (.map _ _)=>Sh.pv (A.zli h x)
  | _=> .fail
 | .clear,[t],[x]=>match P.underlying t with
  | some (.slice e)=>if 0<P.cellsOf e then Sh.clr h (zeroOf P e) x else .fail
  | _=> .fail
 | .delete,t::_,[x,k]=>match P.underlying t with
  | some (.map kt _)=>Sh.mdel h (zhm P kt) x k
  | _=> .fail
 | .append,[t,u],[x,y]=>match P.underlying t,P.underlying u with
  | some (.slice e),some (.slice _)=>if 0<P.cellsOf e /\ t=u /\ (zeroOf P e).isSome=true then (match A.zgl y with
   | some n=>Sh.app h (P.cellsOf e) (P.bytesOf e) x (A.rdv h y n (P.cellsOf e))
   | none=> .fail) else .fail
  | some (.slice e),some .string=>if zo8 P e=true /\ (zeroOf P e).isSome=true then Sh.app h 1 (P.bytesOf e) x (A.strCells y) else .fail
  | some (.slice e),some (.int _)=>if 0<P.cellsOf e then Sh.appZ (P.cellsOf e) (P.bytesOf e) (zeroOf P e) x y else .fail
  | _,_=> .fail
 | .copy,[t,u],[x,y]=>match P.underlying t with
  | some (.slice e)=>if t=u /\ 0<P.cellsOf e then Sh.cpy h (P.cellsOf e) x y else .fail
  | _=> .fail
 | .min,_,[x,y]=>Sh.pv (V.min2 x y)
 | .max,_,[x,y]=>Sh.pv (V.max2 x y)
 | .cap,t::_,[x]=>match P.underlying t with
  | some (.slice _)=>Sh.pv (V.capSl x)
  | _=> .fail
 | _,_,_=> .fail
def zfz (P : Program) (op : Op) (ρ : Operand -> za) (h : zb) : Sh :=
  match op with
  | .move x | .assign x => .val (ρ x)
  | .pick c a b => Sh.pick (ρ c) (ρ a) (ρ b)
  | .alloc t => Sh.zgn (zeroOf P t) fun id => .ptr id 0 0
  | .box t x => Sh.zgn (bif zdz P t then A.zkf (P.cellsOf t) (ρ x) else A.zjm (ρ x)) fun id => .ptr id 0 0
  | .build t parts => Sh.pv (match zeroOf P t, placesOf P t (parts.toList.map fun p => (p.1, ρ p.2)) with
      | some z, some ps => (match zez ps z with | some cs => some (.agg cs) | none => none)
      | _, _ => none)
  | .buildSlice t len parts => match zlo P t with
    | some e => if len = 0 then (match parts.toList, partOf P e with | [], some _ => .val .sz | _, _ => .fail) else
        Sh.zgn (match zeroOf P e, partOf P e with
          | some z, some pz => bif Nat.ble (len * P.cellsOf e) 16777216 && Nat.ble 1 (P.cellsOf e) then zez (zqm (P.cellsOf e) pz (parts.toList.map fun p => (p.1, ρ p.2))) (zh2 len z) else none
          | _, _ => none) fun id => .sl id 0 0 len (P.cellsOf e) len
    | none => .fail
  | .load t x => match P.underlying t with
    | none => .fail
    | some _ => bif zdz P t then Sh.pv (A.zl2 h (ρ x) (P.cellsOf t)) else Sh.pv (A.ldv h (ρ x))
  | .store t x v => bif zdz P t then Sh.st h (ρ x) (V.putN (A.zo0 (ρ x)) (P.cellsOf t) (ρ v)) (P.cellsOf t) 0 .undef
      else bif Nat.beq (P.cellsOf t) 1 then Sh.st h (ρ x) (V.put1 (A.zo0 (ρ x)) (ρ v)) 1 0 .undef else .fail
  | .nilCheck x => Sh.nilCheck (ρ x)
  | .binOp op t x y _ => match P.underlying t with
    | some (.int _) | some .string => Sh.pv (V.bin op (ρ x) (ρ y))
    | some .bool => Sh.pv (V.zrd op (ρ x) (ρ y))
    | some (.pointer e) => bif zml y then Sh.pv (A.zgd h (P.cellsOf e) op (ρ x) (ρ y)) else Sh.pv (V.zgd op (ρ x) (ρ y))
    | some (.slice _) => Sh.pv (V.eqSl op (ρ x) (ρ y))
    | some (.func ..) => Sh.pv (V.eqFn op (ρ x) (ρ y))
    | some (.map _ _) => Sh.pv (V.eqMap op (ρ x) (ρ y))
    | some (.struct _) => (match zqj P t with
      | some sh => Sh.pv (V.binAgg op sh (ρ x) (ρ y))
      | none => .fail)
    | _ => .fail
  | .unOp op _ x => Sh.pv (V.un op (ρ x))
  | .convert src dst x => match P.underlying src, P.underlying dst with
    | some (.int _), some (.int k) => Sh.pv (V.toInt k (ρ x))
    | some .string, some .string => Sh.pv (V.strStr (ρ x))
    | some (.slice e), some .string => bif zo8 P e then Sh.zew h (ρ x) else .fail
    | some .string, some (.slice e) => bif zo8 P e then Sh.zir (ρ x) else .fail
    | some (.slice e), some (.slice _) => bif Nat.beq src dst && zo8 P e then Sh.conv h (ρ x) else .fail
    | _, _ => .fail
  | .range t x => match P.underlying t with
    | some .string => Sh.zji (ρ x)
    | some (.map _ _) => Sh.rangeMap h (ρ x)
    | _ => .fail
  | .next x true => Sh.zhj h (ρ x)
  | .next x false => Sh.zeq h (ρ x)
  | .entry x => Sh.pv (A.zfm h (ρ x))
  | .makeMap t none => match P.underlying t with
    | some (.map _ _) => .new (zf6 (.map [] 0)) fun id => .mp id
    | _ => .fail
  | .lookup t x i ok => match P.underlying t with
    | some (.map kt e) => Sh.pv (A.lkp h (zhm P kt) (zeroV P e) ok (ρ x) (ρ i))
    | _ => .fail
  | .mapUpdate t m k v => match P.underlying t with
    | some (.map kt _) => Sh.zpk h (ρ m) (A.fset (zhm P kt) (ρ k) (ρ v)) fun _ => .undef
    | _ => .fail
  | .mapEntry t m k => match P.underlying t with
    | some (.map kt e) => Sh.zpk h (ρ m) (A.fentry (zhm P kt) (zeroV P e) (ρ k)) fun v => v
    | _ => .fail
  | .entryStore t m n v => match P.underlying t with
    | some (.map _ _) => Sh.zpk h (ρ m) (A.fstore (ρ n) (ρ v)) fun _ => .undef
    | _ => .fail
  | .makeSlice t l c => match zlo P t with
    | some e => if 0 < P.cellsOf e then Sh.mks (P.bytesOf e) (zeroOf P e) (ρ l) (ρ c) else .fail
    | none => .fail
  | .slice t x lo hi mx => match P.underlying t, mx with
    | some .string, none => Sh.pv (V.cutStr (ρ x) (lo.map ρ) (hi.map ρ))
    | some (.slice e), none => bif Nat.beq (P.cellsOf e) 0 then .fail else Sh.pv (V.zh6 (P.cellsOf e) (ρ x) (lo.map ρ) (hi.map ρ))
    | some (.slice e), some mx => bif Nat.beq (P.cellsOf e) 0 then .fail else (match lo, hi with
      | some lo, some hi => Sh.pv (V.cut3 (P.cellsOf e) (ρ x) (ρ lo) (ρ hi) (ρ mx))
      | none, some hi => Sh.pv (V.cut3 (P.cellsOf e) (ρ x) (.int .i64 0) (ρ hi) (ρ mx))
      | _, _ => .fail)
    | _, _ => .fail
  | .fieldAddr t x f => match P.underlying t with
    | some (.struct fs) => (match fs[f]? with
      | some fd => bif Nat.beq (P.cellsOf fd.type) 0 then .fail else Sh.pv (V.fieldAddr fd.offset (ρ x))
      | none => .fail)
    | _ => .fail
  | .field t x f => match P.underlying t with
    | some (.struct fs) => (match fs[f]? with
      | some fd => (match P.underlying fd.type with
        | none => .fail
        | some _ => bif zdz P fd.type then Sh.pv (V.zi8 fd.offset (P.cellsOf fd.type) (ρ x)) else Sh.pv (V.zfc fd.offset (ρ x)))
      | none => .fail)
    | _ => .fail
  | .indexAddr t x i => match P.underlying t with
    | some (.slice e) => bif Nat.beq (P.cellsOf e) 0 then .fail else Sh.pv (V.zc9 (P.cellsOf e) (ρ x) (ρ i))
    | some (.array n e) => bif Nat.beq (P.cellsOf e) 0 then .fail else Sh.pv (V.idxA n (P.cellsOf e) (ρ x) (ρ i))
    | _ => .fail
  | .index t x i => match P.underlying t with
    | some .string => Sh.pv (V.znz (ρ x) (ρ i))
    | _ => .fail
  | .makeFunc (.func f) first zjb => .val (.fn f (first.toList.map ρ) (zjb.toList.map ρ))
  | .extract x i => Sh.pv (V.ext i (ρ x))
  | .call c => match c.callee with
    | .value (.func f) => .call f (c.args.toList.map ρ)
    | .value x => Sh.zkt (ρ x) (c.args.toList.map ρ)
    | .builtin b => zfi P b c.argTypes.toList (c.args.toList.map ρ) h
    | .invoke _ _ => .fail
  | _ => .fail
section
variable{P:Program}{C:z5}{h:zb}{K:zQ}{s:zbq}
theorem okA{a t u:Nat}{b:Bool}:(Nat.blt 0 a&&(Nat.beq t u&&b))=true↔0<a /\ t=u /\ b=true:=by
 rw[Bool.and_eq_true,Bool.and_eq_true,Nat.blt_eq,Nat.beq_eq]
theorem okC{a t u:Nat}:(Nat.beq t u&&Nat.blt 0 a)=true↔t=u /\ 0<a:=by
 rw[Bool.and_eq_true,Nat.blt_eq,Nat.beq_eq]
theorem builtinWp_sh{b:Builtin}{at_:List TypeId}{args:List za}:zlq P b at_ args h K↔(zfi P b at_ args h).run C h K:=by
 unfold zlq;split
 ·rename_i t _ x
  simp only[zfi];cases P.underlying t with
  | none=>exact Iff.rfl
  | some d=>cases d<;>first|exact Iff.rfl|exact zis
 ·rename_i t x
  simp only[zfi];cases P.underlying t with
  | none=>exact Iff.rfl
  | some d=>
   cases d<;>(try exact Iff.rfl);simp only;rw[A.zmi,Nat.blt_eq];exact zg6 sh_clr
 ·rename_i t _ x k
  simp only[zfi];cases P.underlying t with
  | none=>exact Iff.rfl
  | some d=>cases d<;>first|exact Iff.rfl|exact sh_mdel
 ·rename_i t u x y
  simp only[zfi];cases P.underlying t with
  | none=>exact Iff.rfl
  | some d=>
   cases P.underlying u with
   | none=>cases d<;>exact Iff.rfl
   | some d'=>
    cases d<;>(try exact Iff.rfl);cases d'<;>(try exact Iff.rfl)
    ·simp only
     rw[A.zmi,Nat.blt_eq];exact zg6 sh_appZ
    ·simp only
     rw[A.zmi,Bool.and_eq_true];exact zg6 sh_app
    ·simp only
     rw[A.zmi,okA];refine zg6 ?_;unfold A.ziz;cases A.zgl y with
     | none=>exact Iff.rfl
     | some n=>exact sh_app
 ·rename_i t u x y
  simp only[zfi];cases P.underlying t with
  | none=>exact Iff.rfl
  | some d=>
   cases d<;>(try exact Iff.rfl);simp only;rw[A.zmi,okC];exact zg6 sh_cpy
 ·exact zis
 ·exact zis
 ·rename_i t _ x
  simp only[zfi];cases P.underlying t with
  | none=>exact Iff.rfl
  | some d=>cases d<;>first|exact Iff.rfl|exact zis
 ·rename_i h1 h2 h3 h4 h5 h6 h7 h8
  have:zfi P b at_ args h= .fail:=by
   unfold zfi;split<;>simp_all<;>(exfalso;first|exact h6 _ _ _ _ rfl rfl rfl rfl|exact h7 _ _ _ _ rfl rfl rfl rfl|exact h5 _ _ _ _ rfl rfl rfl rfl|exact h8 _ _ _ _ rfl rfl rfl rfl)
  rw[this];exact Iff.rfl
theorem zkm{op:Op}:ziw P C op s h K↔(zfz P op (evS s) h).run C h K:=by
 cases op with
 | move x=>exact Iff.rfl
 | assign x=>exact Iff.rfl
 | pick c a b=>exact sh_pick
 | alloc t=>exact sh_newO
 | box t x=>exact sh_newO
 | build t ps=>exact zis
 | buildSlice t n ps=>
  simp only[ziw,zfz];cases zlo P t with
  | none=>exact Iff.rfl
  | some e=>
   simp only;by_cases h0:n=0
   ·rw[if_pos h0,if_pos h0]
    cases ps.toList<;>cases partOf P e<;>exact Iff.rfl
   ·rw[if_neg h0,if_neg h0];exact sh_newO
 | load t x=>
  simp only[ziw,zfz];cases P.underlying t with
  | none=>exact Iff.rfl
  | some d=>exact zij zis zis
 | store t x v=>exact zij sh_st (zij sh_st Iff.rfl)
 | nilCheck x=>exact sh_nilCheck
 | binOp op t x y u=>
  simp only[ziw,zfz];cases P.underlying t with
  | none=>exact Iff.rfl
  | some d=>
   cases d<;>(try exact Iff.rfl)<;>(try exact zis)<;>(try exact zij zis zis);simp only;cases zqj P t with
   | none=>exact Iff.rfl
   | some sh=>exact zis
 | unOp op t x=>exact zis
 | convert src dst x=>
  simp only[ziw,zfz];cases P.underlying src with
  | none=>exact Iff.rfl
  | some d=>
   cases P.underlying dst with
   | none=>cases d<;>exact Iff.rfl
   | some d'=>
    cases d<;>(try exact Iff.rfl)<;>cases d'<;>(try exact Iff.rfl)<;>(try exact zis)
    ·exact zij sh_strBytes Iff.rfl
    ·exact zij sh_bytesStr Iff.rfl
    ·exact zij sh_conv Iff.rfl
 | makeSlice t l c=>
  simp only[ziw,zfz];cases zlo P t with
  | none=>exact Iff.rfl
  | some e=>exact zg6 sh_mks
 | slice t x lo hi mx=>
  simp only[ziw,zfz];cases P.underlying t with
  | none=>cases mx<;>exact Iff.rfl
  | some d=>
   cases mx with
   | none=>
    cases d<;>(try exact Iff.rfl)<;>(try exact zis);exact zij Iff.rfl zis
   | some mx=>
    cases d<;>(try exact Iff.rfl);refine zij Iff.rfl ?_;cases lo<;>cases hi<;>first|exact Iff.rfl|exact zis
 | fieldAddr t x f=>
  simp only[ziw,zfz];cases P.underlying t with
  | none=>exact Iff.rfl
  | some d=>
   cases d<;>(try exact Iff.rfl);rename_i fs;simp only;cases fs[f]? with
   | some fd=>exact zij Iff.rfl zis
   | none=>exact Iff.rfl
 | field t x f=>
  simp only[ziw,zfz];cases P.underlying t with
  | none=>exact Iff.rfl
  | some d=>
   cases d<;>(try exact Iff.rfl);rename_i fs;simp only;cases fs[f]? with
   | some fd=>
    simp only;cases P.underlying fd.type with
    | none=>exact Iff.rfl
    | some d=>exact zij zis zis
   | none=>exact Iff.rfl
 | indexAddr t x i=>
  simp only[ziw,zfz];cases P.underlying t with
  | none=>exact Iff.rfl
  | some d=>cases d<;>(try exact Iff.rfl)<;>exact zij Iff.rfl zis
 | index t x i=>
  simp only[ziw,zfz];cases P.underlying t with
  | none=>exact Iff.rfl
  | some d=>cases d<;>(try exact Iff.rfl)<;>exact zis
 | makeFunc fn first zjb=>cases fn<;>exact Iff.rfl
 | extract x i=>exact zis
 | range t x=>
  simp only[ziw,zfz];cases P.underlying t with
  | none=>exact Iff.rfl
  | some d=>cases d<;>(try exact Iff.rfl)<;>first|exact sh_rangeStr|exact sh_rangeMap
 | next x b=>
  cases b with
  | false=>exact sh_nextMap
  | true=>exact sh_nextStr
 | entry x=>exact zis
 | makeMap t r=>
  cases r with
  | some _=>exact Iff.rfl
  | none=>
   simp only[ziw,zfz];cases P.underlying t with
   | none=>exact Iff.rfl
   | some d=>cases d<;>exact Iff.rfl
 | lookup t x i ok=>
  simp only[ziw,zfz];cases P.underlying t with
  | none=>exact Iff.rfl
  | some d=>cases d<;>first|exact Iff.rfl|exact zis
 | mapUpdate t m k v=>
  simp only[ziw,zfz];cases P.underlying t with
  | none=>exact Iff.rfl
  | some d=>cases d<;>(try exact Iff.rfl);exact sh_objT (g:=λ_=> .undef)
 | mapEntry t m k=>
  simp only[ziw,zfz];cases P.underlying t with
  | none=>exact Iff.rfl
  | some d=>cases d<;>(try exact Iff.rfl);exact sh_objT (g:=λv=>v)
 | entryStore t m n v=>
  simp only[ziw,zfz];cases P.underlying t with
  | none=>exact Iff.rfl
  | some d=>cases d<;>(try exact Iff.rfl);exact sh_objT (g:=λ_=> .undef)
 | call c=>
  simp only[ziw,zfz];cases c.callee with
  | value f=>cases f<;>first|exact Iff.rfl|exact sh_callv
  | invoke _ _=>exact Iff.rfl
  | builtin b=>exact builtinWp_sh
 | insert _ _ _ _|ready _|waits _|sliceToArrayPointer _ _|makeInterface _ _|makeChan _ _|typeAssert _ _ _ _|go _|defer _|panic _|send _ _|recv _ _ _|select _ _=>exact Iff.rfl
theorem zf9(hC:∀f args h (Q Q':zQ),(∀v h,Q v h->Q' v h)->C f args h Q->C f args h Q'){K':zQ}(hk:∀v h,K v h->K' v h){x:Sh}(hx:x.run C h K):x.run C h K':=by
 cases x with
 | val v=>exact hk _ _ hx
 | heap id b v=>exact hk _ _ hx
 | many id l=>exact λp hp=>hk _ _ (hx p hp)
 | new b mk=>exact λid hid=>hk _ _ (hx id hid)
 | call f args=>exact hC _ _ _ _ _ hk hx
 | fail=>exact hx
end
section
variable{P:Program}{h H:zb}{ρ ρ':Operand->za}
theorem zqn{ps:Array (Nat×Operand)}(h:∀x∈(ps.toList.map (·.2)).toArray,ρ x=ρ' x):(ps.toList.map λp=>(p.1,ρ p.2))=ps.toList.map λp=>(p.1,ρ' p.2):=
 map_congr_left λp hp=>by rw[h p.2 (by simp only[mem_toArray,mem_map];exact⟨p,hp,rfl⟩)]
theorem zot{xs:Array Operand}(h:∀x∈xs,ρ x=ρ' x):xs.toList.map ρ=xs.toList.map ρ':=map_congr_left λx hx=>h x (by simpa using hx)
theorem zj1{op:Op}(hop:∀x∈op.operands,ρ x=ρ' x):zfz P op ρ h=zfz P op ρ' h:=by
 cases op<;>simp only[Op.operands]at hop<;>simp only[zfz]
 case build t ps=>rw[zqn hop]
 case buildSlice t n ps=>rw[zqn hop]
 case makeFunc fn first zjb=>
  cases fn<;>simp only;rw[zot λx hx=>hop x (by simp[hx]),zot λx hx=>hop x (by simp[hx])]
 case call c=>
  have ha:c.args.toList.map ρ=c.args.toList.map ρ':=zot λx hx=>hop x (by simp[Call.operands,hx]);rw[ha];cases hc:c.callee with
  | value f=>
   have hf:ρ f=ρ' f:=hop f (by simp[Call.operands,hc]);cases f<;>simp only[hf]
  | invoke r m=>rfl
  | builtin b=>rfl
 case next x b=>cases b<;>simp_all
 case makeMap t r=>cases r<;>rfl
 case slice t x lo hi mx=>cases lo<;>cases hi<;>cases mx<;>simp_all<;>(cases hu:P.underlying t with|none=>rfl|some d=>cases d<;>simp_all)
 all_goals (first|rfl|(simp_all;done))
theorem ownG_le(hle:h.le H){i g:Nat}(ho:A.ownG h i g=true):A.ownG H i g=true:=by
 unfold A.ownG at ho ⊢;split at ho
 ·rename_i b hb;rw[hle i b hb];exact ho
 ·cases ho
theorem eqPtr_le(hle:h.le H){es:Nat}{op:BinOp}{x y v:za}(hv:A.zgd h es op x y=some v):A.zgd H es op x y=some v:=by
 unfold A.zgd at hv ⊢;split at hv
 ·split at hv
  ·rename_i j g2 b _ i g1 a
   cases hs:Nat.blt 0 es with
   | false=>rw[hs]at hv;cases hv
   | true=>
    rw[hs]at hv;simp only[hs,cond_true]at hv ⊢;cases hij:Nat.beq i j with
    | true=>rw[hij]at hv;exact hv
    | false=>
     rw[hij]at hv;simp only[cond_false]at hv ⊢;cases ho:A.ownG h i g1&&A.ownG h j g2 with
     | false=>rw[ho]at hv;cases hv
     | true=>
      rw[ho]at hv;rw[Bool.and_eq_true]at ho;rw[ownG_le hle ho.1,ownG_le hle ho.2];exact hv
  ·exact hv
 ·exact hv
theorem zqy(hle:h.le H){p v:za}(hv:A.ldv h p=some v):A.ldv H p=some v:=by
 unfold A.ldv at hv ⊢;split at hv<;>(try (cases hv;done));split at hv<;>(try (cases hv;done));rename_i b hb;rw[hle _ b hb];exact hv
theorem ldnv_le(hle:h.le H){p v:za}{n:Nat}(hv:A.zl2 h p n=some v):A.zl2 H p n=some v:=by
 unfold A.zl2 at hv ⊢;split at hv<;>(try (cases hv;done));split at hv<;>(try (cases hv;done));rename_i b hb;rw[hle _ b hb];exact hv
theorem rdv_le(hle:h.le H){p:za}{n es:Nat}{cs:List za}(hv:A.rdv h p n es=some cs):A.rdv H p n es=some cs:=by
 unfold A.rdv at hv ⊢;split at hv
 ·exact hv
 ·exact hv
 ·split at hv<;>(try (cases hv;done))
  rename_i b hb;rw[hle _ b hb];exact hv
 ·cases hv
theorem st_le(hle:h.le H){p v:za}{f:List za->Option (List za)}{n off:Nat}(hx:Sh.st h p f n off v≠ .fail):Sh.st H p f n off v=Sh.st h p f n off v:=by
 unfold Sh.st at hx ⊢;split
 ·rename_i id g o
  cases hb:h id with
  | none=>simp[hb]at hx
  | some b=>rw[hle _ b hb]
 ·rfl
theorem app_le(hle:h.le H){es bytes:Nat}{x:za}{news:Option (List za)}(hx:Sh.app h es bytes x news≠ .fail):Sh.app H es bytes x news=Sh.app h es bytes x news:=by
 unfold Sh.app at hx ⊢;cases news with
 | none=>rfl
 | some cs=>
  cases x<;>(try rfl);rename_i id g off len es' cp';cases hb:h id with
  | none=>simp[hb]at hx
  | some b=>
   have hB:=hle _ b hb;simp only[hB,hb]
theorem cpy_le(hle:h.le H){es:Nat}{x y:za}(hx:Sh.cpy h es x y≠ .fail):Sh.cpy H es x y=Sh.cpy h es x y:=by
 unfold Sh.cpy at hx ⊢;cases hm:A.zgl y with
 | none=>rfl
 | some m=>
  simp only[hm]at hx;cases x<;>(try rfl);simp only at hx ⊢;rename_i id g off len es' cp';cases hr:A.rdv h y (min m len) es with
  | none=>simp[hr]at hx
  | some cs=>
   simp only[hr]at hx;rw[rdv_le hle hr];exact st_le hle hx
theorem bytesStr_le(hle:h.le H){x:za}(hx:Sh.zew h x≠ .fail):Sh.zew H x=Sh.zew h x:=by
 unfold Sh.zew at hx ⊢;cases hm:A.zgl x with
 | none=>rfl
 | some m=>
  simp only[hm]at hx ⊢;cases hr:A.rdv h x m 1 with
  | none=>simp[hr]at hx
  | some cs=>rw[rdv_le hle hr]
theorem conv_le(hle:h.le H){x:za}(hx:Sh.conv h x≠ .fail):Sh.conv H x=Sh.conv h x:=by
 unfold Sh.conv at hx ⊢
 split
 ·rename_i id g off n es cp
  cases hb:h id with
  | none=>simp[hb]at hx
  | some b=>rw[hle _ b hb]
 ·rfl
theorem conv_val(h:zb)(x:za):Sh.conv h x= .val x \/ Sh.conv h x= .fail:=by
 unfold Sh.conv
 split
 ·split
  ·split
   ·exact .inl rfl
   ·exact .inr rfl
  ·exact .inr rfl
 ·exact .inr rfl
theorem bytesStr_val(h:zb)(x:za):(∃v,Sh.zew h x= .val v) \/ Sh.zew h x= .fail:=by
 unfold Sh.zew;split
 ·split
  ·split
   ·exact .inl ⟨_,rfl⟩
   ·exact .inr rfl
  ·exact .inr rfl
 ·exact .inr rfl
theorem nextStr_le(hle:h.le H){x:za}(hx:Sh.zhj h x≠ .fail):Sh.zhj H x=Sh.zhj h x:=by
 unfold Sh.zhj at hx ⊢;split
 ·rename_i id
  cases hb:h id with
  | none=>simp[hb]at hx
  | some b=>rw[hle _ b hb]
 ·rfl
theorem zp0(hle:h.le H){x:za}{r:List (za×za×Nat)×Nat}(hx:A.zmd h x=some r):A.zmd H x=some r:=by
 unfold A.zmd at hx ⊢;split at hx<;>(try (cases hx;done));split at hx<;>(try (cases hx;done));rename_i b hb;rw[hle _ b hb];exact hx
theorem zse(hle:h.le H){x:za}{r:List (za×za×Nat)}(hx:A.entries h x=some r):A.entries H x=some r:=by
 unfold A.entries at hx ⊢;split at hx
 ·exact hx
 ·rename_i hne
  split at hx<;>(try (cases hx;done));rename_i es c hm;rw[zp0 hle hm];cases x<;>first|exact hx|exact absurd rfl hne
theorem lkp_le(hle:h.le H){kd:Option KD}{z:Option za}{ok:Bool}{x k v:za}(hx:A.lkp h kd z ok x k=some v):A.lkp H kd z ok x k=some v:=by
 unfold A.lkp at hx ⊢;cases kd with
 | none=>cases hx
 | some kd=>
  cases z with
  | none=>cases hx
  | some z=>
   cases he:A.entries h x with
   | none=>rw[he]at hx;cases hx
   | some es=>rw[he]at hx;rw[zse hle he];exact hx
theorem mapLen_le(hle:h.le H){x v:za}(hx:A.zli h x=some v):A.zli H x=some v:=by
 unfold A.zli at hx ⊢;cases he:A.entries h x with
 | none=>rw[he]at hx;cases hx
 | some es=>rw[he]at hx;rw[zse hle he];exact hx
theorem entryAt_le(hle:h.le H){x v:za}(hx:A.zfm h x=some v):A.zfm H x=some v:=by
 unfold A.zfm at hx ⊢;split at hx<;>(try (cases hx;done));split at hx<;>(try (cases hx;done));rename_i b hb;rw[hle _ b hb];simp only;split at hx<;>(try (cases hx;done));rename_i m _ seen last ho;cases hm:A.zmd h (.mp m) with
 | none=>rw[hm]at hx;cases hx
 | some r=>rw[hm]at hx;rw[zp0 hle hm];exact hx
theorem clr_le(hle:h.le H){z:Option (List za)}{x:za}(hx:Sh.clr h z x≠ .fail):Sh.clr H z x=Sh.clr h z x:=by
 unfold Sh.clr at hx ⊢;cases z with
 | none=>rfl
 | some z=>
  cases x<;>(try rfl);simp only at hx ⊢;split
  ·rfl
  ·rename_i h0
   rw[if_neg h0]at hx;exact st_le hle hx
theorem objT_le(hle:h.le H){x:za}{f:List (za×za×Nat)->Nat->Option (List (za×za×Nat)×Nat×za)}{g:za->za}(hx:Sh.zpk h x f g≠ .fail):Sh.zpk H x f g=Sh.zpk h x f g:=by
 unfold Sh.zpk at hx ⊢;cases x<;>(try rfl);rename_i id;simp only at hx ⊢;cases hb:h id with
 | none=>simp[hb]at hx
 | some b=>rw[hle _ b hb]
theorem mdel_le(hle:h.le H){kd:Option KD}{x k:za}(hx:Sh.mdel h kd x k≠ .fail):Sh.mdel H kd x k=Sh.mdel h kd x k:=by
 unfold Sh.mdel at hx ⊢;cases x<;>first|rfl|exact objT_le hle hx
theorem rangeMap_le(hle:h.le H){x:za}(hx:Sh.rangeMap h x≠ .fail):Sh.rangeMap H x=Sh.rangeMap h x:=by
 unfold Sh.rangeMap at hx ⊢;cases x<;>(try rfl);rename_i id;simp only at hx ⊢;cases hm:A.zmd h (.mp id) with
 | none=>rw[hm]at hx;exact absurd rfl hx
 | some r=>rw[zp0 hle hm]
theorem steps_le(hle:h.le H){x:za}{r:Nat×List (Blk×za)}(hx:A.steps h x=some r):A.steps H x=some r:=by
 unfold A.steps at hx ⊢;split at hx<;>(try (cases hx;done));split at hx<;>(try (cases hx;done));rename_i b hb;rw[hle _ b hb];simp only;split at hx<;>(try (cases hx;done))
 ·exact hx
 ·rename_i m _ seen last ho
  cases hm:A.zmd h (.mp m) with
  | none=>rw[hm]at hx;cases hx
  | some r=>rw[hm]at hx;rw[zp0 hle hm];exact hx
theorem nextMap_le(hle:h.le H){x:za}(hx:Sh.zeq h x≠ .fail):Sh.zeq H x=Sh.zeq h x:=by
 unfold Sh.zeq at hx ⊢;cases hs:A.steps h x with
 | none=>rw[hs]at hx;exact absurd rfl hx
 | some r=>rw[steps_le hle hs]
theorem pv_le{o o':Option za}(ho:∀v,o=some v->o'=some v)(hx:Sh.pv o≠ .fail):Sh.pv o'=Sh.pv o:=by
 cases o with
 | none=>exact absurd rfl hx
 | some v=>rw[ho v rfl]
theorem shOf_le(hle:h.le H){op:Op}(hx:zfz P op ρ h≠ .fail):zfz P op ρ H=zfz P op ρ h:=by
 cases op<;>(try rfl)
 case makeFunc fn _ _=>cases fn<;>rfl
 all_goals simp only[zfz]at hx ⊢
 case load t p=>
  cases hu:P.underlying t with
  | none=>rfl
  | some d=>
   simp only[hu]at hx ⊢;cases hb:zdz P t<;>simp only[hb,cond_true,cond_false]at hx ⊢
   ·exact pv_le (λv=>zqy hle) hx
   ·exact pv_le (λv=>ldnv_le hle) hx
 case store t p v=>
  cases hb:zdz P t<;>simp only[hb,cond_true,cond_false]at hx ⊢
  ·cases hc:Nat.beq (P.cellsOf t) 1<;>simp only[hc,cond_true,cond_false]at hx ⊢
   exact st_le hle hx
  ·exact st_le hle hx
 case binOp op t x y u=>
  cases hu:P.underlying t with
  | none=>rfl
  | some d=>
   simp only[hu]at hx ⊢;cases d<;>(try rfl);cases hc:zml y<;>simp only[hc,cond_true,cond_false]at hx ⊢;exact pv_le (λv=>eqPtr_le hle) hx
 case convert src dst y=>
  cases hs:P.underlying src with
  | none=>rfl
  | some d=>
   cases hd:P.underlying dst with
   | none=>cases d<;>rfl
   | some d'=>
    simp only[hs,hd]at hx ⊢;cases d<;>(try rfl)<;>cases d'<;>(try rfl)
    ·rename_i e
     simp only at hx ⊢;cases hu:zo8 P e<;>simp only[hu,cond_true,cond_false]at hx ⊢;exact bytesStr_le hle hx
    ·rename_i e _
     simp only at hx ⊢;cases hu:Nat.beq src dst&&zo8 P e<;>simp only[hu,cond_true,cond_false]at hx ⊢;exact conv_le hle hx
 case next y b=>
  cases b
  ·exact nextMap_le hle hx
  ·exact nextStr_le hle hx
 case entry y=>exact pv_le (λv=>entryAt_le hle) hx
 case range t y=>
  cases hu:P.underlying t with
  | none=>rfl
  | some d=>
   simp only[hu]at hx ⊢;cases d<;>first|rfl|exact rangeMap_le hle hx
 case makeMap t r=>cases r<;>rfl
 case lookup t y i ok=>
  cases hu:P.underlying t with
  | none=>rfl
  | some d=>
   simp only[hu]at hx ⊢;cases d<;>first|rfl|exact pv_le (λv=>lkp_le hle) hx
 case mapUpdate t m k v=>
  cases hu:P.underlying t with
  | none=>rfl
  | some d=>
   simp only[hu]at hx ⊢;cases d<;>first|rfl|exact objT_le hle hx
 case mapEntry t m k=>
  cases hu:P.underlying t with
  | none=>rfl
  | some d=>
   simp only[hu]at hx ⊢;cases d<;>first|rfl|exact objT_le hle hx
 case entryStore t m k v=>
  cases hu:P.underlying t with
  | none=>rfl
  | some d=>
   simp only[hu]at hx ⊢;cases d<;>first|rfl|exact objT_le hle hx
 case call c=>
  cases hc:c.callee with
  | value f=>cases f<;>rfl
  | invoke _ _=>rfl
  | builtin b=>
   simp only[hc]at hx ⊢;unfold zfi at hx ⊢;split<;>(try rfl)
   ·rename_i t _ x e1 e2
    simp only[e1,e2]at hx;cases hs:P.underlying t with
    | none=>rfl
    | some d=>
     simp only[hs]at hx ⊢;cases d<;>first|rfl|exact pv_le (λv=>mapLen_le hle) hx
   ·rename_i t x e1 e2
    simp only[e1,e2]at hx;cases hs:P.underlying t with
    | none=>rfl
    | some d=>
     simp only[hs]at hx ⊢;cases d<;>(try rfl);simp only at hx ⊢;split
     ·rename_i h0
      rw[if_pos h0]at hx;exact clr_le hle hx
     ·rfl
   ·rename_i t _ x k e1 e2
    simp only[e1,e2]at hx;cases hs:P.underlying t with
    | none=>rfl
    | some d=>
     simp only[hs]at hx ⊢;cases d<;>first|rfl|exact mdel_le hle hx
   ·rename_i t u x y e1 e2
    simp only[e1,e2]at hx;cases hs:P.underlying t with
    | none=>rfl
    | some d=>
     cases hd:P.underlying u with
     | none=>cases d<;>rfl
     | some d'=>
      simp only[hs,hd]at hx ⊢;cases d<;>(try rfl)<;>cases d'<;>(try rfl)
      ·rename_i e
       simp only at hx ⊢;split
       ·rename_i h0
        rw[if_pos h0]at hx;exact app_le hle hx
       ·rfl
      ·rename_i e e'
       simp only at hx ⊢;split
       ·rename_i h0
        rw[if_pos h0]at hx;cases hn:A.zgl y with
        | none=>rfl
        | some n=>
         simp only[hn]at hx ⊢;cases hr:A.rdv h y n (P.cellsOf e) with
         | none=>rw[hr]at hx;exact absurd rfl hx
         | some cs=>rw[hr]at hx;rw[rdv_le hle hr];exact app_le hle hx
       ·rfl
   ·rename_i t u x y e1 e2
    simp only[e1,e2]at hx;cases hs:P.underlying t with
    | none=>rfl
    | some d=>
     simp only[hs]at hx ⊢;cases d<;>(try rfl);simp only at hx ⊢;split
     ·rename_i h0
      rw[if_pos h0]at hx;exact cpy_le hle hx
     ·rfl
def Sh.known(h:zb):Sh->Prop | .heap id _ _=>∃b,h id=some b | .many id _=>∃b,h id=some b|_=>True
theorem zpw{p v:za}{f:List za->Option (List za)}{n off:Nat}:(Sh.st h p f n off v).known h:=by
 unfold Sh.st;split<;>(try trivial);split<;>(try trivial);rename_i b hb;split<;>(try trivial);rename_i hi _;cases (b.own&&_)<;>simp only[cond_true,cond_false]<;>(try trivial);split<;>(try trivial);exact⟨b,hb⟩
theorem ze8{o:Option za}:(Sh.pv o).known h:=by cases o<;>trivial
theorem zr7{o:Option (List za)}{mk:Nat->za}:(Sh.zgn o mk).known h:=by cases o<;>trivial
theorem zen{p:Prop}[Decidable p]{x y:Sh}(hx:x.known h)(hy:y.known h):(if p then x else y).known h:=by split<;>assumption
theorem zft{p:Bool}{x y:Sh}(hx:x.known h)(hy:y.known h):(bif p then x else y).known h:=by cases p<;>assumption
theorem app_known{es bytes:Nat}{x:za}{news:Option (List za)}:(Sh.app h es bytes x news).known h:=by
 unfold Sh.app;cases news with
 | none=>trivial
 | some cs=>
  cases x<;>(try trivial)
  ·exact zen trivial (zen trivial trivial)
  ·exact zen trivial (zen trivial trivial)
  ·simp only
   split<;>(try trivial);rename_i b hb;split<;>(try trivial);exact zft (zen ⟨b,hb⟩ trivial) (zen trivial trivial)
theorem cpy_known{es:Nat}{x y:za}:(Sh.cpy h es x y).known h:=by
 unfold Sh.cpy;split<;>(try trivial);split<;>(try trivial);split<;>(try trivial);exact zpw
theorem clr_known{z:Option (List za)}{x:za}:(Sh.clr h z x).known h:=by
 unfold Sh.clr;cases z with
 | none=>trivial
 | some z=>cases x<;>(try trivial);exact zen trivial zpw
theorem zly{x:za}{f:List (za×za×Nat)->Nat->Option (List (za×za×Nat)×Nat×za)}{g:za->za}:(Sh.zpk h x f g).known h:=by
 unfold Sh.zpk;split<;>(try trivial);split<;>(try trivial);rename_i b hb;split<;>(try trivial);split<;>(try trivial);exact⟨b,hb⟩
theorem mdel_known{kd:Option KD}{x k:za}:(Sh.mdel h kd x k).known h:=by
 unfold Sh.mdel;cases x<;>first|exact zly|exact zen trivial trivial
theorem zrj{x:za}:(Sh.rangeMap h x).known h:=by
 unfold Sh.rangeMap;split<;>(try trivial);split<;>trivial
theorem nextMap_known{x:za}:(Sh.zeq h x).known h:=by
 unfold Sh.zeq;split<;>(try trivial);rename_i id l hs;unfold A.steps at hs;split at hs<;>(try (cases hs;done));split at hs<;>(try (cases hs;done));rename_i b hb;split at hs<;>(try (cases hs;done))
 ·cases hs;exact⟨b,hb⟩
 ·split at hs<;>(try (cases hs;done))
  rename_i es c hm;cases hck:(es.all λe=>Nat.blt e.2.2 _)&&Nat.ble _ _ with
  | false=>rw[hck]at hs;cases hs
  | true=>
   rw[hck]at hs;simp only[cond_true,Option.some.injEq,Prod.mk.injEq]at hs;obtain⟨rfl,_⟩:=hs;exact⟨b,hb⟩
theorem zry{op:Op}:(zfz P op ρ h).known h:=by
 cases op<;>(try trivial)<;>simp only[zfz]<;>(try exact ze8)<;>(try exact zr7)
 case pick=>unfold Sh.pick;split<;>trivial
 case nilCheck=>unfold Sh.nilCheck;split<;>trivial
 case buildSlice=>
  split<;>(try trivial);refine zen ?_ zr7;split<;>trivial
 case load=>split<;>(try trivial);exact zft ze8 ze8
 case store=>exact zft zpw (zft zpw trivial)
 case binOp=>split<;>(try trivial)<;>(try exact ze8)<;>(try exact zft ze8 ze8);split<;>(try trivial)<;>exact ze8
 case convert=>
  split<;>(try trivial)<;>(try exact ze8)
  ·refine zft ?_ trivial
   unfold Sh.zew;split<;>(try trivial);split<;>(try trivial);split<;>trivial
  ·refine zft ?_ trivial
   unfold Sh.zir;split<;>(try trivial);exact zen trivial trivial
  ·refine zft ?_ trivial
   rcases conv_val h _ with e|e<;>rw[e]<;>trivial
 case range=>
  split<;>(try trivial)
  ·unfold Sh.zji;split<;>trivial
  ·exact zrj
 case makeMap t r=>cases r<;>(try trivial);simp only;split<;>trivial
 case lookup=>split<;>(try trivial);exact ze8
 case mapUpdate=>split<;>(try trivial);exact zly
 case mapEntry=>split<;>(try trivial);exact zly
 case entryStore=>split<;>(try trivial);exact zly
 case next y b=>
  cases b
  ·exact nextMap_known
  simp only;unfold Sh.zhj;split<;>(try trivial);split<;>(try trivial);rename_i b hb;split<;>(try trivial);exact zen ⟨b,hb⟩ trivial
 case makeSlice=>
  split<;>(try trivial);refine zen ?_ trivial;unfold Sh.mks;split<;>(try trivial);exact zen trivial trivial
 case slice=>
  split<;>(try trivial)<;>(try exact ze8)
  ·exact zft trivial ze8
  ·refine zft trivial ?_
   split<;>(try trivial)<;>exact ze8
 case fieldAddr=>split<;>(try trivial);split<;>(try trivial);exact zft trivial ze8
 case field=>split<;>(try trivial);split<;>(try trivial);split<;>(try trivial);exact zft ze8 ze8
 case indexAddr=>split<;>(try trivial)<;>exact zft trivial ze8
 case index=>split<;>(try trivial);exact ze8
 case makeFunc fn _ _=>cases fn<;>trivial
 case call c=>
  split<;>(try trivial)
  ·unfold Sh.zkt;split<;>trivial
  ·unfold zfi
   split<;>(try trivial)<;>(try exact ze8)
   ·split<;>(try trivial)<;>exact ze8
   ·split<;>(try trivial);exact zen clr_known trivial
   ·split<;>(try trivial);exact mdel_known
   ·split<;>(try trivial)
    ·refine zen ?_ trivial
     split<;>(try trivial);exact app_known
    ·exact zen app_known trivial
    ·refine zen ?_ trivial
     unfold Sh.appZ;split<;>(try trivial);exact zen trivial trivial
   ·split<;>(try trivial)
    exact zen cpy_known trivial
   ·split<;>(try trivial);exact ze8
theorem sh_frame{K:zQ}{x:Sh}{id:Nat}{b:Blk}(hid:h id=none)(hkn:x.known h)(hx:x.run (AC P) h K):
  x.run (AC P) (upd h id b) λv h''=>∃h',K v h' /\ h' id=none /\ h''=upd h' id b:=by
 cases x with
 | val v=>exact⟨h,hx,hid,rfl⟩
 | heap i b' v=>
  obtain⟨b0,hb0⟩:=hkn;have hne:id≠i:=λe=>by subst e;rw[hid]at hb0;cases hb0
  exact⟨upd h i b',hx,by rw[zt _ _ hne];exact hid,zpu _ _ _ hne⟩
 | many i l=>
  obtain⟨b0,hb0⟩:=hkn;have hne:id≠i:=λe=>by subst e;rw[hid]at hb0;cases hb0
  exact λp hp=>⟨upd h i p.1,hx p hp,by rw[zt _ _ hne];exact hid,zpu _ _ _ hne⟩
 | new b' mk=>
  intro i hi;have hne:id≠i:=λe=>by subst e;rw[zbv]at hi;cases hi
  rw[zt _ _ (Ne.symm hne)]at hi;exact⟨upd h i b',hx i hi,by rw[zt _ _ hne];exact hid,zpu _ _ _ hne⟩
 | call f args=>exact AC.frame hx hid
 | fail=>exact hx
theorem sh_of_pure{op:Op}(hk:zjy P op= .pure):(∀h H:zb,zfz P op ρ h=zfz P op ρ H) /\ ((∃v,zfz P op ρ h= .val v) \/ zfz P op ρ h= .fail):=by
 have pvc:∀o:Option za,(∃v,Sh.pv o= .val v) \/ Sh.pv o= .fail:=λo=>by
  cases o with
  | none=>exact .inr rfl
  | some v=>exact .inl ⟨v,rfl⟩
 have bc:∀(b:Bool)(x y:Sh),((∃v,x= .val v) \/ x= .fail)->((∃v,y= .val v) \/ y= .fail)->((∃v,(bif b then x else y)= .val v) \/ (bif b then x else y)= .fail):=λb x y hx hy=>by
  cases b
  ·exact hy
  ·exact hx
 cases op<;>(try (simp only[zjy]at hk;cases hk;done))<;>(try (exact⟨λ_ _=>rfl,.inl ⟨_,rfl⟩⟩))<;>(try (exact⟨λ_ _=>rfl,pvc _⟩))
 case pick=>exact⟨λ_ _=>rfl,by simp only[zfz];unfold Sh.pick;split<;>simp⟩
 case nilCheck=>exact⟨λ_ _=>rfl,by simp only[zfz];unfold Sh.nilCheck;split<;>simp⟩
 case binOp op t x y u=>
  simp only[zjy]at hk;simp only[zfz];cases hu:P.underlying t with
  | none=>exact⟨λ_ _=>rfl,.inr rfl⟩
  | some d=>
   simp only[hu]at hk;cases d<;>first|exact ⟨λ_ _=>rfl,pvc _⟩|exact ⟨λ_ _=>rfl,.inr rfl⟩|skip
   ·cases hc:zml y with
    | true=>rw[hc]at hk;cases hk
    | false=>exact⟨λ_ _=>rfl,pvc _⟩
   ·refine⟨λ_ _=>rfl,?_⟩
    simp only;split<;>first|exact pvc _|exact .inr rfl
 case convert src dst y=>
  simp only[zjy]at hk;simp only[zfz];cases hs:P.underlying src with
  | none=>simp[hs]at hk
  | some d=>
   cases hd:P.underlying dst with
   | none=>rw[hs,hd]at hk;cases d<;>cases hk
   | some d'=>
    rw[hs,hd]at hk;cases d<;>(try (cases hk;done))<;>cases d'<;>(try (cases hk;done))<;>exact⟨λ_ _=>rfl,pvc _⟩
 case slice=>exact⟨λ_ _=>rfl,by
  simp only[zfz];split<;>(try exact pvc _)<;>(try exact .inr rfl)
  ·exact bc _ _ _ (.inr rfl) (pvc _)
  ·exact bc _ _ _ (.inr rfl) (by split<;>(try exact pvc _)<;>exact .inr rfl)⟩
 case fieldAddr=>exact⟨λ_ _=>rfl,by simp only[zfz];split<;>(try exact .inr rfl);split<;>(try exact .inr rfl);exact bc _ _ _ (.inr rfl) (pvc _)⟩
 case field=>exact⟨λ_ _=>rfl,by simp only[zfz];split<;>(try exact .inr rfl);split<;>(try exact .inr rfl);split<;>(try exact .inr rfl);exact bc _ _ _ (pvc _) (pvc _)⟩
 case indexAddr=>exact⟨λ_ _=>rfl,by simp only[zfz];split<;>(try exact .inr rfl)<;>exact bc _ _ _ (.inr rfl) (pvc _)⟩
 case index=>exact⟨λ_ _=>rfl,by simp only[zfz];split<;>(try exact .inr rfl);exact pvc _⟩
 case makeFunc fn _ _=>cases fn<;>exact⟨λ_ _=>rfl,by first|exact .inl ⟨_,rfl⟩|exact .inr rfl⟩
 case call c=>
  obtain⟨callee,args,ats⟩:=c;cases callee with
  | value _=>simp[zjy]at hk
  | invoke _ _=>simp[zjy]at hk
  | builtin b=>
   have hb:(b= .len /\ zo9 P ats.toList=false) \/ b= .min \/ b= .max \/ b= .cap:=by
    cases b<;>simp[zjy]at hk ⊢;cases hm:zo9 P ats.toList
    ·rfl
    ·rw[hm]at hk;cases hk
   simp only[zfz];generalize ats.toList=as at *;generalize args.toList.map ρ=bs;rcases hb with⟨rfl,hnm⟩|rfl|rfl|rfl
   ·cases as with
    | nil=>exact⟨λ_ _=>rfl,.inr rfl⟩
    | cons t r=>
     rcases bs with _|⟨x,_|⟨y,r'⟩⟩
     ·exact⟨λ_ _=>rfl,.inr rfl⟩
     ·have hnm':∀a b,P.underlying t≠some (.map a b):=λa b e=>by simp[zo9,e]at hnm
      refine⟨λh H=>?_,?_⟩
      ·simp only[zfi]
       cases hu:P.underlying t with
       | none=>rfl
       | some d=>cases d<;>first|rfl|exact absurd hu (hnm' _ _)
      ·simp only[zfi]
       split<;>(try exact pvc _)
       ·exact .inl ⟨_,rfl⟩
       ·exact .inr rfl
     ·exact⟨λ_ _=>rfl,.inr rfl⟩
   ·rcases bs with _|⟨x,_|⟨y,_|⟨z,r'⟩⟩⟩
    ·exact⟨λ_ _=>rfl,.inr rfl⟩
    ·exact⟨λ_ _=>rfl,.inr rfl⟩
    ·exact⟨λ_ _=>rfl,pvc _⟩
    ·exact⟨λ_ _=>rfl,.inr rfl⟩
   ·rcases bs with _|⟨x,_|⟨y,_|⟨z,r'⟩⟩⟩
    ·exact⟨λ_ _=>rfl,.inr rfl⟩
    ·exact⟨λ_ _=>rfl,.inr rfl⟩
    ·exact⟨λ_ _=>rfl,pvc _⟩
    ·exact⟨λ_ _=>rfl,.inr rfl⟩
   ·cases as with
    | nil=>exact⟨λ_ _=>rfl,.inr rfl⟩
    | cons t r=>
     rcases bs with _|⟨x,_|⟨y,r'⟩⟩
     ·exact⟨λ_ _=>rfl,.inr rfl⟩
     ·refine⟨λ_ _=>rfl,?_⟩
      simp only[zfi];split<;>(try exact pvc _)<;>exact .inr rfl
     ·exact⟨λ_ _=>rfl,.inr rfl⟩
theorem sh_of_read{op:Op}(hk:zjy P op= .read):(∃v,zfz P op ρ h= .val v) \/ zfz P op ρ h= .fail:=by
 have pvc:∀o:Option za,(∃v,Sh.pv o= .val v) \/ Sh.pv o= .fail:=λo=>by
  cases o with
  | none=>exact .inr rfl
  | some v=>exact .inl ⟨v,rfl⟩
 cases op<;>(try (simp only[zjy]at hk;cases hk;done))
 case binOp op t x y u=>
  simp only[zjy]at hk;simp only[zfz];cases hu:P.underlying t with
  | none=>exact .inr rfl
  | some d=>
   simp only[hu]at hk;cases d<;>(try (cases hk;done));simp only;cases zml y
   ·exact pvc _
   ·exact pvc _
 case convert src dst y=>
  simp only[zjy]at hk;simp only[zfz];cases hs:P.underlying src with
  | none=>simp[hs]at hk
  | some d=>
   cases hd:P.underlying dst with
   | none=>rw[hs,hd]at hk;cases d<;>cases hk
   | some d'=>
    rw[hs,hd]at hk;cases d<;>(try (cases hk;done))<;>cases d'<;>(try (cases hk;done));simp only;rename_i e;cases zo8 P e
    ·exact .inr rfl
    ·exact bytesStr_val h (ρ y)
 case call c=>
  obtain⟨callee,args,ats⟩:=c;cases callee with
  | value _=>simp[zjy]at hk
  | invoke _ _=>simp[zjy]at hk
  | builtin b=>
   cases b<;>simp[zjy]at hk;cases hm:zo9 P ats.toList<;>rw[hm]at hk<;>cases hk
theorem zob{op:Op}(hk:zjy P op= .conv):∃src dst y e e',op= .convert src dst y /\ P.underlying src=some (.slice e) /\ P.underlying dst=some (.slice e') /\ ∀h:zb,zfz P op ρ h=bif Nat.beq src dst&&zo8 P e then Sh.conv h (ρ y) else .fail:=by
 cases op<;>(try (simp only[zjy]at hk;cases hk;done))
 case binOp op t x y u=>
  simp only[zjy]at hk;split at hk
  ·cases hc:zml y<;>rw[hc]at hk<;>cases hk
  ·cases hk
 case convert src dst y=>
  simp only[zjy]at hk;simp only[zfz];cases hs:P.underlying src with
  | none=>simp[hs]at hk
  | some d=>
   cases hd:P.underlying dst with
   | none=>rw[hs,hd]at hk;cases d<;>cases hk
   | some d'=>
    rw[hs,hd]at hk;cases d<;>(try (cases hk;done))<;>cases d'<;>(try (cases hk;done));rename_i e e';exact⟨src,dst,y,e,e',rfl,hs,hd,λ_=>rfl⟩
 case call c=>
  obtain⟨callee,args,ats⟩:=c;cases callee with
  | value _=>simp[zjy]at hk
  | invoke _ _=>simp[zjy]at hk
  | builtin b=>
   cases b<;>simp[zjy]at hk;cases hm:zo9 P ats.toList<;>rw[hm]at hk<;>cases hk
theorem sh_of_alloc{op:Op}(hk:zjy P op= .alloc):(∀h H:zb,zfz P op ρ h=zfz P op ρ H) /\ ((∃v,zfz P op ρ h= .val v) \/ (∃b mk,zfz P op ρ h= .new b mk) \/ zfz P op ρ h= .fail):=by
 have nc:∀(o:Option (List za)) mk,(∃v,Sh.zgn o mk= .val v) \/ (∃b m,Sh.zgn o mk= .new b m) \/ Sh.zgn o mk= .fail:=λo mk=>by
  cases o with
  | none=>exact .inr (.inr rfl)
  | some v=>exact .inr (.inl ⟨_,_,rfl⟩)
 cases op<;>(try (simp only[zjy]at hk;cases hk;done))<;>(try (exact⟨λ_ _=>rfl,nc _ _⟩))
 case buildSlice=>
  refine⟨λ_ _=>rfl,?_⟩;simp only[zfz];split
  ·split
   ·split
    ·exact .inl ⟨_,rfl⟩
    ·exact .inr (.inr rfl)
   ·exact nc _ _
  ·exact .inr (.inr rfl)
 case makeSlice=>
  refine⟨λ_ _=>rfl,?_⟩;simp only[zfz];split
  ·split
   ·unfold Sh.mks
    split
    ·split
     ·exact .inr (.inl ⟨_,_,rfl⟩)
     ·exact .inr (.inr rfl)
    ·exact .inr (.inr rfl)
   ·exact .inr (.inr rfl)
  ·exact .inr (.inr rfl)
 case binOp op t x y u=>
  simp only[zjy]at hk;split at hk
  ·cases hc:zml y<;>rw[hc]at hk<;>cases hk
  ·cases hk
 case convert src dst y=>
  simp only[zjy]at hk;split at hk<;>cases hk
 case call c=>
  obtain⟨callee,args,ats⟩:=c;cases callee with
  | value _=>simp[zjy]at hk
  | invoke _ _=>simp[zjy]at hk
  | builtin b=>
   cases b<;>simp[zjy]at hk;cases hm:zo9 P ats.toList<;>rw[hm]at hk<;>cases hk
end
def zcb(P:Program)(ops:List Oper)(o:Oper)(s:zbq)(h:zb):Sh:=
 match o.guard with
 | none=>zfz P o.op (evS s) h
 | some (j,b)=>match zjt ops j with
  | some t=>match s t with
   | .bool b'=>if b'=b then zfz P o.op (evS s) h else .val (.tup [])
   | .tup []=> .val (.tup [])
   | _=> .fail
  | none=> .fail
def sameAt(h' h:zb)(p:za×Option Nat):Prop:=
 match p.2 with
 | none=>A.ldv h' p.1=A.ldv h p.1
 | some n=>A.zl2 h' p.1 n=A.zl2 h p.1 n
theorem sameAt.refl(h:zb)(p:za×Option Nat):sameAt h h p:=by unfold sameAt;split<;>rfl
theorem sameAt.upd{h' h:zb}{p:za×Option Nat}(x:sameAt h' h p)(id:Nat)(b:Blk):sameAt (Ab.upd h' id b) (Ab.upd h id b) p:=by
 obtain⟨v,n⟩:=p;have hp:∀i,(Ab.upd h' id b i=Ab.upd h id b i) \/ (i≠id /\ Ab.upd h' id b i=h' i /\ Ab.upd h id b i=h i):=λi=>by
  by_cases hi:i=id
  ·subst hi;exact .inl (by rw[zbv,zbv])
  ·exact .inr ⟨hi,zt _ _ hi,zt _ _ hi⟩
 unfold sameAt at x ⊢;cases n with
 | none=>
  simp only at x ⊢;cases v<;>(try rfl);rename_i i g o;rcases hp i with e|⟨_,e1,e2⟩
  ·simp only[A.ldv,e]
  ·simp only[A.ldv,e1,e2]at x ⊢;exact x
 | some n=>
  simp only at x ⊢;cases v<;>(try rfl);rename_i i g o;rcases hp i with e|⟨_,e1,e2⟩
  ·simp only[A.zl2,e]
  ·simp only[A.zl2,e1,e2]at x ⊢;exact x
section
variable{P:Program}{C:z5}{h H:zb}{s s':zbq}{ops:List Oper}{o:Oper}{K:zQ}
theorem gd_sh{c:za}{b:Bool}{x:Sh}{M:(zQ)->Prop}(hM:M K↔x.run C h K):A.gd h c b M K↔(match c with
  | .bool b'=>if b'=b then x else .val (.tup [])
  | .tup []=> .val (.tup [])
  | _=>Sh.fail).run C h K:=by
 cases c<;>(try exact Iff.rfl)
 case tup l=>cases l<;>exact Iff.rfl
 rename_i b';simp only[A.gd];by_cases e:b'=b
 ·rw[if_pos e];exact⟨λ⟨k,_⟩=>hM.1 (k e),λk=>⟨λ_=>hM.2 k,λk'=>absurd e k'⟩⟩
 ·rw[if_neg e];exact⟨λ⟨_,k⟩=>k e,λk=>⟨λk'=>absurd k' e,λ_=>k⟩⟩
theorem zj0:zox P C ops o s h K↔(zcb P ops o s h).run C h K:=by
 unfold zox zcb;cases o.guard with
 | none=>exact zkm
 | some jb=>
  obtain⟨j,b⟩:=jb;simp only;cases zjt ops j with
  | none=>exact Iff.rfl
  | some t=>exact gd_sh zkm
theorem zn8(hC:∀f args h (Q Q':zQ),(∀v h,Q v h->Q' v h)->C f args h Q->C f args h Q'){ks:List (Operand×TypeId)}:
  zn9 P C ops o ks s h K↔(zcb P ops o s h).run C h (A.zjx h (zd9 P s ks) K):=by
 cases ks with
 | nil=>
  have e:∀v h',A.zjx h (zd9 P s []) K v h'↔K v h':=λv h'=>⟨λk=>k.2,λk=>⟨λp hp=>(by cases hp),k⟩⟩;rw[show zn9 P C ops o [] s h K=zox P C ops o s h K from rfl,zj0];exact⟨zf9 hC λv h' k=>(e v h').2 k,zf9 hC λv h' k=>(e v h').1 k⟩
 | cons q r=>
  unfold zn9 zcb;simp only;cases o.guard with
  | none=>exact zkm
  | some jb=>
   obtain⟨j,b⟩:=jb;simp only;cases zjt ops j with
   | none=>exact Iff.rfl
   | some t=>
    simp only;cases s t<;>(try exact Iff.rfl)
    case tup l=>
     cases l with
     | nil=>exact⟨λk=>⟨λp _=>sameAt.refl h p,k⟩,λk=>k.2⟩
     | cons _ _=>exact Iff.rfl
    rename_i b';simp only[A.gd];by_cases e:b'=b
    ·rw[if_pos e]
     exact⟨λ⟨k,_⟩=>zkm.1 (k e),λk=>⟨λ_=>zkm.2 k,λk'=>absurd e k'⟩⟩
    ·rw[if_neg e]
     exact⟨λ⟨_,k⟩=>⟨λp _=>sameAt.refl h p,k e⟩,λk=>⟨λk'=>absurd k' e,λ_=>k.2⟩⟩
theorem zgu(s:zbq)(d:Nat)(v:za):zet s (some d) v d=v:=by simp[zet]
theorem zc8(s:zbq){d k:Nat}(v:za)(hk:k≠d):zet s (some d) v k=s k:=by
 have:Nat.beq k d=false:=by rw[<-Bool.not_eq_true,Nat.beq_eq];exact hk
 simp[zet,this]
theorem putS_comm(s:zbq){x y:Option Nat}(u v:za)(hxy:∀d,x=some d->y≠some d):zet (zet s x u) y v=zet (zet s y v) x u:=by
 cases x with
 | none=>rfl
 | some d=>
  cases y with
  | none=>rfl
  | some e=>
   have hne:d≠e:=λhe=>hxy d rfl (by rw[he]);funext k;by_cases h1:k=d
   ·subst h1;rw[zc8 _ _ hne,zgu,zgu]
   ·by_cases h2:k=e
    ·subst h2;rw[zgu,zc8 _ _ h1,zgu]
    ·rw[zc8 _ _ h2,zc8 _ _ h1,zc8 _ _ h1,zc8 _ _ h2]
theorem evS_put{d:Option Nat}{v:za}{x:Operand}(hx:∀k,d=some k->x≠ .tmp k):evS (zet s d v) x=evS s x:=by
 cases x<;>(try rfl);rename_i t;cases d with
 | none=>rfl
 | some d=>exact zc8 _ _ λe=>hx d rfl (by rw[e])
theorem zh0{ops:Array Oper}{d:Option Nat}{v:za}(hd:∀k,d=some k->k∉o.looksAt ops):zcb P ops.toList o (zet s d v) h=zcb P ops.toList o s h:=by
 have h1:∀x∈o.op.operands,evS (zet s d v) x=evS s x:=λx hx=>evS_put λk hk e=>hd k hk (by
  subst e;exact mem_append_left _ (mem_filterMap.2 ⟨.tmp k,by simpa using hx,rfl⟩))
 unfold zcb;split
 ·exact zj1 h1
 ·rename_i j b hg
  cases ht:zjt ops.toList j with
  | none=>rfl
  | some t=>
   have:zet s d v t=s t:=by
    cases d with
    | none=>rfl
    | some d=>
     refine zc8 _ _ λe=>hd d rfl ?_;subst e;unfold Oper.looksAt;rw[hg];refine mem_append_right _ ?_;have:(ops[j]?).bind (·.dst)=some t:=by unfold zjt at ht;simpa using ht
     simp[this]
   simp only[this];split
   ·split
    ·exact zj1 h1
    ·rfl
   ·rfl
   ·rfl
theorem zlc(hle:h.le H)(hx:zcb P ops o s h≠ .fail):zcb P ops o s H=zcb P ops o s h:=by
 unfold zcb at hx ⊢;split
 ·rename_i hg;simp only[hg]at hx;exact shOf_le hle hx
 ·rename_i j b hg
  simp only[hg]at hx;split
  ·rename_i t ht
   simp only[ht]at hx;split
   ·rename_i b' hb
    simp only[hb]at hx;split
    ·rename_i e;rw[if_pos e]at hx;exact shOf_le hle hx
    ·rfl
   ·rfl
   ·rfl
  ·rfl
theorem zoy:(zcb P ops o s h).known h:=by
 unfold zcb;split
 ·exact zry
 ·split
  ·split
   ·exact zen zry trivial
   ·trivial
   ·trivial
  ·trivial
theorem zgz(hk:zjy P o.op= .pure):(∀h H:zb,zcb P ops o s h=zcb P ops o s H) /\ ((∃v,zcb P ops o s h= .val v) \/ zcb P ops o s h= .fail):=by
 have hp:=fun(h:zb)=>sh_of_pure (P:=P) (h:=h) (ρ:=evS s) hk;constructor
 ·intro h H
  unfold zcb;rw[(hp h).1 h H]
 ·unfold zcb
  split
  ·exact(hp h).2
  ·split
   ·split
    ·split
     ·exact(hp h).2
     ·exact .inl ⟨_,rfl⟩
    ·exact .inl ⟨_,rfl⟩
    ·exact .inr rfl
   ·exact .inr rfl
theorem zf7(hk:zjy P o.op= .alloc):(∀h H:zb,zcb P ops o s h=zcb P ops o s H) /\ ((∃v,zcb P ops o s h= .val v) \/ (∃b mk,zcb P ops o s h= .new b mk) \/ zcb P ops o s h= .fail):=by
 have hp:=fun(h:zb)=>sh_of_alloc (P:=P) (h:=h) (ρ:=evS s) hk;constructor
 ·intro h H
  unfold zcb;rw[(hp h).1 h H]
 ·unfold zcb
  split
  ·exact(hp h).2
  ·split
   ·split
    ·split
     ·exact(hp h).2
     ·exact .inl ⟨_,rfl⟩
    ·exact .inl ⟨_,rfl⟩
    ·exact .inr (.inr rfl)
   ·exact .inr (.inr rfl)
theorem zqa(hk:zjy P o.op= .read):(∃v,zcb P ops o s h= .val v) \/ zcb P ops o s h= .fail:=by
 have main:=sh_of_read (P:=P) (h:=h) (ρ:=evS s) hk;unfold zcb;split
 ·exact main
 ·split
  ·split
   ·split
    ·exact main
    ·exact .inl ⟨_,rfl⟩
   ·exact .inl ⟨_,rfl⟩
   ·exact .inr rfl
  ·exact .inr rfl
theorem zqb(hk:zjy P o.op= .conv):∃v,∀h,zcb P ops o s h= .val v \/ zcb P ops o s h= .fail:=by
 obtain⟨src,dst,y,e,e',_,_,_,hsh⟩:=zob (P:=P) (ρ:=evS s) hk;have main:∀h,zfz P o.op (evS s) h= .val (evS s y) \/ zfz P o.op (evS s) h= .fail:=λh=>by
  rw[hsh h];cases Nat.beq src dst&&zo8 P e
  ·exact .inr rfl
  ·exact conv_val h _
 unfold zcb;split
 ·exact⟨_,main⟩
 ·split
  ·split
   ·split
    ·exact⟨_,main⟩
    ·exact⟨_,λ_=> .inl rfl⟩
   ·exact⟨_,λ_=> .inl rfl⟩
   ·exact⟨.undef,λ_=> .inr rfl⟩
  ·exact⟨.undef,λ_=> .inr rfl⟩
theorem kd_load(hk:zjy P o.op= .load):∃t x,o.op= .load t x:=by
 cases ho:o.op<;>rw[ho]at hk<;>(try (simp only[zjy]at hk;cases hk;done))
 ·exact⟨_,_,rfl⟩
 ·rename_i op t x y u
  simp only[zjy]at hk;split at hk
  ·cases hc:zml y<;>rw[hc]at hk<;>cases hk
  ·cases hk
 ·simp only[zjy]at hk;split at hk<;>cases hk
 ·rename_i c
  obtain⟨callee,args,ats⟩:=c;cases callee with
  | value _=>simp[zjy]at hk
  | invoke _ _=>simp[zjy]at hk
  | builtin b=>
   cases b<;>simp[zjy]at hk;cases hm:zo9 P ats.toList<;>rw[hm]at hk<;>cases hk
theorem zmv{t:TypeId}{x:Operand}(ho:o.op= .load t x):
  (sameAt H h (evS s x,bif zdz P t then some (P.cellsOf t) else none)->zcb P ops o s H=zcb P ops o s h) /\ ((∃v,zcb P ops o s h= .val v) \/ zcb P ops o s h= .fail):=by
 have main:(sameAt H h (evS s x,bif zdz P t then some (P.cellsOf t) else none)->zfz P o.op (evS s) H=zfz P o.op (evS s) h) /\ ((∃v,zfz P o.op (evS s) h= .val v) \/ zfz P o.op (evS s) h= .fail):=by
  have pvc:∀o:Option za,(∃v,Sh.pv o= .val v) \/ Sh.pv o= .fail:=λo=>by
   cases o with
   | none=>exact .inr rfl
   | some v=>exact .inl ⟨v,rfl⟩
  rw[ho];simp only[zfz];cases P.underlying t with
  | none=>exact⟨λ_=>rfl,.inr rfl⟩
  | some d=>
   cases hb:zdz P t
   ·exact⟨λhs=>by simp only[sameAt,cond_false]at hs ⊢;rw[hs],pvc _⟩
   ·exact⟨λhs=>by simp only[sameAt,cond_true]at hs ⊢;rw[hs],pvc _⟩
 constructor
 ·intro hs
  unfold zcb;rw[main.1 hs]
 ·unfold zcb
  split
  ·exact main.2
  ·split
   ·split
    ·split
     ·exact main.2
     ·exact .inl ⟨_,rfl⟩
    ·exact .inl ⟨_,rfl⟩
    ·exact .inr rfl
   ·exact .inr rfl
theorem zkp{ks:List (Operand×TypeId)}{d:Option Nat}{v:za}(hd:∀q∈ks,∀k,d=some k->q.1≠ .tmp k):zd9 P (zet s d v) ks=zd9 P s ks:=
 map_congr_left λq hq=>by rw[evS_put λk hk=>hd q hq k hk]
end
abbrev zjg:=Item×List (Operand×TypeId)
structure Pair(ops:Array Oper)(x y:zjg):Prop where
 notBehind:x.1.m.testBit y.1.i=false
 place:∀t a,x.1.o.op= .load t a->∀d,y.1.o.dst=some d->a≠ .tmp d
 free:y.1.m.testBit x.1.i=true \/ (x.1.k.fits y.1.k=true /\ x.1.o.apart ops y.1.o=true)
 keeps:∀t a,x.1.o.op= .load t a->y.1.k= .effect->y.1.m.testBit x.1.i=false->(a,t)∈y.2
 slots:∀q∈x.2,∀d,y.1.o.dst=some d->q.1≠ .tmp d
structure Good(P:Program)(x:zjg):Prop where
 place:∀t a,x.1.o.op= .load t a->∀d,x.1.o.dst=some d->a≠ .tmp d
 self:x.1.m.testBit x.1.i=false
 quiet:x.1.k≠ .effect->x.2=[]
 kind:x.1.k=zjy P x.1.o.op
theorem zj2{ops:Array Oper}{x y:Oper}(hap:x.apart ops y=true):(∀d,x.dst=some d->d∉y.looksAt ops) /\ (∀d,x.dst=some d->y.dst≠some d) /\ (∀d,y.dst=some d->d∉x.looksAt ops):=Oper.apart_spec hap
section
variable{P:Program}{ops:Array Oper}
theorem zja(P:Program):∀f args h (Q Q':zQ),(∀v h,Q v h->Q' v h)->AC P f args h Q->AC P f args h Q':=λ_ _ _ _ _ hq x=>AC.mono hq x
theorem zej{x:zjg}{r:List zjg}{Q:zbq->zb->Prop}{s:zbq}{h:zb}:zfl P (AC P) ops.toList (x::r) Q s h↔(zcb P ops.toList x.1.o s h).run (AC P) h (A.zjx h (zd9 P s x.2) λv h=>zfl P (AC P) ops.toList r Q (zet s x.1.o.dst v) h):=zn8 (zja P)
theorem bubble (t : zjg) (ht : Good P t) (ys : List zjg) (Q : zbq -> zb -> Prop) : ∀ (xs : List zjg) (s : zbq) (h : zb) (ko : List (Operand × TypeId)), (∀ q ∈ ko, q ∈ t.2) -> (t.1.k ≠ .effect -> ko = []) ->
    (∀ x ∈ xs, ∀ q ∈ ko, ∀ d, x.1.o.dst = some d -> q.1 ≠ .tmp d) -> (∀ x ∈ xs, Good P x) -> (∀ x ∈ xs, Pair ops x t) -> (∀ x ∈ xs, t.1.m.testBit x.1.i = false) -> xs.Pairwise (Pair ops) ->
    t.1.k ≠ .conv -> (t.1.k ≠ .effect -> t.1.k ≠ .load -> t.1.k ≠ .read -> zcb P ops.toList t.1.o s h ≠ .fail) ->
    zfl P (AC P) ops.toList (xs ++ t :: ys) Q s h ->
    (zcb P ops.toList t.1.o s h).run (AC P) h fun v h' => (∀ p ∈ zd9 P s ko, sameAt h' h p) /\ zfl P (AC P) ops.toList (xs ++ ys) Q (zet s t.1.o.dst v) h'
  | [], s, h, ko, hko, _, _, _, _, _, _, _, _, H => by
    rw [nil_append, zej] at H
    refine zf9 (zja P) (fun v h' hk => ⟨fun p hp => ?_, hk.2⟩) H
    refine hk.1 p ?_
    simp only [zd9, mem_map] at hp ⊢
    obtain ⟨q, hq, e⟩ := hp
    exact ⟨q, hko q hq, e⟩
  | x :: xs, s, h, ko, hko, hko0, hsl, hg, hpt, hunord, hpw, htc, hnf, H => by
    have gx := hg x (by simp)
    have px := hpt x (by simp)
    obtain ⟨hfit, hap⟩ := px.free.resolve_left (by rw [hunord x (by simp)]; simp)
    obtain ⟨ap1, ap2, ap3⟩ := zj2 hap
    rw [pairwise_cons] at hpw
    have tsh : ∀ v h1, zcb P ops.toList t.1.o (zet s x.1.o.dst v) h1 = zcb P ops.toList t.1.o s h1 := fun v h1 => zh0 fun d hd => ap1 d hd
    have xsh : ∀ u h1, zcb P ops.toList x.1.o (zet s t.1.o.dst u) h1 = zcb P ops.toList x.1.o s h1 := fun u h1 => zh0 fun d hd => ap3 d hd
    have comm : ∀ u v, zet (zet s x.1.o.dst v) t.1.o.dst u = zet (zet s t.1.o.dst u) x.1.o.dst v := fun u v => putS_comm s v u fun d hd => ap2 d hd
    have kx : ∀ u, zd9 P (zet s t.1.o.dst u) x.2 = zd9 P s x.2 := fun u => zkp fun q hq d hd => px.slots q hq d hd
    have ih := fun s h ko a b c d => bubble t ht ys Q xs s h ko a b c (fun y hy => hg y (by simp [hy])) (fun y hy => hpt y (by simp [hy])) (fun y hy => hunord y (by simp [hy])) hpw.2 htc d
    have kput : ∀ v, zd9 P (zet s x.1.o.dst v) ko = zd9 P s ko := fun v => zkp fun q hq d hd => hsl x (by simp) q hq d hd
    rw [cons_append, zej] at H
    have viaVal : ∀ v, zcb P ops.toList x.1.o s h = .val v -> x.2 = [] -> (∀ ko', (∀ q ∈ ko', q ∈ t.2) -> (t.1.k ≠ .effect -> ko' = []) -> (∀ y ∈ x :: xs, ∀ q ∈ ko', ∀ d, y.1.o.dst = some d -> q.1 ≠ .tmp d) ->
        (∀ q ∈ ko, q ∈ ko') -> (∀ u h', (zcb P ops.toList t.1.o s h).run (AC P) h (fun u' h'' => u' = u -> h'' = h' -> True) -> True) ->
        (∀ h', (∀ p ∈ zd9 P s ko', sameAt h' h p) -> (t.1.k ≠ .effect -> h.le h') -> zcb P ops.toList x.1.o s h' = .val v) ->
        (zcb P ops.toList t.1.o s h).run (AC P) h fun u h' => (∀ p ∈ zd9 P s ko, sameAt h' h p) /\ zfl P (AC P) ops.toList (x :: xs ++ ys) Q (zet s t.1.o.dst u) h') := by
      intro v hv hx2 ko' k1 k2 k3 k4 _ k5
      rw [hv] at H
      have H' := H.2
      have r := ih (zet s x.1.o.dst v) h ko' k1 k2 (fun y hy => k3 y (by simp [hy])) (fun a b c => by rw [tsh]; exact hnf a b c) H'
      rw [tsh] at r
      have kput' : zd9 P (zet s x.1.o.dst v) ko' = zd9 P s ko' := zkp fun q hq d hd => k3 x (by simp) q hq d hd
      rw [kput'] at r
      have hle : t.1.k ≠ .effect -> (zcb P ops.toList t.1.o s h).run (AC P) h (fun u h' => h.le h' /\ ((∀ p ∈ zd9 P s ko', sameAt h' h p) /\ zfl P (AC P) ops.toList (xs ++ ys) Q (zet (zet s x.1.o.dst v) t.1.o.dst u) h')) := by
        intro hne
        have vn : (∃ v, zcb P ops.toList t.1.o s h = .val v) \/ (∃ b mk, zcb P ops.toList t.1.o s h = .new b mk) \/ zcb P ops.toList t.1.o s h = .fail := by
          have hk := ht.kind
          cases e : t.1.k with
          | effect => exact absurd e hne
          | pure => rw [e] at hk; rcases (zgz (h := h) (s := s) (ops := ops.toList) hk.symm).2 with h' | h'
                    · exact .inl h'
                    · exact .inr (.inr h')
          | load => rw [e] at hk; obtain ⟨_, _, hl⟩ := kd_load hk.symm; rcases (zmv (P := P) (H := h) (h := h) (s := s) (ops := ops.toList) hl).2 with h' | h'
                    · exact .inl h'
                    · exact .inr (.inr h')
          | alloc => rw [e] at hk; exact (zf7 (h := h) (s := s) (ops := ops.toList) hk.symm).2
          | read => rw [e] at hk; rcases zqa (h := h) (s := s) (ops := ops.toList) hk.symm with h' | h'
                    · exact .inl h'
                    · exact .inr (.inr h')
          | conv => exact absurd e htc
        rcases vn with ⟨w, hw⟩ | ⟨b, mk, hw⟩ | hw <;> rw [hw] at r ⊢
        · exact ⟨zb.le_refl h, r⟩
        · exact fun id hid => ⟨zf5 b hid, r id hid⟩
        · exact r
      have fin : ∀ u h', (∀ p ∈ zd9 P s ko', sameAt h' h p) -> (t.1.k ≠ .effect -> h.le h') -> zfl P (AC P) ops.toList (xs ++ ys) Q (zet (zet s x.1.o.dst v) t.1.o.dst u) h' ->
          (∀ p ∈ zd9 P s ko, sameAt h' h p) /\ zfl P (AC P) ops.toList (x :: xs ++ ys) Q (zet s t.1.o.dst u) h' := by
        intro u h' q1 q2 q3
        refine ⟨fun p hp => q1 p ?_, ?_⟩
        · simp only [zd9, mem_map] at hp ⊢
          obtain ⟨q, hq, e⟩ := hp
          exact ⟨q, k4 q hq, e⟩
        · rw [cons_append, zej, xsh, k5 h' q1 q2, hx2]
          refine ⟨fun p hp => by simp [zd9] at hp, ?_⟩
          show zfl P (AC P) ops.toList (xs ++ ys) Q (zet (zet s t.1.o.dst _) x.1.o.dst _) _
          rw [<- comm]; exact q3
      by_cases hne : t.1.k = .effect
      · exact zf9 (zja P) (fun u h' hr => fin u h' hr.1 (fun hh => absurd hne hh) hr.2) r
      · exact zf9 (zja P) (fun u h' hr => fin u h' hr.2.1 (fun _ => hr.1) hr.2.2) (hle hne)
    have simple : ∀ v, zcb P ops.toList x.1.o s h = .val v -> x.2 = [] -> (∀ h', zcb P ops.toList x.1.o s h' = .val v) ->
        (zcb P ops.toList t.1.o s h).run (AC P) h fun u h' => (∀ p ∈ zd9 P s ko, sameAt h' h p) /\ zfl P (AC P) ops.toList (x :: xs ++ ys) Q (zet s t.1.o.dst u) h' := fun v hv hx2 hind =>
      viaVal v hv hx2 ko hko hko0 (fun y hy => hsl y hy) (fun _ hq => hq) (fun _ _ _ => trivial) fun h' _ _ => hind h'
    cases ek : x.1.k with
    | pure =>
      have hk := gx.kind
      rw [ek] at hk
      obtain ⟨i1, i2⟩ := zgz (h := h) (s := s) (ops := ops.toList) hk.symm
      rcases i2 with ⟨v, hv⟩ | hv
      · exact simple v hv (gx.quiet (by rw [ek]; simp)) fun h' => by rw [i1 h' h]; exact hv
      · rw [hv] at H; exact H.elim
    | load =>
      have hk := gx.kind
      rw [ek] at hk
      obtain ⟨ty, ad, hl⟩ := kd_load hk.symm
      rcases (zmv (P := P) (H := h) (h := h) (s := s) (ops := ops.toList) hl).2 with ⟨v, hv⟩ | hv
      · by_cases hne : t.1.k = .effect
        · have hmem := px.keeps ty ad hl hne (hunord x (by simp))
          refine viaVal v hv (gx.quiet (by rw [ek]; simp)) ((ad, ty) :: ko) (fun q hq => ?_) (fun hh => absurd hne hh) (fun y hy q hq d hd => ?_) (fun q hq => by simp [hq]) (fun _ _ _ => trivial) fun h' hs _ => ?_
          · rcases mem_cons.1 hq with rfl | hq
            · exact hmem
            · exact hko q hq
          · rcases mem_cons.1 hq with rfl | hq
            · rcases mem_cons.1 hy with rfl | hy
              · exact gx.place ty ad hl d hd
              · exact (hpw.1 y hy).place ty ad hl d hd
            · exact hsl y hy q hq d hd
          · rw [(zmv (P := P) (H := h') (h := h) (s := s) (ops := ops.toList) hl).1 (hs _ (by simp [zd9]))]; exact hv
        · refine viaVal v hv (gx.quiet (by rw [ek]; simp)) ko hko hko0 (fun y hy => hsl y hy) (fun _ hq => hq) (fun _ _ _ => trivial) fun h' _ hle => ?_
          rw [zlc (hle hne) (by rw [hv]; simp)]; exact hv
      · rw [hv] at H; exact H.elim
    | read =>
      have hk := gx.kind
      rw [ek] at hk
      have hne : t.1.k ≠ .effect := fun e => by rw [ek, e] at hfit; simp [Kd.fits] at hfit
      rcases zqa (h := h) (s := s) (ops := ops.toList) hk.symm with ⟨v, hv⟩ | hv
      · refine viaVal v hv (gx.quiet (by rw [ek]; simp)) ko hko hko0 (fun y hy => hsl y hy) (fun _ hq => hq) (fun _ _ _ => trivial) fun h' _ hle => ?_
        rw [zlc (hle hne) (by rw [hv]; simp)]; exact hv
      · rw [hv] at H; exact H.elim
    | conv =>
      have hk := gx.kind
      rw [ek] at hk
      have hne : t.1.k ≠ .effect := fun e => by rw [ek, e] at hfit; simp [Kd.fits] at hfit
      obtain ⟨v, hor⟩ := zqb (s := s) (ops := ops.toList) hk.symm
      rcases hor h with hv | hv
      · refine viaVal v hv (gx.quiet (by rw [ek]; simp)) ko hko hko0 (fun y hy => hsl y hy) (fun _ hq => hq) (fun _ _ _ => trivial) fun h' _ hle => ?_
        rw [zlc (hle hne) (by rw [hv]; simp)]; exact hv
      · rw [hv] at H; exact H.elim
    | alloc =>
      have hk := gx.kind
      rw [ek] at hk
      obtain ⟨i1, i2⟩ := zf7 (h := h) (s := s) (ops := ops.toList) hk.symm
      rcases i2 with ⟨v, hv⟩ | ⟨b, mk, hv⟩ | hv
      · exact simple v hv (gx.quiet (by rw [ek]; simp)) fun h' => by rw [i1 h' h]; exact hv
      · have hx2 := gx.quiet (by rw [ek]; simp)
        have hte : t.1.k ≠ .effect := fun e => by rw [ek, e] at hfit; simp [Kd.fits] at hfit
        have htl : t.1.k ≠ .load := fun e => by rw [ek, e] at hfit; simp [Kd.fits] at hfit
        have htr : t.1.k ≠ .read := fun e => by rw [ek, e] at hfit; simp [Kd.fits] at hfit
        have hk0 := hko0 hte
        subst hk0
        rw [hv] at H
        have tind : ∀ h h' : zb, zcb P ops.toList t.1.o s h = zcb P ops.toList t.1.o s h' := by
          have hk := ht.kind
          cases e : t.1.k with
          | effect => exact absurd e hte
          | load => exact absurd e htl
          | read => exact absurd e htr
          | conv => exact absurd e htc
          | pure => rw [e] at hk; exact (zgz (h := h) (s := s) (ops := ops.toList) hk.symm).1
          | alloc => rw [e] at hk; exact (zf7 (h := h) (s := s) (ops := ops.toList) hk.symm).1
        have tval : (∃ v, zcb P ops.toList t.1.o s h = .val v) \/ (∃ b mk, zcb P ops.toList t.1.o s h = .new b mk) \/ zcb P ops.toList t.1.o s h = .fail := by
          have hk := ht.kind
          cases e : t.1.k with
          | effect => exact absurd e hte
          | load => exact absurd e htl
          | read => exact absurd e htr
          | conv => exact absurd e htc
          | pure => rw [e] at hk; rcases (zgz (h := h) (s := s) (ops := ops.toList) hk.symm).2 with h' | h'
                    · exact .inl h'
                    · exact .inr (.inr h')
          | alloc => rw [e] at hk; exact (zf7 (h := h) (s := s) (ops := ops.toList) hk.symm).2
        have each : ∀ id, h id = none -> (zcb P ops.toList t.1.o s h).run (AC P) (upd h id b) fun u h' => zfl P (AC P) ops.toList (xs ++ ys) Q (zet (zet s x.1.o.dst (mk id)) t.1.o.dst u) h' := fun id hid => by
          have r := ih (zet s x.1.o.dst (mk id)) (upd h id b) [] (by simp) (fun _ => rfl) (by simp) (fun a c d => by rw [tsh, tind _ h]; exact hnf a c d) (H id hid).2
          rw [tsh, tind _ h] at r
          exact zf9 (zja P) (fun u h' hr => hr.2) r
        have xind : ∀ h', zcb P ops.toList x.1.o s h' = .new b mk := fun h' => by rw [i1 h' h]; exact hv
        rcases tval with ⟨u, hu⟩ | ⟨b2, mk2, hu⟩ | hu
        · rw [hu] at each ⊢
          refine ⟨fun p hp => by simp [zd9] at hp, ?_⟩
          rw [cons_append, zej, xsh, xind, hx2]
          intro id hid
          refine ⟨fun p hp => by simp [zd9] at hp, ?_⟩
          show zfl P (AC P) ops.toList (xs ++ ys) Q (zet (zet s t.1.o.dst _) x.1.o.dst _) _
          rw [<- comm]; exact each id hid
        · rw [hu] at each ⊢
          intro id2 hid2
          refine ⟨fun p hp => by simp [zd9] at hp, ?_⟩
          rw [cons_append, zej, xsh, xind, hx2]
          intro id hid
          have hne : id ≠ id2 := fun e => by subst e; rw [zbv] at hid; cases hid
          rw [zt _ _ hne] at hid
          refine ⟨fun p hp => by simp [zd9] at hp, ?_⟩
          show zfl P (AC P) ops.toList (xs ++ ys) Q (zet (zet s t.1.o.dst _) x.1.o.dst _) _
          rw [<- comm, zpu _ _ _ (Ne.symm hne)]
          exact each id hid id2 (by rw [zt _ _ (Ne.symm hne)]; exact hid2)
        · exact absurd hu (hnf hte htl htr)
      · rw [hv] at H; exact H.elim
    | effect =>
      have hte : t.1.k ≠ .effect := fun e => by rw [ek, e] at hfit; simp [Kd.fits] at hfit
      have htl : t.1.k ≠ .load := fun e => by rw [ek, e] at hfit; simp [Kd.fits] at hfit
      have htr : t.1.k ≠ .read := fun e => by rw [ek, e] at hfit; simp [Kd.fits] at hfit
      have hk0 := hko0 hte
      subst hk0
      have tind : ∀ h h' : zb, zcb P ops.toList t.1.o s h = zcb P ops.toList t.1.o s h' := by
        have hk := ht.kind
        cases e : t.1.k with
        | effect => exact absurd e hte
        | load => exact absurd e htl
        | read => exact absurd e htr
        | conv => exact absurd e htc
        | pure => rw [e] at hk; exact (zgz (h := h) (s := s) (ops := ops.toList) hk.symm).1
        | alloc => rw [e] at hk; exact (zf7 (h := h) (s := s) (ops := ops.toList) hk.symm).1
      have tval : (∃ v, zcb P ops.toList t.1.o s h = .val v) \/ (∃ b mk, zcb P ops.toList t.1.o s h = .new b mk) \/ zcb P ops.toList t.1.o s h = .fail := by
        have hk := ht.kind
        cases e : t.1.k with
        | effect => exact absurd e hte
        | load => exact absurd e htl
        | read => exact absurd e htr
        | conv => exact absurd e htc
        | pure => rw [e] at hk; rcases (zgz (h := h) (s := s) (ops := ops.toList) hk.symm).2 with h' | h'
                  · exact .inl h'
                  · exact .inr (.inr h')
        | alloc => rw [e] at hk; exact (zf7 (h := h) (s := s) (ops := ops.toList) hk.symm).2
      have each : ∀ v h1, zfl P (AC P) ops.toList (xs ++ t :: ys) Q (zet s x.1.o.dst v) h1 -> (zcb P ops.toList t.1.o s h).run (AC P) h1 fun u h' => zfl P (AC P) ops.toList (xs ++ ys) Q (zet (zet s x.1.o.dst v) t.1.o.dst u) h' := fun v h1 hh => by
        have r := ih (zet s x.1.o.dst v) h1 [] (by simp) (fun _ => rfl) (by simp) (fun a c d => by rw [tsh, tind _ h]; exact hnf a c d) hh
        rw [tsh, tind _ h] at r
        exact zf9 (zja P) (fun u h' hr => hr.2) r
      rcases tval with ⟨u, hu⟩ | ⟨b2, mk2, hu⟩ | hu
      · rw [hu] at each ⊢
        refine ⟨fun p hp => by simp [zd9] at hp, ?_⟩
        rw [cons_append, zej, xsh, kx]
        refine zf9 (zja P) (fun v h1 hr => ⟨hr.1, ?_⟩) H
        show zfl P (AC P) ops.toList (xs ++ ys) Q (zet (zet s t.1.o.dst _) x.1.o.dst _) _
        rw [<- comm]; exact each v h1 hr.2
      · rw [hu] at each ⊢
        intro id2 hid2
        refine ⟨fun p hp => by simp [zd9] at hp, ?_⟩
        rw [cons_append, zej, xsh, kx]
        have hnfx : zcb P ops.toList x.1.o s h ≠ .fail := fun e => by rw [e] at H; exact H
        rw [zlc (zf5 b2 hid2) hnfx]
        refine zf9 (zja P) (fun v h'' hr => ?_) (sh_frame (b := b2) hid2 zoy H)
        obtain ⟨h1, ⟨q1, q2⟩, q3, rfl⟩ := hr
        refine ⟨fun p hp => sameAt.upd (q1 p hp) id2 b2, ?_⟩
        show zfl P (AC P) ops.toList (xs ++ ys) Q (zet (zet s t.1.o.dst _) x.1.o.dst _) _
        rw [<- comm]; exact each v h1 q2 id2 q3
      · exact absurd hu (hnf hte htl htr)
theorem bubbleC(t:zjg)(ht:Good P t)(hk:t.1.k= .conv)(ys:List zjg)(Q:zbq->zb->Prop):∀(xs:List zjg)(s:zbq)(h:zb)(v:za),(∀h,zcb P ops.toList t.1.o s h= .val v \/ zcb P ops.toList t.1.o s h= .fail) ->
  (∀x∈xs,Pair ops x t)->(∀x∈xs,t.1.m.testBit x.1.i=false)->zfl P (AC P) ops.toList (xs++t::ys) Q s h->zfl P (AC P) ops.toList (xs++ys) Q (zet s t.1.o.dst v) h
 | [],s,h,v,hv,_,_,H=>by
  rw[nil_append,zej]at H
  rcases hv h with e|e
  ·rw[e]at H;exact H.2
  ·rw[e]at H;exact H.elim
 | x::xs,s,h,v,hv,hpt,hunord,H=>by
  have px:=hpt x (by simp)
  obtain⟨hfit,hap⟩:=px.free.resolve_left (by rw[hunord x (by simp)];simp)
  obtain⟨ap1,ap2,ap3⟩:=zj2 hap
  have tsh:∀v h1,zcb P ops.toList t.1.o (zet s x.1.o.dst v) h1=zcb P ops.toList t.1.o s h1:=λv h1=>zh0 λd hd=>ap1 d hd
  have xsh:∀u h1,zcb P ops.toList x.1.o (zet s t.1.o.dst u) h1=zcb P ops.toList x.1.o s h1:=λu h1=>zh0 λd hd=>ap3 d hd
  have comm:∀u v,zet (zet s x.1.o.dst v) t.1.o.dst u=zet (zet s t.1.o.dst u) x.1.o.dst v:=λu v=>putS_comm s v u λd hd=>ap2 d hd
  have kx:∀u,zd9 P (zet s t.1.o.dst u) x.2=zd9 P s x.2:=λu=>zkp λq hq d hd=>px.slots q hq d hd
  rw[cons_append,zej]at H ⊢
  rw[xsh,kx]
  refine zf9 (zja P) (λu h' hr=>⟨hr.1,?_⟩) H
  show zfl P (AC P) ops.toList (xs++ys) Q (zet (zet s t.1.o.dst _) x.1.o.dst _) _
  rw[<-comm]
  exact bubbleC t ht hk ys Q xs _ h' v (λh1=>by rw[tsh];exact hv h1) (λy hy=>hpt y (by simp[hy])) (λy hy=>hunord y (by simp[hy])) hr.2
end
end Go.Ab
namespace Go.Ab
open List
open Go.RowKit (Below)
def Dfs(ρ:zdr)(h0 H0 h H:zb):List Deferred->List Nat->Prop|[],l=>l=[]|d::ds,l=>∃i is L,l=i::is /\ d={ target:= .collected L.blk,args:= #[] } /\ ρ i 0=some L /\ H i=some (zf6 (.dfr true)) /\ h i=none /\ (h0 i=none->H0 i=none) /\ i∉is /\ Dfs ρ h0 H0 h H ds is
theorem Dfs.step{ρ ρ':zdr}{h0 H0 h H h' H':zb}(hρ:ρ.le ρ')(hf:Fr h H h' H'):∀{ds:List Deferred}{l:List Nat},Dfs ρ h0 H0 h H ds l->Dfs ρ' h0 H0 h' H' ds l|[],_,e=>e|_::_,_,⟨i,is,L,e1,e2,e3,e4,e5,e6,e7,e8⟩=>⟨i,is,L,e1,e2,hρ _ _ _ e3,(hf i e5 _ e4).1,(hf i e5 _ e4).2,e6,e7,e8.step hρ hf⟩
structure St(w0:World)(ρ0:zdr)(h0 H0:zb)(n:Nat)(s:zbq)(h:zb)(a:Act)(w:World):Prop where
 ex:∃ρ H,ρ0.le ρ /\ h.le H /\ Fr h0 H0 h H /\ R w0 ρ H w /\ zgs ρ s a /\ ∃l,Dfs ρ h0 H0 h H a.defers l
 size:n <= a.tmps.size
def zrr(n:Nat)(o:Oper):Bool:=
 match o.dst with
 | none=>true
 | some d=>Nat.blt d n
section
variable{P:Program}{w0:World}{ρ0:zdr}{h0 H0:zb}{n:Nat}{s:zbq}{h:zb}{a:Act}{w:World}{ops:Array Oper}{Q:Exit->Act->World->Prop}{r:Option Nat}{m:Nat}
theorem ziu{i:Nat}{o:Oper}(hi:ops[i]?=some o)(hd:zrr n o=true)(hS:St w0 ρ0 h0 H0 n s h a w){K:zQ}(hx:(zcb P ops.toList o s h).run (AC P) h K):
  wpOpIn (WF r) m P ops Q i (λa' w'=>∃v h',K v h' /\ St w0 ρ0 h0 H0 n (zet s o.dst v) h' a' w' /\ ∃u,a'=a.put o.dst u) a w:=by
 obtain⟨ρ,H,q1,q2,q3,q4,q5,lds,q6⟩:=hS.ex;have hdst:∀k,o.dst=some k->k<a.tmps.size:=λk hk=>by
  unfold zrr at hd;rw[hk]at hd;have hd':Nat.blt k n=true:=hd;rw[Nat.blt_eq]at hd';exact Nat.lt_of_lt_of_le hd' hS.size
 have hput:∀v,(a.put o.dst v).defers=a.defers /\ n <= (a.put o.dst v).tmps.size:=λv=>by
  have:=hS.size;cases o.dst with
  | none=>exact⟨rfl,by assumption⟩
  | some d=>exact⟨rfl,by simpa[Act.put]using this⟩
 have go:(zfz P o.op (evS s) h).run (AC P) h K->o.wpIn (WF r) m P a w (λa' w'=>∃v h',K v h' /\ St w0 ρ0 h0 H0 n (zet s o.dst v) h' a' w' /\ ∃u,a'=a.put o.dst u) Q:=λhx=>by
  refine Oper.wpIn_mono ?_ (op_sound (Q:=Q) q4 q2 q5 (zkm.2 hx) (λc hc=>by rw[hc]at hx;exact hx.elim) r m);rintro a' w' ⟨v,hA,rfl⟩;obtain⟨x,ρ',h',H',k1,k2,k3,k4,k5,k6⟩:=hA.ex;exact⟨x,h',k3,⟨⟨ρ',H',zdr.le_trans q1 k1,k4,q3.trans k5,k6,(q5.mono k1).put k2 hdst,lds,by rw[(hput v).1];exact q6.step k1 k5⟩,(hput v).2⟩,v,rfl⟩
 unfold wpOpIn;simp only[hi];unfold zcb at hx;cases hg:o.guard with
 | none=>
  simp only[hg]at hx;have:Region.wanted o (yielded ops a.tmps)=true:=by simp[Region.wanted,hg]
  rw[if_pos this];exact go hx
 | some jb=>
  obtain⟨j,b⟩:=jb;simp only[hg]at hx;cases ht:zjt ops.toList j with
  | none=>simp only[ht]at hx;exact hx.elim
  | some t=>
   simp only[ht]at hx;cases hst:s t<;>simp only[hst]at hx<;>(try exact hx.elim)
   case tup l=>
    cases l with
    | cons _ _=>exact hx.elim
    | nil=>
     have hr:=q5 t;rw[hst]at hr;obtain⟨l,hr',hl⟩:=hr;have hl:l=[]:=hl;subst hl;have hy:yielded ops a.tmps j=none:=by
      unfold yielded;have hds:(ops[j]?).bind (·.dst)=some t:=by unfold zjt at ht;simpa using ht
      rw[hds];simp only[Option.bind_some];cases hv:a.tmps[t]? with
      | none=>rfl
      | some v=>simp[hv]at hr';subst hr';rfl
     have:¬ Region.wanted o (yielded ops a.tmps)=true:=by simp[Region.wanted,hg,hy]
     rw[if_neg this];exact⟨λ_ _=>trivial,.tup [],h,hx,⟨⟨ρ,H,q1,q2,q3,q4,q5.put (x:= .tup []) (v:=Go.undef) ⟨[],rfl,rfl⟩ hdst,lds,by rw[(hput _).1];exact q6⟩,(hput _).2⟩,_,rfl⟩
   rename_i b';have hr:=q5 t;rw[hst]at hr;have hy:yielded ops a.tmps j=some b':=by
    unfold yielded;have hds:(ops[j]?).bind (·.dst)=some t:=by unfold zjt at ht;simpa using ht
    rw[hds];simp only[Option.bind_some];have hr':a.tmps.getD t Go.undef= .bool b':=hr;cases hv:a.tmps[t]? with
    | none=>simp[hv,Go.undef]at hr'
    | some v=>simp[hv]at hr';subst hr';rfl
   by_cases e:b'=b
   ·rw[if_pos e]at hx
    have:Region.wanted o (yielded ops a.tmps)=true:=by simp[Region.wanted,hg,hy,e]
    rw[if_pos this];exact go hx
   ·rw[if_neg e]at hx
    have:¬ Region.wanted o (yielded ops a.tmps)=true:=by simp[Region.wanted,hg,hy,e]
    rw[if_neg this];exact⟨λ_ _=>trivial,.tup [],h,hx,⟨⟨ρ,H,q1,q2,q3,q4,q5.put (x:= .tup []) (v:=Go.undef) ⟨[],rfl,rfl⟩ hdst,lds,by rw[(hput _).1];exact q6⟩,(hput _).2⟩,_,rfl⟩
theorem ops_sound(hd:∀o∈ops.toList,zrr n o=true){Qn:zbq->zb->Prop}(hQ:∀s h a w,St w0 ρ0 h0 H0 n s h a w->Qn s h->Q .normal a w):
  ∀(l:List Oper)(i:Nat)(s:zbq)(h:zb)(a:Act)(w:World),ops.toList.drop i=l->opsWp P (AC P) ops.toList l Qn s h->St w0 ρ0 h0 H0 n s h a w->wpOpsIn (WF r) m P ops Q (List.range' i l.length) a w
 | [],i,s,h,a,w,_,hx,hS=>hQ s h a w hS hx
 | o::r,i,s,h,a,w,hl,hx,hS=>by
  have hi:ops[i]?=some o:=by
   have:(ops.toList.drop i)[0]?=some o:=by rw[hl];rfl
   simpa using this
  rw[length_cons,range'_succ,wpOpsIn_cons];have hx':(zcb P ops.toList o s h).run (AC P) h λv h=>opsWp P (AC P) ops.toList r Qn (zet s o.dst v) h:=zj0.1 hx;refine wpOpIn_mono ?_ (ziu (Q:=Q) hi (hd o (by have:=Array.mem_of_getElem? hi;simpa using this)) hS hx');rintro a' w' ⟨v,h',hk,hS',_⟩;refine ops_sound hd hQ r (i+1) _ h' a' w' ?_ hk hS';rw[<-tail_drop,hl];rfl
theorem Oper.wpIn_some{o:Oper}{K:Act->World->Prop}(hh:o.wpIn (WF r) m P a w K λ_ _ _=>False):∃a' w',K a' w':=by
 have hh:=hh.2;generalize (o.semAt (WF r).round a.eval).run P w=res at hh;cases res with
 | ok x w'=>
  cases x<;>simp only[Oper.uponIn]at hh<;>(try exact⟨_,_,hh⟩)<;>(try exact hh.elim)
  ·obtain⟨e,w'',_,hR,_⟩:=hh.2.2 [] (room_wide _)
   cases e with
   | returned v=>exact⟨_,_,hR⟩
   | panicked _=>exact hR.elim
   | outgrown=>obtain⟨_,_,hR⟩:=hR;exact hR.elim
  ·obtain⟨e,w'',hR,_⟩:=hh.2.2 default [] (room_wide _)
   cases e with
   | returned v=>exact⟨_,_,hR⟩
   | panicked _=>exact hR.elim
   | outgrown=>obtain⟨_,_,hR⟩:=hR;exact hR.elim
  ·obtain⟨v,w'',hR,_⟩:=hh.2 default [] (room_wide _)
   exact⟨_,_,hR⟩
 | halt x w'=>cases x<;>simp only[Oper.uponIn]at hh
theorem zms{i:Nat}{o:Oper}(hi:ops[i]?=some o){K:Act->World->Prop}(hh:wpOpIn (WF r) m P ops (λ_ _ _=>False) i K a w):∃a' w',K a' w':=by
 unfold wpOpIn at hh;simp only[hi]at hh;split at hh
 ·exact Oper.wpIn_some hh
 ·exact⟨_,_,hh.2⟩
theorem notFail(hd:∀o∈ops.toList,zrr n o=true)(t:zjg)(ht:Good P t)(ys:List zjg)(Qn:zbq->zb->Prop)(hte:t.1.k≠ .effect)(htl:t.1.k≠ .load)(htr:t.1.k≠ .read)(htc:t.1.k≠ .conv):
  ∀(xs:List zjg)(s:zbq)(h:zb)(a:Act)(w:World),(∀x∈xs,ops[x.1.i]?=some x.1.o)->(∀x∈xs,x.1.o.apart ops t.1.o=true)->zfl P (AC P) ops.toList (xs++t::ys) Qn s h->St w0 ρ0 h0 H0 n s h a w ->
   zcb P ops.toList t.1.o s h≠ .fail
 | [],s,h,a,w,_,_,hx,_=>λe=>by
  rw[nil_append,zej,e]at hx
  exact hx
 | x::xs,s,h,a,w,hi,hap,hx,hS=>by
  rw[cons_append,zej]at hx
  have hix:=hi x (by simp)
  obtain⟨a',w',v,h',hk,hS',_⟩:=zms (r:=none) (m:=0) hix (ziu (Q:=λ_ _ _=>False) hix (hd _ (by have:=Array.mem_of_getElem? hix;simpa using this)) hS hx)
  have r:=notFail hd t ht ys Qn hte htl htr htc xs _ h' a' w' (λy hy=>hi y (by simp[hy])) (λy hy=>hap y (by simp[hy])) hk.2 hS'
  obtain⟨ap1,_,_⟩:=zj2 (hap x (by simp))
  rw[zh0 λd hd=>ap1 d hd]at r
  have hk:=ht.kind
  cases e:t.1.k with
  | effect=>exact absurd e hte
  | load=>exact absurd e htl
  | read=>exact absurd e htr
  | conv=>exact absurd e htc
  | pure=>rw[e]at hk;rw[(zgz (h:=h) (s:=s) (ops:=ops.toList) hk.symm).1 h h'];exact r
  | alloc=>rw[e]at hk;rw[(zf7 (h:=h) (s:=s) (ops:=ops.toList) hk.symm).1 h h'];exact r
theorem wanted_of{ρ:zdr}{o:Oper}(hr:zgs ρ s a):(Region.wanted o (yielded ops a.tmps)=true /\ ∀h,zcb P ops.toList o s h=zfz P o.op (evS s) h) \/ (∃v,∀h,zcb P ops.toList o s h= .val v) \/ ∀h,zcb P ops.toList o s h= .fail:=by
 unfold zcb;cases hg:o.guard with
 | none=>exact .inl ⟨by simp[Region.wanted,hg],λ_=>rfl⟩
 | some jb=>
  obtain⟨j,b⟩:=jb;simp only;cases ht:zjt ops.toList j with
  | none=>exact .inr (.inr λ_=>rfl)
  | some t=>
   simp only;cases hst:s t<;>(try exact .inr (.inr λ_=>rfl))
   case tup l=>
    cases l with
    | cons _ _=>exact .inr (.inr λ_=>rfl)
    | nil=>exact .inr (.inl ⟨_,λ_=>rfl⟩)
   rename_i b';have hr:=hr t;rw[hst]at hr;have hy:yielded ops a.tmps j=some b':=by
    unfold yielded;have hds:(ops[j]?).bind (·.dst)=some t:=by unfold zjt at ht;simpa using ht
    rw[hds];simp only[Option.bind_some];have hr':a.tmps.getD t Go.undef= .bool b':=hr;cases hv:a.tmps[t]? with
    | none=>simp[hv,Go.undef]at hr'
    | some v=>simp[hv]at hr';subst hr';rfl
   by_cases e:b'=b
   ·exact .inl ⟨by simp[Region.wanted,hg,hy,e],λ_=>if_pos e⟩
   ·exact .inr (.inl ⟨_,λ_=>if_neg e⟩)
theorem convNew(hd:∀o∈ops.toList,zrr n o=true)(t:zjg){src dst:TypeId}{y:Operand}{e:TypeId}(hop:t.1.o.op= .convert src dst y)(hsh:∀(s:zbq)(h:zb),zfz P t.1.o.op (evS s) h=bif Nat.beq src dst&&zo8 P e then Sh.conv h (evS s y) else .fail)(ys:List zjg)(Qn:zbq->zb->Prop):
  ∀(xs:List zjg)(s:zbq)(h:zb)(a:Act)(w:World),(∀x∈xs,ops[x.1.i]?=some x.1.o)->(∀x∈xs,x.1.o.apart ops t.1.o=true)->(∀h,zcb P ops.toList t.1.o s h=zfz P t.1.o.op (evS s) h)->zfl P (AC P) ops.toList (xs++t::ys) Qn s h->St w0 ρ0 h0 H0 n s h a w ->
   src=dst /\ zo8 P e=true /\ ∃ad m c,a.eval y= .slice (some ad) m c /\ w0.heap.size <= ad.block /\ False
 | [],s,h,a,w,_,_,hst,hx,hS=>by
  rw[nil_append,zej,hst,hsh]at hx
  cases hu:Nat.beq src dst&&zo8 P e with
  | false=>rw[hu]at hx;exact hx.elim
  | true=>
   rw[hu]at hx
   rw[Bool.and_eq_true]at hu
   refine⟨Nat.eq_of_beq_eq_true hu.1,hu.2,?_⟩
   have hx:(Sh.conv h (evS s y)).run (AC P) h _:=hx
   obtain⟨ρ,H,q1,q2,q3,q4,q5,_⟩:=hS.ex
   have hr:=zcq q5 y
   unfold Sh.conv at hx
   split at hx<;>(try exact hx.elim)
   rename_i id g off m es cp he
   split at hx<;>(try exact hx.elim)
   rename_i b hb
   split at hx<;>(try exact hx.elim)
   rename_i hc
   rw[Bool.and_false]at hc
   cases hc
 | x::xs,s,h,a,w,hi,hap,hst,hx,hS=>by
  rw[cons_append,zej]at hx
  have hix:=hi x (by simp)
  obtain⟨a',w',v,h',hk,hS',u,rfl⟩:=zms (r:=none) (m:=0) hix (ziu (Q:=λ_ _ _=>False) hix (hd _ (by have:=Array.mem_of_getElem? hix;simpa using this)) hS hx)
  obtain⟨ap1,_,_⟩:=zj2 (hap x (by simp))
  have hne:∀d,x.1.o.dst=some d->y≠ .tmp d:=λd hd' e=>ap1 d hd' (by
   subst e
   exact mem_append_left _ (mem_filterMap.2 ⟨.tmp d,by rw[hop];simp[Op.operands],rfl⟩))
  have r:=convNew hd t hop hsh ys Qn xs _ h' _ w' (λy hy=>hi y (by simp[hy])) (λy hy=>hap y (by simp[hy])) (λh1=>by rw[zh0 λd hd=>ap1 d hd,hst,hsh,hsh,evS_put hne]) hk.2 hS'
  rw[Act.eval_put hne]at r
  exact r
theorem conv_step{i:Nat}{o:Oper}(hi:ops[i]?=some o)(hd:zrr n o=true)(hS:St w0 ρ0 h0 H0 n s h a w)(hw:Region.wanted o (yielded ops a.tmps)=true){src:TypeId}{y:Operand}{e:TypeId}(hop:o.op= .convert src src y)(hs':P.underlying src=some (.slice e))(hu:zo8 P e=true)
  (hb:∃ad m c,a.eval y= .slice (some ad) m c /\ w0.heap.size <= ad.block /\ False):wpOpIn (WF r) m P ops Q i (λa' w'=>St w0 ρ0 h0 H0 n (zet s o.dst (evS s y)) h a' w') a w:=by
 obtain⟨_,_,_,_,_,hf⟩:=hb;exact hf.elim
structure Inv(P:Program)(ops:Array Oper)(ms:List Nat)(rem:List zjg)(zim:Array Bool):Prop where
 sz:zim.size=ops.size
 open_:∀i,i<ops.size->(zim.getD i true=false↔∃t∈rem,t.1.i=i)
 at_:∀t∈rem,ops[t.1.i]?=some t.1.o /\ ms[t.1.i]?=some t.1.m
 zpa:∀t∈rem,Good P t
 pair:rem.Pairwise (Pair ops)
 nodup:(rem.map (·.1.i)).Pairwise (· ≠ ·)
 down:∀i,zim.getD i false=true->∀x,(ms.getD i 0).testBit x=true->zim.getD x false=true
def MaskOk(ops:Array Oper)(ms:List Nat):Prop:=∀(i:Nat)(o:Oper),ops[i]?=some o->(∀e∈o.after,Region.binds .any e=true->(ms.getD i 0).testBit e.on=true /\ e.on<ops.size) /\ ∀x,(ms.getD i 0).testBit x=true->∃e∈o.after,Region.binds .any e=true /\ (x=e.on \/ (ms.getD e.on 0).testBit x=true)
theorem zrl{α:Type}{r:α->α->Prop}{xs ys:List α}{t:α}(hp:(xs++t::ys).Pairwise r):∀x∈xs,r x t:=λx hx=>(pairwise_append.1 hp).2.2 x hx t (by simp)
theorem zsf{mm:Nat}{ms:List Nat}(hms:MaskOk ops ms)(hd:∀o∈ops.toList,zrr n o=true){Qn:zbq->zb->Prop}(hQ:∀s h a w,St w0 ρ0 h0 H0 n s h a w->Qn s h->Q .normal a w):
  ∀(m:Nat)(rem:List zjg)(zim:Array Bool)(s:zbq)(h:zb)(a:Act)(w:World),rem.length=m->Inv P ops ms rem zim->zfl P (AC P) ops.toList rem Qn s h->St w0 ρ0 h0 H0 n s h a w->wpAnyIn (WF r) mm P .any ops Q m zim a w
 | 0,rem,zim,s,h,a,w,hl,inv,hx,hS=>by
  have:rem=[]:=eq_nil_of_length_eq_zero hl;subst this;refine⟨?_,hQ s h a w hS hx⟩;apply eq_nil_iff_forall_not_mem.2;intro j hj;obtain⟨h1,o,ho,_⟩:=mem_ready.1 hj;have hlt:=(Array.getElem?_eq_some_iff.1 ho).1;obtain⟨t,ht,_⟩:=(inv.open_ j hlt).1 h1;cases ht
 | m+1,rem,zim,s,h,a,w,hl,inv,hx,hS=>by
  have getD_of:∀j,j<ops.size->zim.getD j true=zim.getD j false:=λj hj=>by
   have:j<zim.size:=by rw[inv.sz];exact hj
   simp[this]
  refine⟨λhr=>?_,λi hi=>?_⟩
  ·
   exfalso;cases rem with
   | nil=>simp at hl
   | cons t r=>
    obtain⟨ho,hm⟩:=inv.at_ t (by simp);have hlt:=(Array.getElem?_eq_some_iff.1 ho).1;have hmem:t.1.i∈Region.ready .any ops zim:=by
     refine mem_ready.2 ⟨(inv.open_ _ hlt).2 ⟨t,by simp,rfl⟩,t.1.o,ho,λe he hb=>?_⟩;obtain⟨hbit,hlt2⟩:=(hms _ _ ho).1 e he hb;have hmD:ms.getD t.1.i 0=t.1.m:=by simp[List.getD,hm]
     rw[hmD]at hbit;cases hle:zim.getD e.on false with
     | true=>rfl
     | false=>
      exfalso;obtain⟨y,hy,hyi⟩:=(inv.open_ _ hlt2).1 (by rw[getD_of _ hlt2];exact hle);rcases mem_cons.1 hy with rfl|hy
      ·rw[<-hyi]at hbit
       rw[(inv.zpa y (by simp)).self]at hbit;cases hbit
      ·have:=((pairwise_cons.1 inv.pair).1 y hy).notBehind
       rw[hyi,hbit]at this;cases this
    rw[hr]at hmem;cases hmem
  ·obtain⟨h1,o,ho,hall⟩:=mem_ready.1 hi
   have hlt:=(Array.getElem?_eq_some_iff.1 ho).1;obtain⟨t,ht,rfl⟩:=(inv.open_ i hlt).1 h1;obtain⟨xs,ys,rfl⟩:=append_of_mem ht;obtain⟨ho',hm⟩:=inv.at_ t ht;rw[ho]at ho';cases ho';have hmD:ms.getD t.1.i 0=t.1.m:=by simp[List.getD,hm]
   have hover:∀x,t.1.m.testBit x=true->zim.getD x false=true:=λx hx=>by
    rw[<-hmD]at hx;obtain⟨e,he,hb,hor⟩:=(hms _ _ ho).2 x hx;have hl:=hall e he hb;rcases hor with rfl|hor
    ·exact hl
    ·exact inv.down _ hl x hor
   have hunord:∀x∈xs,t.1.m.testBit x.1.i=false:=λx hx=>by
    cases hb:t.1.m.testBit x.1.i with
    | false=>rfl
    | true=>
     have h2:=hover _ hb;obtain⟨hox,_⟩:=inv.at_ x (by simp[hx]);have hltx:=(Array.getElem?_eq_some_iff.1 hox).1;have:=(inv.open_ _ hltx).2 ⟨x,by simp[hx],rfl⟩;rw[getD_of _ hltx,h2]at this;cases this
   have hpt:∀x∈xs,Pair ops x t:=zrl inv.pair;have hap:∀x∈xs,x.1.o.apart ops t.1.o=true:=λx hx=>((hpt x hx).free.resolve_left (by rw[hunord x hx];simp)).2;have hpxs:xs.Pairwise (Pair ops):=(pairwise_append.1 inv.pair).1;have hdt:zrr n t.1.o=true:=hd _ (by have:=Array.mem_of_getElem? ho;simpa using this);have both:wpOpIn (WF r) mm P ops Q t.1.i (λa' w'=>∃v h',zfl P (AC P) ops.toList (xs++ys) Qn (zet s t.1.o.dst v) h' /\ St w0 ρ0 h0 H0 n (zet s t.1.o.dst v) h' a' w') a w:=by
    by_cases hc:t.1.k= .conv
    ·have hkd:=(inv.zpa t ht).kind
     rw[hc]at hkd;obtain⟨v,hv⟩:=zqb (s:=s) (ops:=ops.toList) hkd.symm;have hk:=bubbleC t (inv.zpa t ht) hc ys Qn xs s h v hv hpt hunord hx;obtain⟨ρ,H,_,_,_,_,q5,_⟩:=hS.ex;rcases wanted_of (P:=P) (ops:=ops) (o:=t.1.o) q5 with⟨hw,hst⟩|⟨u,hu⟩|hf
     ·obtain⟨src,dst,y,e,e',hop,hs',_,hsh⟩:=zob (P:=P) (ρ:=evS s) hkd.symm
      have hsh':∀(s:zbq)(h:zb),zfz P t.1.o.op (evS s) h=bif Nat.beq src dst&&zo8 P e then Sh.conv h (evS s y) else .fail:=λs h=>by
       obtain⟨src',dst',y',e1,e1',hop',hs1,_,hsh'⟩:=zob (P:=P) (ρ:=evS s) hkd.symm;rw[hop]at hop';cases hop';rw[hs']at hs1;cases hs1;exact hsh' h
      obtain⟨hsd,hu8,hb⟩:=convNew hd t hop hsh' ys Qn xs s h a w (λx hx=>(inv.at_ x (by simp[hx])).1) hap hst hx hS;subst hsd;refine wpOpIn_mono ?_ (conv_step (Q:=Q) ho hdt hS hw hop hs' hu8 hb);intro a' w' hS';have ev:v=evS s y \/ ∀h,zcb P ops.toList t.1.o s h= .fail:=by
       by_cases hall:∀h,zcb P ops.toList t.1.o s h= .fail
       ·exact .inr hall
       ·left
        obtain⟨h1,hne⟩:=Classical.not_forall.1 hall;have h2:=(hv h1).resolve_right hne;rw[hst,hsh]at h2;cases hbb:Nat.beq src src&&zo8 P e with
        | false=>rw[hbb]at h2;cases h2
        | true=>
         rw[hbb]at h2;rcases conv_val h1 (evS s y) with e1|e1
         ·have h3:Sh.conv h1 (evS s y)= .val v:=h2
          rw[e1]at h3;cases h3;rfl
         ·have h3:Sh.conv h1 (evS s y)= .val v:=h2
          rw[e1]at h3;cases h3
      rcases ev with rfl|hall
      ·exact⟨_,h,hk,hS'⟩
      ·exact⟨_,h,bubbleC t (inv.zpa t ht) hc ys Qn xs s h (evS s y) (λh=> .inr (hall h)) hpt hunord hx,hS'⟩
     ·have e:u=v \/ False:=by
       rcases hv h with e|e
       ·rw[hu]at e;cases e;exact .inl rfl
       ·rw[hu]at e;cases e
      rcases e with rfl|e
      ·refine wpOpIn_mono ?_ (ziu (Q:=Q) (K:=λv' h'=>v'=u /\ h'=h) ho hdt hS (by rw[hu];exact⟨rfl,rfl⟩))
       rintro a' w' ⟨_,_,⟨rfl,rfl⟩,hS',_⟩;exact⟨_,_,hk,hS'⟩
      ·exact e.elim
     ·exfalso
      have:∀(xs:List zjg)(s:zbq)(h:zb)(a:Act)(w:World),(∀x∈xs,ops[x.1.i]?=some x.1.o)->(∀x∈xs,x.1.o.apart ops t.1.o=true)->(∀h,zcb P ops.toList t.1.o s h= .fail)->zfl P (AC P) ops.toList (xs++t::ys) Qn s h->St w0 ρ0 h0 H0 n s h a w->False:=by
       intro xs
       induction xs with
       | nil=>intro s h a w _ _ hf hx _;rw[nil_append,zej,hf]at hx;exact hx
       | cons x xs ih=>
        intro s h a w hi hap hf hx hS;rw[cons_append,zej]at hx;have hix:=hi x (by simp);obtain⟨a',w',v,h',hk,hS',_⟩:=zms (r:=none) (m:=0) hix (ziu (Q:=λ_ _ _=>False) hix (hd _ (by have:=Array.mem_of_getElem? hix;simpa using this)) hS hx);obtain⟨ap1,_,_⟩:=zj2 (hap x (by simp));exact ih _ h' a' w' (λy hy=>hi y (by simp[hy])) (λy hy=>hap y (by simp[hy])) (λh1=>by rw[zh0 λd hd=>ap1 d hd];exact hf h1) hk.2 hS'
      exact this xs s h a w (λx hx=>(inv.at_ x (by simp[hx])).1) hap hf hx hS
    ·have hb:=bubble t (inv.zpa t ht) ys Qn xs s h [] (by simp) (λ_=>rfl) (by simp) (λx hx=>inv.zpa x (by simp[hx])) hpt hunord hpxs hc
      (λc1 c2 c3=>notFail hd t (inv.zpa t ht) ys Qn c1 c2 c3 hc xs s h a w (λx hx=>(inv.at_ x (by simp[hx])).1) hap hx hS) hx
     refine wpOpIn_mono ?_ (ziu (Q:=Q) ho hdt hS hb);rintro a' w' ⟨v,h',⟨_,hk⟩,hS',_⟩;exact⟨v,h',hk,hS'⟩
   refine wpOpIn_mono ?_ both;rintro a' w' ⟨v,h',hk,hS'⟩;refine zsf hms hd hQ m (xs++ys) _ _ h' a' w' (by simp only[length_append,length_cons]at hl ⊢;omega) ?_ hk hS';have hsub:(xs++ys).Sublist (xs++t::ys):=List.Sublist.append_left (sublist_cons_self t ys) xs;have hnd:∀y∈xs++ys,y.1.i≠t.1.i:=λy hy=>by
    have hn:=inv.nodup;rw[map_append,map_cons]at hn;rcases mem_append.1 hy with hy|hy
    ·exact(pairwise_append.1 hn).2.2 _ (mem_map.2 ⟨y,hy,rfl⟩) _ (by simp)
    ·have:=((pairwise_cons.1 (pairwise_append.1 hn).2.1).1 _ (mem_map.2 ⟨y,hy,rfl⟩))
     exact λe=>this e.symm
   exact {
    sz:=by simpa using inv.sz
    open_:=λi hi=>by
     by_cases e:t.1.i=i
     ·subst e
      have:(zim.setIfInBounds t.1.i true).getD t.1.i true=true:=by simp
      rw[this];constructor
      ·intro h;cases h
      ·rintro⟨y,hy,e⟩;exact absurd e (hnd y hy)
     ·rw[getD_set_ne true e,inv.open_ i hi]
      constructor
      ·rintro⟨y,hy,e'⟩
       refine⟨y,?_,e'⟩;rcases mem_append.1 hy with hy|hy
       ·exact mem_append_left _ hy
       ·rcases mem_cons.1 hy with rfl|hy
        ·exact absurd e' e
        ·exact mem_append_right _ hy
      ·rintro⟨y,hy,e'⟩;exact⟨y,hsub.subset hy,e'⟩
    at_:=λy hy=>inv.at_ y (hsub.subset hy)
    zpa:=λy hy=>inv.zpa y (hsub.subset hy)
    pair:=inv.pair.sublist hsub
    nodup:=inv.nodup.sublist (hsub.map _)
    down:=λi hi x hx=>by
     by_cases e:t.1.i=i
     ·subst e
      rw[hmD]at hx;exact getD_set_true (hover x hx)
     ·rw[getD_set_ne false e]at hi
      exact getD_set_true (inv.down i hi x hx) }
end
end Go.Ab
namespace Go.Ab
open List
open Go.RowKit (Below)
def zqv(o:Oper)(acc:List Nat):Nat:=o.after.toList.foldl (λm e=>bif Region.binds .any e then m ||| 2 ^ e.on ||| acc.getD e.on 0 else m) 0
theorem zos(acc:List Nat):∀(l:List Edge)(m x:Nat),(l.foldl (λm e=>bif Region.binds .any e then m ||| 2 ^ e.on ||| acc.getD e.on 0 else m) m).testBit x=true ↔
  m.testBit x=true \/ ∃e∈l,Region.binds .any e=true /\ (x=e.on \/ (acc.getD e.on 0).testBit x=true)
 | [],m,x=>by simp
 | e::l,m,x=>by
  rw[foldl_cons,zos acc l]
  cases hb:Region.binds .any e with
  | false=>
   simp only[cond_false,mem_cons]
   constructor
   ·rintro(h|⟨e',he,h⟩)
    ·exact .inl h
    ·exact .inr ⟨e',.inr he,h⟩
   ·rintro(h|⟨e',rfl|he,h1,h2⟩)
    ·exact .inl h
    ·rw[hb]at h1;cases h1
    ·exact .inr ⟨e',he,h1,h2⟩
  | true=>
   simp only[cond_true,Nat.testBit_or,Nat.testBit_two_pow,Bool.or_eq_true,decide_eq_true_eq,mem_cons]
   constructor
   ·rintro(((h|h)|h)|⟨e',he,h⟩)
    ·exact .inl h
    ·exact .inr ⟨e,.inl rfl,hb,.inl h.symm⟩
    ·exact .inr ⟨e,.inl rfl,hb,.inr h⟩
    ·exact .inr ⟨e',.inr he,h⟩
   ·rintro(h|⟨e',rfl|he,h1,h2⟩)
    ·exact .inl (.inl (.inl h))
    ·rcases h2 with h2|h2
     ·exact .inl (.inl (.inr h2.symm))
     ·exact .inl (.inr h2)
    ·exact .inr ⟨e',he,h1,h2⟩
theorem zo6:∀(l:List Oper)(acc:List Nat),(zg4 l acc).length=acc.length+l.length /\ (∀i,i<acc.length->(zg4 l acc).getD i 0=acc.getD i 0) /\
  ∀(i:Nat)(o:Oper),l[i]?=some o->(zg4 l acc).getD (acc.length+i) 0=zqv o ((zg4 l acc).take (acc.length+i))
 | [],acc=>⟨by simp[zg4],λ_ _=>rfl,λi o h=>by simp at h⟩
 | o::l,acc=>by
  have e:zg4 (o::l) acc=zg4 l (acc++[zqv o acc]):=rfl;obtain⟨h1,h2,h3⟩:=zo6 l (acc++[zqv o acc]);rw[e];refine⟨by rw[h1];simp;omega,λi hi=>?_,λi o' ho=>?_⟩
  ·rw[h2 i (by simp;omega)]
   simp[List.getD,getElem?_append_left hi]
  ·cases i with
   | zero=>
    simp at ho;subst ho;rw[Nat.add_zero,h2 acc.length (by simp)];have ht:(zg4 l (acc++[zqv o acc])).take acc.length=acc:=by
     apply ext_getElem?;intro j;by_cases hj:j<acc.length
     ·rw[getElem?_take_of_lt hj]
      have:=h2 j (by simp;omega);simp only[List.getD,getElem?_append_left hj]at this;have hl:j<(zg4 l (acc++[zqv o acc])).length:=by rw[h1];simp;omega
      rw[getElem?_eq_getElem hl,getElem?_eq_getElem hj]at this ⊢;simpa using this
     ·rw[getElem?_eq_none (by rw[length_take];omega),getElem?_eq_none (by omega)]
    rw[ht];simp[List.getD]
   | succ i=>
    have:=h3 i o' (by simpa using ho);simp only[length_append,length_singleton]at this;rw[show acc.length+(i+1)=acc.length+1+i by omega];exact this
theorem maskOk{ops:Array Oper}(hb:ops.toList.all (λo=>o.after.toList.all λe=>Nat.blt e.on ops.size)=true):MaskOk ops (zg4 ops.toList []):=by
 obtain⟨h1,_,h3⟩:=zo6 ops.toList [];intro i o ho;have hsp:=h3 i o (by simpa using ho);simp only[length_nil,Nat.zero_add]at hsp h1;have hi:i<ops.size:=(Array.getElem?_eq_some_iff.1 ho).1;rw[hsp];constructor
 ·intro e he hbd
  refine⟨(zos _ _ _ _).2 (.inr ⟨e,by simpa using he,hbd,.inl rfl⟩),?_⟩;rw[all_eq_true]at hb;have:=hb o (by have:=Array.mem_of_getElem? ho;simpa using this);rw[all_eq_true]at this;have:=this e (by simpa using he)
  rwa [Nat.blt_eq]at this
 ·intro x hx
  rcases (zos _ _ _ _).1 hx with h|⟨e,he,hbd,hor⟩
  ·simp at h
  ·refine⟨e,by simpa using he,hbd,hor.imp id λh=>?_⟩
   by_cases hlt:e.on<i
   ·simp only[List.getD,getElem?_take_of_lt hlt]at h
    exact h
   ·rw[List.getD,getElem?_eq_none (by rw[length_take];omega)]at h
    simp at h
theorem zq1{P:Program}{ops:Array Oper}{t:Item}(ht:t∈items P ops.toList):ops[t.i]?=some t.o /\ (zg4 ops.toList [])[t.i]?=some t.m /\ t.k=zjy P t.o.op:=by
 unfold items at ht;obtain⟨⟨⟨m,o⟩,i⟩,hm,rfl⟩:=mem_map.1 ht;have hz:=mk_mem_zipIdx_iff_getElem?.1 hm;rw[getElem?_zip_eq_some]at hz;exact⟨by simpa using hz.2,hz.1,rfl⟩
theorem plan_mem{its:List Item}{t:Item}(ht:t∈zmh its):t∈its:=by
 unfold zmh at ht;obtain⟨i,_,hi⟩:=mem_filterMap.1 ht;exact mem_of_getElem? hi
theorem plan_mem2{its:List Item}{t:Item}(ht:t∈zqi its):t∈its:=by
 unfold zqi at ht;obtain⟨i,_,hi⟩:=mem_filterMap.1 ht;exact mem_of_getElem? hi
theorem zi1{x y:Item}(h:zh3 x y=true)(t:TypeId)(a:Operand)(hx:x.o.op= .load t a)(d:Nat)(hd:y.o.dst=some d):a≠ .tmp d:=by
 rintro rfl;unfold zh3 at h;simp only[hx,hd]at h;simp at h
theorem zlk{ops:Array Oper}:∀{l:List Item},zh5 ops l=true ->
  l.Pairwise (λx y=>x.m.testBit y.i=false /\ zh3 x y=true /\ (y.m.testBit x.i=true \/ (x.k.fits y.k=true /\ x.o.apart ops y.o=true))) /\ ∀x∈l,zh3 x x=true /\ x.m.testBit x.i=false
 | [],_=>⟨.nil,by simp⟩
 | x::r,h=>by
  simp only[zh5,Bool.and_eq_true,Bool.not_eq_true',all_eq_true,Bool.or_eq_true]at h
  obtain⟨⟨⟨h1,h2⟩,h3⟩,h4⟩:=h
  obtain⟨k1,k2⟩:=zlk h4
  refine⟨pairwise_cons.2 ⟨λy hy=>⟨(h1 y hy).1.1,(h1 y hy).1.2,(h1 y hy).2⟩,k1⟩,λy hy=>?_⟩
  rcases mem_cons.1 hy with rfl|hy
  ·exact⟨h2,h3⟩
  ·exact k2 y hy
theorem zq0{x y:Item}{t:TypeId}{a:Operand}(ho:x.o.op= .load t a)(hb:y.m.testBit x.i=false):∀{l:List Item},x∈l->(a,t)∈zi6 l y
 | [],hx=>by cases hx
 | z::l,hx=>by
  simp only[zi6]
  rcases mem_cons.1 hx with e|hx
  ·refine mem_append_left _ ?_
   rw[<-e,ho]
   simp only[hb,cond_false,mem_singleton]
  ·exact mem_append_right _ (zq0 ho hb hx)
theorem zo7:∀{l:List Item}{y:Item}{q:Operand×TypeId},q∈zi6 l y->∃x∈l,x.o.op= .load q.2 q.1
 | [],_,_,h=>by simp[zi6]at h
 | z::l,y,q,h=>by
  simp only[zi6]at h
  rcases mem_append.1 h with h|h
  ·split at h
   ·rename_i t a ho
    cases hb:y.m.testBit z.i<;>simp[hb]at h
    subst h
    exact⟨z,by simp,ho⟩
   ·cases h
  ·obtain⟨x,hx,ho⟩:=zo7 h
   exact⟨x,by simp[hx],ho⟩
theorem zhd:∀(seen l:List Item),(zfa seen l).map (·.1)=l
 | _,[]=>rfl
 | seen,y::r=>by simp[zfa,zhd]
theorem zh8:∀(seen l:List Item)(y:zjg),y∈zfa seen l->y.1∈l /\ ∃l1,(∃l2,l=l1++y.1::l2) /\ y.2=bif y.1.k.zhn then zi6 (seen++l1) y.1 else []
 | _,[],y,h=>by simp[zfa]at h
 | seen,z::r,y,h=>by
  simp only[zfa]at h
  rcases mem_cons.1 h with rfl|h
  ·exact⟨by simp,[],⟨r,rfl⟩,by simp⟩
  ·obtain⟨k1,l1,⟨l2,k2⟩,k3⟩:=zh8 _ _ _ h
   exact⟨by simp[k1],z::l1,⟨l2,by rw[k2];rfl⟩,by rw[k3];simp⟩
theorem plan_items{P:Program}{ops:Array Oper}{l:List zjg}(h:plan P ops=some l):∃p:List Item,l=zfa [] p /\ zh5 ops p=true /\ ∀t∈p,t∈items P ops.toList:=by
 unfold plan at h;simp only at h;generalize hp:(bif zh5 ops (zmh (items P ops.toList)) then zmh (items P ops.toList) else zqi (items P ops.toList))=p at h;cases hc:(zh5 ops p&&Nat.beq p.length ops.size&&distinct (p.map (·.i))&&(List.range ops.size).all (λi=>p.any λt=>Nat.beq t.i i)&&ops.toList.all (λo=>o.after.toList.all λe=>Nat.blt e.on ops.size)) with
 | false=>rw[hc]at h;cases h
 | true=>
  rw[hc]at h;cases h;simp only[Bool.and_eq_true]at hc;refine⟨p,rfl,hc.1.1.1.1,λt k=>?_⟩;rw[<-hp]at k;cases hf:zh5 ops (zmh (items P ops.toList)) with
  | true=>rw[hf]at k;exact plan_mem k
  | false=>rw[hf]at k;exact plan_mem2 k
theorem isEffect_iff{k:Kd}:k.zhn=true↔k= .effect:=by cases k<;>simp[Kd.zhn]
theorem zmf{ops:Array Oper}:∀(l seen:List Item),zh5 ops (seen++l)=true->(zfa seen l).Pairwise (Pair ops)
 | [],_,_=> .nil
 | x::r,seen,h=>by
  have hs:=zlk h
  simp only[zfa]
  refine pairwise_cons.2 ⟨λy hy=>?_,zmf r (seen++[x]) (by simpa using h)⟩
  obtain⟨hyr,l1,⟨l2,_⟩,hk⟩:=zh8 _ _ _ hy
  have hpw:=hs.1
  have hxy:x.m.testBit y.1.i=false /\ zh3 x y.1=true /\ (y.1.m.testBit x.i=true \/ (x.k.fits y.1.k=true /\ x.o.apart ops y.1.o=true)):=
   (pairwise_cons.1 (pairwise_append.1 hpw).2.1).1 y.1 hyr
  refine⟨hxy.1,λt a ho d hd=>zi1 hxy.2.1 t a ho d hd,hxy.2.2,λt a ho he hb=>?_,λq hq d hd=>?_⟩
  ·rw[hk,he]
   exact zq0 ho hb (by simp)
  ·cases he:x.k.zhn with
   | false=>simp[he]at hq
   | true=>
    simp only[he,cond_true]at hq
    obtain⟨z,hz,ho⟩:=zo7 hq
    have:=(pairwise_append.1 hpw).2.2 z hz y.1 (by simp[hyr])
    exact zi1 this.2.1 q.2 q.1 ho d hd
theorem zn3:∀{l:List Nat},distinct l=true->l.Pairwise (· ≠ ·)
 | [],_=> .nil
 | x::r,h=>by
  simp only[distinct,Bool.and_eq_true,all_eq_true,Bool.not_eq_true']at h
  refine pairwise_cons.2 ⟨λy hy e=>?_,zn3 h.2⟩
  have:=h.1 y hy
  rw[e]at this
  simp at this
theorem plan_inv{P:Program}{ops:Array Oper}{l:List zjg}(h:plan P ops=some l):MaskOk ops (zg4 ops.toList []) /\ l.length=ops.size /\ Inv P ops (zg4 ops.toList []) l (Array.replicate ops.size false):=by
 unfold plan at h;simp only at h;generalize hp:(bif zh5 ops (zmh (items P ops.toList)) then zmh (items P ops.toList) else zqi (items P ops.toList))=p at h;cases hc:(zh5 ops p&&Nat.beq p.length ops.size&&distinct (p.map (·.i))&&(List.range ops.size).all (λi=>p.any λt=>Nat.beq t.i i)&&ops.toList.all (λo=>o.after.toList.all λe=>Nat.blt e.on ops.size)) with
 | false=>rw[hc]at h;cases h
 | true=>
  rw[hc]at h;cases h;simp only[Bool.and_eq_true]at hc;obtain⟨⟨⟨⟨h1,h2⟩,h3⟩,h4⟩,h5⟩:=hc;have hlen:(zfa [] p).length=ops.size:=by
   have:=congrArg List.length (zhd [] p);rw[length_map]at this;rw[this];exact Nat.eq_of_beq_eq_true h2
  have hfs:=zlk h1;have hmem:∀y∈zfa [] p,y.1∈items P ops.toList:=λy hy=>by
   obtain⟨k,_⟩:=zh8 _ _ _ hy;rw[<-hp]at k;cases hf:zh5 ops (zmh (items P ops.toList)) with
   | true=>rw[hf]at k;exact plan_mem k
   | false=>rw[hf]at k;exact plan_mem2 k
  refine⟨maskOk h5,hlen,?_⟩;exact {
   sz:=by simp
   open_:=λi hi=>by
    simp only[Array.getD_eq_getD_getElem?,Array.getElem?_replicate,hi,if_true,Option.getD_some,true_iff];rw[all_eq_true]at h4;have:=h4 i (by simpa using hi);rw[any_eq_true]at this;obtain⟨t,ht,e⟩:=this;have:t∈(zfa [] p).map (·.1):=by rw[zhd];exact ht
    obtain⟨y,hy,rfl⟩:=mem_map.1 this;exact⟨y,hy,Nat.eq_of_beq_eq_true e⟩
   at_:=λy hy=>by obtain⟨a,b,_⟩:=zq1 (hmem y hy);exact⟨a,b⟩
   zpa:=λy hy=>by
    obtain⟨k1,l1,_,k3⟩:=zh8 _ _ _ hy;obtain⟨p1,p2⟩:=hfs.2 y.1 k1;refine⟨λt a ho d hd=>zi1 p1 t a ho d hd,p2,λhne=>?_,(zq1 (hmem y hy)).2.2⟩;rw[k3];cases he:y.1.k.zhn with
    | false=>rfl
    | true=>exact absurd (isEffect_iff.1 he) hne
   pair:=zmf p [] (by simpa using h1)
   nodup:=by
    have:=zn3 h3;rw[<-zhd [] p,map_map]at this;exact this
   down:=λi hi=>by
    exfalso;rw[Array.getD_eq_getD_getElem?,Array.getElem?_replicate]at hi;split at hi<;>simp at hi }
def zh4:Code->Bool | .rangeFunc .. =>false | .seq a b=>zh4 a&&zh4 b | .cond _ a b=>zh4 a&&zh4 b | .block _ a=>zh4 a | .loop a=>zh4 a | .scope a=>zh4 a|_=>true
def zio(n:Nat):Code->Bool | .region _ ops _=>ops.toList.all (zrr n) | .seq a b=>zio n a&&zio n b | .cond _ a b=>zio n a&&zio n b | .block _ a=>zio n a | .loop a=>zio n a | .scope a=>zio n a | .rangeFunc _ ps a b=>(ps.toList.all λp=>Nat.blt p n)&&(zh4 a&&zh4 b)&&(zio n a&&zio n b)|_=>true
def exOf:Exit->Ex->Prop | .normal,.normal=>True | .exit i,.exit j=>i=j | .ret,.ret=>True|_,_=>False
section
variable{P:Program}{n:Nat}
def zri(w0:World)(ρ0:zdr)(h0 H0:zb)(n:Nat)(Q:Ex->zbq->zb->Prop):Exit->Act->World->Prop:=λe a w=>∃e' s h,exOf e e' /\ St w0 ρ0 h0 H0 n s h a w /\ Q e' s h
theorem St.drew{w0:World}{ρ0:zdr}{h0 H0:zb}{s:zbq}{h:zb}{a:Act}{w:World}(x:St w0 ρ0 h0 H0 n s h a w)(k:Nat):St w0 ρ0 h0 H0 n s h a { w with drawn:=k }:=by
 obtain⟨ρ,H,q1,q2,q3,q4,q5⟩:=x.ex;exact⟨⟨ρ,H,q1,q2,q3,q4.drew k,q5⟩,x.size⟩
theorem zmt{F:Fence}{m:Nat}{c:Code}{Q:Exit->Act->World->Prop}{a:Act}{w:World}(h:c.wpIn F m P (Exit.noGoto Q) a w):(Code.scope c).wpIn F m P Q a w:=by
 intro b k cs hro hb hr;have s1:step P (lone (b.atR a (.code (.scope c)::k)) cs w)= .next (lone (b.atR a (.code c:: .inScope c::k)) cs w):=step_lone_go (by simp[stepG,stepG.exec,Frame.atR])
 have s2:∀{a w},step P (lone (b.atR a (.inScope c::k)) cs w)= .next (lone (b.atR a k) cs w):=fun{a w}=>step_lone_go (by simp[stepG,stepG.exec,Frame.atR])
 have h0:(lone (b.atR a (.code (.scope c)::k)) cs w).fenced P F:=fenced_calm hb hr rfl;obtain⟨e,a₁,w₁,hq,harr⟩:=h b (.inScope c::k) cs hro hb hr;cases e with
 | normal=>exact⟨.normal,a₁,w₁,hq,.head h0 s1 (StepsIn.trans harr (.one (fenced_calm hb hr rfl) s2))⟩
 | exit id=>exact⟨.exit id,a₁,w₁,hq,λk' hk=> .head h0 s1 (harr.1 k' (by simp[exitTo,hk])),λhr' hk=>let ⟨k₁,h1,h2⟩:=harr.2 hr' (by simp[exitTo,hk]);⟨k₁,h1,.head h0 s1 h2⟩⟩
 | goto l=>exact hq.elim
 | ret=>exact⟨_,a₁,w₁,hq,.of_steps (.one h0 s1) harr⟩
 | panic ch=>exact⟨_,a₁,w₁,hq,.of_steps (.one h0 s1) harr⟩
 | outgrown=>exact⟨_,a₁,w₁,hq,.of_steps (.one h0 s1) harr⟩
theorem setPs_rel{ρ:zdr}:∀{ps:List Nat}{xs:List za}{us:List Value}{s:zbq}{tm:Array Value}{ds:List Deferred},zd0 ρ xs us->xs.length=ps.length->(∀p∈ps,p<tm.size)->zgs ρ s { tmps:=tm,defers:=ds } ->
  zgs ρ (zl9 ps xs s) { tmps:=(ps.zip us).foldl (λtm x=>tm.setIfInBounds x.1 x.2) tm,defers:=ds } /\ ((ps.zip us).foldl (λtm x=>tm.setIfInBounds x.1 x.2) tm).size=tm.size
 | [],[],_,_,_,_,_,_,_,h=>⟨h,rfl⟩
 | p::ps,x::xs,_,s,tm,ds,⟨u,us,rfl,h1,h2⟩,hl,hp,h=>by
  have h':zgs ρ (zet s (some p) x) { tmps:=tm.setIfInBounds p u,defers:=ds }:=h.put (d:=some p) h1 λk hk=>by cases hk;exact hp p (by simp)
  have:=setPs_rel (tm:=tm.setIfInBounds p u) h2 (by simpa using hl) (λq hq=>by rw[Array.size_setIfInBounds];exact hp q (by simp[hq])) h'
  exact⟨this.1,this.2.trans (by simp)⟩
theorem Dfs.upd{ρ:zdr}{h0 H0 h H:zb}{id:Nat}{b b' b1:Blk}(h1:H id=some b1)(hne:b1≠zf6 (.dfr true)):∀{ds:List Deferred}{l:List Nat},Dfs ρ h0 H0 h H ds l->Dfs ρ h0 (Ab.upd H0 id b) h (Ab.upd H id b') ds l
 | [],_,e=>e
 | _::_,_,⟨i,is,L,e1,e2,e3,e4,e5,e6,e7,e8⟩=>by
  have hi:i≠id:=λe=>by subst e;rw[h1]at e4;exact hne (Option.some.inj e4)
  exact⟨i,is,L,e1,e2,e3,by rw[zt _ _ hi];exact e4,e5,by rw[zt _ _ hi];exact e6,e7,e8.upd h1 hne⟩
theorem Dfs.mem{ρ:zdr}{h0 H0 h H:zb}{k:Nat}:∀{ds:List Deferred}{l:List Nat},Dfs ρ h0 H0 h H ds l->k∈l->H k=some (zf6 (.dfr true))
 | [],_,e,hk=>by have e:_=[]:=e;subst e;cases hk
 | _::_,_,⟨i,is,L,e1,e2,e3,e4,e5,e6,e7,e8⟩,hk=>by
  subst e1
  rcases mem_cons.1 hk with rfl|hk
  ·exact e4
  ·exact e8.mem hk
theorem Dfs.off{ρ:zdr}{h0 H0 h H:zb}{k:Nat}{b:Blk}:∀{ds:List Deferred}{l:List Nat},Dfs ρ h0 H0 h H ds l->k∉l->Dfs ρ h0 H0 h (Ab.upd H k b) ds l
 | [],_,e,_=>e
 | _::_,_,⟨i,is,L,e1,e2,e3,e4,e5,e6,e7,e8⟩,hk=>by
  subst e1
  have hi:i≠k:=λe=>hk (by simp[e])
  exact⟨i,is,L,rfl,e2,e3,by rw[zt _ _ hi];exact e4,e5,e6,e7,e8.off λh=>hk (by simp[h])⟩
theorem stOf_jn{e:Exit}{e':Ex}(he:exOf e e'):∃jump:Option Code,stOf (jn e'+1)=(if jump.isNone then .ready else .done,jump) /\ jump.isNone=Nat.beq (jn e') 0 /\ ∀{P l R a w},(∃v w',(Instr.endRound l jump).run P w= .ok v w' /\ R (.returned v) w')->roundPost P l R e a w:=by
 cases e<;>cases e'<;>(try exact he.elim)
 ·exact⟨none,rfl,rfl,λh=>h⟩
 ·rename_i i j
  have he:i=j:=he;subst he;exact⟨some (.exit i),rfl,rfl,λh=>h⟩
 ·exact⟨some .ret,rfl,rfl,λh=>h⟩
theorem round_sound{sz id:Nat}{s:zbq}{ps:Array Tmp}{A B:Code}(hsz:n <= sz)(hps:∀p∈ps.toList,p<n)
  (hA:∀(l:Nat)(w0:World)(ρ0:zdr)(h0 H0:zb)(Q:Ex->zbq->zb->Prop)(s:zbq)(h:zb)(a:Act)(w:World),awp P (AC P) A Q s h->St w0 ρ0 h0 H0 n s h a w->A.wpIn (WF (some l)) 0 P (zri w0 ρ0 h0 H0 n Q) a w)
  (hB:∀(l:Nat)(w0:World)(ρ0:zdr)(h0 H0:zb)(Q:Ex->zbq->zb->Prop)(s:zbq)(h:zb)(a:Act)(w:World),awp P (AC P) B Q s h->St w0 ρ0 h0 H0 n s h a w->B.wpIn (WF (some l)) 0 P (zri w0 ρ0 h0 H0 n Q) a w)
  {xs:List za} {h1:zb} {Ky:zQ} (hh1:h1 id=none) (hlen:xs.length=ps.size)
  (hx:awp P (AC P) A (Ex.then (awp P (AC P) B λe _ h2=>endR id (zi4 sz s ps A B) Ky (jn e) h2) λ_ _ _=>False) (zl9 ps.toList xs s) h1):
  AC P zla (mkY id::xs) (upd h1 id (zi4 sz s ps A B 0)) Ky:=by
 intro w0 ρ H w va hle hR hva;refine⟨λh=>(by cases h),λ_ _=>?_⟩;obtain⟨id',xs',us,L,e1,hL,rfl,hus⟩:=hva.resolve_left (λh=>by have:=h.noY;cases this);simp only[mkY,List.cons.injEq,za.agg.injEq,za.yld.injEq,and_true]at e1;obtain⟨rfl,rfl⟩:=e1;have hid:H id=some (zi4 sz s ps A B 0):=hle id _ (zbv ..);have objAt:∀{ρ':zdr}{H':zb}{w':World}{st:Nat},ρ.le ρ'->R w0 ρ' H' w'->H' id=some (zf6 (.loop sz s ps A B st))->∃r:Loop,w'.heap[L.blk]?=some (.loop r) /\ r.params=ps /\ r.assign=A /\ r.body=B /\ r.tmps.size=sz /\ (∀k,zfj ρ' (s k) (r.tmps.getD k Go.undef)) /\ r.state=(stOf st).1 /\ r.pending=(stOf st).2:=λ{ρ' H' w' st} hρ hR' hid'=>by
  obtain⟨_,L',ob,q1,q2,q3,q4,q5,q6⟩:=(hR'.blk id _ hid').obj _ rfl;rw[hρ _ _ _ hL]at q1;cases q1;obtain⟨r,rfl,rest⟩:=q6;exact⟨r,q5,rest⟩
 obtain⟨r,q5,rp,ra,rb,rs,rt,rst,rpe⟩:=objAt (zdr.le_refl ρ) hR hid;have hy:=run_yield (P:=P) (args:=us.toArray) q5 (by rw[rp,<-hlen,hus.length];simp);rw[ra,rb,rp]at hy;have hfold:(ps.zip us.toArray).foldl (fun(tm:Array Value)(x:Tmp×Value)=>tm.setIfInBounds x.1 x.2) r.tmps=(ps.toList.zip us).foldl (fun(tm:Array Value)(x:Nat×Value)=>tm.setIfInBounds x.1 x.2) r.tmps:=by
  rw[<-Array.foldl_toList];simp
 refine⟨L.blk,us,r.fn,_,A,B,rfl,hy,?_⟩;obtain⟨hrel,hsize⟩:=setPs_rel (ps:=ps.toList) (ds:=[]) (s:=s) (tm:=r.tmps) hus (by simpa using hlen) (λp hp=>by rw[rs];exact Nat.lt_of_lt_of_le (hps p hp) hsz) rt;have hle1:h1.le H:=zb.le_trans (zf5 _ hh1) hle;have hSt:St w0 ρ h1 H n (zl9 ps.toList xs s) h1 { tmps:=(ps.zip us.toArray).foldl (fun(tm:Array Value)(x:Tmp×Value)=>tm.setIfInBounds x.1 x.2) r.tmps,defers:=[] } w:=
  ⟨⟨ρ,H,zdr.le_refl ρ,hle1,Fr.refl h1 H,hR,by rw[hfold];exact hrel,[],rfl⟩,by rw[hfold];show n <= Array.size _;rw[hsize,rs];exact hsz⟩
 refine roundIn_of_wpIn (F:=Fence.wide) trivial (wpIn_mono (hA L.blk _ _ _ _ _ _ _ _ _ hx hSt) ?_);rintro e a1 w1 ⟨e',s1,h2,he,hS1,hq⟩;cases e<;>cases e'<;>(try exact he.elim)<;>(try exact hq.elim);obtain⟨ρ1,H1,p1,p2,p3,p4,p5,lds,p6⟩:=hS1.ex;obtain⟨hid1,hid1'⟩:=p3 id hh1 _ hid;obtain⟨r1,q51,rp1,ra1,rb1,rs1,rt1,rst1,rpe1⟩:=objAt p1 p4 hid1;refine⟨_,run_beginRound q51 rst1,?_⟩;have hR2:=p4.setObj hid1 rfl (p1 _ _ _ hL) (o':= .loop sz s ps A B 0) (ob':= .loop { r1 with state:= .busy }) ⟨_,rfl,rp1,ra1,rb1,rs1,rt1,rfl,rpe1⟩
 have hSt2:St w0 ρ h1 (upd H id (zf6 (.loop sz s ps A B 0))) n s1 h2 a1 (w1.putObj L.blk (.loop { r1 with state:= .busy })):=
  ⟨⟨ρ1,upd H1 id (zf6 (.loop sz s ps A B 0)),p1,λi b hb=>by
   have:i≠id:=λe=>by subst e;rw[hid1']at hb;cases hb
   rw[zt _ _ this];exact p2 i b hb,λi hi b hb=>by
   by_cases e:i=id
   ·subst e;rw[zbv]at hb ⊢;exact⟨hb,hid1'⟩
   ·rw[zt _ _ e]at hb ⊢;exact p3 i hi b hb,hR2,p5,lds,p6.upd hid1 (λe=>by simp[zi4,zf6]at e)⟩,hS1.size⟩
 refine wpIn_mono (hB L.blk _ _ _ _ _ _ _ _ _ hq hSt2) ?_;rintro e3 a3 w3 ⟨e3',s3,h3,he3,hS3,h4,hle4,hK⟩;obtain⟨ρ3,H3,t1,t2,t3,t4,_⟩:=hS3.ex;obtain⟨hid3,hid3'⟩:=t3 id hh1 _ (zbv ..);obtain⟨r3,q53,rp3,ra3,rb3,rs3,rt3,_,_⟩:=objAt t1 t4 hid3;obtain⟨jump,j1,j2,j3⟩:=stOf_jn he3;refine j3 ⟨_,_,run_endRound jump q53,?_⟩;have h4id:h4 id=none:=by
  cases e:h4 id with
  | none=>rfl
  | some b=>rw[hle4 id b e]at hid3';cases hid3'
 have hR4:=t4.setObj hid3 rfl (t1 _ _ _ hL) (o':= .loop sz s ps A B (jn e3'+1)) (ob':= .loop { r3 with state:=if jump.isNone then .ready else .done,pending:=jump })
  ⟨_,rfl,rp3,ra3,rb3,rs3,rt3,by rw[j1],by rw[j1]⟩
 refine⟨_,rfl,⟨⟨.bool (Nat.beq (jn e3') 0),ρ3,upd h4 id (zi4 sz s ps A B (jn e3')),upd H3 id (zi4 sz s ps A B (jn e3')),t1,by rw[j2];rfl,hK h4id,zhe _ (zb.le_trans hle4 t2),?_,hR4⟩⟩⟩;intro i hi b hb;have hne:i≠id:=λe=>by subst e;rw[zbv]at hi;cases hi
 rw[zt _ _ hne]at hi;obtain⟨m1,m2⟩:=t3 i hi b (by rw[zt _ _ hne];exact hb);rw[zt _ _ hne,zt _ _ hne];refine⟨m1,?_⟩;cases e:h4 i with
 | none=>rfl
 | some b=>rw[hle4 i b e]at m2;cases m2
theorem range_sound{w0:World}{ρ0:zdr}{h0 H0:zb}{s:zbq}{h:zb}{a:Act}{w:World}{m:Nat}{g:Operand}{ps:Array Tmp}{A B:Code}{Q:Ex->zbq->zb->Prop}(hps:∀p∈ps.toList,p<n)
  (hA:∀(l:Nat)(w0:World)(ρ0:zdr)(h0 H0:zb)(Q:Ex->zbq->zb->Prop)(s:zbq)(h:zb)(a:Act)(w:World),awp P (AC P) A Q s h->St w0 ρ0 h0 H0 n s h a w->A.wpIn (WF (some l)) 0 P (zri w0 ρ0 h0 H0 n Q) a w)
  (hB:∀(l:Nat)(w0:World)(ρ0:zdr)(h0 H0:zb)(Q:Ex->zbq->zb->Prop)(s:zbq)(h:zb)(a:Act)(w:World),awp P (AC P) B Q s h->St w0 ρ0 h0 H0 n s h a w->B.wpIn (WF (some l)) 0 P (zri w0 ρ0 h0 H0 n Q) a w)
  (hx:awp P (AC P) (.rangeFunc g ps A B) Q s h) (hS:St w0 ρ0 h0 H0 n s h a w):(Code.rangeFunc g ps A B).wpIn (WF none) m P (zri w0 ρ0 h0 H0 n Q) a w:=by
 refine wpIn_rangeFunc λfn _=>?_;obtain⟨ρ,H,q1,q2,q3,q4,q5,lds,q6⟩:=hS.ex;obtain⟨N,hN⟩:=q4.fin;have hhN:∀i,N <= i->h i=none:=λi hi=>by
  cases e:h i with
  | none=>rfl
  | some b=>have:=q2 i b e;rw[(hN i hi).1]at this;cases this
 have hRD:=q4.newObj (hN N (Nat.le_refl N)).1 (hN N (Nat.le_refl N)).2 (o:= .dfr true) (ob:= .deferred (some [])) rfl;generalize hρD:ρ.put N 0 ⟨w.heap.size,0,0,0⟩=ρD at hRD;have hρ1:ρ.le ρD:=by rw[<-hρD];exact zdr.zk0 _ ((hN N (Nat.le_refl N)).2 0)
 have hH1:(upd H N (zf6 (.dfr true))) (N+1)=none:=by rw[zt _ _ (by omega)];exact(hN (N+1) (by omega)).1
 have hρn:∀g,ρD (N+1) g=none:=λg=>by rw[<-hρD,zdr.zds _ _ (by omega)];exact(hN (N+1) (by omega)).2 g
 have hRL:=hRD.newObj hH1 hρn (o:= .loop a.tmps.size (zrh (zpo ps.toList A B) s) ps A B 1) (ob:= .loop { state:= .ready,pending:=none,fn,tmps:=a.tmps,params:=ps,assign:=A,body:=B,defers:=w.heap.size })
  ⟨_,rfl,rfl,rfl,rfl,rfl,λk=>by
   unfold zrh;cases zg9 (zpo ps.toList A B) k with
   | true=>exact(q5 k).mono hρ1
   | false=>trivial,rfl,rfl⟩
 have hsz1:({ w with heap:=w.heap.push (.deferred (some [])) }:World).heap.size=w.heap.size+1:=by simp
 rw[hsz1]at hRL;generalize hρL:ρD.put (N+1) 0 ⟨w.heap.size+1,0,0,0⟩=ρL at hRL;have hρ2:ρD.le ρL:=by rw[<-hρL];exact zdr.zk0 _ (hρn 0)
 have hLN:ρL N 0=some ⟨w.heap.size,0,0,0⟩:=by rw[<-hρL,zdr.zds _ _ (by omega),<-hρD,zdr.zep]
 have hLI:ρL (N+1) 0=some ⟨w.heap.size+1,0,0,0⟩:=by rw[<-hρL,zdr.zep]
 have hρ3:ρ.le ρL:=zdr.le_trans hρ1 hρ2;generalize hH2:upd (upd H N (zf6 (.dfr true))) (N+1) (zf6 (.loop a.tmps.size (zrh (zpo ps.toList A B) s) ps A B 1))=H2 at hRL;have hle2:(upd h (N+1) (zi4 a.tmps.size (zrh (zpo ps.toList A B) s) ps A B 0)).le H2:=by
  rw[<-hH2];refine zhe _ λi b hb=>?_;have:i≠N:=λe=>by subst e;rw[hhN i (Nat.le_refl i)]at hb;cases hb
  rw[zt _ _ this];exact q2 i b hb
 have hK:=hx a.tmps.size (N+1) (hhN (N+1) (by omega)) (λxs h1 Ky hh1 hW=>round_sound hS.size hps hA hB hh1 hW.1 hW.2);have hg:=zcq q5 g;split at hK
 rotate_left
 ·exact hK.elim
 rename_i f first zjb hf
 rw[hf]at hg;obtain⟨l,l',ev,g1,g2⟩:=hg;have hv:zd0 ρL (first++[.yld (N+1)]++zjb) (l++[.func (.yield (w.heap.size+1)) #[] #[]]++l'):=
  ((zd0.mono hρ3 _ _ g1).append (show zd0 ρL [.yld (N+1)] [.func (.yield (w.heap.size+1)) #[] #[]] from ⟨_,_,rfl,⟨_,hLI,rfl⟩,rfl⟩)).append (zd0.mono hρ3 _ _ g2)
 rcases (hK w0 ρL H2 _ _ hle2 hRL (.inl hv)).1 hv.noY with⟨c1,c2⟩|⟨_,_,_,_,c3⟩
 rotate_left
 ·exact(c3 (.func (.yield (w.heap.size+1)) #[] #[]) (by simp) _ _ _ rfl).elim
 have hva:(l++[Value.func (.yield (w.heap.size+1)) #[] #[]]++l').toArray=l.toArray++ #[Value.func (.yield (w.heap.size+1)) #[] #[]]++l'.toArray:=by apply Array.ext';simp
 refine⟨w.heap.size+1,[{ target:= .collected w.heap.size,args:= #[] }],_,{ target:= .fn (.func f) l'.toArray,args:=l.toArray++ #[.func (.yield (w.heap.size+1)) #[] #[]] },(w.alloc (.deferred (some []))).alloc (.loop { state:= .ready,pending:=none,fn,tmps:=a.tmps,params:=ps,assign:=A,body:=B,defers:=w.heap.size }),f,_,_,run_enterLoop_outer fn a.tmps ps A B,?_,λ_ _=>trivial,?_,λh=>(by cases h),zsi (c2.mono ?_)⟩
 ·have hmap:Array.map a.eval #[Operand.const (Value.func (Fn.yield (w.heap.size+1)) #[] #[])]= #[Value.func (Fn.yield (w.heap.size+1)) #[] #[]]:=by simp[Act.eval]
  simp only[resolve,ev,Deferred.ofValue,Sem.run_pure,hmap]
 ·rw[hva]at c1 ⊢
  exact c1
 rintro e w3 ⟨v,rfl,hAf⟩;obtain⟨x,ρ3,h3,H3,k1,k2,⟨j,h4,m1,m2,m3⟩,k4,k5,k6⟩:=hAf.ex;have hid3:H3 (N+1)=some (zi4 a.tmps.size (zrh (zpo ps.toList A B) s) ps A B j):=k4 _ _ (m2 _ _ (zbv ..));obtain⟨_,L',ob,o1,o2,o3,o4,o5,r3,rfl,rp,ra,rb,rs,rt,rst,rpe⟩:=(k6.blk _ _ hid3).obj _ rfl;rw[k1 _ _ _ hLI]at o1;cases o1;have hnb:r3.state≠ .busy:=by
  rw[rst];rcases j with _|_|j<;>simp[stOf]
 refine⟨_,_,run_endLoop o5 hnb,?_⟩;have hR4:=k6.setObj hid3 rfl (k1 _ _ _ hLI) (o':= .gone) (ob':= .loop { r3 with state:= .exhausted }) (λ_ _ _=>by simp);have h43:∀i b,h4 i=some b->i≠N+1 /\ h3 i=some b:=λi b hb=>by
  have:i≠N+1:=λe=>by subst e;rw[m1]at hb;cases hb
  exact⟨this,m2 i b (by rw[zt _ _ this];exact hb)⟩
 have hfr:Fr h H h4 (upd H3 (N+1) (zf6 .gone)):=λi hi b hb=>by
  have n1:i≠N:=λe=>by subst e;rw[(hN i (Nat.le_refl i)).1]at hb;cases hb
  have n2:i≠N+1:=λe=>by subst e;rw[(hN (N+1) (by omega)).1]at hb;cases hb
  obtain⟨u1,u2⟩:=k5 i (by rw[zt _ _ n2];exact hi) b (by rw[<-hH2,zt _ _ n2,zt _ _ n1];exact hb);refine⟨by rw[zt _ _ n2];exact u1,?_⟩;cases e:h4 i with
  | none=>rfl
  | some b=>rw[(h43 i b e).2]at u2;cases u2
 obtain⟨u1,u2⟩:=k5 N (by rw[zt _ _ (by omega)];exact hhN N (Nat.le_refl N)) _ (by rw[<-hH2,zt _ _ (by omega),zbv])
 have hSt:St w0 ρ0 h0 H0 n s h4 { a with defers:=[{ target:= .collected w.heap.size,args:= #[] }]++a.defers } (w3.putObj (w.heap.size+1) (.loop { r3 with state:= .exhausted })):=by
  refine⟨⟨ρ3,_,zdr.le_trans q1 (zdr.le_trans hρ3 k1),λi b hb=>?_,q3.trans hfr,hR4,λk=>(q5 k).mono (zdr.le_trans hρ3 k1),N::lds,N,lds,⟨w.heap.size,0,0,0⟩,rfl,rfl,k1 _ _ _ hLN,?_,?_,λhn=>?_,λhm=>?_,q6.step (zdr.le_trans hρ3 k1) hfr⟩,hS.size⟩
  ·obtain⟨n2,hb3⟩:=h43 i b hb
   rw[zt _ _ n2];exact k4 i b hb3
  ·rw[zt _ _ (by omega)];exact u1
  ·cases e:h4 N with
   | none=>rfl
   | some b=>rw[(h43 N b e).2]at u2;cases u2
  ·cases e:H0 N with
   | none=>rfl
   | some b=>have:=(q3 N hn b e).1;rw[(hN N (Nat.le_refl N)).1]at this;cases this
  ·have:=q6.mem hm
   rw[(hN N (Nat.le_refl N)).1]at this;cases this
 rw[rpe]at hSt ⊢;rcases j with _|_|j
 ·exact⟨.normal,s,h4,trivial,hSt,m3⟩
 ·exact wpIn_ret ⟨.ret,s,h4,trivial,hSt,m3⟩
 ·exact wpIn_exit ⟨.exit j,s,h4,rfl,hSt,m3⟩
theorem zf1(hm:P.follows .mixedOrders=true):∀(c:Code)(r:Option Nat)(m:Nat)(w0:World)(ρ0:zdr)(h0 H0:zb)(Q:Ex->zbq->zb->Prop)(s:zbq)(h:zb)(a:Act)(w:World),zio n c=true->(r=none \/ zh4 c=true) ->
  awp P (AC P) c Q s h->St w0 ρ0 h0 H0 n s h a w->c.wpIn (WF r) m P (zri w0 ρ0 h0 H0 n Q) a w
 | .skip,r,m,w0,ρ0,h0,H0,Q,s,h,a,w,_,_,hx,hS=>wpIn_skip ⟨.normal,s,h,trivial,hS,hx⟩
 | .region id ops draw,r,m,w0,ρ0,h0,H0,Q,s,h,a,w,hc,_,hx,hS=>by
  have hd:∀o∈ops.toList,zrr n o=true:=all_eq_true.1 hc
  have hQ:∀s h a w,St w0 ρ0 h0 H0 n s h a w->Q .normal s h->zri w0 ρ0 h0 H0 n Q .normal a w:=λs h a w k1 k2=>⟨.normal,s,h,trivial,k1,k2⟩
  cases draw with
  | false=>
   refine wpIn_region ?_
   rw[range_eq_range',show ops.size=ops.toList.length by simp]
   exact ops_sound hd hQ ops.toList 0 s h a w rfl hx hS
  | true=>
   simp only[awp]at hx
   split at hx
   ·rename_i l hl
    obtain⟨h1,h2,h3⟩:=plan_inv hl
    refine wpIn_region_any hm ?_
    rw[<-h2]
    exact zsf h1 hd hQ l.length l _ s h a _ rfl (by rw[h2];exact h3) hx (hS.drew _)
   ·exact hx.elim
 | .seq x y,r,m,w0,ρ0,h0,H0,Q,s,h,a,w,hc,hr,hx,hS=>by
  simp only[zio,zh4,Bool.and_eq_true]at hc hr
  refine wpIn_seq (wpIn_mono (zf1 hm x r m _ _ _ _ _ s h a w hc.1 (hr.imp id And.left) hx hS) ?_)
  rintro e a' w' ⟨e',s',h',he,hS',hq⟩
  cases e<;>cases e'<;>(try exact he.elim)
  ·exact zf1 hm y r m _ _ _ _ Q s' h' a' w' hc.2 (hr.imp id And.right) hq hS'
  ·exact⟨_,s',h',he,hS',hq⟩
  ·exact⟨_,s',h',he,hS',hq⟩
 | .cond c x y,r,m,w0,ρ0,h0,H0,Q,s,h,a,w,hc,hr,hx,hS=>by
  simp only[zio,zh4,Bool.and_eq_true]at hc hr
  simp only[awp]at hx
  obtain⟨ρ,H,q1,q2,q3,q4,q5,_⟩:=hS.ex
  have hv:=zcq q5 c
  unfold A.cond at hx
  split at hx
  ·rename_i b hb
   rw[hb]at hv
   exact wpIn_cond_split (t:=b) hv (λe=>zf1 hm x r m _ _ _ _ Q s h a w hc.1 (hr.imp id And.left) (hx.1 e) hS) (λe=>zf1 hm y r m _ _ _ _ Q s h a w hc.2 (hr.imp id And.right) (hx.2 e) hS)
  ·exact hx.elim
 | .label _,r,m,w0,ρ0,h0,H0,Q,s,h,a,w,hc,_,hx,hS=>wpIn_label ⟨.normal,s,h,trivial,hS,hx⟩
 | .scope c,r,m,w0,ρ0,h0,H0,Q,s,h,a,w,hc,hr,hx,hS=>by
  refine zmt (wpIn_mono (zf1 hm c r m _ _ _ _ Q s h a w hc hr hx hS) ?_)
  rintro e a' w' ⟨e',s',h',he,hS',hq⟩
  cases e<;>cases e'<;>first|exact he.elim|exact ⟨_,s',h',he,hS',hq⟩
 | .block id c,r,m,w0,ρ0,h0,H0,Q,s,h,a,w,hc,hr,hx,hS=>by
  refine wpIn_block (wpIn_mono (zf1 hm c r m _ _ _ _ _ s h a w hc hr hx hS) ?_)
  rintro e a' w' ⟨e',s',h',he,hS',hq⟩
  cases e<;>cases e'<;>(try exact he.elim)
  ·exact⟨.normal,s',h',trivial,hS',hq⟩
  ·rename_i i j
   have he':i=j:=he
   subst he'
   simp only[Exit.inBlock,Ex.inBlock]at hq ⊢
   by_cases hi:i=id
   ·rw[if_pos hi]
    rw[show Nat.beq i id=true by simp[hi]]at hq
    exact⟨.normal,s',h',trivial,hS',hq⟩
   ·rw[if_neg hi]
    rw[show Nat.beq i id=false by rw[<-Bool.not_eq_true,Nat.beq_eq];exact hi]at hq
    exact⟨.exit i,s',h',rfl,hS',hq⟩
  ·exact⟨.ret,s',h',trivial,hS',hq⟩
 | .loop c,r,m,w0,ρ0,h0,H0,Q,s,h,a,w,hc,hr,hx,hS=>by
  intro b k cs hro hb hroom
  have key:=hx (λs h=>∀a w,St w0 ρ0 h0 H0 n s h a w->∃e a' w',zri w0 ρ0 h0 H0 n Q e a' w' /\ ArrivesIn (Machine.fenced P (WF r)) P (lone (b.atR a (.code c:: .inLoop c::k)) cs w) b k cs e a' w') ?_ a w hS
  ·obtain⟨e,a',w',hq,harr⟩:=key
   exact⟨e,a',w',hq,.of_steps (.one (fenced_calm hb hroom rfl) stepR_loop) harr⟩
  ·intro s h hbody a w hS
   obtain⟨e,a₁,w₁,⟨e',s',h',he,hS',hq⟩,harr⟩:=zf1 hm c r m _ _ _ _ _ s h a w hc hr hbody hS b (.inLoop c::k) cs hro hb hroom
   cases e<;>cases e'<;>(try exact he.elim)
   ·obtain⟨e₂,a₂,w₂,hq₂,harr₂⟩:=hq a₁ w₁ hS'
    exact⟨e₂,a₂,w₂,hq₂,.of_steps (StepsIn.trans harr (.one (fenced_calm hb hroom rfl) stepR_inLoop)) harr₂⟩
   ·exact⟨_,a₁,w₁,⟨_,s',h',he,hS',hq⟩,.pass (x:= .inLoop c) rfl (λ_ _=> .inl (by simp)) harr⟩
   ·exact⟨_,a₁,w₁,⟨_,s',h',he,hS',hq⟩,.pass (x:= .inLoop c) rfl (λ_ _=> .inl (by simp)) harr⟩
 | .exit id,r,m,w0,ρ0,h0,H0,Q,s,h,a,w,_,_,hx,hS=>wpIn_exit ⟨.exit id,s,h,rfl,hS,hx⟩
 | .ret,r,m,w0,ρ0,h0,H0,Q,s,h,a,w,_,_,hx,hS=>wpIn_ret ⟨.ret,s,h,trivial,hS,hx⟩
 | .rangeFunc g ps A B,r,m,w0,ρ0,h0,H0,Q,s,h,a,w,hc,hr,hx,hS=>by
  simp only[zio,Bool.and_eq_true]at hc
  obtain⟨⟨hp,nA,nB⟩,cA,cB⟩:=hc
  have hr:r=none:=hr.resolve_right (by simp[zh4])
  subst hr
  exact range_sound (λp hp'=>by have:=all_eq_true.1 hp p hp';rwa [Nat.blt_eq]at this)
   (λl w0 ρ0 h0 H0 Q s h a w x y=>zf1 hm A (some l) 0 w0 ρ0 h0 H0 Q s h a w cA (.inr nA) x y)
   (λl w0 ρ0 h0 H0 Q s h a w x y=>zf1 hm B (some l) 0 w0 ρ0 h0 H0 Q s h a w cB (.inr nB) x y) hx hS
 | .goto _,_,_,_,_,_,_,_,_,_,_,_,_,_,hx,_=>hx.elim
 | .refuse _,_,_,_,_,_,_,_,_,_,_,_,_,_,hx,_=>hx.elim
def resOne(a:Act):ResultVar->Sem Value
 | .tmp t=>pure (a.tmps.getD t Go.undef)
 | .cell x t=>do loadVar t (<- asAddr (a.tmps.getD x Go.undef))
theorem resS_run{w0:World}{ρ:zdr}{h H:zb}{s:zbq}{a:Act}{w:World}(hR:R w0 ρ H w)(hle:h.le H)(hs:zgs ρ s a):∀(rs:List ResultVar)(l:List za),resS P h s rs=some l ->
  ∃vs:List Value,(rs.mapM (resOne a)).run P w= .ok vs w /\ zd0 ρ l vs
 | [],l,h=>by cases h;exact⟨[],rfl,rfl⟩
 | .cell x t::r,l,hh=>by
  simp only[resS,zoo]at hh
  split at hh
  ·rename_i v l' hv hl
   cases hh
   obtain⟨vs,k1,k2⟩:=resS_run hR hle hs r l' hl
   obtain⟨ad,u,e1,e2,e3⟩:=resCell_run (P:=P) hR hle (hs x) hv
   refine⟨u::vs,?_,⟨_,_,rfl,e3,k2⟩⟩
   rw[mapM_cons]
   simp only[resOne,e1,asAddr,Sem.run_bind,Sem.run_pure,Result.andThen_ok,e2,k1]
  ·cases hh
 | .tmp t::r,l,hh=>by
  simp only[resS,zoo]at hh
  split at hh
  ·rename_i v l' hv hl
   cases hv
   cases hh
   obtain⟨vs,k1,k2⟩:=resS_run hR hle hs r l' hl
   refine⟨a.tmps.getD t Go.undef::vs,?_,⟨_,_,rfl,hs t,k2⟩⟩
   rw[mapM_cons]
   simp only[resOne,Sem.run_bind,Sem.run_pure,Result.andThen_ok,k1]
  ·cases hh
theorem results_run{w0:World}{ρ:zdr}{m H:zb}{s:zbq}{a:Act}{w:World}(hR:R w0 ρ H w)(hle:m.le H)(hs:zgs ρ s a){fn:Func}{v:za}(h:resV P m s fn.results.toList=some v):∃u,(results fn a.tmps).run P w= .ok u w /\ zfj ρ v u:=by
 unfold resV oneOf at h;cases hl:resS P m s fn.results.toList with
 | none=>rw[hl]at h;cases h
 | some l=>
  obtain⟨vs,k1,k2⟩:=resS_run (P:=P) hR hle hs _ l hl
  have hr:(results fn a.tmps).run P w= .ok (if h:vs.toArray.size=1 then vs.toArray[0] else .tuple vs.toArray) w:=by
   have h0:results fn a.tmps=(do
     let vs <- fn.results.mapM (resOne a)
     pure (if h:vs.size=1 then vs[0] else .tuple vs)):=by
    unfold results;congr 1
   rw[h0,Array.mapM_eq_mapM_toList];simp only[Sem.run_bind,Sem.run_map,k1,Result.andThen_ok,Sem.run_pure]
  rw[hl]at h;rw[hr];cases l with
  | nil=>
   cases h;have:vs=[]:=k2;subst this;exact⟨_,rfl,[],rfl,rfl⟩
  | cons x r=>
   obtain⟨u,us,rfl,k3,k4⟩:=k2;cases r with
   | nil=>
    cases h;have:us=[]:=k4;subst this;exact⟨u,rfl,k3⟩
   | cons y r=>
    cases h;obtain⟨u2,us2,rfl,k5,k6⟩:=k4;refine⟨.tuple (u::u2::us2).toArray,?_,_,rfl,⟨_,_,rfl,k3,_,_,rfl,k5,k6⟩⟩;simp
theorem zsa{w0:World}{fn:Func}{tmps:Array Value}{Rr:Ending->World->Prop}{ρ:zdr}{h0 H0 h:zb}
  (fin:∀H' w',R w0 ρ H' w'->h.le H'->Fr h0 H0 h H'->∃v,(results fn tmps).run P w'= .ok v w' /\ Rr (.returned v) w'):
  ∀(ds:List Deferred)(l:List Nat)(H:zb)(w:World),Dfs ρ h0 H0 h H ds l->R w0 ρ H w->h.le H->Fr h0 H0 h H->LeavesInM Fence.wide 0 P fn tmps Rr ds .returning w
 | [],_,H,w,_,hR,hle,hf=>fin H w hR hle hf
 | d::ds,_,H,w,⟨i,is,L,e1,e2,e3,e4,e5,e6,e7,e8⟩,hR,hle,hf=>by
  subst e1 e2
  obtain⟨_,L',ob,o1,_,_,_,o5,o6⟩:=(hR.blk _ _ e4).obj _ rfl
  rw[e3]at o1
  cases o1
  have o6:ob= .deferred (some []):=o6
  subst o6
  refine⟨by simp,.inl ⟨L.blk,_,rfl,run_takeDeferred o5,zsa fin ds is _ _ (e8.off e7) (hR.setObj e4 rfl e3 (o':= .dfr false) (ob':= .deferred none) rfl) (λk b hb=>?_) λk hk b hb=>?_⟩⟩
  ·have:k≠i:=λe=>by subst e;rw[e5]at hb;cases hb
   rw[zt _ _ this];exact hle k b hb
  ·have:k≠i:=λe=>by subst e;rw[e6 hk]at hb;cases hb
   rw[zt _ _ this];exact hf k hk b hb
theorem AC_intro(hm:P.follows .mixedOrders=true){f:FuncId}{fn:Func}{c:Code}(hf:P.funcs[f]?=some fn)(hb:fn.body=some c)(hcall:∀(va:Array Value)(w:World),(callFunc f va).run P w= .ok (.enter f va) w)
  (hc:zio fn.ntmps c=true) (hne:Nat.beq f zla=false) {args:List za} (hl:args.length <= fn.ntmps) {h:zb} {Q:zQ} (hx:awp P (AC P) c (retQ P fn.results.toList Q) (zcr args) h):AC P f args h Q:=by
 refine λw0 ρ H w va hle hR hva=>⟨λhny=>?_,λ_ h=>by subst h;rw[Nat.beq_refl]at hne;cases hne⟩;have hv:=hva.resolve_right λ⟨id,xs,us,L,e,_⟩=>by subst e;cases hny
 refine .inl ⟨hcall _ _,?_⟩;refine(callsIn_wide (n:=0)).1 (callsIn_of_wp_marks hf hb trivial ?_);have hlen:=hv.length;have hS:St w0 ρ h H fn.ntmps (zcr args) h { tmps:=va.toArray++Array.replicate (fn.ntmps-va.toArray.size) undef,defers:=[] } w:=by
  refine⟨⟨ρ,H,zdr.le_refl ρ,hle,Fr.refl h H,hR,λk=>?_,[],rfl⟩,by simp;omega⟩;unfold zcr;cases ha:args[k]? with
  | none=>simp only[List.getD,ha];exact trivial
  | some x=>
   obtain⟨u,k1,k2⟩:=hv.get ha;have hk:k<va.length:=(List.getElem?_eq_some_iff.1 k1).1;have:(va.toArray++Array.replicate (fn.ntmps-va.toArray.size) Go.undef).getD k Go.undef=u:=by
    simp[Array.getElem?_append,hk];have:=(List.getElem?_eq_some_iff.1 k1).2;exact this
   rw[show (List.getD args k za.undef)=x by simp[List.getD,ha]];show zfj ρ x ((va.toArray++Array.replicate (fn.ntmps-va.toArray.size) Go.undef).getD k Go.undef);rw[this];exact k2
 refine wpIn_mono (zf1 hm c none 0 _ _ _ _ _ _ h _ w hc (.inl rfl) hx hS) ?_;rintro e a' w' ⟨e',s',h',he,hS',hq⟩;obtain⟨ρ',H',q1,q2,q3,q4,q5,lds,q6⟩:=hS'.ex;have fin:∀e'',(e''= .normal \/ e''= .ret)->A.pv (resV P h' s' fn.results.toList) (λv=>Q v h')->bodyPostM Fence.wide 0 P fn (λe w'=>∃v,e= .returned v /\ znc w0 ρ h H Q v w') e'' a' w':=by
  intro e'' hor hq;obtain⟨v,hv,hQ⟩:=zf hq;have:LeavesInM Fence.wide 0 P fn a'.tmps (λe w'=>∃v,e= .returned v /\ znc w0 ρ h H Q v w') a'.defers .returning w':=
   zsa (λH'' w'' hR'' hle'' hf''=>by
    obtain⟨u,k1,k2⟩:=results_run (P:=P) hR'' hle'' q5 hv;exact⟨u,k1,u,rfl,⟨⟨v,ρ',h',H'',q1,k2,hQ,hle'',hf'',hR''⟩⟩⟩) a'.defers lds H' w' q6 q4 q2 q3
  rcases hor with rfl|rfl<;>exact this
 cases e<;>cases e'<;>(try exact he.elim)
 ·exact fin _ (.inl rfl) hq
 ·exact hq.elim
 ·exact fin _ (.inr rfl) hq
end
end Go.Ab
namespace Go.Ab
open List
def zkv(C:z5):Prop:=∀f args h (Q Q':zQ),(∀v h,Q v h->Q' v h)->C f args h Q->C f args h Q'
theorem AC_cmono(P:Program):zkv (AC P):=zja P
section
variable{P:Program}{C:z5}
theorem zp9(hC:zkv C){ops:List Oper}{o:Oper}{s:zbq}{h:zb}{K K':zQ}(hk:∀v h,K v h->K' v h)(x:zox P C ops o s h K):zox P C ops o s h K':=zj0.2 (zf9 hC hk (zj0.1 x))
theorem stepWpD_mono(hC:zkv C){ops:List Oper}{o:Oper}{ks:List (Operand×TypeId)}{s:zbq}{h:zb}{K K':zQ}(hk:∀v h,K v h->K' v h)(x:zn9 P C ops o ks s h K):zn9 P C ops o ks s h K':=by
 rw[zn8 hC]at x ⊢;exact zf9 hC (λv h ⟨a,b⟩=>⟨a,hk v h b⟩) x
def zi9(l:List Nat)(s s':zbq):Prop:=∀k,k∉l->s' k=s k
theorem zi9.refl(l:List Nat)(s:zbq):zi9 l s s:=λ_ _=>rfl
theorem zi9.trans{l:List Nat}{a b c:zbq}(x:zi9 l a b)(y:zi9 l b c):zi9 l a c:=λk hk=>(y k hk).trans (x k hk)
theorem zi9.mono{l l':List Nat}{a b:zbq}(hl:∀k∈l,k∈l')(x:zi9 l a b):zi9 l' a b:=λk hk=>x k λh=>hk (hl k h)
theorem zmz(hC:zkv C){f:za}{mk:Nat->Blk}{W W':List za->zb->(Nat->zb->Prop)->Prop}{h:zb}{K K':Nat->zb->Prop}(hW:∀xs h E,W xs h E->W' xs h E)(hk:∀j h,K j h->K' j h)(x:rangeR C f mk W h K):rangeR C f mk W' h K':=by
 intro id hid hr;have y:=x id hid λxs h1 Ky hh w=>hr xs h1 Ky hh (hW _ _ _ w);revert y;cases f<;>first|exact λy=>y|exact λy=>hC _ _ _ _ _ (λv h3 ⟨j,h4,a,b,c⟩=>⟨j,h4,a,b,hk _ _ c⟩) y
theorem zgi(hC:zkv C):∀(c:Code){Q Q':Ex->zbq->zb->Prop},(∀e s h,Q e s h->Q' e s h)->∀{s:zbq}{h:zb},awp P C c Q s h->awp P C c Q' s h
 | .skip,_,_,hq,_,_,x=>hq _ _ _ x
 | .ret,_,_,hq,_,_,x=>hq _ _ _ x
 | .exit _,_,_,hq,_,_,x=>hq _ _ _ x
 | .region _ ops false,Q,Q',hq,s,h,x=>by
  have:∀(l:List Oper)(s:zbq)(h:zb),opsWp P C ops.toList l (Q .normal) s h->opsWp P C ops.toList l (Q' .normal) s h:=by
   intro l
   induction l with
   | nil=>exact λs h x=>hq _ _ _ x
   | cons o r ih=>exact λs h x=>zp9 hC (λv h y=>ih _ _ y) x
  exact this _ _ _ x
 | .region _ ops true,Q,Q',hq,s,h,x=>by
  have:∀(l:List (Item×List (Operand×TypeId)))(s:zbq)(h:zb),zfl P C ops.toList l (Q .normal) s h->zfl P C ops.toList l (Q' .normal) s h:=by
   intro l
   induction l with
   | nil=>exact λs h x=>hq _ _ _ x
   | cons o r ih=>exact λs h x=>stepWpD_mono hC (λv h y=>ih _ _ y) x
  simp only[awp]at x ⊢;split at x
  ·exact this _ _ _ x
  ·exact x.elim
 | .seq a b,Q,Q',hq,s,h,x=>zgi hC a (λe s h y=>by
   cases e with
   | normal=>exact zgi hC b hq y
   | exit _=>exact hq _ _ _ y
   | ret=>exact hq _ _ _ y) x
 | .cond c a b,Q,Q',hq,s,h,x=>by
  simp only[awp,A.cond]at x ⊢;split at x
  ·exact⟨λe=>zgi hC a hq (x.1 e),λe=>zgi hC b hq (x.2 e)⟩
  ·exact x.elim
 | .scope b,Q,Q',hq,s,h,x=>zgi hC b hq x
 | .label _,Q,Q',hq,s,h,x=>hq _ _ _ x
 | .block id b,Q,Q',hq,s,h,x=>zgi hC b (λe s h y=>by
   cases e with
   | normal=>exact hq _ _ _ y
   | ret=>exact hq _ _ _ y
   | exit j=>
    simp only[Ex.inBlock]at y ⊢;cases hj:Nat.beq j id with
    | true=>rw[hj]at y;exact hq _ _ _ y
    | false=>rw[hj]at y;exact hq _ _ _ y) x
 | .loop c,Q,Q',hq,s,h,x=>λX hX=>x X λs h y=>hX s h (zgi hC c (λe s h z=>by
   cases e with
   | normal=>exact z
   | exit _=>exact hq _ _ _ z
   | ret=>exact hq _ _ _ z) y)
 | .rangeFunc g ps a b,Q,Q',hq,s,h,x=>λsz=>zmz hC (λ_ _ _ w=>w) (λj h y=>hq _ _ _ y) (x sz)
 | .goto _,_,_,_,_,_,x=>x.elim
 | .refuse _,_,_,_,_,_,x=>x.elim
def z3(F:zG)(vs:List za)(h:zb):Prop:=∀Y:zL,(∀vs h,F vs h Y->Y vs h)->Y vs h
end
theorem zmq{P:Program}{f:FuncId}{fn:Func}(hf:P.funcs[f]? =some fn)(hb:fn.body.isNone=false)(hn:(fn.name== "runtime.NumGoroutine")=false)(va:Array Value)(w:World):
  (callFunc f va).run P w= .ok (.enter f va) w:=by
 have hb':fn.body≠none:=λe=>by rw[e]at hb;cases hb
 have hn':fn.name≠ "runtime.NumGoroutine" :=fun e=>by rw [e] at hn;cases hn
 unfold callFunc;simp[Sem.run_bind,run_program,hf,hb',hn']
theorem z3.intro{F:zG}{vs:List za}{h:zb}(I:Nat->zL)(n:Nat)
  (hF:∀(Y:zL)(n:Nat)(vs:List za)(h:zb),I n vs h->(∀m vs h,m<n->I m vs h->Y vs h)->F vs h Y) (h0:I n vs h):z3 F vs h:=by
 intro Y hY;have:∀n vs h,I n vs h->Y vs h:=by
  intro n
  induction n using Nat.strongRecOn with
  | ind n ih=>exact λvs h hi=>hY vs h (hF Y n vs h hi λm vs h hm=>ih m hm vs h)
 exact this n vs h h0
structure Bx where
 bs:List Nat
 ds:List Nat
 B:Nat
 pl:List (Nat×List (Nat×List Nat))
abbrev Gd:=Option (Nat×Bool)
abbrev zjq:=List (Nat×Gd×Nat×Nat)
def zkd:Gd->Gd->Bool|none,_=>true|some (j,true),some (i,true)=>Nat.beq j i|some (j,false),some (i,false)=>Nat.beq j i|_,_=>false
namespace Bx
variable(I:Bx)
def clean(k:Nat):Bool:=Nat.blt k I.B&&(!zg9 I.bs k&& !zg9 I.ds k)
def okO:Operand->Bool | .tmp t=>I.clean t|_=>true
def okD:Option Nat->Bool|none=>true|some d=>I.clean d
def find(g:Gd)(t:Nat):zjq->Option (Nat×Nat)|[]=>none|(e,g',d,off)::r=>bif Nat.beq e t then (bif zkd g' g then some (d,off) else none) else find g t r
def place(E:zjq)(g:Gd):Operand->Option (Nat×Nat) | .tmp t=>bif zg9 I.bs t then some (t,0) else find g t E|_=>none
def okG(ops:List Oper):Gd->Bool
 | none=>true
 | some (j,_)=>match zjt ops j with
  | some t=>I.clean t
  | none=>false
end Bx
def slotIs(o:Option Nat)(d:Nat):Bool:=
 match o with
 | some t=>Nat.beq t d
 | none=>false
def guardIs(ops:List Oper)(d:Nat):Gd->Bool|none=>false|some (j,_)=>slotIs (zjt ops j) d
def zka(ops:List Oper)(d:Nat):zjq->zjq|[]=>[]|(e,g,b,off)::r=>bif guardIs ops d g then zka ops d r else bif Nat.beq e d then zka ops d r else bif Nat.beq b d then zka ops d r else (e,g,b,off)::zka ops d r
def zit(ops:List Oper)(d:Option Nat)(E:zjq):zjq:=
 match d with
 | none=>E
 | some d=>zka ops d E
namespace A
def al(v:za)(p:Prop):Prop:=
 match v with
 | .agg _=>p
 | _=>False
def boxN(n:Nat)(v:za):Option za:=
 match v with
 | .agg cs=>if cs.length=n then some (.agg cs) else none
 | _=>none
def box1(v:za):Option za:=bif v.zec then some (.agg [v]) else none
def keepS(h:zb)(ls:List (za×Option Nat))(K:zQ):zQ:=
 λv h'=>(∀p∈ls,match p.2 with|none=>∃x,ldv h p.1=some x /\ ldv h' p.1=some x|some n=>∃x,zl2 h p.1 n=some x /\ zl2 h' p.1 n=some x) /\ K v h'
def gdO(ops:List Oper)(g:Gd)(s:zbq)(h:zb)(M:(zQ)->Prop)(K:zQ):Prop:=
 match g with
 | none=>M K
 | some (j,b)=>match zjt ops j with
  | some t=>A.gd h (s t) b M K
  | none=>False
end A
namespace V
def setF(off:Nat)(v c:za):Option za:=
 match c with
 | .agg cs=>match put1 off v cs with|some cs=>some (.agg cs)|none=>none
 | _=>none
def setN(off n:Nat)(v c:za):Option za:=
 match c with
 | .agg cs=>match putN off n v cs with|some cs=>some (.agg cs)|none=>none
 | _=>none
end V
def zqq:Option (List za)->Option za|some cs=>some (.agg cs)|none=>none
section
variable(P:Program)(C:z5)(I:Bx)(ops:List Oper)
def zjl(E:zjq)(s:zbq):List (Operand×TypeId)->(List (Operand×TypeId)->Prop)->Prop|[],k=>k []|(.tmp t,ty)::r,k=>bif zg9 I.bs t then A.al (s (I.B+t)) (zjl E s r k) else bif I.clean t then zjl E s r (λl=>k ((.tmp t,ty)::l)) else bif zg9 (E.map (·.1)) t then zjl E s r k else False|q::r,k=>zjl E s r (λl=>k (q::l))
def zjk(E:zjq)(d:Nat)(s:zbq):List (Operand×TypeId)->Prop->Prop
 | [],p=>p
 | (x,_)::r,p=>match I.place E none x with
  | some (d',_)=>bif Nat.beq d' d then False else A.al (s (I.B+d')) (zjk E d s r p)
  | none=>False
def genB(o:Oper)(ks:List (Operand×TypeId))(E:zjq)(s:zbq)(h:zb)(K:zjq->zbq->zb->Prop):Prop:=
 zjl I E s ks λks'=>
  match ks' with
  | []=>zox P C ops o s h λv h=>K (zit ops o.dst E) (zet s o.dst v) h
  | ks'=>A.gdO ops o.guard s h (λK=>ziw P C o.op s h (A.keepS h (zd9 P s ks') K)) λv h=>K (zit ops o.dst E) (zet s o.dst v) h
def newB(d:Nat)(c:Option za)(E:zjq)(s:zbq)(h:zb)(K:zjq->zbq->zb->Prop):Prop:=A.pv c λc=>K (zka ops d E) (zet s (some (I.B+d)) c) h
def gNone:Gd->Bool|none=>true|some _=>false
def gNoneD:Option Nat->Bool|none=>true|some _=>false
def kNone:List (Operand×TypeId)->Bool|[]=>true|_=>false
def derB(o:Oper)(d off:Nat)(E:zjq)(s:zbq)(h:zb)(K:zjq->zbq->zb->Prop):Prop:=
 match o.dst with
 | some e=>A.al (s (I.B+d)) (A.gdO ops o.guard s h (λK=>K .undef h) λ_ h=>K ((e,o.guard,d,off)::zka ops e E) (zet s (some e) .undef) h)
 | none=>False
def stepB(o:Oper)(ks:List (Operand×TypeId))(E:zjq)(s:zbq)(h:zb)(K:zjq->zbq->zb->Prop):Prop:=
 match o.op with
 | .alloc t=>match o.dst with
  | some d=>bif zg9 I.bs d then newB I ops d (zqq (zeroOf P t)) E s h K else genB P C I ops o ks E s h K
  | none=>genB P C I ops o ks E s h K
 | .box t x=>match o.dst with
  | some d=>bif zg9 I.bs d then newB I ops d (bif zdz P t then A.boxN (P.cellsOf t) (evS s x) else A.box1 (evS s x)) E s h K else genB P C I ops o ks E s h K
  | none=>genB P C I ops o ks E s h K
 | .load t x=>match I.place E o.guard x with
  | some (d,off)=>(match P.underlying t with
   | none=>False
   | some _=>A.gdO ops o.guard s h (λK=>A.pv (bif zdz P t then V.zi8 off (P.cellsOf t) (s (I.B+d)) else V.zfc off (s (I.B+d))) λv=>K v h) λv h=>K (zit ops o.dst E) (zet s o.dst v) h)
  | none=>genB P C I ops o ks E s h K
 | .store t x v=>match I.place E o.guard x with
  | some (d,off)=>zjk I E d s ks (bif zdz P t then A.pv (V.setN off (P.cellsOf t) (evS s v) (s (I.B+d))) λc=>K E (zet s (some (I.B+d)) c) h
    else bif Nat.beq (P.cellsOf t) 1 then A.pv (V.setF off (evS s v) (s (I.B+d))) λc=>K E (zet s (some (I.B+d)) c) h else False)
  | none=>genB P C I ops o ks E s h K
 | .fieldAddr t x f=>match I.place E o.guard x with
  | some (d,off)=>(match P.underlying t with
   | some (.struct fs)=>(match fs[f]? with
    | some fd=>bif Nat.beq (P.cellsOf fd.type) 0 then False else derB I ops o d (off+fd.offset) E s h K
    | none=>False)
   | _=>False)
  | none=>genB P C I ops o ks E s h K
 | .nilCheck x=>match I.place E o.guard x with
  | some (d,off)=>derB I ops o d off E s h K
  | none=>genB P C I ops o ks E s h K
 | _=>genB P C I ops o ks E s h K
def opsB:List (Oper×List (Operand×TypeId))->(zbq->zb->Prop)->zjq->zbq->zb->Prop|[],Q,_,s,h=>Q s h|(o,ks)::r,Q,E,s,h=>stepB P C I ops o ks E s h λE s h=>opsB r Q E s h
end
section
variable(P:Program)(I:Bx)(ops:List Oper)
def zng (o : Oper) (E : zjq) : zjq :=
  match o.op with
  | .alloc _ | .box _ _ => match o.dst with
    | some d => bif zg9 I.bs d then zka ops d E else zit ops o.dst E
    | none => zit ops o.dst E
  | .store _ x _ => match I.place E o.guard x with
    | some _ => E
    | none => zit ops o.dst E
  | .fieldAddr t x f => match I.place E o.guard x with
    | some (d, off) => (match P.underlying t with
      | some (.struct fs) => (match fs[f]? with
        | some fd => (match o.dst with
          | some e => (e, o.guard, d, off + fd.offset) :: zka ops e E
          | none => E)
        | none => E)
      | _ => E)
    | none => zit ops o.dst E
  | .nilCheck x => match I.place E o.guard x with
    | some (d, off) => (match o.dst with
      | some e => (e, o.guard, d, off) :: zka ops e E
      | none => E)
    | none => zit ops o.dst E
  | _ => zit ops o.dst E
def chkG(o:Oper):Bool:=o.op.operands.toList.all I.okO&&(I.okD o.dst&&I.okG ops o.guard)
def chkD(o:Oper)(ks:List (Operand×TypeId)):Bool:=kNone ks&&(match o.dst with
 | some e=>zg9 I.ds e&&(!zg9 I.bs e&&(Nat.blt e I.B&&I.okG ops o.guard))
 | none=>false)
def chkS(o:Oper)(ks:List (Operand×TypeId))(E:zjq):Bool:=
 match o.op with
 | .alloc _=>match o.dst with
  | some d=>bif zg9 I.bs d then gNone o.guard&&(kNone ks&&Nat.blt d I.B) else chkG I ops o
  | none=>chkG I ops o
 | .box _ x=>match o.dst with
  | some d=>bif zg9 I.bs d then gNone o.guard&&(kNone ks&&(Nat.blt d I.B&&I.okO x)) else chkG I ops o
  | none=>chkG I ops o
 | .load _ x=>match I.place E o.guard x with
  | some _=>kNone ks&&(I.okD o.dst&&I.okG ops o.guard)
  | none=>chkG I ops o
 | .store _ x v=>match I.place E o.guard x with
  | some _=>gNone o.guard&&(I.okO v&&gNoneD o.dst)
  | none=>chkG I ops o
 | .fieldAddr _ x _=>match I.place E o.guard x with
  | some _=>chkD I ops o ks
  | none=>chkG I ops o
 | .nilCheck x=>match I.place E o.guard x with
  | some _=>chkD I ops o ks
  | none=>chkG I ops o
 | _=>chkG I ops o
def chkO:List (Oper×List (Operand×TypeId))->zjq->Bool|[],_=>true|(o,ks)::r,E=>chkS I ops o ks E&&chkO r (zng P I ops o E)
end
def plain(l:List Oper):List (Oper×List (Operand×TypeId)):=l.map λo=>(o,[])
def drawn(l:List (Item×List (Operand×TypeId))):List (Oper×List (Operand×TypeId)):=l.map λt=>(t.1.o,t.2)
def keepsI:List Item->Item->List Nat
 | [],_=>[]
 | x::r,y=>(match x.o.op with
   | .load _ _=>bif y.m.testBit x.i then [] else [x.i]
   | _=>[])++keepsI r y
def zlt:List Item->List Item->List (List Nat)|_,[]=>[]|seen,y::r=>(bif y.k.zhn then keepsI seen y else [])::zlt (seen++[y]) r
def zo4:List Nat->List Nat->Bool|[],[]=>true|x::r,y::s=>Nat.beq x y&&zo4 r s|_,_=>false
def natssEq:List (List Nat)->List (List Nat)->Bool|[],[]=>true|x::r,y::s=>zo4 x y&&natssEq r s|_,_=>false
def opAt(ops:List Oper)(i:Nat):Oper:=(ops[i]?).getD default
def zon(ops:List Oper):List Nat->List (Operand×TypeId)
 | []=>[]
 | j::r=>match (opAt ops j).op with
  | .load t a=>(a,t)::zon ops r
  | _=>zon ops r
def litOf(ops:List Oper)(pl:List (Nat×List Nat)):List (Oper×List (Operand×TypeId)):=pl.map λq=>(opAt ops q.1,zon ops q.2)
def planLit(P:Program)(ops:Array Oper)(pl:List (Nat×List Nat)):Bool:=
 match plan P ops with
 | some l=>zo4 (l.map λt=>t.1.i) (pl.map λq=>q.1)&&natssEq (zlt [] (l.map λt=>t.1)) (pl.map λq=>q.2)
 | none=>false
def plOf(k:Nat):List (Nat×List (Nat×List Nat))->Option (List (Nat×List Nat))|[]=>none|(i,l)::r=>bif Nat.beq i k then some l else plOf k r
def bwp(P:Program)(C:z5)(I:Bx):Code->(Ex->zbq->zb->Prop)->zbq->zb->Prop
 | .skip,Q,s,h=>Q .normal s h
 | .region k ops draw,Q,s,h=>
  match draw with
  | false=>opsB P C I ops.toList (plain ops.toList) (Q .normal) [] s h
  | true=>match plOf k I.pl with
   | some pl=>opsB P C I ops.toList (litOf ops.toList pl) (Q .normal) [] s h
   | none=>False
 | .seq a b,Q,s,h=>bwp P C I a (Ex.then (bwp P C I b Q) Q) s h
 | .cond c x y,Q,s,h=>A.cond (evS s c) (bwp P C I x Q s h) (bwp P C I y Q s h)
 | .block id b,Q,s,h=>bwp P C I b (Ex.inBlock id Q) s h
 | .loop c,Q,s,h=>∀X:zbq->zb->Prop,(∀s h,bwp P C I c (Ex.then X Q) s h->X s h)->X s h
 | .exit id,Q,s,h=>Q (.exit id) s h
 | .ret,Q,s,h=>Q .ret s h
 | .scope c,Q,s,h=>bwp P C I c Q s h
 | .label _,Q,s,h=>Q .normal s h
 | .rangeFunc g ps a b,Q,s,h=>∀sz,rangeR C (evS s g) (zi4 sz (zrh (zpo ps.toList a b) s) ps a b)
   (λxs h1 E=>xs.length=ps.size /\ bwp P C I a (Ex.then (bwp P C I b λe _ h2=>E (jn e) h2) λ_ _ _=>False) (zl9 ps.toList xs (zrh (zpo ps.toList a b) s)) h1) h λj h2=>Q (unj j) s h2
 | _,_,_,_=>False
def resB(P:Program)(I:Bx)(h:zb)(s:zbq):List ResultVar->Option (List za)
 | []=>some []
 | .tmp t::r=>bif I.clean t then zoo (some (s t)) (resB P I h s r) else none
 | .cell t ty::r=>bif zg9 I.bs t then (match P.underlying ty with
   | none=>none
   | some _=>zoo (bif zdz P ty then V.zi8 0 (P.cellsOf ty) (s (I.B+t)) else V.zfc 0 (s (I.B+t))) (resB P I h s r)) else (bif I.clean t then zoo (zoe P h (s t) ty) (resB P I h s r) else none)
def retB(P:Program)(I:Bx)(rs:List ResultVar)(Q:zQ):Ex->zbq->zb->Prop | .ret,s,h | .normal,s,h=>A.pv (oneOf (resB P I h s rs)) λv=>Q v h | .exit _,_,_=>False
def chkC(P:Program)(I:Bx):Code->Bool
 | .region k ops draw=>match draw with
  | false=>chkO P I ops.toList (plain ops.toList) []
  | true=>match plOf k I.pl with
   | some pl=>planLit P ops pl&&chkO P I ops.toList (litOf ops.toList pl) []
   | none=>false
 | .seq a b=>chkC P I a&&chkC P I b
 | .cond c a b=>I.okO c&&(chkC P I a&&chkC P I b)
 | .block _ b=>chkC P I b
 | .loop b=>chkC P I b
 | .scope b=>chkC P I b
 | .rangeFunc g ps a b=>I.okO g&&((zpo ps.toList a b).all I.clean&&ps.toList.all I.clean)&&(chkC P I a&&chkC P I b)
 | _=>true
structure zow(C:z5):Prop where
 mono:zkv C
 frame:∀f args (h' h:zb) (K:zQ),h'.le h->C f args h' K->C f args h λv h1=>∃h1',K v h1' /\ h1'.le h1 /\ Fr h' h h1' h1
def zb.join(h' h h1':zb):zb:=⟨λid=>match h1' id with
 | some b=>some b
 | none=>match h' id with
  | none=>h id
  | some _=>none,by
 obtain⟨N,k⟩:=h.2
 obtain⟨M,m⟩:=h1'.2
 refine⟨max N M,λi hi=>?_⟩
 have e1:h1' i=none:=m i (by omega)
 have e2:h i=none:=k i (by omega)
 simp only[e1,e2]
 split<;>rfl⟩
theorem AC_good(P:Program):zow (AC P) where
 mono:=zja P
 frame:=by
  intro f args h' h K hle x;intro w0 ρ H w va h1 h2 h3;refine(x w0 ρ H w va (zb.le_trans hle h1) h2 h3).mono λe w' ⟨v,e1,e2⟩=>⟨v,e1,?_⟩;obtain⟨a,ρ',h1',H1,k1,k2,k3,k4,k5,k6⟩:=e2.ex;have hj:∀id b,zb.join h' h h1' id=some b->h1' id=some b \/ (h1' id=none /\ h' id=none /\ h id=some b):=λid b hb=>by
   simp only[zb.join]at hb;split at hb
   ·rename_i b' e;exact .inl (by rw[e];exact hb)
   ·rename_i e
    split at hb
    ·rename_i e';exact .inr ⟨e,e',hb⟩
    ·cases hb
  refine⟨⟨a,ρ',zb.join h' h h1',H1,k1,k2,⟨h1',k3,?_,?_⟩,?_,?_,k6⟩⟩
  ·intro id b hb
   simp only[zb.join,hb]
  ·intro id h0 b hb
   obtain⟨m1,m2⟩:=k5 id h0 b (h1 id b hb);exact⟨by simp only[zb.join,m2,h0,hb],m2⟩
  ·intro id b hb
   rcases hj id b hb with e|⟨_,e2,e3⟩
   ·exact k4 id b e
   ·exact(k5 id e2 b (h1 id b e3)).1
  ·intro id h0 b hb
   have h0':h' id=none:=by
    cases e:h' id with
    | none=>rfl
    | some b'=>rw[hle id b' e]at h0;cases h0
   obtain⟨m1,m2⟩:=k5 id h0' b hb;exact⟨m1,by simp only[zb.join,m2,h0',h0]⟩
def erase(h:zb)(id:Nat):zb:=⟨λi=>bif Nat.beq i id then none else h i,by
 obtain⟨N,k⟩:=h.2
 refine⟨N,λi hi=>?_⟩
 have e:h i=none:=k i hi
 show (bif Nat.beq i id then none else h i)=none
 rw[e];cases Nat.beq i id<;>rfl⟩
theorem erase_same(h:zb)(id:Nat):erase h id id=none:=by
 show (bif Nat.beq id id then none else h id)=none;rw[Nat.beq_refl];rfl
theorem zm8(h:zb){id i:Nat}(hi:i≠id):erase h id i=h i:=by
 show (bif Nat.beq i id then none else h i)=h i;rw[show Nat.beq i id=false from by rw[<-Bool.not_eq_true,Nat.beq_eq];exact hi];rfl
theorem upd_erase_le{h:zb}{id:Nat}{b:Blk}(hb:h id=some b):(upd (erase h id) id b).le h:=λi c hc=>by
 by_cases e:i=id
 ·subst e;rw[zbv]at hc;rw[hb];exact hc
 ·rw[zt _ _ e,zm8 _ e]at hc;exact hc
theorem AC_drop{P:Program}{f:Nat}{args:List za}{h:zb}{Q:zQ}(x:AC P f args h λv h=>∃h',Q v h' /\ h'.le h):AC P f args h Q:=by
 intro w0 ρ H w va h1 h2 h3;refine(x w0 ρ H w va h1 h2 h3).mono λe w' ⟨v,e1,e2⟩=>⟨v,e1,?_⟩;obtain⟨a,ρ',h1',H1,k1,k2,⟨h'',k3,kl⟩,k4,k5,k6⟩:=e2.ex;refine⟨⟨a,ρ',h'',H1,k1,k2,k3,zb.le_trans kl k4,λid h0 b hb=>?_,k6⟩⟩;obtain⟨m1,m2⟩:=k5 id h0 b hb;refine⟨m1,?_⟩;cases e:h'' id with
 | none=>rfl
 | some b'=>rw[kl id b' e]at m2;cases m2
theorem run_frame{C:z5}(hC:zow C){h' h:zb}{K:zQ}{x:Sh}(hle:h'.le h)(hkn:x.known h')(hx:x.run C h' K):x.run C h λv h1=>∃h1',K v h1' /\ h1'.le h1 /\ Fr h' h h1' h1:=by
 cases x with
 | val v=>exact⟨h',hx,hle,Fr.refl h' h⟩
 | heap id b v=>
  obtain⟨b0,hb0⟩:=hkn;exact⟨upd h' id b,hx,zhe b hle,Fr.upd hb0⟩
 | many id l=>
  obtain⟨b0,hb0⟩:=hkn;exact λp hp=>⟨upd h' id p.1,hx p hp,zhe p.1 hle,Fr.upd hb0⟩
 | new b mk=>
  intro id hid;have h0:h' id=none:=by
   cases e:h' id with
   | none=>rfl
   | some b'=>rw[hle id b' e]at hid;cases hid
  exact⟨upd h' id b,hx id h0,zhe b hle,Fr.fresh hid⟩
 | call f args=>exact hC.frame _ _ _ _ _ hle hx
 | fail=>exact hx
structure zpe(I:Bx)(s':zbq)(h':zb)(s:zbq)(h:zb)(β:Nat->Nat):Prop where
 le:h'.le h
 cl:∀k,I.clean k=true->s' k=s k
 bx:∀d cs,zg9 I.bs d=true->s' (I.B+d)= .agg cs->s d= .ptr (β d) 0 0 /\ h (β d)=some (zdo cs) /\ h' (β d)=none
 ap:∀d e cs cs',zg9 I.bs d=true->zg9 I.bs e=true->d≠e->s' (I.B+d)= .agg cs->s' (I.B+e)= .agg cs'->β d≠β e
def NotHeld(ops:List Oper)(s:zbq)(g:Gd):Prop:=∃j b t,g=some (j,b) /\ zjt ops j=some t /\ s t≠ .bool b
def ze0(ops:List Oper)(s:zbq)(g:Gd):Prop:=∀j b,g=some (j,b)->∃t,zjt ops j=some t /\ s t= .bool b
structure EnvAt(I:Bx)(ops:List Oper)(s' s:zbq)(β:Nat->Nat)(e:Nat)(g:Gd)(d off:Nat):Prop where
 inBs:zg9 I.bs d=true
 inDs:zg9 I.ds e=true
 noB:zg9 I.bs e=false
 lt:e<I.B
 al:∃cs,s' (I.B+d)= .agg cs
 at_:s e= .ptr (β d) 0 off \/ (s e= .tup [] /\ NotHeld ops s g)
def zk9(I:Bx)(ops:List Oper)(E:zjq)(s' s:zbq)(β:Nat->Nat):Prop:=∀e g d off,(e,g,d,off)∈E->EnvAt I ops s' s β e g d off
theorem zgh{I:Bx}{k:Nat}(h:I.clean k=true):k<I.B /\ zg9 I.bs k=false /\ zg9 I.ds k=false:=by
 simp only[Bx.clean,Bool.and_eq_true,Bool.not_eq_true',Nat.blt_eq]at h;exact h
theorem zix{a b:Nat}(h:a≠b):Nat.beq a b=false:=by rw[<-Bool.not_eq_true,Nat.beq_eq];exact h
theorem zqs{a b:Nat}(h:Nat.beq a b=true):a=b:=Nat.eq_of_beq_eq_true h
theorem zl3{ops:List Oper}{d:Nat}:∀{E:zjq}{e:Nat}{g:Gd}{b off:Nat},(e,g,b,off)∈zka ops d E->(e,g,b,off)∈E /\ e≠d /\ b≠d /\ ∀j x,g=some (j,x)->zjt ops j≠some d
 | [],_,_,_,_,h=>by simp[zka]at h
 | (e',g',b',off')::r,e,g,b,off,h=>by
  unfold zka at h
  have rec_:(e,g,b,off)∈zka ops d r->(e,g,b,off)∈(e',g',b',off')::r /\ e≠d /\ b≠d /\ ∀j x,g=some (j,x)->zjt ops j≠some d:=λh=>by
   obtain⟨k1,k2⟩:=zl3 h
   exact⟨mem_cons_of_mem _ k1,k2⟩
  cases hg:guardIs ops d g' with
  | true=>rw[hg]at h;exact rec_ h
  | false=>
   rw[hg]at h
   cases he:Nat.beq e' d with
   | true=>rw[he]at h;exact rec_ h
   | false=>
    rw[he]at h
    cases hb:Nat.beq b' d with
    | true=>rw[hb]at h;exact rec_ h
    | false=>
     rw[hb]at h
     rcases mem_cons.1 h with h|h
     ·cases h
      refine⟨mem_cons_self ..,λhh=>?_,λhh=>?_,λj x hj hs=>?_⟩
      ·rw[hh,Nat.beq_refl]at he;cases he
      ·rw[hh,Nat.beq_refl]at hb;cases hb
      ·subst hj
       simp only[guardIs,hs,slotIs,Nat.beq_refl]at hg
       cases hg
     ·exact rec_ h
theorem zrn{ops:List Oper}{s:zbq}{a b:Gd}(h:zkd a b=true)(hb:ze0 ops s b)(ha:NotHeld ops s a):False:=by
 obtain⟨j,x,t,e1,e2,e3⟩:=ha;subst e1;cases b with
 | none=>cases x<;>simp[zkd]at h
 | some p=>
  obtain⟨i,y⟩:=p;obtain⟨t',k1,k2⟩:=hb i y rfl;cases x<;>cases y<;>simp only[zkd]at h
  ·have:=zqs h;subst this;rw[e2]at k1;cases k1;exact e3 k2
  ·cases h
  ·cases h
  ·have:=zqs h;subst this;rw[e2]at k1;cases k1;exact e3 k2
section
variable{P:Program}{C:z5}{I:Bx}{ops:List Oper}{E:zjq}{s' s:zbq}{h' h:zb}{β:Nat->Nat}
theorem find_spec{g:Gd}{t d off:Nat}:∀{E:zjq},Bx.find g t E=some (d,off)->∃g',(t,g',d,off)∈E /\ zkd g' g=true
 | [],h=>by simp[Bx.find]at h
 | (e,g',d',off')::r,h=>by
  unfold Bx.find at h
  cases he:Nat.beq e t with
  | true=>
   rw[he]at h
   cases hg:zkd g' g with
   | true=>
    rw[hg]at h
    cases h
    have:=zqs he
    subst this
    exact⟨g',mem_cons_self ..,hg⟩
   | false=>rw[hg]at h;cases h
  | false=>
   rw[he]at h
   obtain⟨g',k1,k2⟩:=find_spec h
   exact⟨g',mem_cons_of_mem _ k1,k2⟩
theorem zpy{g:Gd}{x:Operand}{d off:Nat}(hE:zk9 I ops E s' s β)(hp:I.place E g x=some (d,off)):zg9 I.bs d=true:=by
 cases x<;>(try (simp[Bx.place]at hp;done));rename_i t;simp only[Bx.place]at hp;cases hb:zg9 I.bs t with
 | true=>rw[hb]at hp;cases hp;exact hb
 | false=>
  rw[hb]at hp;obtain⟨g',k1,_⟩:=find_spec hp;exact(hE _ _ _ _ k1).inBs
theorem zog{g:Gd}{x:Operand}{d off:Nat}{cs:List za}(hR:zpe I s' h' s h β)(hE:zk9 I ops E s' s β)(hp:I.place E g x=some (d,off))(ha:s' (I.B+d)= .agg cs)(hg:ze0 ops s g):evS s x= .ptr (β d) 0 off:=by
 cases x<;>(try (simp[Bx.place]at hp;done));rename_i t;simp only[Bx.place]at hp;cases hb:zg9 I.bs t with
 | true=>
  rw[hb]at hp;cases hp;exact(hR.bx _ _ hb ha).1
 | false=>
  rw[hb]at hp;obtain⟨g',k1,k2⟩:=find_spec hp;rcases (hE _ _ _ _ k1).at_ with e|⟨_,e⟩
  ·exact e
  ·exact(zrn k2 hg e).elim
theorem place_any{x:Operand}{d off:Nat}{cs:List za}(hR:zpe I s' h' s h β)(hE:zk9 I ops E s' s β)(hp:I.place E none x=some (d,off))(ha:s' (I.B+d)= .agg cs):evS s x= .ptr (β d) 0 off:=
 zog hR hE hp ha λ_ _ e=>by cases e
theorem rel_put{dst:Option Nat}{v:za}{h1' h1:zb}(hR:zpe I s' h' s h β)(hd:I.okD dst=true)(hle:h1'.le h1)(hf:Fr h' h h1' h1):zpe I (zet s' dst v) h1' (zet s dst v) h1 β:=by
 have hs:∀k,(∀d,dst=some d->k≠d)->zet s' dst v k=s' k /\ zet s dst v k=s k:=λk hk=>by
  cases dst with
  | none=>exact⟨rfl,rfl⟩
  | some d=>exact⟨zc8 _ _ (hk d rfl),zc8 _ _ (hk d rfl)⟩
 have hB:∀d,I.B+d≠dst.getD (I.B+d+1):=λd=>by
  cases dst with
  | none=>simp
  | some e=>have:=(zgh (I:=I) (k:=e) hd).1;simp;omega
 have hB':∀d,zet s' dst v (I.B+d)=s' (I.B+d):=λd=>(hs _ λe he=>by subst he;exact hB d).1;refine⟨hle,λk hk=>?_,λd cs hb hc=>?_,λd e cs cs' hb he hne hc hc'=>?_⟩
 ·cases dst with
  | none=>exact hR.cl k hk
  | some d=>
   by_cases e:k=d
   ·subst e;rw[zgu,zgu]
   ·rw[zc8 _ _ e,zc8 _ _ e];exact hR.cl k hk
 ·rw[hB']at hc
  obtain⟨k1,k2,k3⟩:=hR.bx d cs hb hc;obtain⟨m1,m2⟩:=hf _ k3 _ k2;refine⟨?_,m1,m2⟩;rw[(hs d λe he=>?_).2]
  ·exact k1
  ·subst he
   intro e';subst e';have:=(zgh (I:=I) (k:=d) hd).2.1;rw[this]at hb;cases hb
 ·rw[hB']at hc hc'
  exact hR.ap d e cs cs' hb he hne hc hc'
theorem env_kill{dst:Option Nat}{v:za}(hE:zk9 I ops E s' s β)(hd:I.okD dst=true):zk9 I ops (zit ops dst E) (zet s' dst v) (zet s dst v) β:=by
 cases dst with
 | none=>exact hE
 | some d=>
  intro e g b off hm;obtain⟨k1,k2,k3,k4⟩:=zl3 hm;have a:=hE _ _ _ _ k1;have hdB:=(zgh (I:=I) (k:=d) hd).1;refine⟨a.inBs,a.inDs,a.noB,a.lt,?_,?_⟩
  ·rw[zc8 _ _ (by omega)];exact a.al
  ·rw[zc8 _ _ k2]
   rcases a.at_ with e|⟨e,j,x,t,e1,e2,e3⟩
   ·exact .inl e
   ·refine .inr ⟨e,j,x,t,e1,e2,?_⟩
    rw[zc8]
    ·exact e3
    ·intro hh;subst hh;exact k4 j x e1 e2
theorem zi3(hR:zpe I s' h' s h β){x:Operand}(hx:I.okO x=true):evS s' x=evS s x:=by
 cases x<;>(try rfl);exact hR.cl _ hx
theorem gd_cases{o:Oper}{K:zQ}{M:(zQ)->Prop}(hR:zpe I s' h' s h β)(hG:I.okG ops o.guard=true)(hx:A.gdO ops o.guard s' h' M K):
  ((∀H,zcb P ops o s H=zfz P o.op (evS s) H) /\ M K /\ ze0 ops s o.guard) \/ ((∀H,zcb P ops o s H= .val (.tup [])) /\ K (.tup []) h' /\ NotHeld ops s o.guard):=by
 unfold zcb;cases hg:o.guard with
 | none=>
  rw[hg]at hx;exact .inl ⟨λ_=>rfl,hx,λ_ _ e=>by cases e⟩
 | some p=>
  obtain⟨j,b⟩:=p;rw[hg]at hx hG;simp only[A.gdO,Bx.okG]at hx hG;cases ht:zjt ops j with
  | none=>rw[ht]at hx;exact hx.elim
  | some t=>
   rw[ht]at hx hG;simp only at hx hG ⊢;rw[hR.cl t hG]at hx;cases hv:s t<;>rw[hv]at hx<;>(try exact hx.elim)
   ·rename_i b'
    simp only[A.gd]at hx;by_cases e:b'=b
    ·refine .inl ⟨λ_=>by simp[ht,hv,e],hx.1 e,λj' b'' e'=>?_⟩
     cases e';exact⟨t,ht,by rw[hv,e]⟩
    ·exact .inr ⟨λ_=>by simp[ht,hv,e],hx.2 e,j,b,t,rfl,ht,by rw[hv];simpa using e⟩
   ·rename_i l
    cases l with
    | nil=>exact .inr ⟨λ_=>by simp[ht,hv],hx,j,b,t,rfl,ht,by rw[hv];simp⟩
    | cons _ _=>exact hx.elim
theorem zrx{o:Oper}(hR:zpe I s' h' s h β)(ho:o.op.operands.toList.all I.okO=true)(hG:I.okG ops o.guard=true)(H:zb):zcb P ops o s' H=zcb P ops o s H:=by
 have h1:∀x∈o.op.operands,evS s' x=evS s x:=λx hx=>zi3 hR (all_eq_true.1 ho x (by simpa using hx));unfold zcb;split
 ·exact zj1 h1
 ·rename_i j b hg
  rw[hg]at hG;simp only[Bx.okG]at hG;cases ht:zjt ops j with
  | none=>rfl
  | some t=>
   rw[ht]at hG;simp only[hR.cl t hG];split
   ·split
    ·exact zj1 h1
    ·rfl
   ·rfl
   ·rfl
def Goal(P:Program)(C:z5)(I:Bx)(ops:List Oper)(o:Oper)(ks:List (Operand×TypeId))(E:zjq)(s:zbq)(h:zb)(K:zjq->zbq->zb->Prop):Prop:=(zcb P ops o s h).run C h (A.zjx h (zd9 P s ks) λv h1=>∃s1' h1' β1,zpe I s1' h1' (zet s o.dst v) h1 β1 /\ zk9 I ops (zng P I ops o E) s1' (zet s o.dst v) β1 /\ K (zng P I ops o E) s1' h1')
theorem zm6(hR:zpe I s' h' s h β)(hE:zk9 I ops E s' s β):∀(ks:List (Operand×TypeId))(k:List (Operand×TypeId)->Prop),zjl I E s' ks k ->
  ∃ks',k ks' /\ (∀q∈ks',I.okO q.1=true) /\ ∀q∈ks,q∈ks' \/ (∃id,evS s q.1= .tup [] \/ ∃off b,evS s q.1= .ptr id 0 off /\ h id=some b /\ h' id=none)
 | [],k,hx=>⟨[],hx,λ_ h=>(by cases h),λ_ h=>(by cases h)⟩
 | (x,ty)::r,k,hx=>by
  have other:I.okO x=true->zjl I E s' r (λl=>k ((x,ty)::l))->∃ks',k ks' /\ (∀q∈ks',I.okO q.1=true) /\ ∀q∈(x,ty)::r,q∈ks' \/ (∃id,evS s q.1= .tup [] \/ ∃off b,evS s q.1= .ptr id 0 off /\ h id=some b /\ h' id=none):=λho hx=>by
   obtain⟨l,k1,k2,k3⟩:=zm6 hR hE r _ hx;refine⟨(x,ty)::l,k1,λq hq=>?_,λq hq=>?_⟩
   ·rcases mem_cons.1 hq with rfl|hq
    ·exact ho
    ·exact k2 q hq
   ·rcases mem_cons.1 hq with rfl|hq
    ·exact .inl (mem_cons_self ..)
    ·rcases k3 q hq with e|e
     ·exact .inl (mem_cons_of_mem _ e)
     ·exact .inr e
  have skip:(∃id,evS s x= .tup [] \/ ∃off b,evS s x= .ptr id 0 off /\ h id=some b /\ h' id=none)->zjl I E s' r k->∃ks',k ks' /\ (∀q∈ks',I.okO q.1=true) /\ ∀q∈(x,ty)::r,q∈ks' \/ (∃id,evS s q.1= .tup [] \/ ∃off b,evS s q.1= .ptr id 0 off /\ h id=some b /\ h' id=none):=λhp hx=>by
   obtain⟨l,k1,k2,k3⟩:=zm6 hR hE r _ hx;refine⟨l,k1,k2,λq hq=>?_⟩;rcases mem_cons.1 hq with rfl|hq
   ·exact .inr hp
   ·exact k3 q hq
  cases x<;>(try exact other rfl hx);rename_i t;simp only[zjl]at hx;cases hb:zg9 I.bs t with
  | true=>
   rw[hb]at hx;simp only[cond_true,A.al]at hx;split at hx
   ·rename_i cs hc
    obtain⟨k1,k2,k3⟩:=hR.bx t cs hb hc;exact skip ⟨β t,.inr ⟨0,_,k1,k2,k3⟩⟩ hx
   ·exact hx.elim
  | false=>
   rw[hb]at hx;simp only[cond_false]at hx;cases hc:I.clean t with
   | true=>rw[hc]at hx;exact other hc hx
   | false=>
    rw[hc]at hx;simp only[cond_false]at hx;cases hm:zg9 (E.map (·.1)) t with
    | false=>rw[hm]at hx;exact hx.elim
    | true=>
     rw[hm]at hx;have:∃g d off,(t,g,d,off)∈E:=by
      have mem:∀(E:zjq),zg9 (E.map (·.1)) t=true->∃g d off,(t,g,d,off)∈E:=by
       intro E
       induction E with
       | nil=>intro h;simp[zg9]at h
       | cons a r ih=>
        intro h;simp only[map_cons,zg9]at h;cases ha:Nat.beq a.1 t with
        | true=>
         have:=zqs ha;obtain⟨a1,a2,a3,a4⟩:=a;simp only at this;subst this;exact⟨a2,a3,a4,mem_cons_self ..⟩
        | false=>
         rw[ha]at h;obtain⟨g,d,off,k⟩:=ih h;exact⟨g,d,off,mem_cons_of_mem _ k⟩
      exact mem E hm
     obtain⟨g,d,off,hmem⟩:=this;have a:=hE _ _ _ _ hmem;obtain⟨cs,hcs⟩:=a.al;obtain⟨_,k2,k3⟩:=hR.bx d cs a.inBs hcs;rcases a.at_ with e|⟨e,_⟩
     ·exact skip ⟨β d,.inr ⟨off,_,e,k2,k3⟩⟩ hx
     ·exact skip ⟨0,.inl e⟩ hx
theorem sameAt_of{H H1:zb}{p:za}{n:Option Nat}{id:Nat}(hp:p= .tup [] \/ ∃off,p= .ptr id 0 off)(he:H1 id=H id):sameAt H1 H (p,n):=by
 rcases hp with rfl|⟨off,rfl⟩<;>cases n<;>simp[sameAt,A.ldv,A.zl2,he]
theorem gen_sound(hC:zow C){o:Oper}{ks:List (Operand×TypeId)}{K:zjq->zbq->zb->Prop}(hR:zpe I s' h' s h β)(hE:zk9 I ops E s' s β)(hok:chkG I ops o=true)(hen:zng P I ops o E=zit ops o.dst E)(hx:genB P C I ops o ks E s' h' K):Goal P C I ops o ks E s h K:=by
 unfold genB at hx;simp only[chkG,Bool.and_eq_true]at hok;obtain⟨ho,hd,hG⟩:=hok;obtain⟨ks',hx,hcl,hks⟩:=zm6 hR hE ks _ hx;have H1:(zcb P ops o s' h').run C h' (A.keepS h' (zd9 P s' ks') λv h1=>K (zit ops o.dst E) (zet s' o.dst v) h1) \/ ((∀H,zcb P ops o s H= .val (.tup [])) /\ K (zit ops o.dst E) (zet s' o.dst (.tup [])) h'):=by
  cases ks' with
  | nil=>
   refine .inl (zf9 hC.mono (λv h1 k=>⟨λp hp=>(by cases hp),k⟩) (zj0.1 hx))
  | cons q r=>
   rcases gd_cases (P:=P) (o:=o) hR hG hx with⟨k1,k2,k3⟩|⟨k1,k2,k3⟩
   ·refine .inl ?_
    have:=zkm.1 k2;rw[show zcb P ops o s' h'=zfz P o.op (evS s') h' from ?_]
    ·exact this
    ·rw[zrx hR ho hG,k1]
     exact(zj1 λx hx=>zi3 hR (all_eq_true.1 ho x (by simpa using hx))).symm
   ·exact .inr ⟨k1,k2⟩
 unfold Goal;rw[hen];rcases H1 with H1|⟨k1,k2⟩
 ·rw[zrx hR ho hG]at H1
  have hnf:zcb P ops o s h'≠ .fail:=λe=>by rw[e]at H1;exact H1
  rw[zlc hR.le hnf];refine zf9 hC.mono (λv h1 ⟨h1',⟨m0,m1⟩,m2,m3⟩=>⟨λp hp=>?_,_,h1',β,rel_put hR hd m2 m3,env_kill hE hd,m1⟩) (run_frame hC hR.le zoy H1);simp only[zd9,mem_map]at hp;obtain⟨q,hq,rfl⟩:=hp;rcases hks q hq with hq|⟨id,hq⟩
  ·have:=m0 (evS s' q.1,bif zdz P q.2 then some (P.cellsOf q.2) else none) (mem_map.2 ⟨q,hq,rfl⟩)
   rw[zi3 hR (hcl q hq)]at this;cases hn:(bif zdz P q.2 then some (P.cellsOf q.2) else none) with
   | none=>
    rw[hn]at this;obtain⟨x,x1,x2⟩:=this;simp only;rw[zqy m2 x2,zqy hR.le x1]
   | some n=>
    rw[hn]at this;obtain⟨x,x1,x2⟩:=this;simp only;rw[ldnv_le m2 x2,ldnv_le hR.le x1]
  ·rcases hq with e|⟨off,b,e,e1,e2⟩
   ·rw[e]
    cases (bif zdz P q.2 then some (P.cellsOf q.2) else none)<;>simp[A.ldv,A.zl2]
   ·exact sameAt_of (id:=id) (.inr ⟨off,e⟩) (by rw[(m3 id e2 b e1).1,e1])
 ·rw[k1]
  exact⟨λp _=>sameAt.refl h p,_,h',β,rel_put hR hd hR.le (Fr.refl h' h),env_kill hE hd,k2⟩
end
section
variable{P:Program}{C:z5}{I:Bx}{ops:List Oper}{E:zjq}{s' s:zbq}{h' h:zb}{β:Nat->Nat}
theorem al_some{v:za}{p:Prop}(h:A.al v p):(∃cs,v= .agg cs) /\ p:=by
 unfold A.al at h;split at h
 ·exact⟨⟨_,rfl⟩,h⟩
 ·exact h.elim
theorem okD_of{d:Option Nat}(hd:gNoneD d=true):d=none:=by
 cases d with
 | none=>rfl
 | some _=>cases hd
theorem gNone_of{g:Gd}(hg:gNone g=true):g=none:=by
 cases g with
 | none=>rfl
 | some _=>cases hg
theorem znx{ks:List (Operand×TypeId)}(hk:kNone ks=true):ks=[]:=by
 cases ks with
 | nil=>rfl
 | cons _ _=>cases hk
theorem new_sound{o:Oper}{d:Nat}{z:Option (List za)}{c:Option za}{K:zjq->zbq->zb->Prop}(hR:zpe I s' h' s h β)(hE:zk9 I ops E s' s β)
  (hd:o.dst=some d) (hb:zg9 I.bs d=true) (hlt:d<I.B) (hsh:zcb P ops o s h=Sh.zgn z λid=> .ptr id 0 0) (hc:∀v,c=some v->∃cs,v= .agg cs /\ z=some cs) (hen:zng P I ops o E=zka ops d E) (hx:newB I ops d c E s' h' K):Goal P C I ops o [] E s h K:=by
 unfold newB at hx;obtain⟨v,h1,h2⟩:=zf hx;obtain⟨cs,rfl,rfl⟩:=hc v h1;unfold Goal;rw[hsh,hd,hen];intro id hid;refine⟨λp hp=>(by cases hp),_,h',λk=>bif Nat.beq k d then id else β k,?_,?_,h2⟩
 ·have hne:∀{k cs'},zg9 I.bs k=true->s' (I.B+k)= .agg cs'->β k≠id:=λhk hck e=>by
   have:=(hR.bx _ _ hk hck).2.1;rw[e,hid]at this;cases this
  have hB:∀{k},k≠d->zet s' (some (I.B+d)) (.agg cs) (I.B+k)=s' (I.B+k):=λhk=>zc8 _ _ (by omega);refine⟨zb.le_trans hR.le (zf5 _ hid),λk hk=>?_,λk cs' hk hck=>?_,λk e cs1 cs2 hk he hke hc1 hc2=>?_⟩
  ·have hk':=zgh hk
   rw[zc8 _ _ (by omega),zc8]
   ·exact hR.cl k hk
   ·intro e;subst e;rw[hb]at hk';exact absurd hk'.2.1 (by simp)
  ·by_cases e:k=d
   ·subst e
    rw[zgu]at hck ⊢;cases hck;simp only[Nat.beq_refl,cond_true];refine⟨trivial,zbv ..,?_⟩;cases e:h' id with
    | none=>rfl
    | some b=>rw[hR.le _ _ e]at hid;cases hid
   ·rw[hB e]at hck
    obtain⟨k1,k2,k3⟩:=hR.bx k cs' hk hck;simp only[zix e,cond_false];refine⟨?_,?_,k3⟩
    ·rw[zc8 _ _ e];exact k1
    ·rw[zt _ _ (hne hk hck)];exact k2
  ·show (bif Nat.beq k d then id else β k)≠bif Nat.beq e d then id else β e
   by_cases e1:k=d
   ·subst e1
    rw[hB (Ne.symm hke)]at hc2;rw[Nat.beq_refl,zix (Ne.symm hke)];exact(hne he hc2).symm
   ·by_cases e2:e=d
    ·subst e2
     rw[hB e1]at hc1;rw[Nat.beq_refl,zix e1];exact hne hk hc1
    ·rw[hB e1]at hc1
     rw[hB e2]at hc2;rw[zix e1,zix e2];exact hR.ap k e cs1 cs2 hk he hke hc1 hc2
 ·intro e g b off hm
  obtain⟨k1,k2,k3,k4⟩:=zl3 hm;have a:=hE _ _ _ _ k1;refine⟨a.inBs,a.inDs,a.noB,a.lt,?_,?_⟩
  ·rw[zc8 _ _ (by omega)];exact a.al
  ·simp only[zix k3,cond_false]
   rw[zc8 _ _ k2];rcases a.at_ with e|⟨e,j,x,t,e1,e2,e3⟩
   ·exact .inl e
   ·refine .inr ⟨e,j,x,t,e1,e2,?_⟩
    rw[zc8]
    ·exact e3
    ·intro hh;subst hh;exact k4 j x e1 e2
theorem load_sound{o:Oper}{t:TypeId}{x:Operand}{d off:Nat}{K:zjq->zbq->zb->Prop}(hR:zpe I s' h' s h β)(hE:zk9 I ops E s' s β)(ho:o.op= .load t x)(hp:I.place E o.guard x=some (d,off))
  (hd:I.okD o.dst=true) (hG:I.okG ops o.guard=true) (hen:zng P I ops o E=zit ops o.dst E) {u:TypeDesc} (hu:P.underlying t=some u)
  (hx:A.gdO ops o.guard s' h' (λK=>A.pv (bif zdz P t then V.zi8 off (P.cellsOf t) (s' (I.B+d)) else V.zfc off (s' (I.B+d))) λv=>K v h') λv h=>K (zit ops o.dst E) (zet s' o.dst v) h):Goal P C I ops o [] E s h K:=by
 unfold Goal;rw[hen];have fin:∀v,K (zit ops o.dst E) (zet s' o.dst v) h'->(A.zjx h (zd9 P s []) λv h1=>∃s1' h1' β1,zpe I s1' h1' (zet s o.dst v) h1 β1 /\ zk9 I ops (zit ops o.dst E) s1' (zet s o.dst v) β1 /\ K (zit ops o.dst E) s1' h1') v h:=λv hk=>
  ⟨λp hp=>(by cases hp),_,h',β,rel_put hR hd hR.le (Fr.refl h' h),env_kill hE hd,hk⟩
 rcases gd_cases (P:=P) (o:=o) hR hG hx with⟨k1,k2,k3⟩|⟨k1,k2,k3⟩
 ·obtain⟨v,h1,h2⟩:=zf k2
  have hb:=zpy hE hp;have hal:∃cs,s' (I.B+d)= .agg cs:=by
   cases hs:s' (I.B+d) with
   | agg cs=>exact⟨cs,rfl⟩
   | _=>rw[hs]at h1;cases hg:zdz P t<;>rw[hg]at h1<;>simp[V.zi8,V.zfc]at h1
  obtain⟨cs,hcs⟩:=hal;have hv:=zog hR hE hp hcs k3;obtain⟨_,m2,_⟩:=hR.bx d cs hb hcs;rw[hcs]at h1;rw[k1,ho];simp only[zfz,hu,hv];have e1:A.zl2 h (.ptr (β d) 0 off) (P.cellsOf t)=V.zi8 off (P.cellsOf t) (.agg cs):=by
   simp only[A.zl2,m2,zdo,List.lookup,beq_self_eq_true,V.zi8]
  have e2:A.ldv h (.ptr (β d) 0 off)=V.zfc off (.agg cs):=by
   simp only[A.ldv,m2,zdo,List.lookup,beq_self_eq_true,V.zfc];split
   ·rfl
   ·rw[getElem?_eq_none (by omega)]
  rw[e1,e2]
  have:(bif zdz P t then Sh.pv (V.zi8 off (P.cellsOf t) (.agg cs)) else Sh.pv (V.zfc off (.agg cs)))= .val v:=by
   cases hg:zdz P t<;>rw[hg]at h1<;>simp only[cond_true,cond_false]at h1 ⊢ <;>rw[h1]<;>rfl
  rw[this];exact fin v h2
 ·rw[k1];exact fin _ k2
theorem put1_len{off:Nat}{v:za}{cs cs':List za}(h:V.put1 off v cs=some cs'):off<cs.length /\ cs'.length=cs.length:=by
 unfold V.put1 at h;cases hv:v.zec with
 | false=>rw[hv]at h;cases h
 | true=>
  rw[hv]at h;simp only[cond_true]at h;split at h
  ·rename_i hlt;cases h;exact⟨hlt,by simp⟩
  ·cases h
theorem putN_len{off n:Nat}{v:za}{cs cs':List za}(h:V.putN off n v cs=some cs'):off+n <= cs.length /\ cs'.length=cs.length:=by
 unfold V.putN at h;split at h
 ·split at h
  ·rename_i hh;cases h;exact⟨hh.2,by simp;omega⟩
  ·cases h
 ·cases h
theorem sh_st_blk{id off n:Nat}{cs cs':List za}{f:List za->Option (List za)}(hb:h id=some (zdo cs))(hf:f cs=some cs')(hle:off+n <= cs.length)(hl:cs'.length=cs.length):
  Sh.st h (.ptr id 0 off) f n 0 .undef= .heap id (zdo cs') .undef:=by
 have h1:Nat.ble (0+off+n) cs.length=true:=by rw[Nat.ble_eq];omega
 simp only[Sh.st,hb,zdo,List.lookup,beq_self_eq_true,Bool.true_and,h1,cond_true,hf,hl]
theorem znv{d:Nat}(hR:zpe I s' h' s h β)(hE:zk9 I ops E s' s β):∀(ks:List (Operand×TypeId))(p:Prop),zjk I E d s' ks p ->
  p /\ ∀q∈ks,∃d' off' cs2,zg9 I.bs d'=true /\ d'≠d /\ s' (I.B+d')= .agg cs2 /\ evS s q.1= .ptr (β d') 0 off'
 | [],p,hx=>⟨hx,λ_ h=>(by cases h)⟩
 | (x,ty)::r,p,hx=>by
  simp only[zjk]at hx
  split at hx
  ·rename_i d' off' hpl
   cases he:Nat.beq d' d with
   | true=>rw[he]at hx;exact hx.elim
   | false=>
    rw[he]at hx
    obtain⟨⟨cs2,hcs2⟩,hx⟩:=al_some hx
    obtain⟨k1,k2⟩:=znv hR hE r p hx
    refine⟨k1,λq hq=>?_⟩
    rcases mem_cons.1 hq with rfl|hq
    ·exact⟨d',off',cs2,zpy hE hpl,(λe=>by rw[e,Nat.beq_refl]at he;cases he),hcs2,place_any hR hE hpl hcs2⟩
    ·exact k2 q hq
  ·exact hx.elim
theorem store_sound'{o:Oper}{t:TypeId}{x y:Operand}{d off:Nat}{ks:List (Operand×TypeId)}{K:zjq->zbq->zb->Prop}(hR:zpe I s' h' s h β)(hE:zk9 I ops E s' s β)(ho:o.op= .store t x y)(hg:o.guard=none)(hp:I.place E none x=some (d,off))
  (hy:I.okO y=true) (hd:o.dst=none) (hen:zng P I ops o E=E)
  (hx:zjk I E d s' ks (bif zdz P t then A.pv (V.setN off (P.cellsOf t) (evS s' y) (s' (I.B+d))) λc=>K E (zet s' (some (I.B+d)) c) h'
    else bif Nat.beq (P.cellsOf t) 1 then A.pv (V.setF off (evS s' y) (s' (I.B+d))) λc=>K E (zet s' (some (I.B+d)) c) h' else False)):Goal P C I ops o ks E s h K:=by
 have hb:=zpy hE hp;obtain⟨hx,hkk⟩:=znv hR hE ks _ hx;have hal:∃cs cs',s' (I.B+d)= .agg cs /\ cs'.length=cs.length /\ K E (zet s' (some (I.B+d)) (.agg cs')) h' /\ (evS s x= .ptr (β d) 0 off->h (β d)=some (zdo cs)->zcb P ops o s h= .heap (β d) (zdo cs') .undef):=by
  rw[zi3 hR hy]at hx;have hst:zcb P ops o s h=zfz P o.op (evS s) h:=by unfold zcb;rw[hg]
  rw[hst,ho];cases hA:zdz P t with
  | true=>
   rw[hA]at hx;obtain⟨c,h1,h2⟩:=zf hx;cases hs:s' (I.B+d)<;>rw[hs]at h1<;>(try (simp[V.setN]at h1;done));rename_i cs;simp only[V.setN]at h1;split at h1<;>(try (cases h1;done));rename_i cs' hput;cases h1;obtain⟨l1,l2⟩:=putN_len hput;refine⟨cs,cs',rfl,l2,h2,λhv hbk=>?_⟩;simp only[zfz,hA,cond_true,hv,A.zo0];exact sh_st_blk hbk hput l1 l2
  | false=>
   rw[hA]at hx;simp only[cond_false]at hx;cases h1c:Nat.beq (P.cellsOf t) 1 with
   | false=>rw[h1c]at hx;exact hx.elim
   | true=>
    rw[h1c]at hx;obtain⟨c,h1,h2⟩:=zf hx;cases hs:s' (I.B+d)<;>rw[hs]at h1<;>(try (simp[V.setF]at h1;done));rename_i cs;simp only[V.setF]at h1;split at h1<;>(try (cases h1;done));rename_i cs' hput;cases h1;obtain⟨l1,l2⟩:=put1_len hput;refine⟨cs,cs',rfl,l2,h2,λhv hbk=>?_⟩;simp only[zfz,hA,h1c,cond_true,cond_false,hv,A.zo0];exact sh_st_blk hbk hput (by omega) l2
 obtain⟨cs,cs',hcs,hl,hK,hsh⟩:=hal;have hv:=place_any hR hE hp hcs;obtain⟨m1,m2,m3⟩:=hR.bx d cs hb hcs;unfold Goal;rw[hsh hv m2,hd,hen];refine⟨λp hp'=>?_,_,h',β,?_,?_,hK⟩
 ·simp only[zd9,mem_map]at hp'
  obtain⟨q,hq,rfl⟩:=hp';obtain⟨d',off',cs2,n1,n2,n3,n4⟩:=hkk q hq;rw[n4];exact sameAt_of (id:=β d') (.inr ⟨off',rfl⟩) (zt _ _ (hR.ap d' d cs2 cs n1 hb n2 n3 hcs))
 ·have hB:∀{k},k≠d->zet s' (some (I.B+d)) (.agg cs') (I.B+k)=s' (I.B+k):=λhk=>zc8 _ _ (by omega)
  have hag:∀{k cs1},zet s' (some (I.B+d)) (.agg cs') (I.B+k)= .agg cs1->∃cs2,s' (I.B+k)= .agg cs2:=λ{k cs1} hk=>by
   by_cases e:k=d
   ·subst e;exact⟨cs,hcs⟩
   ·rw[hB e]at hk;exact⟨cs1,hk⟩
  refine⟨λid b hb1=>?_,λk hk=>?_,λk cs1 hk hck=>?_,λk e cs1 cs2 hk he hke hc1 hc2=>?_⟩
  ·rw[zt]
   ·exact hR.le id b hb1
   ·intro e;subst e;rw[m3]at hb1;cases hb1
  ·have:=zgh hk
   rw[zc8 _ _ (by omega)];exact hR.cl k hk
  ·by_cases e:k=d
   ·subst e
    rw[zgu]at hck;cases hck;exact⟨m1,zbv ..,m3⟩
   ·rw[hB e]at hck
    obtain⟨k1,k2,k3⟩:=hR.bx k cs1 hk hck;exact⟨k1,by rw[zt _ _ (hR.ap k d cs1 cs hk hb e hck hcs)];exact k2,k3⟩
  ·obtain⟨a,ha⟩:=hag hc1
   obtain⟨b,hb2⟩:=hag hc2;exact hR.ap k e a b hk he hke ha hb2
 ·intro e g b off' hm
  have a:=hE _ _ _ _ hm;refine⟨a.inBs,a.inDs,a.noB,a.lt,?_,a.at_⟩;by_cases e':b=d
  ·subst e';exact⟨cs',zgu ..⟩
  ·rw[zc8 _ _ (by omega)];exact a.al
theorem der_sound{o:Oper}{x:Operand}{d off off':Nat}{K:zjq->zbq->zb->Prop}(hR:zpe I s' h' s h β)(hE:zk9 I ops E s' s β)(hp:I.place E o.guard x=some (d,off))
  (hsh:evS s x= .ptr (β d) 0 off->zfz P o.op (evS s) h= .val (.ptr (β d) 0 off')) (hok:chkD I ops o []=true) (hen:∀e,o.dst=some e->zng P I ops o E=(e,o.guard,d,off')::zka ops e E) (hx:derB I ops o d off' E s' h' K):Goal P C I ops o [] E s h K:=by
 unfold derB at hx;cases hd:o.dst with
 | none=>rw[hd]at hx;exact hx.elim
 | some e=>
  rw[hd]at hx;simp only at hx;simp only[chkD,hd,kNone,Bool.true_and,Bool.and_eq_true,Bool.not_eq_true',Nat.blt_eq]at hok;obtain⟨o1,o2,o3,hG⟩:=hok;obtain⟨⟨cs,hcs⟩,hx⟩:=al_some hx;have hb:=zpy hE hp;have heB:e<I.B:=o3;have hrel:∀v,zpe I (zet s' (some e) .undef) h' (zet s (some e) v) h β:=λv=>by
   have hcl:∀k,I.clean k=true->k≠e:=λk hk he=>by
    subst he;have:=zgh hk;rw[o1]at this;exact absurd this.2.2 (by simp)
   have hBs:∀k,zg9 I.bs k=true->k≠e:=λk hk he=>by subst he;rw[o2]at hk;cases hk
   have hB:∀k,zet s' (some e) .undef (I.B+k)=s' (I.B+k):=λk=>zc8 _ _ (by omega);refine⟨hR.le,λk hk=>?_,λk cs1 hk hck=>?_,λk e' cs1 cs2 hk he hke hc1 hc2=>?_⟩
   ·rw[zc8 _ _ (hcl k hk),zc8 _ _ (hcl k hk)];exact hR.cl k hk
   ·rw[hB]at hck
    rw[zc8 _ _ (hBs k hk)];exact hR.bx k cs1 hk hck
   ·rw[hB]at hc1 hc2
    exact hR.ap k e' cs1 cs2 hk he hke hc1 hc2
  have henv:∀v,(v= .ptr (β d) 0 off' \/ (v= .tup [] /\ NotHeld ops (zet s (some e) v) o.guard))->zk9 I ops ((e,o.guard,d,off')::zka ops e E) (zet s' (some e) .undef) (zet s (some e) v) β:=λv hv=>by
   intro e' g b o' hm;rcases mem_cons.1 hm with hm|hm
   ·cases hm
    refine⟨hb,o1,o2,heB,⟨cs,?_⟩,?_⟩
    ·rw[zc8 _ _ (by omega)];exact hcs
    ·rw[zgu]
     rcases hv with hv|hv
     ·exact .inl hv
     ·exact .inr hv
   ·obtain⟨k1,k2,k3,k4⟩:=zl3 hm
    have a:=hE _ _ _ _ k1;refine⟨a.inBs,a.inDs,a.noB,a.lt,?_,?_⟩
    ·rw[zc8 _ _ (by omega)];exact a.al
    ·rw[zc8 _ _ k2]
     rcases a.at_ with e'|⟨e',j,x,t,e1,e2,e3⟩
     ·exact .inl e'
     ·refine .inr ⟨e',j,x,t,e1,e2,?_⟩
      rw[zc8]
      ·exact e3
      ·intro hh;subst hh;exact k4 j x e1 e2
  unfold Goal;rw[hen e hd];rcases gd_cases (P:=P) (o:=o) hR hG hx with⟨k1,k2,k3⟩|⟨k1,k2,k3⟩
  ·rw[k1,hsh (zog hR hE hp hcs k3),hd]
   exact⟨λp hp=>(by cases hp),_,h',β,hrel _,henv _ (.inl rfl),k2⟩
  ·rw[k1,hd]
   refine⟨λp hp=>(by cases hp),_,h',β,hrel _,henv _ (.inr ⟨rfl,?_⟩),k2⟩;obtain⟨j,x,t,e1,e2,e3⟩:=k3;refine⟨j,x,t,e1,e2,?_⟩;rw[zc8]
   ·exact e3
   ·intro he
    subst he;rw[e1]at hG;simp only[Bx.okG,e2]at hG;have:=zgh hG;rw[o1]at this;exact absurd this.2.2 (by simp)
theorem zp8(hC:zow C){o:Oper}{ks:List (Operand×TypeId)}{K:zjq->zbq->zb->Prop}(hR:zpe I s' h' s h β)(hE:zk9 I ops E s' s β)(hk:chkS I ops o ks E=true)(hx:stepB P C I ops o ks E s' h' K):Goal P C I ops o ks E s h K:=by
 have gen:chkG I ops o=true->zng P I ops o E=zit ops o.dst E->genB P C I ops o ks E s' h' K->Goal P C I ops o ks E s h K:=gen_sound hC hR hE;have sh0:o.guard=none->zcb P ops o s h=zfz P o.op (evS s) h:=λhg=>by unfold zcb;rw[hg]
 unfold stepB at hx;unfold chkS at hk;split at hx
 ·rename_i t ho
  simp only[ho]at hk;cases hd:o.dst with
  | none=>simp only[hd]at hx hk;exact gen hk (by simp only[zng,ho,hd]) hx
  | some d=>
   simp only[hd]at hx hk;cases hb:zg9 I.bs d with
   | false=>simp only[hb,cond_false]at hx hk;exact gen hk (by simp only[zng,ho,hd,hb,cond_false]) hx
   | true=>
    simp only[hb,cond_true,Bool.and_eq_true,Nat.blt_eq]at hx hk;have hks:=znx hk.2.1;subst hks;refine new_sound (z:=zeroOf P t) hR hE hd hb hk.2.2 ?_ (λv hv=>?_) (by simp only[zng,ho,hd,hb,cond_true]) hx
    ·rw[sh0 (gNone_of hk.1),ho];rfl
    ·unfold zqq at hv
     split at hv
     ·rename_i cs hz;cases hv;exact⟨cs,rfl,hz⟩
     ·cases hv
 ·rename_i t x ho
  simp only[ho]at hk;cases hd:o.dst with
  | none=>simp only[hd]at hx hk;exact gen hk (by simp only[zng,ho,hd]) hx
  | some d=>
   simp only[hd]at hx hk;cases hb:zg9 I.bs d with
   | false=>simp only[hb,cond_false]at hx hk;exact gen hk (by simp only[zng,ho,hd,hb,cond_false]) hx
   | true=>
    simp only[hb,cond_true,Bool.and_eq_true,Nat.blt_eq]at hx hk;have hks:=znx hk.2.1;subst hks;rw[zi3 hR hk.2.2.2]at hx;refine new_sound (z:=bif zdz P t then A.zkf (P.cellsOf t) (evS s x) else A.zjm (evS s x)) hR hE hd hb hk.2.2.1 ?_ (λv hv=>?_) (by simp only[zng,ho,hd,hb,cond_true]) hx
    ·rw[sh0 (gNone_of hk.1),ho];rfl
    ·cases hA:zdz P t with
     | true=>
      rw[hA]at hv;simp only[cond_true]at hv ⊢;unfold A.boxN at hv;split at hv
      ·rename_i cs hc
       split at hv
       ·rename_i hl
        cases hv;exact⟨cs,rfl,by rw[hc];simp only[A.zkf,hl,if_true]⟩
       ·cases hv
      ·cases hv
     | false=>
      rw[hA]at hv;simp only[cond_false,A.box1,A.zjm]at hv ⊢;cases hc:(evS s x).zec with
      | true=>rw[hc]at hv;cases hv;exact⟨_,rfl,rfl⟩
      | false=>rw[hc]at hv;cases hv
 ·rename_i t x ho
  simp only[ho]at hk;split at hx
  ·rename_i d off hp
   simp only[hp,Bool.and_eq_true]at hk;have hks:=znx hk.1;subst hks;split at hx
   ·exact hx.elim
   ·rename_i u hu
    exact load_sound hR hE ho hp hk.2.1 hk.2.2 (by simp only[zng,ho]) hu hx
  ·rename_i hp
   simp only[hp]at hk;exact gen hk (by simp only[zng,ho]) hx
 ·rename_i t x y ho
  simp only[ho]at hk;split at hx
  ·rename_i d off hp
   simp only[hp,Bool.and_eq_true]at hk;have hg:=gNone_of hk.1;refine store_sound' hR hE ho hg (by rw[<-hg];exact hp) hk.2.1 (okD_of hk.2.2) (by simp only[zng,ho,hp]) hx
  ·rename_i hp
   simp only[hp]at hk;exact gen hk (by simp only[zng,ho,hp]) hx
 ·rename_i t x f ho
  simp only[ho]at hk;split at hx
  ·rename_i d off hp
   simp only[hp]at hk;have hks:ks=[]:=by
    simp only[chkD,Bool.and_eq_true]at hk;exact znx hk.1
   subst hks;split at hx<;>(try exact hx.elim);rename_i fs hu;split at hx<;>(try exact hx.elim);rename_i fd hfd;cases hz:Nat.beq (P.cellsOf fd.type) 0 with
   | true=>rw[hz]at hx;exact hx.elim
   | false=>
    rw[hz]at hx;refine der_sound hR hE hp (λhv=>?_) hk (λe hd=>by simp only[zng,ho,hp,hu,hfd,hd]) hx;rw[ho];simp only[zfz,hu,hfd,hz,cond_false,hv,V.fieldAddr,Sh.pv]
  ·rename_i hp
   simp only[hp]at hk;exact gen hk (by simp only[zng,ho,hp]) hx
 ·rename_i x ho
  simp only[ho]at hk;split at hx
  ·rename_i d off hp
   simp only[hp]at hk;have hks:ks=[]:=by
    simp only[chkD,Bool.and_eq_true]at hk;exact znx hk.1
   subst hks;refine der_sound hR hE hp (λhv=>?_) hk (λe hd=>by simp only[zng,ho,hp,hd]) hx;rw[ho];simp only[zfz,hv,Sh.nilCheck]
  ·rename_i hp
   simp only[hp]at hk;exact gen hk (by simp only[zng,ho,hp]) hx
 ·rename_i n1 n2 n3 n4 n5 n6
  cases ho:o.op<;>(try (simp only[ho]at hk;exact gen hk (by simp only[zng,ho]) hx))<;>simp_all
def Back(I:Bx)(Q:zbq->zb->Prop):zbq->zb->Prop:=λs h=>∃s' h' β,zpe I s' h' s h β /\ Q s' h'
theorem zr5(hC:zow C){Q:zbq->zb->Prop}:∀(l:List Oper){E:zjq}{s' s:zbq}{h' h:zb}{β:Nat->Nat},zpe I s' h' s h β->zk9 I ops E s' s β->chkO P I ops (plain l) E=true->opsB P C I ops (plain l) Q E s' h'->opsWp P C ops l (Back I Q) s h|[],_,_,_,_,_,β,hR,_,_,hx=>⟨_,_,β,hR,hx⟩|o::r,_,_,_,_,_,_,hR,hE,hk,hx=>zj0.2 (zf9 hC.mono (λ_ _ ⟨_,_,_,_,k1,k2,k3⟩=>zr5 hC r k1 k2 (Bool.and_eq_true_iff.1 hk).2 k3) (zp8 hC hR hE (Bool.and_eq_true_iff.1 hk).1 hx))
theorem zr6(hC:zow C){Q:zbq->zb->Prop}:∀(l:List (Item×List (Operand×TypeId))){E:zjq}{s' s:zbq}{h' h:zb}{β:Nat->Nat},zpe I s' h' s h β->zk9 I ops E s' s β->chkO P I ops (drawn l) E=true->opsB P C I ops (drawn l) Q E s' h'->zfl P C ops l (Back I Q) s h|[],_,_,_,_,_,β,hR,_,_,hx=>⟨_,_,β,hR,hx⟩|(t,ks)::r,_,_,_,_,_,_,hR,hE,hk,hx=>(zn8 hC.mono).2 (zf9 hC.mono (λ_ _ ⟨k0,_,_,_,k1,k2,k3⟩=>⟨k0,zr6 hC r k1 k2 (Bool.and_eq_true_iff.1 hk).2 k3⟩) (zp8 hC hR hE (Bool.and_eq_true_iff.1 hk).1 hx))
end
theorem zm3:∀{a b:List Nat},zo4 a b=true->a=b
 | [],[],_=>rfl
 | x::r,y::s,h=>by
  simp only[zo4,Bool.and_eq_true]at h
  rw[zqs h.1,zm3 h.2]
 | [],_::_,h=>by cases h
 | _::_,[],h=>by cases h
theorem zo3:∀{a b:List (List Nat)},natssEq a b=true->a=b
 | [],[],_=>rfl
 | x::r,y::s,h=>by
  simp only[natssEq,Bool.and_eq_true]at h
  rw[zm3 h.1,zo3 h.2]
 | [],_::_,h=>by cases h
 | _::_,[],h=>by cases h
theorem opAt_item{P:Program}{ops:Array Oper}{t:Item}(ht:t∈items P ops.toList):opAt ops.toList t.i=t.o:=by
 have:=(zq1 ht).1;unfold opAt;rw[show ops.toList[t.i]?=some t.o by simpa using this];rfl
theorem keeps_lit{P:Program}{ops:Array Oper}{y:Item}:∀{l:List Item},(∀t∈l,t∈items P ops.toList)->zi6 l y=zon ops.toList (keepsI l y)
 | [],_=>rfl
 | x::r,h=>by
  have ih:=keeps_lit (y:=y) (l:=r) (λt ht=>h t (mem_cons_of_mem _ ht))
  have hx:=opAt_item (h x (mem_cons_self ..))
  simp only[zi6,keepsI]
  rw[ih]
  cases ho:x.o.op<;>(try rfl)
  simp only
  cases y.m.testBit x.i with
  | true=>rfl
  | false=>simp only[cond_false,singleton_append,zon,hx,ho]
theorem drawn_lit{P:Program}{ops:Array Oper}:∀(p seen:List Item),(∀t∈seen,t∈items P ops.toList)->(∀t∈p,t∈items P ops.toList)->∀pl:List (Nat×List Nat),p.map (λt=>t.i)=pl.map (λq=>q.1)->zlt seen p=pl.map (λq=>q.2) ->
  drawn (zfa seen p)=litOf ops.toList pl
 | [],_,_,_,[],_,_=>rfl
 | [],_,_,_,_::_,h,_=>by simp at h
 | _::_,_,_,_,[],h,_=>by simp at h
 | y::r,seen,hs,hp,(i,js)::pl,h1,h2=>by
  simp only[map_cons,List.cons.injEq,zlt]at h1 h2
  have ih:=drawn_lit r (seen++[y]) (λt ht=>by
   rcases mem_append.1 ht with ht|ht
   ·exact hs t ht
   ·rw[mem_singleton.1 ht];exact hp y (mem_cons_self ..)) (λt ht=>hp t (mem_cons_of_mem _ ht)) pl h1.2 h2.2
  have hy:=opAt_item (hp y (mem_cons_self ..))
  show (y.o,bif y.k.zhn then zi6 seen y else [])::drawn (zfa (seen++[y]) r)=(opAt ops.toList i,zon ops.toList js)::litOf ops.toList pl
  rw[ih,<-h1.1,hy,<-h2.1,keeps_lit hs]
  cases y.k.zhn<;>rfl
theorem planLit_spec{P:Program}{ops:Array Oper}{pl:List (Nat×List Nat)}(h:planLit P ops pl=true):∃l,plan P ops=some l /\ drawn l=litOf ops.toList pl:=by
 unfold planLit at h;split at h
 ·rename_i l hp
  refine⟨l,hp,?_⟩;simp only[Bool.and_eq_true]at h;obtain⟨p,rfl,_,hm⟩:=plan_items hp;have e1:=zm3 h.1;have e2:=zo3 h.2;have em:(zfa [] p).map (λt=>t.1)=p:=zhd [] p;rw[em]at e2;refine drawn_lit p [] (λ_ h=>by cases h) hm pl ?_ e2;rw[<-e1]
  conv=>lhs;rw[<-em]
  rw[map_map];rfl
 ·cases h
def BackE(I:Bx)(Q:Ex->zbq->zb->Prop):Ex->zbq->zb->Prop:=λe=>Back I (Q e)
theorem memB_mem:∀{l:List Nat}{k:Nat},zg9 l k=true->k∈l
 | [],_,h=>by cases h
 | x::r,k,h=>by
  simp only[zg9]at h
  cases e:Nat.beq x k with
  | true=>rw[Nat.eq_of_beq_eq_true e];exact mem_cons_self ..
  | false=>rw[e]at h;exact mem_cons_of_mem _ (memB_mem h)
theorem zmy{k:Nat}:∀{ps:List Nat}{xs:List za}{s:zbq},(∀p∈ps,k≠p)->zl9 ps xs s k=s k
 | [],[],_,_=>rfl
 | [],_::_,_,_=>rfl
 | _::_,[],_,_=>rfl
 | p::ps,x::xs,s,h=>by
  show zl9 ps xs (zet s (some p) x) k=s k
  rw[zmy λq hq=>h q (by simp[hq]),zc8 _ _ (h p (by simp))]
theorem zgw{P:Program}{C:z5}{I:Bx}(hC:zow C):∀(c:Code),chkC P I c=true->∀{Q:Ex->zbq->zb->Prop}{s' s:zbq}{h' h:zb}{β:Nat->Nat},zpe I s' h' s h β->bwp P C I c Q s' h'->awp P C c (BackE I Q) s h
 | .skip,_,_,_,_,_,_,β,hR,x=>⟨_,_,β,hR,x⟩
 | .ret,_,_,_,_,_,_,β,hR,x=>⟨_,_,β,hR,x⟩
 | .exit _,_,_,_,_,_,_,β,hR,x=>⟨_,_,β,hR,x⟩
 | .region _ ops false,hk,_,_,_,_,_,_,hR,x=>zr5 hC ops.toList hR (λ_ _ _ _ h=>(by cases h)) hk x
 | .region k ops true,hk,Q,s',s,h',h,β,hR,x=>by
  simp only[bwp]at x;simp only[chkC]at hk;simp only[awp];split at x
  ·rename_i pl hp
   simp only[hp,Bool.and_eq_true]at hk;obtain⟨l,h2,h3⟩:=planLit_spec hk.1;have hk2:=hk.2;rw[<-h3]at x hk2;simp only[h2];exact zr6 hC _ hR (λ_ _ _ _ h=>(by cases h)) hk2 x
  ·exact x.elim
 | .seq a b,hk,Q,s',s,h',h,β,hR,x=>by
  simp only[chkC,Bool.and_eq_true]at hk;refine zgi hC.mono a (λe s h ⟨s',h',β,k1,k2⟩=>?_) (zgw hC a hk.1 hR x);cases e with
  | normal=>exact zgw hC b hk.2 k1 k2
  | exit _=>exact⟨s',h',β,k1,k2⟩
  | ret=>exact⟨s',h',β,k1,k2⟩
 | .cond c a b,hk,Q,s',s,h',h,β,hR,x=>by
  simp only[chkC,Bool.and_eq_true]at hk;simp only[bwp]at x;rw[zi3 hR hk.1]at x;simp only[awp,A.cond]at x ⊢;split at x
  ·exact⟨λe=>zgw hC a hk.2.1 hR (x.1 e),λe=>zgw hC b hk.2.2 hR (x.2 e)⟩
  ·exact x.elim
 | .scope b,hk,Q,s',s,h',h,β,hR,x=>zgw hC b hk hR x
 | .label _,hk,Q,s',s,h',h,β,hR,x=>⟨s',h',β,hR,x⟩
 | .block id b,hk,Q,s',s,h',h,β,hR,x=>zgi hC.mono b (λe s h ⟨s',h',β,k1,k2⟩=>by
   cases e with
   | normal=>exact⟨s',h',β,k1,k2⟩
   | ret=>exact⟨s',h',β,k1,k2⟩
   | exit j=>
    simp only[Ex.inBlock]at k2 ⊢;cases hj:Nat.beq j id with
    | true=>rw[hj]at k2;exact⟨s',h',β,k1,k2⟩
    | false=>rw[hj]at k2;exact⟨s',h',β,k1,k2⟩) (zgw hC b hk hR x)
 | .loop c,hk,Q,s',s,h',h,β,hR,x=>λX hX=>by
  refine x (λs' h'=>∀s h β,zpe I s' h' s h β->X s h) (λs1' h1' y s1 h1 β1 hR1=>hX s1 h1 ?_) s h β hR;refine zgi hC.mono c (λe s h ⟨s',h',β,k1,k2⟩=>?_) (zgw hC c hk hR1 y);cases e with
  | normal=>exact k2 s h β k1
  | exit _=>exact⟨s',h',β,k1,k2⟩
  | ret=>exact⟨s',h',β,k1,k2⟩
 | .rangeFunc g ps a b,hk,Q,s',s,h',h,β,hR,x=>λsz id hid hround=>by
  simp only[chkC,Bool.and_eq_true]at hk;obtain⟨⟨hg,hL,hps⟩,ka,kb⟩:=hk;have hcut:zrh (zpo ps.toList a b) s'=zrh (zpo ps.toList a b) s:=by
   funext k;unfold zrh;cases hm:zg9 (zpo ps.toList a b) k with
   | false=>rfl
   | true=>exact hR.cl k (all_eq_true.1 hL k (memB_mem hm))
  have hid':h' id=none:=by
   cases e:h' id with
   | none=>rfl
   | some c=>rw[hR.le _ _ e]at hid;cases hid
  have y:=x sz id hid' λxs h1 Ky hh1 ⟨hlen,w⟩=>by
   rw[hcut]at w ⊢;refine hround xs h1 Ky hh1 ⟨hlen,?_⟩;have h0:∀d cs,zl9 ps.toList xs (zrh (zpo ps.toList a b) s) (I.B+d)≠ .agg cs:=λd cs e=>by
    rw[zmy λp hp=>by have:=(zgh (all_eq_true.1 hps p hp)).1;omega]at e;unfold zrh at e;cases hm:zg9 (zpo ps.toList a b) (I.B+d) with
    | false=>rw[hm]at e;cases e
    | true=>have:=(zgh (all_eq_true.1 hL _ (memB_mem hm))).1;omega
   have hR1:zpe I (zl9 ps.toList xs (zrh (zpo ps.toList a b) s)) h1 (zl9 ps.toList xs (zrh (zpo ps.toList a b) s)) h1 (λk=>k):=
    ⟨zb.le_refl h1,λ_ _=>rfl,λd cs _ e=>absurd e (h0 d cs),λd e cs cs' _ _ _ hc _=>absurd hc (h0 d cs)⟩
   refine zgi hC.mono a (λe s2 h2 ⟨s2',h2',β2,k1,k2⟩=>?_) (zgw hC a ka hR1 w);cases e with
   | normal=>
    refine zgi hC.mono b (λe s3 h3 ⟨s3',h3',β3,k3,k4⟩=>?_) (zgw hC b kb k1 k2);obtain⟨h4,l4,k5⟩:=k4;exact⟨h4,zb.le_trans l4 k3.le,k5⟩
   | exit _=>exact k2
   | ret=>exact k2
  rw[zi3 hR hg,hcut]at y;revert y;split
  ·intro y
   refine hC.mono _ _ _ _ _ (λv h1 ⟨h1',⟨j,h4',m1,m2,m3⟩,l1,f1⟩=>?_) (hC.frame _ _ _ _ _ (zhe _ hR.le) y);have hj:h1 id=some (zi4 sz (zrh (zpo ps.toList a b) s) ps a b j):=l1 _ _ (m2 _ _ (zbv ..));have h4le:∀i c,h4' i=some c->i≠id /\ h1' i=some c:=λi c hc=>by
    have:i≠id:=λe=>by subst e;rw[m1]at hc;cases hc
    exact⟨this,m2 i c (by rw[zt _ _ this];exact hc)⟩
   refine⟨j,erase h1 id,erase_same h1 id,upd_erase_le hj,s',h4',β,⟨λi c hc=>?_,hR.cl,λd cs hb hc=>?_,hR.ap⟩,m3⟩
   ·obtain⟨n1,n2⟩:=h4le i c hc
    rw[zm8 _ n1];exact l1 i c n2
   ·obtain⟨u1,u2,u3⟩:=hR.bx d cs hb hc
    have n1:β d≠id:=λe=>by rw[e,hid]at u2;cases u2
    obtain⟨u4,u5⟩:=f1 (β d) (by rw[zt _ _ n1];exact u3) _ (by rw[zt _ _ n1];exact u2);refine⟨u1,by rw[zm8 _ n1];exact u4,?_⟩;cases e:h4' (β d) with
    | none=>rfl
    | some c=>rw[(h4le _ _ e).2]at u5;cases u5
  ·exact λy=>y
 | .goto _,_,_,_,_,_,_,_,_,x=>x.elim
 | .refuse _,_,_,_,_,_,_,_,_,x=>x.elim
theorem zof{P:Program}{I:Bx}{s' s:zbq}{h' h:zb}{β:Nat->Nat}(hR:zpe I s' h' s h β):∀(rs:List ResultVar)(l:List za),resB P I h' s' rs=some l->resS P h s rs=some l
 | [],l,e=>e
 | .tmp t::r,l,e=>by
  simp only[resB]at e;cases hc:I.clean t with
  | false=>rw[hc]at e;cases e
  | true=>
   rw[hc,cond_true,hR.cl t hc]at e;simp only[resS];cases hr:resB P I h' s' r with
   | none=>rw[hr]at e;simp[zoo]at e
   | some l'=>rw[hr]at e;rw[zof hR r l' hr];exact e
 | .cell t ty::r,l,e=>by
  simp only[resB]at e;simp only[resS];have go:∀o o',(∀v,o=some v->o'=some v)->zoo o (resB P I h' s' r)=some l->zoo o' (resS P h s r)=some l:=λo o' ho e=>by
   cases hr:resB P I h' s' r with
   | none=>rw[hr]at e;cases o<;>simp[zoo]at e
   | some l'=>
    rw[hr]at e;cases o with
    | none=>simp[zoo]at e
    | some v=>rw[ho v rfl,zof hR r l' hr];exact e
  cases hb:zg9 I.bs t with
  | true=>
   rw[hb,cond_true]at e;split at e
   ·cases e
   ·rename_i u hu
    refine go _ _ (λv hv=>?_) e;have hal:∃cs,s' (I.B+t)= .agg cs:=by
     cases hs:s' (I.B+t) with
     | agg cs=>exact⟨cs,rfl⟩
     | _=>rw[hs]at hv;cases hg:zdz P ty<;>rw[hg]at hv<;>simp[V.zi8,V.zfc]at hv
    obtain⟨cs,hcs⟩:=hal;obtain⟨m1,m2,_⟩:=hR.bx t cs hb hcs;rw[hcs]at hv;simp only[zoe,hu,m1];have e1:A.zl2 h (.ptr (β t) 0 0) (P.cellsOf ty)=V.zi8 0 (P.cellsOf ty) (.agg cs):=by
     simp only[A.zl2,m2,zdo,List.lookup,beq_self_eq_true,V.zi8]
    have e2:A.ldv h (.ptr (β t) 0 0)=V.zfc 0 (.agg cs):=by
     simp only[A.ldv,m2,zdo,List.lookup,beq_self_eq_true,V.zfc];split
     ·rfl
     ·rw[getElem?_eq_none (by omega)]
    rw[e1,e2];exact hv
  | false=>
   rw[hb,cond_false]at e;cases hc:I.clean t with
   | false=>rw[hc]at e;cases e
   | true=>
    rw[hc,cond_true,hR.cl t hc]at e;refine go _ _ (λv hv=>?_) e;unfold zoe at hv ⊢;split at hv
    ·cases hv
    ·rename_i u hu
     cases hA:zdz P ty with
     | true=>rw[hA]at hv;exact ldnv_le hR.le hv
     | false=>rw[hA]at hv;exact zqy hR.le hv
theorem AC_introB{P:Program}(hm:P.follows .mixedOrders=true){f:FuncId}{fn:Func}{c:Code}{I:Bx}(hf:P.funcs[f]?=some fn)(hb:fn.body=some c)(hcall:∀(va:Array Value)(w:World),(callFunc f va).run P w= .ok (.enter f va) w)
  (hc:zio fn.ntmps c=true) (hne:Nat.beq f zla=false) {args:List za} (hl:args.length <= fn.ntmps) (hB:args.length <= I.B) (hk:chkC P I c=true) {h:zb} {Q:zQ} (hx:bwp P (AC P) I c (retB P I fn.results.toList Q) (zcr args) h):AC P f args h Q:=by
 refine AC_drop (AC_intro hm hf hb hcall hc hne hl ?_);have hR:zpe I (zcr args) h (zcr args) h (λk=>k):=by
  have h0:∀d cs,zcr args (I.B+d)≠ .agg cs:=λd cs e=>by
   simp only[zcr,List.getD]at e;rw[getElem?_eq_none (by omega)]at e;cases e
  exact⟨zb.le_refl h,λ_ _=>rfl,λd cs _ e=>absurd e (h0 d cs),λd e cs cs' _ _ _ hc _=>absurd hc (h0 d cs)⟩
 refine zgi (AC_good P).mono c (λe s h ⟨s',h',β,k1,k2⟩=>?_) (zgw (AC_good P) c hk hR hx);have fin:A.pv (oneOf (resB P I h' s' fn.results.toList)) (λv=>Q v h')->A.pv (resV P h s fn.results.toList) λv=>∃h',Q v h' /\ h'.le h:=λhk=>by
  obtain⟨v,e1,e2⟩:=zf hk;cases hr:resB P I h' s' fn.results.toList with
  | none=>rw[hr]at e1;cases e1
  | some l=>
   rw[hr]at e1;have:=zof k1 _ _ hr;unfold resV;rw[this,e1];exact⟨h',e2,k1.le⟩
 cases e with
 | normal=>exact fin k2
 | ret=>exact fin k2
 | exit _=>exact k2
section
variable(P:Program)(I:Bx)(ops:List Oper)
def wrB(o:Oper)(E:zjq):List Nat:=
 match o.op with
 | .alloc _ | .box _ _=>match o.dst with
  | some d=>bif zg9 I.bs d then [I.B+d] else [d]
  | none=>[]
 | .store _ x _=>match I.place E o.guard x with
  | some (d,_)=>[I.B+d]
  | none=>o.dst.toList
 | _=>o.dst.toList
def writesO:List (Oper×List (Operand×TypeId))->zjq->List Nat|[],_=>[]|(o,_)::r,E=>wrB I o E++writesO r (zng P I ops o E)
end
def zhc(P:Program)(I:Bx):Code->List Nat
 | .region _ ops false=>writesO P I ops.toList (plain ops.toList) []
 | .region k ops true=>match plOf k I.pl with
  | some l=>writesO P I ops.toList (litOf ops.toList l) []
  | none=>[]
 | .seq a b=>zhc P I a++zhc P I b
 | .cond _ a b=>zhc P I a++zhc P I b
 | .block _ b=>zhc P I b
 | .loop b=>zhc P I b
 | .scope b=>zhc P I b
 | _=>[]
def zpf(C:z5)(f:za)(W:List za->zb->(Nat->zb->Prop)->Prop)(h:zb)(K:Nat->zb->Prop):Prop:=∀mk:Nat->Blk,(∀j,∃o,mk j=zf6 o)->rangeR C f mk W h K
def W1(G:za->zb->(Nat->zb->Prop)->Prop):List za->zb->(Nat->zb->Prop)->Prop|[x],h,E=>G x h E|_,_,_=>False
def W2(G:za->za->zb->(Nat->zb->Prop)->Prop):List za->zb->(Nat->zb->Prop)->Prop|[x,y],h,E=>G x y h E|_,_,_=>False
def RK:List (Nat×(zb->Prop))->Nat->zb->Prop|[],_,_=>False|(k,p)::r,j,h=>(j=k /\ p h) \/ RK r j h
def zkh:Code->Bool | .region .. =>true | .skip=>true | .seq a b=>zkh a&&zkh b|_=>false
section
variable{P:Program}{C:z5}{I:Bx}{ops:List Oper}
theorem gdO_mono{g:Gd}{s:zbq}{h:zb}{M:(zQ)->Prop}{K K':zQ}(hM:M K->M K')(hk:∀v h,K v h->K' v h)(x:A.gdO ops g s h M K):A.gdO ops g s h M K':=by
 unfold A.gdO at x ⊢;split at x
 ·exact hM x
 ·split at x
  ·unfold A.gd at x ⊢
   split at x
   ·exact⟨λe=>hM (x.1 e),λe=>hk _ _ (x.2 e)⟩
   ·exact hk _ _ x
   ·exact x
  ·exact x
theorem zqg{o:Option za}{K K':za->Prop}(hk:∀v,K v->K' v)(x:A.pv o K):A.pv o K':=by
 unfold A.pv at x ⊢;split at x
 ·exact hk _ x
 ·exact x
theorem al_mono{v:za}{p q:Prop}(hk:p->q)(x:A.al v p):A.al v q:=by
 unfold A.al at x ⊢;split at x
 ·exact hk x
 ·exact x
theorem zko{E:zjq}{s:zbq}:∀{ks:List (Operand×TypeId)}{k k':List (Operand×TypeId)->Prop},(∀l,k l->k' l)->zjl I E s ks k->zjl I E s ks k'
 | [],_,_,hk,x=>hk _ x
 | (x,ty)::r,k,k',hk,hx=>by
  have other:∀{x},zjl I E s r (λl=>k ((x,ty)::l))->zjl I E s r (λl=>k' ((x,ty)::l)):=λhx=>zko (λl y=>hk _ y) hx
  cases x<;>(try exact other hx)
  rename_i t
  simp only[zjl]at hx ⊢
  cases hb:zg9 I.bs t with
  | true=>rw[hb]at hx;exact al_mono (λy=>zko hk y) hx
  | false=>
   rw[hb]at hx
   simp only[cond_false]at hx ⊢
   cases hc:I.clean t with
   | true=>rw[hc]at hx;exact other hx
   | false=>
    rw[hc]at hx
    simp only[cond_false]at hx ⊢
    cases hm:zg9 (E.map (·.1)) t with
    | true=>rw[hm]at hx;exact zko hk hx
    | false=>rw[hm]at hx;exact hx
theorem znw{E:zjq}{d:Nat}{s:zbq}:∀{ks:List (Operand×TypeId)}{p q:Prop},(p->q)->zjk I E d s ks p->zjk I E d s ks q
 | [],_,_,hk,x=>hk x
 | (x,ty)::r,p,q,hk,hx=>by
  simp only[zjk]at hx ⊢
  split at hx
  ·rename_i d' off hp
   cases hb:Nat.beq d' d with
   | true=>rw[hb]at hx;exact hx.elim
   | false=>rw[hb]at hx;exact al_mono (λy=>znw hk y) hx
  ·exact hx
theorem stepB_strong(hC:zkv C){o:Oper}{ks:List (Operand×TypeId)}{E:zjq}{s:zbq}{h:zb}{K K':zjq->zbq->zb->Prop}
  (hk:∀s1 h1,zi9 (wrB I o E) s s1->K (zng P I ops o E) s1 h1->K' (zng P I ops o E) s1 h1) (x:stepB P C I ops o ks E s h K):stepB P C I ops o ks E s h K':=by
 have put:∀(d:Option Nat)(v:za)(l:List Nat),d.toList=l->zi9 l s (zet s d v):=λd v l e=>by
  subst e;cases d with
  | none=>exact zi9.refl _ _
  | some d=>exact λk hk=>zc8 s v λe=>hk (by simp[e])
 have gen:zng P I ops o E=zit ops o.dst E->wrB I o E=o.dst.toList->genB P C I ops o ks E s h K->genB P C I ops o ks E s h K':=λe1 e2 y=>by
  unfold genB at y ⊢;refine zko (λl z=>?_) y;have hk':∀v h1,K (zit ops o.dst E) (zet s o.dst v) h1->K' (zit ops o.dst E) (zet s o.dst v) h1:=λv h1 z=>by
   rw[<-e1];exact hk _ _ (put _ _ _ e2.symm) (by rw[e1];exact z)
  cases l with
  | nil=>exact zp9 hC hk' z
  | cons q r=>exact gdO_mono (λz=>zkm.2 (zf9 hC (λv h1 ⟨a,b⟩=>⟨a,hk' _ _ b⟩) (zkm.1 z))) hk' z
 have der:∀(d off:Nat)(e:Nat),o.dst=some e->zng P I ops o E=(e,o.guard,d,off)::zka ops e E->wrB I o E=o.dst.toList->derB I ops o d off E s h K->derB I ops o d off E s h K':=λd off e hd e1 e2 y=>by
  unfold derB at y ⊢;rw[hd]at y ⊢;refine al_mono (λy=>?_) y;have hk':∀h1,K ((e,o.guard,d,off)::zka ops e E) (zet s (some e) .undef) h1->K' ((e,o.guard,d,off)::zka ops e E) (zet s (some e) .undef) h1:=λh1 z=>by
   rw[<-e1];exact hk _ _ (put _ _ _ (by rw[e2,hd])) (by rw[e1];exact z)
  exact gdO_mono (hk' h) (λ_ h1 z=>hk' h1 z) y
 unfold stepB at x ⊢;unfold zng wrB at gen der hk;cases ho:o.op with
 | alloc t=>
  rw[ho]at x gen hk;simp only at x gen hk ⊢;cases hd:o.dst with
  | none=>rw[hd]at x gen;exact gen rfl rfl x
  | some d=>
   rw[hd]at x gen hk;simp only at x gen hk ⊢;cases hb:zg9 I.bs d with
   | false=>rw[hb]at gen x;exact gen rfl rfl x
   | true=>
    rw[hb]at x hk;exact zqg (λv z=>hk _ _ (put _ _ _ rfl) z) x
 | box t y=>
  rw[ho]at x gen hk;simp only at x gen hk ⊢;cases hd:o.dst with
  | none=>rw[hd]at x gen;exact gen rfl rfl x
  | some d=>
   rw[hd]at x gen hk;simp only at x gen hk ⊢;cases hb:zg9 I.bs d with
   | false=>rw[hb]at gen x;exact gen rfl rfl x
   | true=>
    rw[hb]at x hk;exact zqg (λv z=>hk _ _ (put _ _ _ rfl) z) x
 | load t y=>
  rw[ho]at x gen hk;simp only at x gen hk ⊢;split at x
  ·rename_i d off hp
   have y:=x;split at y
   ·exact y.elim
   ·rename_i u hu
    have hk':∀v h1,K (zit ops o.dst E) (zet s o.dst v) h1->K' (zit ops o.dst E) (zet s o.dst v) h1:=λv h1 z=>hk _ _ (put _ _ _ rfl) z;exact gdO_mono (λz=>zqg (λv z=>hk' _ _ z) z) hk' y
  ·rename_i hp
   exact gen (by trivial) (by trivial) x
 | store t y v=>
  rw[ho]at x gen hk;simp only at x gen hk ⊢;split at x
  ·rename_i d off hp
   simp only[hp]at hk ⊢;refine znw (λy=>?_) x;cases hA:zdz P t with
   | true=>rw[hA]at y;exact zqg (λv z=>hk _ _ (put _ _ _ rfl) z) y
   | false=>
    rw[hA]at y;simp only[cond_false]at y ⊢;cases h1:Nat.beq (P.cellsOf t) 1 with
    | false=>rw[h1]at y;exact y
    | true=>rw[h1]at y;exact zqg (λv z=>hk _ _ (put _ _ _ rfl) z) y
  ·rename_i hp
   simp only[hp]at gen ⊢;exact gen (by trivial) (by trivial) x
 | fieldAddr t y f=>
  rw[ho]at x gen der hk;simp only at x gen der hk ⊢;split at x
  ·rename_i d off hp
   simp only[hp]at der ⊢;have y:=x;split at y<;>(try exact y.elim);rename_i fs hu;simp only[hu]at der ⊢;split at y<;>(try exact y.elim);rename_i fd hfd;simp only[hfd]at der ⊢;cases hz:Nat.beq (P.cellsOf fd.type) 0 with
   | true=>rw[hz]at y;exact y
   | false=>
    rw[hz]at y;simp only[cond_false]at y ⊢;cases hd:o.dst with
    | none=>simp only[derB,hd]at y
    | some e=>exact der d _ e hd (by simp only[hd]) (by trivial) y
  ·rename_i hp
   simp only[hp]at gen ⊢;exact gen (by trivial) (by trivial) x
 | nilCheck y=>
  rw[ho]at x gen der hk;simp only at x gen der hk ⊢;split at x
  ·rename_i d off hp
   simp only[hp]at der ⊢;have y:=x;cases hd:o.dst with
   | none=>simp only[derB,hd]at y
   | some e=>exact der d _ e hd (by simp only[hd]) (by trivial) y
  ·rename_i hp
   simp only[hp]at gen ⊢;exact gen (by trivial) (by trivial) x
 | _=>
  rw[ho]at x gen;exact gen rfl rfl x
theorem zol(hC:zkv C){Q Q':zbq->zb->Prop}{L:List Nat}:∀(l:List (Oper×List (Operand×TypeId))){E:zjq}{s:zbq}{h:zb},(∀k∈writesO P I ops l E,k∈L)->(∀s1 h1,zi9 L s s1->Q s1 h1->Q' s1 h1)->opsB P C I ops l Q E s h->opsB P C I ops l Q' E s h|[],_,_,_,_,hq,x=>hq _ _ (zi9.refl _ _) x|(o,ks)::r,E,s,h,hl,hq,x=>stepB_strong hC (λs1 h1 ha y=>zol hC r (λk hk=>hl k (mem_append_right _ hk)) (λs2 h2 hb z=>hq _ _ ((ha.mono λk hk=>hl k (mem_append_left _ hk)).trans hb) z) y) x
theorem zhq(hC:zkv C):∀(c:Code){Q Q':Ex->zbq->zb->Prop}{s:zbq}{h:zb},(∀e s1 h1,zi9 (zhc P I c) s s1->Q e s1 h1->Q' e s1 h1)->bwp P C I c Q s h->bwp P C I c Q' s h
 | .skip,_,_,_,_,hq,x=>hq _ _ _ (zi9.refl _ _) x
 | .ret,_,_,_,_,hq,x=>hq _ _ _ (zi9.refl _ _) x
 | .exit _,_,_,_,_,hq,x=>hq _ _ _ (zi9.refl _ _) x
 | .region _ ops false,_,_,_,_,hq,x=>zol hC (plain ops.toList) (λ_ hk=>hk) (λs1 h1 ha y=>hq _ _ _ ha y) x
 | .region _ ops true,Q,Q',s,h,hq,x=>by
  simp only[bwp]at x ⊢
  simp only[zhc]at hq
  split at x
  ·rename_i l hp
   simp only[hp]at hq ⊢
   exact zol hC (litOf ops.toList l) (λ_ hk=>hk) (λs1 h1 ha y=>hq _ _ _ ha y) x
  ·exact x.elim
 | .seq a b,Q,Q',s,h,hq,x=>by
  refine zhq hC a (λe s1 h1 ha y=>?_) x
  have ha':zi9 (zhc P I (.seq a b)) s s1:=ha.mono λk hk=>mem_append_left _ hk
  cases e with
  | normal=>exact zhq hC b (λe s2 h2 hb z=>hq _ _ _ (ha'.trans (hb.mono λk hk=>mem_append_right _ hk)) z) y
  | exit _=>exact hq _ _ _ ha' y
  | ret=>exact hq _ _ _ ha' y
 | .cond c a b,Q,Q',s,h,hq,x=>by
  simp only[bwp]at x ⊢
  unfold A.cond at x ⊢
  split at x
  ·exact⟨λe=>zhq hC a (λ_ _ _ ha y=>hq _ _ _ (ha.mono λk hk=>mem_append_left _ hk) y) (x.1 e),λe=>zhq hC b (λ_ _ _ ha y=>hq _ _ _ (ha.mono λk hk=>mem_append_right _ hk) y) (x.2 e)⟩
  ·exact x.elim
 | .scope b,Q,Q',s,h,hq,x=>zhq hC b hq x
 | .label _,Q,Q',s,h,hq,x=>hq _ _ _ (zi9.refl _ _) x
 | .block id b,Q,Q',s,h,hq,x=>zhq hC b (λe s1 h1 ha y=>by
   cases e with
   | normal=>exact hq _ _ _ ha y
   | ret=>exact hq _ _ _ ha y
   | exit j=>
    simp only[Ex.inBlock]at y ⊢
    cases hj:Nat.beq j id with
    | true=>rw[hj]at y;exact hq _ _ _ ha y
    | false=>rw[hj]at y;exact hq _ _ _ ha y) x
 | .loop c,Q,Q',s,h,hq,x=>λX hX=>by
  refine x (λs1 h1=>zi9 (zhc P I c) s s1->X s1 h1) (λs1 h1 y ha=>hX s1 h1 ?_) (zi9.refl _ _)
  refine zhq hC c (λe s2 h2 hb z=>?_) y
  cases e with
  | normal=>exact z (ha.trans hb)
  | exit _=>exact hq _ _ _ (ha.trans hb) z
  | ret=>exact hq _ _ _ (ha.trans hb) z
 | .rangeFunc g ps a b,Q,Q',s,h,hq,x=>λsz=>zmz hC (λ_ _ _ w=>w) (λj h y=>hq _ _ _ (zi9.refl _ _) y) (x sz)
 | .goto _,_,_,_,_,_,x=>x.elim
 | .refuse _,_,_,_,_,_,x=>x.elim
theorem seqB(hC:zkv C){c a b:Code}{Q:Ex->zbq->zb->Prop}{X:zbq->zb->Prop}{s:zbq}{h:zb}(hc:c= .seq a b)(hb:∀s h,X s h->bwp P C I b Q s h)(ha:bwp P C I a (Ex.then X Q) s h):bwp P C I c Q s h:=by
 subst hc;exact zhq hC a (λe s h _ y=>by
  cases e with
  | normal=>exact hb _ _ y
  | exit _=>exact y
  | ret=>exact y) ha
theorem condB{c x y:Code}{o:Operand}{Q:Ex->zbq->zb->Prop}{p q:Prop}{s:zbq}{h:zb}(hc:c= .cond o x y)(hx:p->bwp P C I x Q s h)(hy:q->bwp P C I y Q s h)(hr:A.cond (evS s o) p q):bwp P C I c Q s h:=by
 subst hc;simp only[bwp,A.cond]at hr ⊢;split at hr
 ·exact⟨λe=>hx (hr.1 e),λe=>hy (hr.2 e)⟩
 ·exact hr.elim
theorem loopB(hC:zkv C){c b:Code}{Q:Ex->zbq->zb->Prop}{s:zbq}{h:zb}(zjx live:List Nat){G:List za->zG}
  (hc:c= .loop b) (hk:(zjx.all λk=> !zg9 (zhc P I b) k)=true)
  (hG:∀(Y:zL)(s:zbq)(h:zb),G (zjx.map s) (live.map s) h Y->bwp P C I b (Ex.then (λs h=>Y (live.map s) h) Q) s h)
  (hr:z3 (G (zjx.map s)) (live.map s) h):bwp P C I c Q s h:=by
 subst hc;intro X hX;have hm:∀(l:List Nat)(k:Nat),k∈l->zg9 l k=true:=λl=>by
  induction l with
  | nil=>intro k h;cases h
  | cons a r ih=>
   intro k h;simp only[zg9];rcases mem_cons.1 h with rfl|h
   ·rw[Nat.beq_refl];rfl
   ·rw[ih k h];cases Nat.beq a k<;>rfl
 have hw:∀k∈zjx,k∉zhc P I b:=λk hk' hin=>by
  have:=all_eq_true.1 hk k hk';rw[hm _ _ hin]at this;cases this
 refine hr (λvs h=>∀s',zjx.map s'=zjx.map s->live.map s'=vs->X s' h) ?_ s rfl rfl;intro vs h1 hg s1 e1 e2;subst e2;rw[<-e1]at hg;refine hX s1 h1 (zhq hC b (λe s2 h2 ha z=>?_) (hG _ s1 h1 hg));cases e with
 | normal=>
  refine z s2 ?_ rfl;exact map_congr_left λk hk'=>ha k (hw k hk')
 | exit _=>exact z
 | ret=>exact z
theorem zlp{P:Program}{C:z5}{I:Bx}:∀{c:Code},zkh c=true->∀{Q Q':Ex->zbq->zb->Prop},Q .normal=Q' .normal->bwp P C I c Q=bwp P C I c Q'
 | .skip,_,_,_,e=>by funext s h;simp only[bwp,e]
 | .region _ _ false,_,_,_,e=>by funext s h;simp only[bwp,e]
 | .region _ _ true,_,_,_,e=>by funext s h;simp only[bwp,e]
 | .seq a b,hk,Q,Q',e=>by
  simp only[zkh,Bool.and_eq_true]at hk
  funext s h
  simp only[bwp]
  rw[zlp hk.2 e,zlp hk.1 (Q:=Ex.then (bwp P C I b Q') Q) (Q':=Ex.then (bwp P C I b Q') Q') rfl]
theorem rangeB(hC:zkv C){c a b:Code}{g:Operand}{ps:Array Tmp}{Q:Ex->zbq->zb->Prop}{s:zbq}{h:zb}{W:List za->zb->(Nat->zb->Prop)->Prop}{K:Nat->zb->Prop}
  (hc:c= .rangeFunc g ps a b) (hs:zkh a=true) (hr:zpf C (evS s g) W h K) (hK:∀j h,K j h->Q (unj j) s h)
  (hW:∀xs h E,W xs h E->xs.length=ps.size /\ bwp P C I (.seq a b) (λe _ h2=>E (jn e) h2) (zl9 ps.toList xs (zrh (zpo ps.toList a b) s)) h):bwp P C I c Q s h:=by
 subst hc;refine λsz=>zmz hC (λxs h E w=>?_) hK (hr _ λj=>⟨_,rfl⟩);obtain⟨h1,h2⟩:=hW xs h E w;refine⟨h1,?_⟩;have h2:bwp P C I a (Ex.then (bwp P C I b λe _ h2=>E (jn e) h2) λe _ h2=>E (jn e) h2) (zl9 ps.toList xs (zrh (zpo ps.toList a b) s)) h:=h2;have e:=zlp (P:=P) (C:=C) (I:=I) hs (Q:=Ex.then (bwp P C I b λe _ h2=>E (jn e) h2) λe _ h2=>E (jn e) h2) (Q':=Ex.then (bwp P C I b λe _ h2=>E (jn e) h2) λ_ _ _=>False) rfl;rw[e]at h2;exact h2
end
def dn(Q:zQ)(v:za)(h:zb):Prop:=∃h',Q v h' /\ h'.le h
abbrev im0(C:z5)(g:Nat)(f:zb->zQ->Prop):Prop:=∀(h:zb)(Q:zQ),f h (dn Q)->C g [] h Q
abbrev im1(C:z5)(g:Nat)(f:za->zb->zQ->Prop):Prop:=∀(v0:za)(h:zb)(Q:zQ),f v0 h (dn Q)->C g [v0] h Q
abbrev im2(C:z5)(g:Nat)(f:za->za->zb->zQ->Prop):Prop:=∀(v0 v1:za)(h:zb)(Q:zQ),f v0 v1 h (dn Q)->C g [v0,v1] h Q
abbrev im3(C:z5)(g:Nat)(f:za->za->za->zb->zQ->Prop):Prop:=∀(v0 v1 v2:za)(h:zb)(Q:zQ),f v0 v1 v2 h (dn Q)->C g [v0,v1,v2] h Q
abbrev im4(C:z5)(g:Nat)(f:za->za->za->za->zb->zQ->Prop):Prop:=∀(v0 v1 v2 v3:za)(h:zb)(Q:zQ),f v0 v1 v2 v3 h (dn Q)->C g [v0,v1,v2,v3] h Q
abbrev im5(C:z5)(g:Nat)(f:za->za->za->za->za->zb->zQ->Prop):Prop:=∀(v0 v1 v2 v3 v4:za)(h:zb)(Q:zQ),f v0 v1 v2 v3 v4 h (dn Q)->C g [v0,v1,v2,v3,v4] h Q
theorem zbh{Q:zQ}{v:za}{h:zb}(hq:Q v h):dn Q v h:=⟨h,hq,zb.le_refl h⟩
theorem dn_le{Q:zQ}{v:za}{h h':zb}(hle:h.le h')(hq:Q v h):dn Q v h':=⟨h,hq,hle⟩
abbrev Wr{α:Sort _}(a:α):Type:=Prop
namespace B
variable(h:zb)
def pv(o:Option za)(K:za->Prop):Wr K:=A.pv o K
def cond(c:za)(x y:Prop):Wr (x,y):=A.cond c x y
def al(v:za)(p:Prop):Wr p:=A.al v p
def pick(c a b:za)(K:za->Prop):Wr K:=A.pick c a b K
def zgn(o:Option (List za))(K:Nat->zb->Prop):Wr K:=A.zgn h o K
def ld(p:za)(K:za->Prop):Wr K:=A.ld h p K
def ldn(p:za)(n:Nat)(K:za->Prop):Wr K:=A.ldn h p n K
def st(p v:za)(K:zb->Prop):Wr K:=A.st h p v K
def nilCheck(v:za)(K:za->Prop):Wr K:=A.nilCheck v K
def ziz(es bytes:Nat)(x y:za)(K:zQ):Wr K:=A.ziz h es bytes x y K
def mks(bytes:Nat)(z:Option (List za))(l c:za)(K:zQ):Wr K:=A.mks h bytes z l c K
def zew(x:za)(K:za->Prop):Wr K:=A.zew h x K
def call(C:z5)(f:Nat)(args:List za)(h:zb)(K:zQ):Wr K:=C f args h K
def zky(K:zQ):Wr K:=A.newObj h (.map [] 0) λid h=>K (.mp id) h
def mset(kd:KD)(x k v:za)(K:zb->Prop):Wr K:=A.mset h (some kd) x k v K
def mdel(kd:KD)(x k:za)(K:zQ):Wr K:=A.mdel h (some kd) x k K
def rangeMap(x:za)(K:zQ):Wr K:=A.rangeMap h x K
def zeq(x:za)(K:zQ):Wr K:=A.zeq h x K
def zkt(h:zb)(C:z5)(f:za)(args:List za)(K:zQ):Wr K:=A.zkt h C f args K
def gd(c:za)(want:Bool)(M:(zQ)->Prop)(K:zQ):Wr (M,K):=A.gd h c want M K
def gdb(d:Bool)(M:(zQ)->Prop)(K:zQ):Wr K:=(d=true->M K) /\ (d=false->K (.tup []) h)
def keepS(ls:List (za×Option Nat))(K:zQ):zQ:=A.keepS h ls K
end B
@[simp] theorem B.zf(v:za)(K:za->Prop):(B.pv (some v) K:Prop)=K v:=propext Iff.rfl
@[simp] theorem B.pv_none(K:za->Prop):(B.pv none K:Prop)=False:=propext Iff.rfl
@[simp] theorem B.zjo(cs:List za)(p:Prop):(B.al (.agg cs) p:Prop)=p:=propext Iff.rfl
@[simp] theorem B.cond_true(x y:Prop):(B.cond (.bool true) x y:Prop)=x:=by simp[B.cond,A.cond]
@[simp] theorem B.cond_false(x y:Prop):(B.cond (.bool false) x y:Prop)=y:=by simp[B.cond,A.cond]
theorem B.zbd{b:Bool}{x y:Prop}(hx:b=true->x)(hy:b=false->y):B.cond (.bool b) x y:=⟨hx,hy⟩
@[simp] theorem B.zed(h:zb)(p:za)(K:za->Prop):(B.ld h p K:Prop)=B.pv (A.ldv h p) K:=propext Iff.rfl
@[simp] theorem B.ldn_eq(h:zb)(p:za)(n:Nat)(K:za->Prop):(B.ldn h p n K:Prop)=B.pv (A.zl2 h p n) K:=propext Iff.rfl
@[simp] theorem B.zb3(id g off:Nat)(K:za->Prop):(B.nilCheck (.ptr id g off) K:Prop)=K (.ptr id g off):=propext Iff.rfl
@[simp] theorem B.callv_fn(h:zb)(C:z5)(f:Nat)(first zjb args:List za)(K:zQ):(B.zkt h C (.fn f first zjb) args K:Prop)=B.call C f (first++args++zjb) h K:=propext Iff.rfl
def gv(b:Bool)(v:za):za:=bif b then v else .tup []
@[simp] theorem zoq(v:za):gv true v=v:=eq_of_heq HEq.rfl
@[simp] theorem gv_false(v:za):gv false v= .tup []:=eq_of_heq HEq.rfl
@[simp] theorem gv_gv(b c:Bool)(v:za):gv b (gv c v)=gv (b&&c) v:=by cases b<;>cases c<;>exact eq_of_heq HEq.rfl
section
variable(h:zb)(b c:Bool)(M:(zQ)->Prop)(K:zQ)(v:za)
@[simp] theorem B.zfu:(B.gd h (.bool b) true M K:Prop)=B.gdb h b M K:=by cases b<;>simp[B.gd,A.gd,B.gdb]
@[simp] theorem B.zor:(B.gd h (.bool b) false M K:Prop)=B.gdb h (!b) M K:=by cases b<;>simp[B.gd,A.gd,B.gdb]
@[simp] theorem B.gd_ct:(B.gd h (gv b (.bool c)) true M K:Prop)=B.gdb h (b&&c) M K:=by cases b<;>cases c<;>simp[B.gd,A.gd,B.gdb,gv]
@[simp] theorem B.gd_cf:(B.gd h (gv b (.bool c)) false M K:Prop)=B.gdb h (b&& !c) M K:=by cases b<;>cases c<;>simp[B.gd,A.gd,B.gdb,gv]
@[simp] theorem B.gd_tup(w:Bool):(B.gd h (.tup []) w M K:Prop)=K (.tup []) h:=propext Iff.rfl
@[simp] theorem B.gdb_pure:(B.gdb h b (λK=>K v h) K:Prop)=K (gv b v) h:=by cases b<;>simp[B.gdb,gv]
@[simp] theorem B.zbe:(B.gdb h true M K:Prop)=M K:=by simp[B.gdb]
@[simp] theorem B.zfh:(B.gdb h false M K:Prop)=K (.tup []) h:=by simp[B.gdb]
end
@[congr] theorem B.gdb_congr{h:zb}{c c':Bool}{M M':(zQ)->Prop}{K:zQ}(hc:c=c')(hM:c'=true->∀K,M K=M' K):(B.gdb h c M K:Prop)=B.gdb h c' M' K:=by
 subst hc;unfold B.gdb;cases c
 ·simp
 ·simp[hM rfl]
theorem B.gdb_call{h:zb}{b:Bool}{v:za}{M:(zQ)->Prop}{K:zQ}(hs:b=true->∀Q:zQ,Q v h->M Q)
  (hk:K (gv b v) h):B.gdb h b M K:=by
 cases b
 ·exact⟨λe=>(by cases e),λ_=>hk⟩
 ·exact⟨λ_=>hs rfl _ hk,λe=>(by cases e)⟩
section
variable(b c d:Bool)(u x y:za)(K:za->Prop)
@[simp] theorem B.pick_and:(B.pick (.bool b) (gv b (.bool c)) (.bool d) K:Prop)=K (.bool (bif b then c else d)):=by cases b<;>exact eq_of_heq HEq.rfl
@[simp] theorem B.pick_or:(B.pick (.bool b) (.bool d) (gv (!b) (.bool c)) K:Prop)=K (.bool (bif b then d else c)):=by cases b<;>exact eq_of_heq HEq.rfl
@[simp] theorem B.pick_nor:(B.pick (.bool !b) (.bool d) (gv b (.bool c)) K:Prop)=K (.bool (bif b then c else d)):=by cases b<;>exact eq_of_heq HEq.rfl
@[simp] theorem B.zex:(B.pick (.bool true) x y K:Prop)=K x:=eq_of_heq HEq.rfl
@[simp] theorem B.zf3:(B.pick (.bool false) x y K:Prop)=K y:=eq_of_heq HEq.rfl
@[simp] theorem B.pick_plain:(B.pick (.bool b) (.bool c) (.bool d) K:Prop)=K (.bool (bif b then c else d)):=by cases b<;>exact eq_of_heq HEq.rfl
@[simp] theorem B.pick_int(k:IntKind)(x y:Int):(B.pick (.bool b) (.int k x) (.int k y) K:Prop)=K (.int k (bif b then x else y)):=by cases b<;>exact eq_of_heq HEq.rfl
@[simp] theorem B.pick_or2{b c d e:Bool}{K:za->Prop}(hc:e= !b):(B.pick (.bool b) (.bool d) (gv e (.bool c)) K:Prop)=K (.bool (bif b then d else c)):=by subst hc;cases b<;>exact eq_of_heq HEq.rfl
@[simp] theorem B.pick_and2{b c d e:Bool}{K:za->Prop}(hc:e=b):(B.pick (.bool b) (gv e (.bool c)) (.bool d) K:Prop)=K (.bool (bif b then c else d)):=by subst hc;cases e<;>exact eq_of_heq HEq.rfl
theorem cond_andb:(bif b then c else false)=(b&&c):=by cases b<;>rfl
theorem cond_orb:(bif b then true else c)=(b||c):=by cases b<;>rfl
attribute [simp] cond_andb cond_orb
end
namespace V
variable(k:IntKind)(a b:Int)
@[simp] theorem zh7:bin .add (.int k a) (.int k b)=some (.int k (k.wrap (a+b))):=by simp[bin,arith]
@[simp] theorem zju:bin .sub (.int k a) (.int k b)=some (.int k (k.wrap (a-b))):=by simp[bin,arith]
@[simp] theorem bin_mul:bin .mul (.int k a) (.int k b)=some (.int k (k.wrap (a*b))):=by simp[bin,arith]
@[simp] theorem bin_quo(hb:b≠0):bin .quo (.int k a) (.int k b)=some (.int k (k.wrap (a.tdiv b))):=by simp[bin,arith,hb]
@[simp] theorem bin_rem(hb:b≠0):bin .rem (.int k a) (.int k b)=some (.int k (a.tmod b)):=by simp[bin,arith,hb]
@[simp] theorem zgq:bin .eql (.int k a) (.int k b)=some (.bool (decide (a=b))):=by simp[bin,arith];rfl
@[simp] theorem bin_neq:bin .neq (.int k a) (.int k b)=some (.bool (!decide (a=b))):=by simp[bin,arith];rfl
@[simp] theorem zev:bin .lss (.int k a) (.int k b)=some (.bool (decide (a<b))):=by simp[bin,arith]
@[simp] theorem bin_leq:bin .leq (.int k a) (.int k b)=some (.bool (decide (a <= b))):=by simp[bin,arith]
@[simp] theorem zm9:bin .gtr (.int k a) (.int k b)=some (.bool (decide (b<a))):=by simp[bin,arith]
@[simp] theorem zna:bin .geq (.int k a) (.int k b)=some (.bool (decide (b <= a))):=by simp[bin,arith]
@[simp] theorem bin_seql(x y:List UInt8):bin .eql (.str x) (.str y)=some (.bool (decide (x=y))):=by simp only[bin,strOp];congr 2;rw[Bool.eq_iff_iff];simp
@[simp] theorem bin_sneq(x y:List UInt8):bin .neq (.str x) (.str y)=some (.bool (!decide (x=y))):=by simp only[bin,strOp];congr 3;rw[Bool.eq_iff_iff];simp
@[simp] theorem eqBool_eql(x y:Bool):zrd .eql (.bool x) (.bool y)=some (.bool (x==y)):=eq_of_heq HEq.rfl
@[simp] theorem eqBool_neq(x y:Bool):zrd .neq (.bool x) (.bool y)=some (.bool (!(x==y))):=eq_of_heq HEq.rfl
@[simp] theorem zfk(x:Bool):un .not (.bool x)=some (.bool !x):=eq_of_heq HEq.rfl
@[simp] theorem un_neg:un .neg (.int k a)=some (.int k (k.wrap (0-a))):=eq_of_heq HEq.rfl
@[simp] theorem toInt_int(j:IntKind):toInt k (.int j a)=some (.int k (k.wrap a)):=eq_of_heq HEq.rfl
@[simp] theorem strStr_str(x:List UInt8):strStr (.str x)=some (.str x):=eq_of_heq HEq.rfl
@[simp] theorem zd3(o id g off:Nat):fieldAddr o (.ptr id g off)=some (.ptr id g (off+o)):=eq_of_heq HEq.rfl
@[simp] theorem field1_agg(o:Nat)(cs:List za):zfc o (.agg cs)=cs[o]? :=eq_of_heq HEq.rfl
@[simp] theorem fieldN_agg(o n:Nat)(cs:List za):zi8 o n (.agg cs)=if o+n <= cs.length then some (.agg ((cs.drop o).take n)) else none:=eq_of_heq HEq.rfl
@[simp] theorem setF_agg(o:Nat)(v:za)(cs:List za):setF o v (.agg cs)=zqq (put1 o v cs):=by unfold setF zqq;rfl
@[simp] theorem setN_agg(o n:Nat)(v:za)(cs:List za):setN o n v (.agg cs)=zqq (putN o n v cs):=by unfold setN zqq;rfl
@[simp] theorem put1_cell(o:Nat)(v:za)(cs:List za):put1 o v cs=bif v.zec then (if o<cs.length then some (cs.set o v) else none) else none:=eq_of_heq HEq.rfl
@[simp] theorem putN_agg(o n:Nat)(xs cs:List za):putN o n (.agg xs) cs=if xs.length=n /\ o+n <= cs.length then some (cs.take o++xs++cs.drop (o+n)) else none:=eq_of_heq HEq.rfl
@[simp] theorem zg5(i:Nat)(cs:List za):ext i (.tup cs)=cs[i]? :=eq_of_heq HEq.rfl
@[simp] theorem lenStr_str(x:List UInt8):zqx (.str x)=some (.int .i64 x.length):=eq_of_heq HEq.rfl
@[simp] theorem lenSl_nils:zde .zeg=some (.int .i64 0):=eq_of_heq HEq.rfl
@[simp] theorem lenSl_sz:zde .sz=some (.int .i64 0):=eq_of_heq HEq.rfl
@[simp] theorem lenSl_sl(id g off n es cp:Nat):zde (.sl id g off n es cp)=some (.int .i64 n):=eq_of_heq HEq.rfl
@[simp] theorem max2_int:max2 (.int k a) (.int k b)=some (.int k (max a b)):=by
 simp only[max2];congr 2;split<;>omega
@[simp] theorem min2_int:min2 (.int k a) (.int k b)=some (.int k (min a b)):=by
 simp only[min2];congr 2;split<;>omega
attribute [simp] zfs eqv
@[simp] theorem eqCell_b(x y:Bool):zmp .b (.bool x) (.bool y)=some (decide (x=y)):=by cases x<;>cases y<;>rfl
@[simp] theorem eqCell_i:zmp (.i k) (.int k a) (.int k b)=some (decide (a=b)):=by simp only[zmp];rw[if_pos ⟨trivial,trivial⟩];rfl
@[simp] theorem eqCell_s(x y:List UInt8):zmp .s (.str x) (.str y)=some (decide (x=y)):=by simp only[zmp];congr 1;rw[Bool.eq_iff_iff];simp
end V
@[simp] theorem optAgg_some(cs:List za):zqq (some cs)=some (.agg cs):=eq_of_heq HEq.rfl
@[simp] theorem boxN_agg(n:Nat)(cs:List za):A.boxN n (.agg cs)=if cs.length=n then some (.agg cs) else none:=eq_of_heq HEq.rfl
@[simp] theorem box1_eq(v:za):A.box1 v=bif v.zec then some (.agg [v]) else none:=eq_of_heq HEq.rfl
@[simp] theorem cellsN_agg(n:Nat)(cs:List za):A.zkf n (.agg cs)=if cs.length=n then some cs else none:=eq_of_heq HEq.rfl
@[simp] theorem cells1_eq(v:za):A.zjm v=bif v.zec then some [v] else none:=eq_of_heq HEq.rfl
attribute [simp] A.bld zez zh2
@[simp] theorem isCell_bool(b:Bool):(za.bool b).zec=true:=eq_of_heq HEq.rfl
@[simp] theorem isCell_int(k:IntKind)(n:Int):(za.int k n).zec=true:=eq_of_heq HEq.rfl
@[simp] theorem isCell_str(s:List UInt8):(za.str s).zec=true:=eq_of_heq HEq.rfl
@[simp] theorem isCell_ptr(a b c:Nat):(za.ptr a b c).zec=true:=eq_of_heq HEq.rfl
@[simp] theorem isCell_nilp:za.zkx.zec=true:=eq_of_heq HEq.rfl
@[simp] theorem isCell_nils:za.zeg.zec=true:=eq_of_heq HEq.rfl
@[simp] theorem isCell_sz:za.sz.zec=true:=eq_of_heq HEq.rfl
@[simp] theorem isCell_sl(a b c d e f:Nat):(za.sl a b c d e f).zec=true:=eq_of_heq HEq.rfl
@[simp] theorem isCell_fn(f:Nat)(a b:List za):(za.fn f a b).zec=true:=eq_of_heq HEq.rfl
@[simp] theorem isCell_nilm:za.zo2.zec=true:=eq_of_heq HEq.rfl
@[simp] theorem isCell_mp(i:Nat):(za.mp i).zec=true:=eq_of_heq HEq.rfl
@[simp] theorem isCell_nilf:za.nilf.zec=true:=eq_of_heq HEq.rfl
@[simp] theorem upd_get(h:zb)(id:Nat)(b:Blk):upd h id b id=some b:=zbv h id b
@[simp] theorem upd_get_ne(h:zb){id i:Nat}(b:Blk)(hne:i≠id):upd h id b i=h i:=zt h b hne
@[simp] theorem upd_none(h:zb)(id i:Nat)(b:Blk):upd h id b i=none↔i≠id /\ h i=none:=by
 by_cases hi:i=id
 ·subst hi;simp
 ·simp[hi]
attribute [simp] upd_upd
@[simp] theorem joinV_some(v:za)(l:List za):zoo (some v) (some l)=some (v::l):=eq_of_heq HEq.rfl
@[simp] theorem oneOf_one(v:za):oneOf (some [v])=some v:=eq_of_heq HEq.rfl
@[simp] theorem oneOf_more(v w:za)(l:List za):oneOf (some (v::w::l))=some (.tup (v::w::l)):=eq_of_heq HEq.rfl
theorem wrap_i64{n:Int}(h1: -9223372036854775808 <= n)(h2:n <= 9223372036854775807):IntKind.i64.wrap n=n:=by
 rw[IntKind.wrap_i64];omega
end Go.Ab
