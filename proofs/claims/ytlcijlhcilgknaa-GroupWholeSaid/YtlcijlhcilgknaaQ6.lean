/- What is proved: a part of the way to the statement: AcJ. No conditions. -/
import Derived.Test.YtlcijlhcilgknaaQ3
import Derived.Test.YtlcijlhcilgknaaQ5
import Derived.KernelRfl
import Derived.Test.YtlcijlhcilgknaaRows
import Derived.Lib.Bytealg
set_option linter.unusedVariables false
set_option linter.unusedSimpArgs false
namespace Go.Ab
theorem arg_slice {T:Type} {H:za} {bytes es:Nat} {e:Ty} {v:AVal} (cs:T->List AVal) (hd: ∀ p,zg0 H e p-> ∃ t,p=cs t) (h:zg0 H (.sl bytes es e) [v]):
  ∃ L:List T,SlIs H es v (L.map cs) /\ L.length*bytes <= reach:=by
 rcases h with h|h|⟨id,parts,h1,h2,h3,h4⟩
 ·cases h;exact ⟨[],SlX.nils H es,by simp⟩
 ·cases h;exact ⟨[],SlX.sz H es,by simp⟩
 ·cases h1
  have: ∃ L:List T,parts=L.map cs:=by
   clear h2 h3
   induction parts with
   | nil=>exact ⟨[],rfl⟩
   | cons p r ih=>
    obtain ⟨L,rfl⟩:=ih fun q hq=>h4 q (by simp [hq])
    obtain ⟨t,rfl⟩:=hd p (h4 p (by simp)).1
    exact ⟨t::L,rfl⟩
  obtain ⟨L,rfl⟩:=this
  have hl: ∀ p∈L.map cs++[],p.length=es:=fun p hp=>(h4 p (by simpa using hp)).2
  have hfl:(L.map cs).flatten.length=L.length*es:=by
   have:=zlm (css:=L.map cs) (n:=es) fun p hp=>(h4 p hp).2
   simpa using this
  refine ⟨L,⟨hl,.inr ⟨id,0,0,(L.map cs).length,roOf (L.map cs).flatten,(L.map cs).flatten.length,rfl,by simp,h2,zie ..,?_,Nat.le_refl _,?_⟩⟩,by simpa using h3⟩
  ·rw [hfl];simp
  ·simp only [roOf,List.drop_zero,List.append_nil,List.length_nil,Nat.add_zero,List.length_map]
   rw [<- hfl,List.take_length]
end Go.Ab
namespace Go.Ab
variable {C:CSem} {N:zN}
structure zy where
 es:Nat
 bytes:Nat
 z:List AVal
 f:Nat
 kp:Option Nat
 ld:za->AVal->(AVal->Prop)->Prop
 st:za->AVal->AVal->(za->Prop)->Prop
 eq:za->AVal->AVal->(zQ)->Prop
section
variable (E:zy)
def opsF (es bytes:Nat) (z:List AVal) (f:Nat) (sh:List Ck):zy where
 es:=es;bytes:=bytes;z:=z;f:=f;kp:=some es
 ld:=fun h p K=>B.ldn h p es K
 st:=fun h p v K=>B.stn h p es v K
 eq:=fun h a b K=>B.pv (V.zop .eql sh a b) fun v=>K v h
def opsS (bytes:Nat) (z:AVal) (f:Nat):zy where
 es:=1;bytes:=bytes;z:=[z];f:=f;kp:=none
 ld:=fun h p K=>B.ld h p K
 st:=fun h p v K=>B.st h p v K
 eq:=fun h a b K=>B.pv (V.bin .eql a b) fun v=>K v h
end
end Go.Ab
namespace Go.Ab
variable {C:CSem} {N:zN}
section
variable {h H h0:za} {es:Nat} {x:AVal} {L R:List (List AVal)}
end
section
variable {h0 h h':za} {l:List Ob}
end
def Kp (h:za) (p:AVal) (o:Option Nat):Prop:=match o with|none=> ∃ x,A.ldv h p=some x|some n=> ∃ x,A.ldnv h p n=some x
theorem zq8 {h:za} {ls:List (AVal×Option Nat)} {K:zQ} {v:AVal} (hl: ∀ p∈ls,Kp h p.1 p.2) (hk:K v h):B.keepS h ls K v h:=by
 refine ⟨fun p hp=> ?_,hk⟩
 have:=hl p hp
 obtain ⟨p,o⟩:=p
 cases o with
 | none=>obtain ⟨x,e⟩:=this;exact ⟨x,e,e⟩
 | some n=>obtain ⟨x,e⟩:=this;exact ⟨x,e,e⟩
theorem keepS1 {h:za} {p:AVal} {o:Option Nat} {K:zQ} {v:AVal} (h1:Kp h p o) (hk:K v h):B.keepS h [(p,o)] K v h:=
 zq8 (fun q hq=>by rw [List.mem_singleton.1 hq];exact h1) hk
theorem keepS2 {h:za} {p q:AVal} {o u:Option Nat} {K:zQ} {v:AVal} (h1:Kp h p o) (h2:Kp h q u) (hk:K v h):B.keepS h [(p,o),(q,u)] K v h:=
 zq8 (fun r hr=>by rcases List.mem_cons.1 hr with e|hr;rw [e];exact h1;rw [List.mem_singleton.1 hr];exact h2) hk
section
variable {es n k:Nat} {xs:Nat->AVal} {D R:Nat->List (List AVal)}
end
end Go.Ab
namespace Go.Ab
variable {C:CSem} {N:zN}
section
variable {m:Int->Int->List AVal} {k n i:Nat}
end
section
variable {h:za} {x:AVal} {n k:Nat} {xs:Nat->AVal} {W:List (List AVal)} (hx:SlX h 1 x (fills n fun j=>[xs j]) W)
include hx
end
section
variable {E:zy} {m:Int->Int->List AVal} {v:Int->Int->AVal} {h0 h h':za} {x v5:AVal} {n k:Nat} {xs ys gs:Nat->AVal} {len:Nat->Nat} {F:Nat->List (List AVal)} {W:List (List AVal)} {Q:zQ}
end
end Go.Ab
namespace Go.Ab
variable {C:CSem} {N:zN}
structure Scal (T:Type) [DecidableEq T] where
 c:T->AVal
 cell: ∀ t,(c t).zcq=true
 eql: ∀ a b,V.bin .eql (c a) (c b)=some (.bool (decide (a=b)))
 neq: ∀ a b,V.bin .neq (c a) (c b)=some (.bool (!decide (a=b)))
theorem SlX.cell {h:za} {x c:AVal} {L R:List (List AVal)} {i:Nat} (hs:SlX h 1 x L R) (hc:L[i]? =some [c]):A.ldv h (elp 1 x i 0)=some c:=by
 rw [hs.ldv hc (by omega)];rfl
section
variable {T:Type} [DecidableEq T] (F:Scal T)
abbrev Scal.cs (t:T):List AVal:=[F.c t]
@[simp] def zqi.k2 (Q:zQ) (Y1:zL) (v0 v1 v5:AVal) (h:za):Prop:=
 B.pv (V.zcv v0) fun v13=>
  B.pv (V.bin .lss v5 v13) fun v14=>
  B.cond v14
  (B.pv (V.idxS 1 v0 v5) fun v19=>
  B.ld h v19 fun v20=>
  B.pv (V.idxS 1 v1 v5) fun v23=>
  B.ld h v23 fun v24=>
  B.pv (V.bin .neq v20 v24) fun v25=>
  B.cond v25
  (Q (.bool false) h)
  (B.pv (V.bin .add v5 (.int .i64 1)) fun v16=>
  Y1 [v16] h))
  (Q (.bool true) h)
@[simp] def zqi.l4 (Q:zQ) (v0 v1:AVal):zG
 | [v5],h,Y1=>zqi.k2 Q Y1 v0 v1 v5 h
 | _,_,_=>False
def zqi (v0 v1:AVal) (h:za) (Q:zQ):Prop:=
 B.pv (V.zcv v0) fun v7=>
  B.pv (V.zcv v1) fun v9=>
  B.pv (V.bin .neq v7 v9) fun v10=>
  B.cond v10
  (Q (.bool false) h)
  (zx (zqi.l4 Q v0 v1) [(.int .i64 0)] h)
theorem sameS_spec {x y:AVal} {L M:List T} {R S:List (List AVal)} {h:za} {Q:zQ} (hx:SlX h 1 x (L.map F.cs) R) (hy:SlX h 1 y (M.map F.cs) S) (hlen:L.length<4611686018427387904)
  (hq:Q (.bool (decide (L=M))) h):zqi x y h Q:=by
 have hlx:=hx.zcv
 have hly:=hy.zcv
 rw [List.length_map] at hlx hly
 simp -dsimp [zqi,hlx,hly]
 refine B.zt (fun hb=> ?_) (fun hb=> ?_)<;>simp -dsimp at hb ⊢
 ·rw [decide_eq_false fun e=>hb (by rw [e])] at hq
  exact hq
 ·refine zx.intro (fun n vs hh=> ∃ k,k+n=L.length /\ vs=[.int .i64 k] /\ hh=h /\ L.take k=M.take k) L.length ?_ ⟨0,by simp,by simp,rfl,by simp⟩
  rintro Y n vs _ ⟨k,hn,rfl,rfl,he⟩ hY
  simp -dsimp [hlx]
  refine B.zt (fun hc=> ?_) (fun hc=> ?_)<;>simp -dsimp at hc ⊢
  ·obtain ⟨w,hw⟩:=zfb hc
   obtain ⟨u,hu⟩:=zfb (L:=M) (k:=k) (by omega)
   have hk:k<(L.map F.cs).length:=by simpa using hc
   have hk2:k<(M.map F.cs).length:=by simp;omega
   simp only [hx.idxN hk,hy.idxN hk2,hx.cell (get_map hw),hy.cell (get_map hu),B.zd,B.zgl,F.neq]
   refine B.zt (fun hd=> ?_) (fun hd=> ?_)<;>simp -dsimp at hd ⊢
   ·rw [decide_eq_false fun e=>by subst e;rw [hw] at hu;cases hu;exact hd rfl] at hq
    exact hq
   ·simp [inc64 (n:=k) (by omega)]
    refine hY (L.length-(k+1)) _ _ (by omega) ⟨k+1,by omega,by simp,rfl,?_⟩
    rw [take_succ hw,take_succ hu,he,hd]
  ·rw [List.take_of_length_le (by omega),List.take_of_length_le (by omega)] at he
   rw [decide_eq_true he] at hq
   exact hq
def cmarks (mk:Int->T) (n:Nat):List (List AVal):=(List.range n).map fun (i:Nat)=>F.cs (mk (i:Int))
@[simp] theorem cmarks_len (mk:Int->T) (n:Nat):(cmarks F mk n).length=n:=by simp [cmarks]
end
def za.zk3 (h:za) (l:List Ob):za:=⟨fun i=>bif l.any (fun o=>o.foot==some i) then none else h i,by
 obtain ⟨n,k⟩:=h.2
 refine ⟨n,fun i hi=> ?_⟩
 show (bif l.any (fun o=>o.foot==some i) then none else h i)=none
 cases l.any (fun o=>o.foot==some i)
 ·exact k i hi
 ·rfl⟩
theorem zqq {h:za} {l:List Ob} {i:Nat} {o:Ob} (hm:o∈l) (hf:o.foot=some i):h.zk3 l i=none:=by
 have:(l.any fun o=>o.foot==some i)=true:=List.any_eq_true.2 ⟨o,hm,by simp [hf]⟩
 show (bif l.any (fun o=>o.foot==some i) then none else h i)=none
 rw [this];rfl
theorem zmg {h:za} {l:List Ob} {i:Nat} (hm: ∀ o∈l,o.foot≠some i):h.zk3 l i=h i:=by
 have:(l.any fun o=>o.foot==some i)=false:=by
  rw [<- Bool.not_eq_true,List.any_eq_true]
  rintro ⟨o,h1,h2⟩
  exact hm o h1 (by simpa using h2)
 show (bif l.any (fun o=>o.foot==some i) then none else h i)=_
 rw [this];rfl
theorem without_le (h:za) (l:List Ob):(h.zk3 l).le h:=fun i b e=>by
 by_cases hm: ∃ o∈l,o.foot=some i
 ·obtain ⟨o,h1,h2⟩:=hm
  rw [zqq h1 h2] at e;cases e
 ·rw [zmg fun o h1 h2=>hm ⟨o,h1,h2⟩] at e;exact e
theorem Owns.out {h0 h:za} {l1 l2:List Ob} (ho:Owns h0 h (l1++l2)):Owns h0 (h.zk3 l2) l1 /\ Owns (h.zk3 l2) h l2:=by
 obtain ⟨a1,a2,a3⟩:=List.pairwise_append.1 ho.apart
 have h1:h0.le (h.zk3 l2):=fun i b e=>by
  rw [zmg fun o hm hf=>by rw [(ho.own o (List.mem_append_right _ hm) i hf).1] at e;cases e]
  exact ho.le i b e
 have keep: ∀ o∈l1,∀ id,o.foot=some id->(h.zk3 l2) id=h id:=fun o hm id hf=>zmg fun o2 hm2 hf2=>a3 o hm o2 hm2 id hf hf2
 refine ⟨⟨h1,fun o hm=>(ho.is o (List.mem_append_left _ hm)).keep fun id b hf hb=>by rw [keep o hm id hf];exact hb,fun o hm id hf=> ?_,a1⟩,
  ⟨without_le h l2,fun o hm=>ho.is o (List.mem_append_right _ hm),fun o hm id hf=>⟨zqq hm hf,(ho.own o (List.mem_append_right _ hm) id hf).2⟩,a2⟩⟩
 obtain ⟨b1,b2⟩:=ho.own o (List.mem_append_left _ hm) id hf
 exact ⟨b1,fun b hb=>b2 b (by rw [<- keep o hm id hf];exact hb)⟩
theorem Owns.perm {h0 h:za} {l l':List Ob} (ho:Owns h0 h l) (hp:l.Perm l'):Owns h0 h l':=
 ⟨ho.le,fun o hm=>ho.is o (hp.mem_iff.2 hm),fun o hm=>ho.own o (hp.mem_iff.2 hm),(hp.pairwise_iff fun {a b} hab id hb ha=>hab id ha hb).1 ho.apart⟩
end Go.Ab
namespace Go.Ab
structure zrl where
 From:Int
 Until:Int
 deriving DecidableEq
@[simp] def zrl.cs (w:zrl):List AVal:=[.int .i64 w.From,.int .i64 w.Until]
@[simp] theorem zrl.eta (w:zrl):zrl.mk w.From w.Until=w:=rfl
structure Lot where
 Id:Int
 Item:List UInt8
 From:Int
 Until:Int
 Qty:Int
 Arrived:Bool
 deriving DecidableEq
@[simp] def Lot.cs (l:Lot):List AVal:=[.int .i64 l.Id,.str l.Item,.int .i64 l.From,.int .i64 l.Until,.int .i64 l.Qty,.bool l.Arrived]
def lotF:Flat Lot where
 cs:=Lot.cs
 es:=6
 sh:=[.i .i64,.s,.i .i64,.i .i64,.i .i64,.b]
 len _:=rfl
 pos:=by omega
 eq a b:=by
  cases a;cases b
  simp
structure Part where
 Item:List UInt8
 Qty:Int
 deriving DecidableEq
@[simp] def Part.cs (u:Part):List AVal:=[.str u.Item,.int .i64 u.Qty]
def partF:Flat Part where
 cs:=Part.cs
 es:=2
 sh:=[.s,.i .i64]
 len _:=rfl
 pos:=by omega
 eq a b:=by
  cases a;cases b
  simp
theorem u8_eq (a b:UInt8):decide ((a.toNat:Int)=b.toNat)=decide (a=b):=by
 rw [decide_eq_decide]
 constructor
 ·intro h;exact UInt8.toNat_inj.1 (by omega)
 ·intro h;rw [h]
structure Line where
 Id:Int
 Item:List UInt8
 Qty:Int
 Asked:Int
 Rank:Int
 State:UInt8
 Day:Int
 Code:List UInt8
 deriving DecidableEq
@[simp] def Line.cs (u:Line):List AVal:=[.int .i64 u.Id,.str u.Item,.int .i64 u.Qty,.int .i64 u.Asked,.int .i64 u.Rank,.int .u8 (u.State.toNat:Int),.int .i64 u.Day,.str u.Code]
def lineF:Flat Line where
 cs:=Line.cs
 es:=8
 sh:=[.i .i64,.s,.i .i64,.i .i64,.i .i64,.i .u8,.i .i64,.s]
 len _:=rfl
 pos:=by omega
 eq a b:=by
  cases a;cases b
  simp [u8_eq]
def bS:Scal UInt8 where
 c b:= .int .u8 b.toNat
 cell _:=rfl
 eql a b:=by rw [V.zf0,u8_eq]
 neq a b:=by rw [V.bin_neq,u8_eq]
abbrev bc:UInt8->List AVal:=bS.cs
def tS:Scal (List UInt8) where
 c b:= .str b
 cell _:=rfl
 eql a b:=by rw [V.bin_seql]
 neq a b:=by rw [V.bin_sneq]
abbrev tc:List UInt8->List AVal:=tS.cs
theorem wrap_u8 (n:Int):IntKind.u8.wrap n=n % 256:=by
 simp [IntKind.wrap,IntKind.bits,IntKind.signed]
def byt (m:Int):UInt8:=UInt8.ofNat (m % 256).toNat
theorem bin_shr {k j:IntKind} {a b:Int} (h0:0 <= b) (h1:b<k.bits):V.bin .shr (.int k a) (.int j b)=some (.int k (a.fdiv (2 ^ b.toNat))):=by
 simp only [V.bin,V.shift]
 rw [if_neg (by omega),Nat.min_eq_left (by omega)]
theorem wrap_u64 (n:Int):IntKind.u64.wrap n=n % 18446744073709551616:=by
 simp [IntKind.wrap,IntKind.bits,IntKind.signed]
def inI64 (n:Int):Prop:= -9223372036854775808 <= n /\ n <= 9223372036854775807
def Lot.ok (l:Lot):Prop:=inI64 l.Id /\ inI64 l.Qty
theorem u8_of {n:Int} (h1:IntKind.u8.min <= n) (h2:n <= IntKind.u8.max):((UInt8.ofNat n.toNat).toNat:Int)=n:=by
 simp [IntKind.min,IntKind.max,IntKind.bits,IntKind.signed] at h1 h2
 simp
 omega
abbrev tyWindow:Ty:= .st [.i .i64,.i .i64]
abbrev tyLot:Ty:= .st [.i .i64,.s,tyWindow,.i .i64,.b]
abbrev tyPart:Ty:= .st [.s,.i .i64]
abbrev tyLine:Ty:= .st [.i .i64,.s,.i .i64,.i .i64,.i .i64,.i .u8,.i .i64,.s]
theorem i64_of {n:Int} (h1:IntKind.i64.min <= n) (h2:n <= IntKind.i64.max):inI64 n:=by
 simp [IntKind.min,IntKind.max,IntKind.bits,IntKind.signed] at h1 h2
 exact ⟨h1,h2⟩
theorem zlr {T:Type} {H:za} {bytes es:Nat} {e:Ty} {v:AVal} (cs:T->List AVal) (P:T->Prop) (hd: ∀ p,zg0 H e p-> ∃ t,p=cs t /\ P t) (h:zg0 H (.sl bytes es e) [v]):
  ∃ L:List T,SlIs H es v (L.map cs) /\ L.length*bytes <= reach /\ ∀ t∈L,P t:=by
 obtain ⟨L,h1,h2⟩:=arg_slice (T:={ t:T // P t }) (fun t=>cs t.1) (fun p hp=>by obtain ⟨t,e,k⟩:=hd p hp;exact ⟨⟨t,k⟩,e⟩) h
 refine ⟨L.map (·.1),?_,by simpa using h2,fun t ht=> ?_⟩
 ·rw [List.map_map];exact h1
 ·obtain ⟨u,_,rfl⟩:=List.mem_map.1 ht;exact u.2
theorem dWindow {H:za} {p:List AVal} (h:zg0 H tyWindow p): ∃ w:zrl,p=w.cs:=by
 obtain ⟨a,r,rfl,⟨n,rfl,_⟩,⟨b,r2,rfl,⟨m,rfl,_⟩,hr⟩⟩:=h
 cases hr
 exact ⟨⟨n,m⟩,rfl⟩
def cA:Code->Code
 | .seq a _=>a
 | .cond _ a _=>a
 | .block _ b=>b
 | .loop b=>b
 | .scope b=>b
 | _=> .skip
def cB:Code->Code
 | .seq _ b=>b
 | .cond _ _ b=>b
 | _=> .skip
def cI:Code->Nat
 | .block i _=>i
 | _=>0
def isS:Code->Bool
 | .seq _ _=>true
 | _=>false
def isC (t:Nat):Code->Bool
 | .cond (.tmp k) _ _=>Nat.beq k t
 | _=>false
def isK:Code->Bool
 | .block _ _=>true
 | _=>false
def isL:Code->Bool
 | .loop _=>true
 | _=>false
section
variable {P:Program} {C:CSem} {I:Bx}
theorem eS (hC:zl0 C) {c:Code} {Q:Ex->zcd->za->Prop} {s:zcd} {h:za} (X:zcd->za->Prop) (ha:bwp P C I (cA c) (Ex.then X Q) s h) (hb: ∀ s h,X s h->bwp P C I (cB c) Q s h) (hk:isS c=true:=by kernel_rfl):bwp P C I c Q s h:=by
 cases c<;>first|exact seqB hC rfl hb ha|cases hk
theorem eC {c:Code} {Q:Ex->zcd->za->Prop} {p q:Prop} {s:zcd} {h:za} (t:Nat) (hr:A.cond (s t) p q) (hx:p->bwp P C I (cA c) Q s h) (hy:q->bwp P C I (cB c) Q s h) (hk:isC t c=true:=by kernel_rfl):bwp P C I c Q s h:=by
 cases c with
 | cond o x y=>
  cases o with
  | tmp k=>
   have e:k=t:=Nat.eq_of_beq_eq_true hk
   subst e
   exact condB rfl hx hy hr
  | _=>cases hk
 | _=>cases hk
theorem eK {c:Code} {Q:Ex->zcd->za->Prop} {s:zcd} {h:za} (hb:bwp P C I (cA c) (Ex.inBlock (cI c) Q) s h) (hk:isK c=true:=by kernel_rfl):bwp P C I c Q s h:=by
 cases c<;>first|exact hb|cases hk
theorem eL (hC:zl0 C) {c:Code} {Q:Ex->zcd->za->Prop} {s:zcd} {h:za} (keep live:List Nat) (G:List AVal->zG)
  (hr:zx (G (keep.map s)) (live.map s) h)
  (hG: ∀ (Y:zL) (s:zcd) (h:za),G (keep.map s) (live.map s) h Y->bwp P C I (cA c) (Ex.then (fun s h=>Y (live.map s) h) Q) s h)
  (hk:isL c=true:=by kernel_rfl) (hw:(keep.all fun k=> !memB (zha P I (cA c)) k)=true:=by kernel_rfl):bwp P C I c Q s h:=by
 cases c<;>first|exact loopB hC keep live rfl hw hG hr|cases hk
theorem e0 {q p:Prop} (hR:p) (e:q=p:=by kernel_rfl):q:=e.mpr hR
theorem e1 {c:Code} {Q:Ex->zcd->za->Prop} {s:zcd} {h:za} {p:Prop} (hR:p) (e:bwp P C I c Q s h=p:=by kernel_rfl):bwp P C I c Q s h:=e.mpr hR
theorem eF (hm:P.follows .mixedOrders=true) {f:FuncId} {fn:Func} {c:Code} {I:Bx} {args:List AVal} {h:za} {Q:zQ}
  (hx:zl0 (AC P) → bwp P (AC P) I c (retB P I fn.results.toList (dn Q)) (zdh args) h) (hf:P.funcs[f]? =some fn:=by kernel_rfl) (hb:fn.body=some c:=by kernel_rfl) (h1:(fn.name== "runtime.NumGoroutine")=false:=by kernel_rfl)
  (hc:ziv fn.ntmps c=true:=by kernel_rfl) (hne:Nat.beq f zob=false:=by kernel_rfl) (hl:Nat.ble args.length fn.ntmps=true:=by kernel_rfl) (hB:Nat.ble args.length I.B=true:=by kernel_rfl) (hk:chkC P I c=true:=by kernel_rfl):AC P f args h Q:=
 AC_drop (AC_introB hm hf hb (zmd hf (by rw [hb];rfl) h1) hc hne (Nat.le_of_ble_eq_true hl) (Nat.le_of_ble_eq_true hB) hk (hx (AC_cmono P)))
end
@[simp] def zdl.k1 (C:CSem) (N:zN) (Q:zQ) (c d:AVal) (h:za):Prop:=
 B.call C (N 389) [c] h fun b h=>
  B.gd h b true (fun K=>K d h) fun k h=>
  B.gd h b true (fun K=>B.call C (N 389) [k] h K) fun l h=>
  B.gd h b true (fun K=>B.pv (V.un .not l) fun v=>K v h) fun e h=>
  B.pick b e (.bool false) fun a=>
  B.gd h a false (fun K=>K c h) fun f h=>
  B.gd h a false (fun K=>K d h) fun g h=>
  B.gd h a false (fun K=>B.pv (V.bin .lss f g) fun v=>K v h) fun i h=>
  B.pick a (.bool true) i fun j=>
  Q j h
@[simp] def zdl.cps (C:CSem) (N:zN) (a b:AVal) (h:za) (Q:zQ):Prop:=
 zdl.k1 C N Q a b h
def zdl.Imp (C:CSem) (N:zN):Prop:=im2 C (N 377) (zdl.cps C N)
@[simp] def zdk.cps (C:CSem) (N:zN) (a:AVal) (h:za) (Q:zQ):Prop:=
 B.pv (V.bin .neq a a) fun b=>
  Q b h
def zdk.Imp (C:CSem) (N:zN):Prop:=im1 C (N 389) (zdk.cps C N)
@[simp] def zck.k1 (C:CSem) (N:zN) (Q:zQ) (b c:AVal) (h:za):Prop:=
 B.call C (N 389) [b] h fun f h=>
  B.call C (N 389) [c] h fun a h=>
  B.cond f
  (B.cond a
  (Q (.int .i64 0) h)
  (Q (.int .i64 (-1)) h))
  (B.cond a
  (Q (.int .i64 1) h)
  (B.pv (V.bin .lss b c) fun d=>
  B.cond d
  (Q (.int .i64 (-1)) h)
  (B.pv (V.bin .gtr b c) fun e=>
  B.cond e
  (Q (.int .i64 1) h)
  (Q (.int .i64 0) h))))
@[simp] def zck.cps (C:CSem) (N:zN) (a b:AVal) (h:za) (Q:zQ):Prop:=
 zck.k1 C N Q a b h
def zck.Imp (C:CSem) (N:zN):Prop:=im2 C (N 580) (zck.cps C N)
@[simp] def zc1.k1 (C:CSem) (N:zN) (Q:zQ) (Y1:zL) (o p a b:AVal) (h:za):Prop:=
 B.zfa h b fun d h=>
  B.pv (V.ext 0 d) fun e=>
  B.cond e
  (B.pv (A.zgv h b) fun f=>
  B.pv (V.ext 0 f) fun c=>
  B.zf2 h C o [c] fun g h=>
  B.pv (A.lkp h (some .s) (some (.int .i64 0)) false p g) fun i=>
  B.pv (V.bin .gtr i (.int .i64 0)) fun j=>
  B.cond j
  (B.newO h (ze2 [(0,none,c)] (repL 1 [.str []])) fun k h=>
  B.appW h 1 16 a (.sl k 0 0 1 1 1) fun l h=>
  Y1 [l] h)
  (Y1 [a] h))
  (B.call C (N 364) [a] h fun q h=>
  B.call C (N 365) [a] h fun m h=>
  B.call C (N 567) [m] h fun n h=>
  Q n h)
@[simp] def zc1.l2 (C:CSem) (N:zN) (Q:zQ) (b c a:AVal):zG
 | [d],h,Y1=>zc1.k1 C N Q Y1 b c d a h
 | _,_,_=>False
@[simp] def zc1.k3 (C:CSem) (N:zN) (Q:zQ) (Y2:zL) (i j f g k l a:AVal) (h:za):Prop:=
 B.pv (V.bin .lss a l) fun m=>
  B.cond m
  (B.pv (V.idxS 1 k a) fun n=>
  B.ld h n fun b=>
  B.pv (A.lkp h (some .s) (some (.str [])) true i b) fun d=>
  B.pv (V.ext 0 d) fun v=>
  B.pv (V.ext 1 d) fun o=>
  B.cond o
  (B.zf2 h C j [b] fun e h=>
  B.pv (A.lkp h (some .s) (some (.int .i64 0)) false f e) fun p=>
  B.pv (V.bin .add p (.int .i64 1)) fun q=>
  B.mset h .s f e q fun h=>
  B.pv (V.bin .add a (.int .i64 1)) fun c=>
  Y2 [g,c] h)
  (B.newO h (ze2 [(0,none,b)] (repL 1 [.str []])) fun r h=>
  B.appW h 1 16 g (.sl r 0 0 1 1 1) fun t h=>
  B.pv (V.bin .add a (.int .i64 1)) fun c=>
  Y2 [t,c] h))
  (B.rangeMap h i fun u h=>
  zx (zc1.l2 C N Q j f u) [g] h)
@[simp] def zc1.l4 (C:CSem) (N:zN) (Q:zQ) (d e f a b:AVal):zG
 | [g,c],h,Y2=>zc1.k3 C N Q Y2 d e f g a b c h
 | _,_,_=>False
@[simp] def zc1.k5 (C:CSem) (N:zN) (Q:zQ) (g b:AVal) (h:za):Prop:=
 B.call C (N 568) [g] h fun a h=>
  B.pv (V.ext 0 a) fun c=>
  B.pv (V.ext 1 a) fun d=>
  B.zl6 h fun e h=>
  B.pv (V.zcv b) fun f=>
  zx (zc1.l4 C N Q c d e b f) [.nils,(.int .i64 0)] h
@[simp] def zc1.cps (C:CSem) (N:zN) (a b:AVal) (h:za) (Q:zQ):Prop:=
 zc1.k5 C N Q a b h
def zc1.Imp (C:CSem) (N:zN):Prop:=im2 C (N 553) (zc1.cps C N)
@[simp] def zdo.k1 (C:CSem) (N:zN) (Q:zQ) (Y1:zL) (c a:AVal) (h:za):Prop:=
 B.zfa h a fun d h=>
  B.pv (V.ext 0 d) fun e=>
  B.cond e
  (B.pv (A.zgv h a) fun f=>
  B.pv (V.ext 1 f) fun b=>
  B.call C (N 364) [b] h fun k h=>
  B.call C (N 567) [b] h fun g h=>
  B.newO h (ze2 [(0,none,g)] (repL 1 [.nils])) fun i h=>
  B.appW h 1 24 c (.sl i 0 0 1 1 1) fun j h=>
  Y1 [j] h)
  (B.call C (N 566) [c,(.fn (N 565) [] [])] h fun l h=>
  Q c h)
@[simp] def zdo.l2 (C:CSem) (N:zN) (Q:zQ) (a:AVal):zG
 | [b],h,Y1=>zdo.k1 C N Q Y1 b a h
 | _,_,_=>False
@[simp] def zdo.k3 (C:CSem) (N:zN) (Q:zQ) (Y2:zL) (d c b:AVal) (h:za):Prop:=
 B.zfa h b fun e h=>
  B.pv (V.ext 0 e) fun f=>
  B.cond f
  (B.pv (A.zgv h b) fun g=>
  B.pv (V.ext 0 g) fun a=>
  B.zf2 h C d [a] fun i h=>
  B.zf2 h C d [a] fun j h=>
  B.pv (A.lkp h (some .s) (some (.nils)) false c j) fun k=>
  B.newO h (ze2 [(0,none,a)] (repL 1 [.str []])) fun l h=>
  B.appW h 1 16 k (.sl l 0 0 1 1 1) fun m h=>
  B.mset h .s c i m fun h=>
  Y2 [] h)
  (B.rangeMap h c fun n h=>
  zx (zdo.l2 C N Q n) [.nils] h)
@[simp] def zdo.l4 (C:CSem) (N:zN) (Q:zQ) (b c a:AVal):zG
 | [],h,Y2=>zdo.k3 C N Q Y2 b c a h
 | _,_,_=>False
@[simp] def zdo.k5 (C:CSem) (N:zN) (Q:zQ) (f:AVal) (h:za):Prop:=
 B.call C (N 568) [f] h fun a h=>
  B.pv (V.ext 0 a) fun b=>
  B.pv (V.ext 1 a) fun c=>
  B.zl6 h fun d h=>
  B.rangeMap h b fun e h=>
  zx (zdo.l4 C N Q c d e) [] h
@[simp] def zdo.cps (C:CSem) (N:zN) (a:AVal) (h:za) (Q:zQ):Prop:=
 zdo.k5 C N Q a h
def zdo.Imp (C:CSem) (N:zN):Prop:=im1 C (N 554) (zdo.cps C N)
@[simp] def zbx.k1 (C:CSem) (N:zN) (Q:zQ) (Y1:zL) (s f g b e a:AVal) (h:za):Prop:=
 B.pv (V.bin .lss b g) fun i=>
  B.cond i
  (B.pv (V.idxS 8 f b) fun j=>
  B.ldn h j 8 fun k=>
  B.pv (V.setN 0 8 k (.agg [.int .i64 0,.str [],.int .i64 0,.int .i64 0,.int .i64 0,.int .u8 0,.int .i64 0,.str []])) fun c=>
  B.al c (B.pv (V.zcm 1 c) fun l=>
  B.call C (N 442) [s,l] h fun m h=>
  B.cond m
  (B.al a (B.pv (V.zcm 5 a) fun n=>
  B.pv (V.zeq 0 8 c) fun o=>
  B.newO h (ze2 [(0,some 8,o)] (repL 1 [.int .i64 0,.str [],.int .i64 0,.int .i64 0,.int .i64 0,.int .u8 0,.int .i64 0,.str []])) fun p h=>
  B.appW h 8 80 n (.sl p 0 0 1 8 1) fun q h=>
  B.al a (B.pv (V.setF 5 q a) fun a=>
  B.pv (V.bin .add b (.int .i64 1)) fun d=>
  Y1 [d,a] h)))
  (B.pv (V.bin .add b (.int .i64 1)) fun d=>
  Y1 [d,a] h)))
  (B.pv (V.zeq 0 6 a) fun r=>
  B.pv (V.setN 0 6 r e) fun e=>
  B.pv (oneOf (zmq (V.zeq 0 6 e) (some []))) fun v=>Q v h)
@[simp] def zbx.l2 (C:CSem) (N:zN) (Q:zQ) (d a b e:AVal):zG
 | [c,f],h,Y1=>zbx.k1 C N Q Y1 d a b c e f h
 | _,_,_=>False
@[simp] def zbx.k3 (C:CSem) (N:zN) (Q:zQ) (Y2:zL) (f g i b j u a:AVal) (h:za):Prop:=
 B.pv (V.bin .lss b i) fun k=>
  B.cond k
  (B.pv (V.idxS 6 g b) fun l=>
  B.ldn h l 6 fun m=>
  B.pv (V.setN 0 6 m (.agg [.int .i64 0,.str [],.int .i64 0,.int .i64 0,.int .i64 0,.bool false])) fun e=>
  B.al e (B.pv (V.zcm 1 e) fun n=>
  B.call C (N 442) [f,n] h fun o h=>
  B.cond o
  (B.al a (B.pv (V.zcm 4 a) fun p=>
  B.pv (V.zeq 0 6 e) fun q=>
  B.newO h (ze2 [(0,some 6,q)] (repL 1 [.int .i64 0,.str [],.int .i64 0,.int .i64 0,.int .i64 0,.bool false])) fun r h=>
  B.appW h 6 56 p (.sl r 0 0 1 6 1) fun s h=>
  B.al a (B.pv (V.setF 4 s a) fun a=>
  B.pv (V.bin .add b (.int .i64 1)) fun c=>
  Y2 [c,a] h)))
  (B.pv (V.bin .add b (.int .i64 1)) fun c=>
  Y2 [c,a] h)))
  (B.al j (B.pv (V.zcm 5 j) fun d=>
  B.pv (V.zcv d) fun t=>
  zx (zbx.l2 C N Q f d t u) [(.int .i64 0),a] h))
@[simp] def zbx.l4 (C:CSem) (N:zN) (Q:zQ) (d a b e f:AVal):zG
 | [c,g],h,Y2=>zbx.k3 C N Q Y2 d a b c e f g h
 | _,_,_=>False
@[simp] def zbx.k5 (C:CSem) (N:zN) (Q:zQ) (Y3:zL) (g i j c f y b:AVal) (h:za):Prop:=
 B.pv (V.bin .lss c j) fun k=>
  B.cond k
  (B.pv (V.idxS 4 i c) fun l=>
  B.ldn h l 4 fun m=>
  B.pv (V.setN 0 4 m (.agg [.str [],.int .i64 0,.nils,.nils])) fun a=>
  B.al a (B.pv (V.zcm 0 a) fun n=>
  B.call C (N 442) [g,n] h fun o h=>
  B.cond o
  (B.al a (B.pv (V.zcm 2 a) fun p=>
  B.al a (B.pv (V.zcm 3 a) fun q=>
  B.call C (N 569) [p] h fun r h=>
  B.al a (B.call C (N 567) [q] h fun s h=>
  B.pv (V.setF 2 r a) fun a=>
  B.al a (B.pv (V.setF 3 s a) fun a=>
  B.al b (B.pv (V.zcm 3 b) fun t=>
  B.pv (V.zeq 0 4 a) fun u=>
  B.newO h (ze2 [(0,some 4,u)] (repL 1 [.str [],.int .i64 0,.nils,.nils])) fun v h=>
  B.appW h 4 72 t (.sl v 0 0 1 4 1) fun w h=>
  B.al b (B.pv (V.setF 3 w b) fun b=>
  B.pv (V.bin .add c (.int .i64 1)) fun d=>
  Y3 [d,b] h)))))))
  (B.pv (V.bin .add c (.int .i64 1)) fun d=>
  Y3 [d,b] h)))
  (B.al f (B.pv (V.zcm 4 f) fun e=>
  B.pv (V.zcv e) fun x=>
  zx (zbx.l4 C N Q g e x f y) [(.int .i64 0),b] h))
@[simp] def zbx.l6 (C:CSem) (N:zN) (Q:zQ) (d a b e f:AVal):zG
 | [c,g],h,Y3=>zbx.k5 C N Q Y3 d a b c e f g h
 | _,_,_=>False
@[simp] def zbx.k7 (C:CSem) (N:zN) (Q:zQ) (i a j:AVal) (h:za):Prop:=
 B.al a (B.pv (V.zcm 0 a) fun c=>
  B.al a (B.pv (V.zcm 1 a) fun d=>
  B.al a (B.pv (V.zcm 2 a) fun e=>
  B.pv (A.bld [(0,none,c),(1,none,d),(2,none,e)] [.int .i64 0,.int .i64 0,.int .i64 0,.nils,.nils,.nils]) fun f=>
  B.pv (V.setN 0 6 f (.agg [.int .i64 0,.int .i64 0,.int .i64 0,.nils,.nils,.nils])) fun k=>
  B.al a (B.pv (V.zcm 3 a) fun b=>
  B.pv (V.zcv b) fun g=>
  zx (zbx.l6 C N Q i b g a j) [(.int .i64 0),k] h))))
@[simp] def zbx.cps (C:CSem) (N:zN) (a b:AVal) (h:za) (Q:zQ):Prop:=
 B.pv (A.boxN 6 a) fun c=>
  zbx.k7 C N Q b c (.agg [.int .i64 0,.int .i64 0,.int .i64 0,.nils,.nils,.nils]) h
def zbx.Imp (C:CSem) (N:zN):Prop:=im2 C (N 558) (zbx.cps C N)
@[simp] def zn.k1 (C:CSem) (N:zN) (Q:zQ) (b:AVal) (h:za):Prop:=
 B.pv (V.fieldAddr 0 b) fun c=>
  B.ld h c fun d=>
  B.pv (V.bin .lss d (.int .u8 1)) fun a=>
  B.gd h a false (fun K=>B.pv (V.fieldAddr 0 b) fun v=>K v h) fun e h=>
  B.gd h a false (fun K=>B.ld h e fun v=>K v h) fun f h=>
  B.gd h a false (fun K=>B.pv (V.bin .gtr f (.int .u8 15)) fun v=>K v h) fun g h=>
  B.pick a (.bool true) g fun i=>
  B.cond i
  (Q .nils h)
  (B.newO h (ze2 [(0,none,(.str [42]))] (repL 1 [.str []])) fun j h=>
  Q (.sl j 0 0 1 1 1) h)
@[simp] def zn.k2 (C:CSem) (N:zN) (Q:zQ) (a k b:AVal) (h:za):Prop:=
 B.cond k
  (B.al b (B.pv (V.zcm 3 b) fun c=>
  B.pv (V.fieldAddr 2 a) fun d=>
  B.ld h d fun e=>
  B.newO h (ze2 [(0,none,e)] (repL 1 [.str []])) fun f h=>
  B.call C (N 553) [c,(.sl f 0 0 1 1 1)] h fun g h=>
  B.newO h (ze2 [(0,none,(.str [35,108,111,116]))] (repL 1 [.str []])) fun i h=>
  B.call C (N 570) [g,(.sl i 0 0 1 1 1)] h fun j h=>
  Q j h))
  (zn.k1 C N Q a h)
@[simp] def zn.k3 (C:CSem) (N:zN) (Q:zQ) (a k b:AVal) (h:za):Prop:=
 B.cond k
  (B.al b (B.pv (V.zcm 3 b) fun c=>
  B.pv (V.fieldAddr 2 a) fun d=>
  B.ld h d fun e=>
  B.newO h (ze2 [(0,none,e)] (repL 1 [.str []])) fun f h=>
  B.call C (N 553) [c,(.sl f 0 0 1 1 1)] h fun g h=>
  B.newO h (ze2 [(0,none,(.str [35,108,105,110,101]))] (repL 1 [.str []])) fun i h=>
  B.call C (N 570) [g,(.sl i 0 0 1 1 1)] h fun j h=>
  Q j h))
  (zn.k1 C N Q a h)
@[simp] def zn.k4 (C:CSem) (N:zN) (Q:zQ) (a i b:AVal) (h:za):Prop:=
 B.cond i
  (B.al b (B.pv (V.zcm 3 b) fun c=>
  B.pv (V.fieldAddr 2 a) fun d=>
  B.ld h d fun e=>
  B.newO h (ze2 [(0,none,e)] (repL 1 [.str []])) fun f h=>
  B.call C (N 553) [c,(.sl f 0 0 1 1 1)] h fun g h=>
  Q g h))
  (zn.k1 C N Q a h)
@[simp] def zn.k5 (C:CSem) (N:zN) (Q:zQ) (c a:AVal) (h:za):Prop:=
 B.al a (B.pv (V.zcm 4 a) fun d=>
  B.call C (N 572) [d,(.fn (N 571) [] [c])] h fun b h=>
  B.pv (V.bin .geq b (.int .i64 0)) fun e=>
  B.cond e
  (B.al a (B.pv (V.zcm 3 a) fun f=>
  B.al a (B.pv (V.zcm 4 a) fun g=>
  B.pv (V.idxS 6 g b) fun i=>
  B.pv (V.fieldAddr 1 i) fun j=>
  B.ld h j fun k=>
  B.newO h (ze2 [(0,none,k)] (repL 1 [.str []])) fun l h=>
  B.call C (N 553) [f,(.sl l 0 0 1 1 1)] h fun m h=>
  Q m h)))
  (zn.k1 C N Q c h))
@[simp] def zn.k6 (C:CSem) (N:zN) (Q:zQ) (c d a:AVal) (h:za):Prop:=
 B.cond d
  (B.al a (B.pv (V.zcm 5 a) fun e=>
  B.call C (N 206) [e,(.fn (N 573) [] [c])] h fun b h=>
  B.pv (V.bin .geq b (.int .i64 0)) fun f=>
  B.cond f
  (B.al a (B.pv (V.zcm 3 a) fun g=>
  B.al a (B.pv (V.zcm 5 a) fun i=>
  B.pv (V.idxS 8 i b) fun j=>
  B.pv (V.fieldAddr 1 j) fun k=>
  B.ld h k fun l=>
  B.newO h (ze2 [(0,none,l)] (repL 1 [.str []])) fun m h=>
  B.call C (N 553) [g,(.sl m 0 0 1 1 1)] h fun n h=>
  Q n h)))
  (zn.k1 C N Q c h)))
  (zn.k1 C N Q c h)
@[simp] def zn.k7 (C:CSem) (N:zN) (Q:zQ) (d a e:AVal) (h:za):Prop:=
 B.pv (V.bin .eql a (.int .u8 10)) fun b=>
  B.cond b
  (zn.k6 C N Q d b e h)
  (B.pv (V.bin .eql a (.int .u8 11)) fun c=>
  B.cond c
  (zn.k6 C N Q d c e h)
  (B.pv (V.bin .eql a (.int .u8 14)) fun f=>
  zn.k6 C N Q d f e h))
@[simp] def zn.k8 (C:CSem) (N:zN) (Q:zQ) (b a c:AVal) (h:za):Prop:=
 B.pv (V.bin .eql a (.int .u8 6)) fun d=>
  B.cond d
  (B.cond d (zn.k5 C N Q b c h) (zn.k7 C N Q b a c h))
  (B.pv (V.bin .eql a (.int .u8 7)) fun e=>
  B.cond e
  (B.cond e (zn.k5 C N Q b c h) (zn.k7 C N Q b a c h))
  (B.pv (V.bin .eql a (.int .u8 8)) fun f=>
  B.cond f (zn.k5 C N Q b c h) (zn.k7 C N Q b a c h)))
@[simp] def zn.k9 (C:CSem) (N:zN) (Q:zQ) (b e a c:AVal) (h:za):Prop:=
 B.pv (V.bin .eql a (.int .u8 13)) fun d=>
  B.cond d
  (B.cond d (zn.k4 C N Q b e c h) (zn.k8 C N Q b a c h))
  (B.pv (V.bin .eql a (.int .u8 15)) fun f=>
  B.cond f (zn.k4 C N Q b e c h) (zn.k8 C N Q b a c h))
@[simp] def zn.k10 (C:CSem) (N:zN) (Q:zQ) (b c a d:AVal) (h:za):Prop:=
 B.pv (V.bin .eql a (.int .u8 4)) fun f=>
  B.cond f
  (B.cond f (zn.k2 C N Q b c d h) (B.pv (V.bin .eql a (.int .u8 9)) fun e=>
  B.cond e (zn.k3 C N Q b c d h) (zn.k9 C N Q b c a d h)))
  (B.pv (V.bin .eql a (.int .u8 5)) fun g=>
  B.cond g (zn.k2 C N Q b c d h) (B.pv (V.bin .eql a (.int .u8 9)) fun e=>
  B.cond e (zn.k3 C N Q b c d h) (zn.k9 C N Q b c a d h)))
@[simp] def zn.k11 (C:CSem) (N:zN) (Q:zQ) (a b:AVal) (h:za):Prop:=
 B.al b (B.pv (V.zcm 3 b) fun f=>
  B.call C (N 575) [f,(.fn (N 574) [] [a])] h fun c h=>
  B.pv (V.fieldAddr 0 a) fun d=>
  B.ld h d fun e=>
  zn.k10 C N Q a c e b h)
@[simp] def zn.cps (C:CSem) (N:zN) (a b:AVal) (h:za) (Q:zQ):Prop:=
 B.pv (A.boxN 6 a) fun c=>
  B.newO h (A.znl 11 b) fun d h=>
  zn.k11 C N Q (.ptr d 0 0) c h
def zn.Imp (C:CSem) (N:zN):Prop:=im2 C (N 559) (zn.cps C N)
@[simp] def zep.cps (C:CSem) (N:zN) (a b:AVal) (h:za) (Q:zQ):Prop:=
 B.call C (N 578) [a,b] h fun c h=>
  Q c h
def zep.Imp (C:CSem) (N:zN):Prop:=im2 C (N 565) (zep.cps C N)
@[simp] def zq.k1 (C:CSem) (N:zN) (Q:zQ) (Y1:zL) (Y2:zL) (q r m n o c d e a b:AVal) (h:za):Prop:=
 B.pv (V.bin .lss a e) fun f=>
  B.cond f
  (B.pv (V.idxS 1 d a) fun g=>
  B.ld h g fun i=>
  B.al b (B.pv (V.zcm 0 b) fun j=>
  B.zf2 h C m [j,i] fun p h=>
  B.pv (V.bin .add a (.int .i64 1)) fun k=>
  Y2 [k] h))
  (B.pv (V.bin .add c (.int .i64 1)) fun l=>
  Y1 [l] h)
@[simp] def zq.l2 (C:CSem) (N:zN) (Q:zQ) (Y1:zL) (i j k a b c d e f:AVal):zG
 | [g],h,Y2=>zq.k1 C N Q Y1 Y2 i j k a b c d e g f h
 | _,_,_=>False
@[simp] def zq.k3 (C:CSem) (N:zN) (Q:zQ) (Y1:zL) (g i j c d e a:AVal) (h:za):Prop:=
 B.al a (B.pv (V.zcm 3 a) fun b=>
  B.pv (V.zcv b) fun f=>
  zx (zq.l2 C N Q Y1 g i j c d e b f a) [(.int .i64 0)] h)
@[simp] def zq.k4 (C:CSem) (N:zN) (Q:zQ) (Y1:zL) (Y3:zL) (q r d e f g i j a b:AVal) (h:za):Prop:=
 B.pv (V.bin .lss a j) fun k=>
  B.cond k
  (B.pv (V.idxS 2 i a) fun l=>
  B.ldn h l 2 fun m=>
  B.pv (V.setN 0 2 m (.agg [.str [],.int .i64 0])) fun c=>
  B.al b (B.pv (V.zcm 0 b) fun n=>
  B.al c (B.pv (V.zcm 0 c) fun o=>
  B.zf2 h C d [n,o] fun s h=>
  B.pv (V.bin .add a (.int .i64 1)) fun p=>
  Y3 [p] h)))
  (zq.k3 C N Q Y1 q r d e f g b h)
@[simp] def zq.l5 (C:CSem) (N:zN) (Q:zQ) (Y1:zL) (i j k a b c d e f:AVal):zG
 | [g],h,Y3=>zq.k4 C N Q Y1 Y3 i j k a b c d e g f h
 | _,_,_=>False
@[simp] def zq.k6 (C:CSem) (N:zN) (Q:zQ) (Y1:zL) (g i j c d e a:AVal) (h:za):Prop:=
 B.al a (B.pv (V.zcm 2 a) fun b=>
  B.pv (V.zcv b) fun f=>
  zx (zq.l5 C N Q Y1 g i j c d e b f a) [(.int .i64 0)] h)
@[simp] def zq.k7 (C:CSem) (N:zN) (Q:zQ) (Y1:zL) (g i j a c b:AVal) (h:za):Prop:=
 B.pv (V.idxS 4 a b) fun d=>
  B.ldn h d 4 fun e=>
  B.pv (V.setN 0 4 e (.agg [.str [],.int .i64 0,.nils,.nils])) fun f=>
  zq.k6 C N Q Y1 g i j a c b f h
@[simp] def zq.k8 (C:CSem) (N:zN) (Q:zQ) (Y1:zL) (c d j e a b:AVal) (h:za):Prop:=
 B.pv (V.bin .lss b a) fun f=>
  B.cond f
  (zq.k7 C N Q Y1 c d j e a b h)
  (B.ld h c fun g=>
  B.ld h d fun i=>
  Q (.tup [g,i]) h)
@[simp] def zq.l9 (C:CSem) (N:zN) (Q:zQ) (d e f a b:AVal):zG
 | [c],h,Y1=>zq.k8 C N Q Y1 d e f a b c h
 | _,_,_=>False
@[simp] def zq.k10 (C:CSem) (N:zN) (Q:zQ) (c a:AVal) (h:za):Prop:=
 B.newO h (some [.nilf]) fun b h=>
  B.st h (.ptr b 0 0) (.fn (N 577) [] [a]) fun h=>
  B.pv (V.zcv c) fun d=>
  zx (zq.l9 C N Q a (.ptr b 0 0) (.fn (N 576) [] [a,(.ptr b 0 0)]) c d) [(.int .i64 0)] h
@[simp] def zq.k11 (C:CSem) (N:zN) (Q:zQ) (Y4:zL) (n c d e a:AVal) (h:za):Prop:=
 B.pv (V.bin .lss a e) fun f=>
  B.cond f
  (B.pv (V.idxS 4 d a) fun g=>
  B.ldn h g 4 fun i=>
  B.pv (V.setN 0 4 i (.agg [.str [],.int .i64 0,.nils,.nils])) fun b=>
  B.ld h c fun j=>
  B.al b (B.pv (V.zcm 0 b) fun k=>
  B.al b (B.pv (V.zcm 0 b) fun l=>
  B.mset h .s j k l fun h=>
  B.pv (V.bin .add a (.int .i64 1)) fun m=>
  Y4 [m] h)))
  (zq.k10 C N Q n c h)
@[simp] def zq.l12 (C:CSem) (N:zN) (Q:zQ) (d e a b:AVal):zG
 | [c],h,Y4=>zq.k11 C N Q Y4 d e a b c h
 | _,_,_=>False
@[simp] def zq.k13 (C:CSem) (N:zN) (Q:zQ) (a:AVal) (h:za):Prop:=
 B.zl6 h fun b h=>
  B.newO h (some [.nilm]) fun c h=>
  B.st h (.ptr c 0 0) b fun h=>
  B.pv (V.zcv a) fun d=>
  zx (zq.l12 C N Q a (.ptr c 0 0) a d) [(.int .i64 0)] h
@[simp] def zq.cps (C:CSem) (N:zN) (a:AVal) (h:za) (Q:zQ):Prop:=
 zq.k13 C N Q a h
def zq.Imp (C:CSem) (N:zN):Prop:=im1 C (N 568) (zq.cps C N)
@[simp] def zd7.k1 (C:CSem) (N:zN) (Q:zQ) (d e:AVal) (h:za):Prop:=
 B.newO h (ze2 [(0,none,d),(1,none,e)] (repL 2 [.nils])) fun f h=>
  B.call C (N 373) [(.sl f 0 0 2 1 2)] h fun a h=>
  B.call C (N 364) [a] h fun g h=>
  B.call C (N 365) [a] h fun b h=>
  B.call C (N 567) [b] h fun c h=>
  Q c h
@[simp] def zd7.cps (C:CSem) (N:zN) (a b:AVal) (h:za) (Q:zQ):Prop:=
 zd7.k1 C N Q a b h
def zd7.Imp (C:CSem) (N:zN):Prop:=im2 C (N 570) (zd7.cps C N)
@[simp] def zdx.k1 (C:CSem) (N:zN) (Q:zQ) (b c:AVal) (h:za):Prop:=
 B.pv (A.boxN 6 b) fun a=>
  B.al a (B.pv (V.zcm 0 a) fun d=>
  B.pv (V.fieldAddr 7 c) fun e=>
  B.ld h e fun f=>
  B.pv (V.bin .eql d f) fun g=>
  Q g h)
@[simp] def zdx.cps (C:CSem) (N:zN) (a b:AVal) (h:za) (Q:zQ):Prop:=
 zdx.k1 C N Q a b h
def zdx.Imp (C:CSem) (N:zN):Prop:=im2 C (N 571) (zdx.cps C N)
@[simp] def zdw.k1 (C:CSem) (N:zN) (Q:zQ) (b c:AVal) (h:za):Prop:=
 B.pv (A.boxN 8 b) fun a=>
  B.al a (B.pv (V.zcm 0 a) fun d=>
  B.pv (V.fieldAddr 8 c) fun e=>
  B.ld h e fun f=>
  B.pv (V.bin .eql d f) fun g=>
  Q g h)
@[simp] def zdw.cps (C:CSem) (N:zN) (a b:AVal) (h:za) (Q:zQ):Prop:=
 zdw.k1 C N Q a b h
def zdw.Imp (C:CSem) (N:zN):Prop:=im2 C (N 573) (zdw.cps C N)
@[simp] def zdy.k1 (C:CSem) (N:zN) (Q:zQ) (b c:AVal) (h:za):Prop:=
 B.pv (A.boxN 4 b) fun a=>
  B.al a (B.pv (V.zcm 0 a) fun d=>
  B.pv (V.fieldAddr 2 c) fun e=>
  B.ld h e fun f=>
  B.pv (V.bin .eql d f) fun g=>
  Q g h)
@[simp] def zdy.cps (C:CSem) (N:zN) (a b:AVal) (h:za) (Q:zQ):Prop:=
 zdy.k1 C N Q a b h
def zdy.Imp (C:CSem) (N:zN):Prop:=im2 C (N 574) (zdy.cps C N)
@[simp] def zdc.k1 (C:CSem) (N:zN) (Q:zQ) (l d a c:AVal) (h:za):Prop:=
 B.ld h a fun m=>
  B.pv (A.lkp h (some .s) (some (.str [])) true m d) fun b=>
  B.pv (V.ext 0 b) fun n=>
  B.pv (V.ext 1 b) fun e=>
  B.cond e
  (B.ld h a fun f=>
  B.ld h c fun g=>
  B.ld h c fun i=>
  B.zf2 h C g [l] (B.keepS h [(a,none),(c,none)] (fun j h=>B.zf2 h C i [d] (B.keepS h [(a,none)] (fun k h=>B.mset h .s f j k fun h=>
  Q (.tup []) h)))))
  (Q (.tup []) h)
@[simp] def zdc.cps (C:CSem) (N:zN) (a b c d:AVal) (h:za) (Q:zQ):Prop:=
 zdc.k1 C N Q a b c d h
def zdc.Imp (C:CSem) (N:zN):Prop:=im4 C (N 576) (zdc.cps C N)
@[simp] def zch.k1 (C:CSem) (N:zN) (Q:zQ) (Y1:zL) (a b:AVal) (h:za):Prop:=
 B.ld h b fun d=>
  B.pv (A.lkp h (some .s) (some (.str [])) false d a) fun e=>
  B.pv (V.bin .neq e a) fun f=>
  B.cond f
  (B.ld h b fun g=>
  B.pv (A.lkp h (some .s) (some (.str [])) false g a) fun c=>
  Y1 [c] h)
  (Q a h)
@[simp] def zch.l2 (C:CSem) (N:zN) (Q:zQ) (a:AVal):zG
 | [b],h,Y1=>zch.k1 C N Q Y1 b a h
 | _,_,_=>False
@[simp] def zch.cps (C:CSem) (N:zN) (a b:AVal) (h:za) (Q:zQ):Prop:=
 zx (zch.l2 C N Q b) [a] h
def zch.Imp (C:CSem) (N:zN):Prop:=im2 C (N 577) (zch.cps C N)
@[simp] def zd3.k3 (C:CSem) (N:zN) (Q:zQ) (a c:AVal) (h:za):Prop:=
 B.pv (V.zcv a) fun e=>
  B.pv (V.zcv c) fun f=>
  B.pv (V.bin .neq e f) fun d=>
  B.cond d
  (Q (.bool false) h)
  (zx (zkz.l4 6 [.i .i64,.s,.i .i64,.i .i64,.i .i64,.b] Q a c) [(.int .i64 0)] h)
def zd3.cps (C:CSem) (N:zN) (a b:AVal) (h:za) (Q:zQ):Prop:=
 zd3.k3 C N Q a b h
def zd3.Imp (C:CSem) (N:zN):Prop:=im2 C (N 74) (zd3.cps C N)
@[simp] def zd6.k1 (C:CSem) (N:zN) (Q:zQ) (q r:AVal) (h:za):Prop:=
 B.pv (A.boxN 4 q) fun c=>
  B.pv (A.boxN 4 r) fun d=>
  B.al c (B.pv (V.zcm 0 c) fun s=>
  B.al d (B.pv (V.zcm 0 d) fun t=>
  B.pv (V.bin .eql s t) fun e=>
  B.al c (B.gd h e true (fun K=>K .undef h) fun _ h=>
  B.gd h e true (fun K=>B.pv (V.zcm 1 c) fun v=>K v h) fun f h=>
  B.al d (B.gd h e true (fun K=>K .undef h) fun _ h=>
  B.gd h e true (fun K=>B.pv (V.zcm 1 d) fun v=>K v h) fun g h=>
  B.gd h e true (fun K=>B.pv (V.bin .eql f g) fun v=>K v h) fun i h=>
  B.pick e i (.bool false) fun a=>
  B.al c (B.gd h a true (fun K=>K .undef h) fun _ h=>
  B.gd h a true (fun K=>B.pv (V.zcm 2 c) fun v=>K v h) fun j h=>
  B.al d (B.gd h a true (fun K=>K .undef h) fun _ h=>
  B.gd h a true (fun K=>B.pv (V.zcm 2 d) fun v=>K v h) fun k h=>
  B.gd h a true (fun K=>B.call C (N 132) [j,k] h K) fun l h=>
  B.pick a l (.bool false) fun b=>
  B.al c (B.gd h b true (fun K=>K .undef h) fun _ h=>
  B.gd h b true (fun K=>B.pv (V.zcm 3 c) fun v=>K v h) fun m h=>
  B.al d (B.gd h b true (fun K=>K .undef h) fun _ h=>
  B.gd h b true (fun K=>B.pv (V.zcm 3 d) fun v=>K v h) fun n h=>
  B.gd h b true (fun K=>B.call C (N 133) [m,n] h K) fun o h=>
  B.pick b o (.bool false) fun p=>
  Q p h))))))))
@[simp] def zd6.cps (C:CSem) (N:zN) (a b:AVal) (h:za) (Q:zQ):Prop:=
 zd6.k1 C N Q a b h
def zd6.Imp (C:CSem) (N:zN):Prop:=im2 C (N 110) (zd6.cps C N)
@[simp] def zdv.k1 (C:CSem) (N:zN) (Q:zQ) (z v1:AVal) (h:za):Prop:=
 B.pv (A.boxN 6 z) fun a=>
  B.pv (A.boxN 6 v1) fun b=>
  B.al a (B.pv (V.zcm 0 a) fun v6=>
  B.al b (B.pv (V.zcm 0 b) fun v8=>
  B.pv (V.bin .eql v6 v8) fun g=>
  B.al a (B.gd h g true (fun K=>K .undef h) fun _ h=>
  B.gd h g true (fun K=>B.pv (V.zcm 1 a) fun v=>K v h) fun i h=>
  B.al b (B.gd h g true (fun K=>K .undef h) fun _ h=>
  B.gd h g true (fun K=>B.pv (V.zcm 1 b) fun v=>K v h) fun j h=>
  B.gd h g true (fun K=>B.pv (V.bin .eql i j) fun v=>K v h) fun k h=>
  B.pick g k (.bool false) fun c=>
  B.al a (B.gd h c true (fun K=>K .undef h) fun _ h=>
  B.gd h c true (fun K=>B.pv (V.zcm 2 a) fun v=>K v h) fun l h=>
  B.al b (B.gd h c true (fun K=>K .undef h) fun _ h=>
  B.gd h c true (fun K=>B.pv (V.zcm 2 b) fun v=>K v h) fun m h=>
  B.gd h c true (fun K=>B.pv (V.bin .eql l m) fun v=>K v h) fun n h=>
  B.pick c n (.bool false) fun d=>
  B.al a (B.gd h d true (fun K=>K .undef h) fun _ h=>
  B.gd h d true (fun K=>B.pv (V.zcm 3 a) fun v=>K v h) fun o h=>
  B.al b (B.gd h d true (fun K=>K .undef h) fun _ h=>
  B.gd h d true (fun K=>B.pv (V.zcm 3 b) fun v=>K v h) fun p h=>
  B.gd h d true (fun K=>B.call C (N 134) [o,p] h K) fun q h=>
  B.pick d q (.bool false) fun e=>
  B.al a (B.gd h e true (fun K=>K .undef h) fun _ h=>
  B.gd h e true (fun K=>B.pv (V.zcm 4 a) fun v=>K v h) fun r h=>
  B.al b (B.gd h e true (fun K=>K .undef h) fun _ h=>
  B.gd h e true (fun K=>B.pv (V.zcm 4 b) fun v=>K v h) fun s h=>
  B.gd h e true (fun K=>B.call C (N 74) [r,s] h K) fun t h=>
  B.pick e t (.bool false) fun f=>
  B.al a (B.gd h f true (fun K=>K .undef h) fun _ h=>
  B.gd h f true (fun K=>B.pv (V.zcm 5 a) fun v=>K v h) fun u h=>
  B.al b (B.gd h f true (fun K=>K .undef h) fun _ h=>
  B.gd h f true (fun K=>B.pv (V.zcm 5 b) fun v=>K v h) fun w h=>
  B.gd h f true (fun K=>B.call C (N 135) [u,w] h K) fun x h=>
  B.pick f x (.bool false) fun y=>
  Q y h))))))))))))
@[simp] def zdv.cps (C:CSem) (N:zN) (a b:AVal) (h:za) (Q:zQ):Prop:=
 zdv.k1 C N Q a b h
def zdv.Imp (C:CSem) (N:zN):Prop:=im2 C (N 116) (zdv.cps C N)
@[simp] def zdp.k3 (C:CSem) (N:zN) (Q:zQ) (a b:AVal) (h:za):Prop:=
 B.pv (V.zcv a) fun d=>
  B.pv (V.zcv b) fun e=>
  B.pv (V.bin .neq d e) fun c=>
  B.cond c
  (Q (.bool false) h)
  (zx (zkz.l4 2 [.s,.i .i64] Q a b) [(.int .i64 0)] h)
def zdp.cps (C:CSem) (N:zN) (a b:AVal) (h:za) (Q:zQ):Prop:=
 zdp.k3 C N Q a b h
def zdp.Imp (C:CSem) (N:zN):Prop:=im2 C (N 132) (zdp.cps C N)
@[simp] def zdi.k3 (C:CSem) (N:zN) (Q:zQ) (a b:AVal) (h:za):Prop:=
 B.pv (V.zcv a) fun d=>
  B.pv (V.zcv b) fun e=>
  B.pv (V.bin .neq d e) fun c=>
  B.cond c
  (Q (.bool false) h)
  (zx (zqi.l4  Q a b) [(.int .i64 0)] h)
def zdi.cps (C:CSem) (N:zN) (a b:AVal) (h:za) (Q:zQ):Prop:=
 zdi.k3 C N Q a b h
def zdi.Imp (C:CSem) (N:zN):Prop:=im2 C (N 133) (zdi.cps C N)
@[simp] def zc9.k1 (C:CSem) (N:zN) (Q:zQ) (Y1:zL) (b m a:AVal) (h:za):Prop:=
 B.pv (V.zcv b) fun c=>
  B.pv (V.bin .lss a c) fun d=>
  B.cond d
  (B.pv (V.idxS 4 b a) fun e=>
  B.ldn h e 4 fun f=>
  B.pv (V.idxS 4 m a) fun g=>
  B.ldn h g 4 fun i=>
  B.call C (N 110) [f,i] h fun j h=>
  B.pv (V.un .not j) fun k=>
  B.cond k
  (Q (.bool false) h)
  (B.pv (V.bin .add a (.int .i64 1)) fun l=>
  Y1 [l] h))
  (Q (.bool true) h)
@[simp] def zc9.l2 (C:CSem) (N:zN) (Q:zQ) (a b:AVal):zG
 | [c],h,Y1=>zc9.k1 C N Q Y1 a b c h
 | _,_,_=>False
@[simp] def zc9.k3 (C:CSem) (N:zN) (Q:zQ) (a b:AVal) (h:za):Prop:=
 B.pv (V.zcv a) fun d=>
  B.pv (V.zcv b) fun e=>
  B.pv (V.bin .neq d e) fun c=>
  B.cond c
  (Q (.bool false) h)
  (zx (zc9.l2 C N Q a b) [(.int .i64 0)] h)
@[simp] def zc9.cps (C:CSem) (N:zN) (a b:AVal) (h:za) (Q:zQ):Prop:=
 zc9.k3 C N Q a b h
def zc9.Imp (C:CSem) (N:zN):Prop:=im2 C (N 134) (zc9.cps C N)
@[simp] def zdq.k3 (C:CSem) (N:zN) (Q:zQ) (a b:AVal) (h:za):Prop:=
 B.pv (V.zcv a) fun d=>
  B.pv (V.zcv b) fun e=>
  B.pv (V.bin .neq d e) fun c=>
  B.cond c
  (Q (.bool false) h)
  (zx (zkz.l4 8 [.i .i64,.s,.i .i64,.i .i64,.i .i64,.i .u8,.i .i64,.s] Q a b) [(.int .i64 0)] h)
def zdq.cps (C:CSem) (N:zN) (a b:AVal) (h:za) (Q:zQ):Prop:=
 zdq.k3 C N Q a b h
def zdq.Imp (C:CSem) (N:zN):Prop:=im2 C (N 135) (zdq.cps C N)
@[simp] def zc7.k1 (C:CSem) (N:zN) (Q:zQ) (Y1:zL) (Y2:zL) (c p a b:AVal) (h:za):Prop:=
 B.pv (V.idxS 1 c a) fun d=>
  B.ld h d fun e=>
  B.pv (V.zcv e) fun f=>
  B.pv (V.bin .lss b f) fun g=>
  B.cond g
  (B.pv (V.idxS 1 c a) fun i=>
  B.ld h i fun j=>
  B.pv (V.idxS 1 j b) fun k=>
  B.ld h k fun l=>
  B.pv (V.bin .eql l p) fun m=>
  B.cond m
  (Q a h)
  (B.pv (V.bin .add b (.int .i64 1)) fun n=>
  Y2 [n] h))
  (B.pv (V.bin .add a (.int .i64 1)) fun o=>
  Y1 [o] h)
@[simp] def zc7.l2 (C:CSem) (N:zN) (Q:zQ) (Y1:zL) (a b c:AVal):zG
 | [d],h,Y2=>zc7.k1 C N Q Y1 Y2 a b c d h
 | _,_,_=>False
@[simp] def zc7.k3 (C:CSem) (N:zN) (Q:zQ) (Y1:zL) (a d b:AVal) (h:za):Prop:=
 B.pv (V.zcv a) fun e=>
  B.pv (V.bin .lss b e) fun c=>
  B.cond c
  (zx (zc7.l2 C N Q Y1 a d b) [(.int .i64 0)] h)
  (Q (.int .i64 (-1)) h)
@[simp] def zc7.l4 (C:CSem) (N:zN) (Q:zQ) (a b:AVal):zG
 | [c],h,Y1=>zc7.k3 C N Q Y1 a b c h
 | _,_,_=>False
@[simp] def zc7.cps (C:CSem) (N:zN) (a b:AVal) (h:za) (Q:zQ):Prop:=
 zx (zc7.l4 C N Q a b) [(.int .i64 0)] h
def zc7.Imp (C:CSem) (N:zN):Prop:=im2 C (N 552) (zc7.cps C N)
@[simp] def zc8.k1 (C:CSem) (N:zN) (Q:zQ) (c l:AVal) (h:za):Prop:=
 B.call C (N 564) [c] h fun d h=>
  B.pv (V.bin .gtr d (.int .i64 300)) fun a=>
  B.gd h a false (fun K=>K c h) fun e h=>
  B.gd h a false (fun K=>B.pv (V.zcv e) fun v=>K v h) fun f h=>
  B.gd h a false (fun K=>B.pv (V.bin .gtr f (.int .i64 70)) fun v=>K v h) fun g h=>
  B.pick a (.bool true) g fun b=>
  B.gd h b false (fun K=>K l h) fun i h=>
  B.gd h b false (fun K=>B.pv (V.bin .gtr i (.int .i64 200)) fun v=>K v h) fun j h=>
  B.pick b (.bool true) j fun k=>
  Q k h
@[simp] def zc8.k2 (C:CSem) (N:zN) (Q:zQ) (Y1:zL) (p d b c:AVal) (h:za):Prop:=
 B.pv (V.zcv d) fun q=>
  B.pv (V.bin .lss c q) fun a=>
  B.gd h a true (fun K=>K b h) fun e h=>
  B.gd h a true (fun K=>B.pv (V.bin .leq e (.int .i64 200)) fun v=>K v h) fun f h=>
  B.pick a f (.bool false) fun g=>
  B.cond g
  (B.pv (V.bin .add b (.int .i64 1)) fun i=>
  B.pv (V.idxS 1 d c) fun j=>
  B.ld h j fun k=>
  B.pv (V.zg6 k) fun l=>
  B.pv (V.bin .quo l (.int .i64 20)) fun m=>
  B.pv (V.bin .add i m) fun n=>
  B.pv (V.bin .add c (.int .i64 1)) fun o=>
  Y1 [n,o] h)
  (zc8.k1 C N Q p b h)
@[simp] def zc8.l3 (C:CSem) (N:zN) (Q:zQ) (a b:AVal):zG
 | [c,d],h,Y1=>zc8.k2 C N Q Y1 a b c d h
 | _,_,_=>False
@[simp] def zc8.cps (C:CSem) (N:zN) (a b:AVal) (h:za) (Q:zQ):Prop:=
 zx (zc8.l3 C N Q a b) [(.int .i64 0),(.int .i64 0)] h
def zc8.Imp (C:CSem) (N:zN):Prop:=im2 C (N 555) (zc8.cps C N)
@[simp] def zd8.k1 (C:CSem) (N:zN) (Q:zQ) (h:za):Prop:=
 B.call C (N 562) [] h fun v2 h=>
  B.pv (A.bld [(0,none,(.int .i64 3)),(1,none,(.str [68]))] [.int .i64 0,.str [],.int .i64 0,.int .i64 0,.int .i64 0,.bool false]) fun v3=>
  B.newO h (ze2 [(0,some 6,v3)] (repL 1 [.int .i64 0,.str [],.int .i64 0,.int .i64 0,.int .i64 0,.bool false])) fun i4 h=>
  B.pv (A.bld [(3,none,v2),(4,none,(.sl i4 0 0 1 6 1))] [.int .i64 0,.int .i64 0,.int .i64 0,.nils,.nils,.nils]) fun v5=>
  B.pv (V.setN 0 6 v5 (.agg [.int .i64 0,.int .i64 0,.int .i64 0,.nils,.nils,.nils])) fun f=>
  B.call C (N 562) [] h fun v6 h=>
  B.call C (N 554) [v6] h fun v7 h=>
  B.newO h (ze2 [(0,none,(.str [65])),(1,none,(.str [75]))] (repL 2 [.str []])) fun i8 h=>
  B.newO h (ze2 [(0,none,(.str [66])),(1,none,(.str [67]))] (repL 2 [.str []])) fun i9 h=>
  B.newO h (ze2 [(0,none,(.str [68]))] (repL 1 [.str []])) fun g h=>
  B.newO h (ze2 [(0,none,(.sl i8 0 0 2 1 2)),(1,none,(.sl i9 0 0 2 1 2)),(2,none,(.sl g 0 0 1 1 1))] (repL 3 [.nils])) fun j h=>
  B.call C (N 563) [v7,(.sl j 0 0 3 1 3)] h fun b h=>
  B.gd h b true (fun K=>B.call C (N 562) [] h K) fun k h=>
  B.gd h b true (fun K=>B.newO h (ze2 [(0,none,(.str [75])),(1,none,(.str [90]))] (repL 2 [.str []])) fun i h=>K (.sl i 0 0 2 1 2) h) fun l h=>
  B.gd h b true (fun K=>B.call C (N 553) [k,l] h K) fun m h=>
  B.gd h b true (fun K=>B.newO h (ze2 [(0,none,(.str [65])),(1,none,(.str [75])),(2,none,(.str [90]))] (repL 3 [.str []])) fun i h=>K (.sl i 0 0 3 1 3) h) fun n h=>
  B.gd h b true (fun K=>B.call C (N 133) [m,n] h K) fun o h=>
  B.pick b o (.bool false) fun c=>
  B.gd h c true (fun K=>B.pv (V.zeq 0 6 f) fun v=>K v h) fun p h=>
  B.gd h c true (fun K=>B.pv (A.bld [(0,none,(.int .u8 4)),(2,none,(.str [67]))] [.int .u8 0,.int .i64 0,.str [],.int .i64 0,.int .i64 0,.int .i64 0,.int .i64 0,.int .i64 0,.int .i64 0,.nils,.nils]) fun v=>K v h) fun q h=>
  B.gd h c true (fun K=>B.call C (N 559) [p,q] h K) fun r h=>
  B.gd h c true (fun K=>B.newO h (ze2 [(0,none,(.str [35,108,111,116])),(1,none,(.str [66])),(2,none,(.str [67]))] (repL 3 [.str []])) fun i h=>K (.sl i 0 0 3 1 3) h) fun s h=>
  B.gd h c true (fun K=>B.call C (N 133) [r,s] h K) fun t h=>
  B.pick c t (.bool false) fun d=>
  B.gd h d true (fun K=>B.pv (V.zeq 0 6 f) fun v=>K v h) fun u h=>
  B.gd h d true (fun K=>B.pv (A.bld [(0,none,(.int .u8 11)),(8,none,(.int .i64 3))] [.int .u8 0,.int .i64 0,.str [],.int .i64 0,.int .i64 0,.int .i64 0,.int .i64 0,.int .i64 0,.int .i64 0,.nils,.nils]) fun v=>K v h) fun w h=>
  B.gd h d true (fun K=>B.call C (N 559) [u,w] h K) fun x h=>
  B.gd h d true (fun K=>B.newO h (ze2 [(0,none,(.str [42]))] (repL 1 [.str []])) fun i h=>K (.sl i 0 0 1 1 1) h) fun y h=>
  B.gd h d true (fun K=>B.call C (N 133) [x,y] h K) fun z h=>
  B.pick d z (.bool false) fun e=>
  B.gd h e true (fun K=>B.pv (V.zeq 0 6 f) fun v=>K v h) fun aa h=>
  B.gd h e true (fun K=>B.pv (A.bld [(0,none,(.int .u8 12))] [.int .u8 0,.int .i64 0,.str [],.int .i64 0,.int .i64 0,.int .i64 0,.int .i64 0,.int .i64 0,.int .i64 0,.nils,.nils]) fun v=>K v h) fun ab h=>
  B.gd h e true (fun K=>B.call C (N 559) [aa,ab] h K) fun ac h=>
  B.gd h e true (fun K=>B.newO h (ze2 [(0,none,(.str [42]))] (repL 1 [.str []])) fun i h=>K (.sl i 0 0 1 1 1) h) fun ad h=>
  B.gd h e true (fun K=>B.call C (N 133) [ac,ad] h K) fun ae h=>
  B.pick e ae (.bool false) fun a=>
  B.gd h a true (fun K=>B.pv (V.zeq 0 6 f) fun v=>K v h) fun af h=>
  B.gd h a true (fun K=>B.newO h (ze2 [(0,none,(.str [68]))] (repL 1 [.str []])) fun i h=>K (.sl i 0 0 1 1 1) h) fun ag h=>
  B.gd h a true (fun K=>B.call C (N 558) [af,ag] h K) fun ah h=>
  B.gd h a true (fun K=>B.pv (V.zcm 4 ah) fun v=>K v h) fun ai h=>
  B.gd h a true (fun K=>B.pv (V.zcv ai) fun v=>K v h) fun aj h=>
  B.gd h a true (fun K=>B.pv (V.bin .eql aj (.int .i64 1)) fun v=>K v h) fun ak h=>
  B.pick a ak (.bool false) fun al=>
  Q al h
@[simp] def zd8.cps (C:CSem) (N:zN) (h:za) (Q:zQ):Prop:=
 zd8.k1 C N Q h
def zd8.Imp (C:CSem) (N:zN):Prop:=im0 C (N 556) (zd8.cps C N)
@[simp] def zcl.k1 (C:CSem) (N:zN) (Q:zQ) (f b:AVal) (h:za):Prop:=
 B.pv (V.bin .gtr f (.int .i64 2000)) fun a=>
  B.al b (B.gd h a false (fun K=>K .undef h) fun _ h=>
  B.gd h a false (fun K=>B.pv (V.zcm 3 b) fun v=>K v h) fun c h=>
  B.gd h a false (fun K=>B.call C (N 555) [c,.nils] h K) fun d h=>
  B.pick a (.bool true) d fun e=>
  Q e h)
@[simp] def zcl.k2 (C:CSem) (N:zN) (Q:zQ) (Y1:zL) (d c a:AVal) (h:za):Prop:=
 B.al a (B.pv (V.zcm 5 a) fun e=>
  B.pv (V.zcv e) fun f=>
  B.pv (V.bin .lss c f) fun b=>
  B.gd h b true (fun K=>K d h) fun g h=>
  B.gd h b true (fun K=>B.pv (V.bin .leq g (.int .i64 2000)) fun v=>K v h) fun i h=>
  B.pick b i (.bool false) fun j=>
  B.cond j
  (B.pv (V.bin .add d (.int .i64 1)) fun k=>
  B.al a (B.pv (V.zcm 5 a) fun l=>
  B.pv (V.idxS 8 l c) fun m=>
  B.pv (V.fieldAddr 1 m) fun n=>
  B.ld h n fun o=>
  B.pv (V.zg6 o) fun p=>
  B.pv (V.bin .quo p (.int .i64 20)) fun q=>
  B.pv (V.bin .add k q) fun r=>
  B.al a (B.pv (V.zcm 5 a) fun s=>
  B.pv (V.idxS 8 s c) fun t=>
  B.pv (V.fieldAddr 7 t) fun u=>
  B.ld h u fun w=>
  B.pv (V.zg6 w) fun x=>
  B.pv (V.bin .quo x (.int .i64 20)) fun y=>
  B.pv (V.bin .add r y) fun z=>
  B.pv (V.bin .add c (.int .i64 1)) fun aa=>
  Y1 [z,aa] h)))
  (zcl.k1 C N Q d a h))
@[simp] def zcl.l3 (C:CSem) (N:zN) (Q:zQ) (a:AVal):zG
 | [b,c],h,Y1=>zcl.k2 C N Q Y1 b c a h
 | _,_,_=>False
@[simp] def zcl.k4 (C:CSem) (N:zN) (Q:zQ) (Y2:zL) (c d a:AVal) (h:za):Prop:=
 B.al a (B.pv (V.zcm 4 a) fun r=>
  B.pv (V.zcv r) fun s=>
  B.pv (V.bin .lss d s) fun b=>
  B.gd h b true (fun K=>K c h) fun e h=>
  B.gd h b true (fun K=>B.pv (V.bin .leq e (.int .i64 2000)) fun v=>K v h) fun f h=>
  B.pick b f (.bool false) fun g=>
  B.cond g
  (B.pv (V.bin .add c (.int .i64 1)) fun i=>
  B.al a (B.pv (V.zcm 4 a) fun j=>
  B.pv (V.idxS 6 j d) fun k=>
  B.pv (V.fieldAddr 1 k) fun l=>
  B.ld h l fun m=>
  B.pv (V.zg6 m) fun n=>
  B.pv (V.bin .quo n (.int .i64 20)) fun o=>
  B.pv (V.bin .add i o) fun p=>
  B.pv (V.bin .add d (.int .i64 1)) fun q=>
  Y2 [p,q] h))
  (zx (zcl.l3 C N Q a) [c,(.int .i64 0)] h))
@[simp] def zcl.l5 (C:CSem) (N:zN) (Q:zQ) (a:AVal):zG
 | [b,c],h,Y2=>zcl.k4 C N Q Y2 b c a h
 | _,_,_=>False
@[simp] def zcl.cps (C:CSem) (N:zN) (a:AVal) (h:za) (Q:zQ):Prop:=
 B.pv (A.boxN 6 a) fun b=>
  zx (zcl.l5 C N Q b) [(.int .i64 0),(.int .i64 0)] h
def zcl.Imp (C:CSem) (N:zN):Prop:=im1 C (N 560) (zcl.cps C N)
@[simp] def zi.k1 (C:CSem) (N:zN) (Q:zQ) (b p o:AVal) (h:za):Prop:=
 B.pv (V.zcv b) fun c=>
  B.pv (V.bin .eql c (.int .i64 1)) fun a=>
  B.gd h a true (fun K=>K b h) fun d h=>
  B.gd h a true (fun K=>B.pv (V.idxS 1 d (.int .i64 0)) fun v=>K v h) fun e h=>
  B.gd h a true (fun K=>B.ld h e fun v=>K v h) fun f h=>
  B.gd h a true (fun K=>B.pv (V.bin .eql f (.str [42])) fun v=>K v h) fun g h=>
  B.pick a g (.bool false) fun i=>
  B.cond i
  (Q (.bool true) h)
  (B.pv (V.zeq 0 6 p) fun j=>
  B.pv (V.zeq 0 11 o) fun k=>
  B.al o (B.call C (N 558) [j,b] h fun l h=>
  B.call C (N 559) [l,k] h fun m h=>
  B.call C (N 133) [m,b] h fun n h=>
  Q n h))
@[simp] def zi.k2 (C:CSem) (N:zN) (Q:zQ) (Y1:zL) (a b m n:AVal) (h:za):Prop:=
 B.pv (V.zcv a) fun c=>
  B.pv (V.bin .lss b c) fun d=>
  B.cond d
  (B.pv (V.bin .sub b (.int .i64 1)) fun e=>
  B.pv (V.idxS 1 a e) fun f=>
  B.ld h f fun g=>
  B.pv (V.idxS 1 a b) fun i=>
  B.ld h i fun j=>
  B.pv (V.bin .geq g j) fun k=>
  B.cond k
  (Q (.bool false) h)
  (B.pv (V.bin .add b (.int .i64 1)) fun l=>
  Y1 [l] h))
  (zi.k1 C N Q a m n h)
@[simp] def zi.l3 (C:CSem) (N:zN) (Q:zQ) (a c d:AVal):zG
 | [b],h,Y1=>zi.k2 C N Q Y1 a b c d h
 | _,_,_=>False
@[simp] def zi.k4 (C:CSem) (N:zN) (Q:zQ) (d e:AVal) (h:za):Prop:=
 B.pv (V.zeq 0 6 d) fun a=>
  B.pv (V.zeq 0 11 e) fun b=>
  B.call C (N 559) [a,b] h fun c h=>
  zx (zi.l3 C N Q c d e) [(.int .i64 1)] h
@[simp] def zi.k5 (C:CSem) (N:zN) (Q:zQ) (m n o l b p:AVal) (h:za):Prop:=
 B.al b (B.pv (V.zcm 3 b) fun c=>
  B.pv (V.zcv c) fun d=>
  B.pv (V.bin .neq m d) fun a=>
  B.gd h a false (fun K=>K n h) fun e h=>
  B.gd h a false (fun K=>K o h) fun f h=>
  B.gd h a false (fun K=>B.pv (V.bin .add e f) fun v=>K v h) fun g h=>
  B.gd h a false (fun K=>K l h) fun i h=>
  B.gd h a false (fun K=>B.pv (V.bin .neq g i) fun v=>K v h) fun j h=>
  B.pick a (.bool true) j fun k=>
  B.cond k
  (Q (.bool false) h)
  (zi.k4 C N Q b p h))
@[simp] def zi.k6 (C:CSem) (N:zN) (Q:zQ) (Y2:zL) (p q r s c b d t:AVal) (h:za):Prop:=
 B.al d (B.pv (V.zcm 5 d) fun e=>
  B.pv (V.zcv e) fun f=>
  B.pv (V.bin .lss b f) fun g=>
  B.cond g
  (B.al d (B.pv (V.zcm 5 d) fun i=>
  B.pv (V.idxS 8 i b) fun j=>
  B.pv (V.fieldAddr 1 j) fun k=>
  B.ld h k fun l=>
  B.call C (N 552) [s,l] h fun m h=>
  B.pv (V.bin .geq m (.int .i64 0)) fun n=>
  B.cond n
  (B.pv (V.bin .add c (.int .i64 1)) fun o=>
  B.pv (V.bin .add b (.int .i64 1)) fun a=>
  Y2 [o,a] h)
  (B.pv (V.bin .add b (.int .i64 1)) fun a=>
  Y2 [c,a] h)))
  (zi.k5 C N Q p q r c d t h))
@[simp] def zi.l7 (C:CSem) (N:zN) (Q:zQ) (c d e f g i:AVal):zG
 | [a,b],h,Y2=>zi.k6 C N Q Y2 c d e f a b g i h
 | _,_,_=>False
@[simp] def zi.k8 (C:CSem) (N:zN) (Q:zQ) (Y3:zL) (q r s k b a c t:AVal) (h:za):Prop:=
 B.al c (B.pv (V.zcm 4 c) fun l=>
  B.pv (V.zcv l) fun m=>
  B.pv (V.bin .lss a m) fun n=>
  B.cond n
  (B.al c (B.pv (V.zcm 4 c) fun o=>
  B.pv (V.idxS 6 o a) fun p=>
  B.pv (V.fieldAddr 1 p) fun e=>
  B.ld h e fun f=>
  B.call C (N 552) [k,f] h fun g h=>
  B.pv (V.bin .geq g (.int .i64 0)) fun i=>
  B.cond i
  (B.pv (V.bin .add b (.int .i64 1)) fun j=>
  B.pv (V.bin .add a (.int .i64 1)) fun d=>
  Y3 [j,d] h)
  (B.pv (V.bin .add a (.int .i64 1)) fun d=>
  Y3 [b,d] h)))
  (zx (zi.l7 C N Q q r s k c t) [b,(.int .i64 0)] h))
@[simp] def zi.l9 (C:CSem) (N:zN) (Q:zQ) (c d e f g i:AVal):zG
 | [a,b],h,Y3=>zi.k8 C N Q Y3 c d e f a b g i h
 | _,_,_=>False
@[simp] def zi.k10 (C:CSem) (N:zN) (Q:zQ) (Y4:zL) (i j k f g e c3:AVal) (h:za):Prop:=
 B.pv (V.zcv f) fun l=>
  B.pv (V.bin .lss g l) fun m=>
  B.cond m
  (B.pv (V.zeq 0 6 e) fun n=>
  B.pv (V.idxS 1 f g) fun o=>
  B.ld h o fun p=>
  B.call C (N 558) [n,p] h fun q h=>
  B.pv (V.setN 0 6 q (.agg [.int .i64 0,.int .i64 0,.int .i64 0,.nils,.nils,.nils])) fun a=>
  B.pv (V.zeq 0 6 a) fun r=>
  B.pv (V.idxS 1 f g) fun s=>
  B.ld h s fun t=>
  B.call C (N 558) [r,t] h fun u h=>
  B.pv (V.setN 0 6 u (.agg [.int .i64 0,.int .i64 0,.int .i64 0,.nils,.nils,.nils])) fun w=>
  B.pv (V.zeq 0 6 a) fun x=>
  B.pv (V.zeq 0 6 w) fun y=>
  B.call C (N 116) [x,y] h fun z h=>
  B.pv (V.un .not z) fun b=>
  B.al a (B.gd h b false (fun K=>K .undef h) fun _ h=>
  B.gd h b false (fun K=>B.pv (V.zcm 0 a) fun v=>K v h) fun aa h=>
  B.al e (B.gd h b false (fun K=>K .undef h) fun _ h=>
  B.gd h b false (fun K=>B.pv (V.zcm 0 e) fun v=>K v h) fun ab h=>
  B.gd h b false (fun K=>B.pv (V.bin .neq aa ab) fun v=>K v h) fun ac h=>
  B.pick b (.bool true) ac fun c=>
  B.al a (B.gd h c false (fun K=>K .undef h) fun _ h=>
  B.gd h c false (fun K=>B.pv (V.zcm 1 a) fun v=>K v h) fun ad h=>
  B.al e (B.gd h c false (fun K=>K .undef h) fun _ h=>
  B.gd h c false (fun K=>B.pv (V.zcm 1 e) fun v=>K v h) fun ae h=>
  B.gd h c false (fun K=>B.pv (V.bin .neq ad ae) fun v=>K v h) fun af h=>
  B.pick c (.bool true) af fun d=>
  B.al a (B.gd h d false (fun K=>K .undef h) fun _ h=>
  B.gd h d false (fun K=>B.pv (V.zcm 2 a) fun v=>K v h) fun ag h=>
  B.al e (B.gd h d false (fun K=>K .undef h) fun _ h=>
  B.gd h d false (fun K=>B.pv (V.zcm 2 e) fun v=>K v h) fun ah h=>
  B.gd h d false (fun K=>B.pv (V.bin .neq ag ah) fun v=>K v h) fun ai h=>
  B.pick d (.bool true) ai fun aj=>
  B.cond aj
  (Q (.bool false) h)
  (B.al a (B.pv (V.zcm 3 a) fun ak=>
  B.pv (V.zcv ak) fun am=>
  B.pv (V.bin .add i am) fun an=>
  B.al a (B.pv (V.zcm 4 a) fun ao=>
  B.pv (V.zcv ao) fun ap=>
  B.pv (V.bin .add j ap) fun aq=>
  B.al a (B.pv (V.zcm 5 a) fun ar=>
  B.pv (V.zcv ar) fun au=>
  B.pv (V.bin .add k au) fun av=>
  B.pv (V.bin .add g (.int .i64 1)) fun aw=>
  Y4 [an,aq,av,aw] h)))))))))))
  (zx (zi.l9 C N Q i j k f e c3) [(.int .i64 0),(.int .i64 0)] h)
@[simp] def zi.l11 (C:CSem) (N:zN) (Q:zQ) (a b c:AVal):zG
 | [d,e,f,g],h,Y4=>zi.k10 C N Q Y4 d e f a g b c h
 | _,_,_=>False
@[simp] def zi.k12 (C:CSem) (N:zN) (Q:zQ) (d e f a g:AVal) (h:za):Prop:=
 B.al a (B.pv (V.zcm 3 a) fun b=>
  B.call C (N 554) [b] h fun c h=>
  zx (zi.l11 C N Q c a g) [d,e,f,(.int .i64 0)] h)
@[simp] def zi.k13 (C:CSem) (N:zN) (Q:zQ) (c b:AVal) (h:za):Prop:=
 B.pv (V.zeq 0 6 c) fun d=>
  B.call C (N 560) [d] h fun a h=>
  B.al b (B.gd h a false (fun K=>K .undef h) fun _ h=>
  B.gd h a false (fun K=>B.pv (V.zcm 2 b) fun v=>K v h) fun e h=>
  B.gd h a false (fun K=>B.pv (V.zg6 e) fun v=>K v h) fun f h=>
  B.gd h a false (fun K=>B.pv (V.bin .gtr f (.int .i64 1000)) fun v=>K v h) fun g h=>
  B.pick a (.bool true) g fun i=>
  B.cond i
  (Q (.bool true) h)
  (zi.k12 C N Q (.int .i64 0) (.int .i64 0) (.int .i64 0) c b h))
@[simp] def zi.k14 (C:CSem) (N:zN) (Q:zQ) (c d:AVal) (h:za):Prop:=
 B.pv (A.boxN 6 c) fun e=>
  B.pv (A.boxN 11 d) fun f=>
  B.call C (N 556) [] h fun a h=>
  B.pv (V.un .not a) fun b=>
  B.cond b
  (Q (.bool false) h)
  (zi.k13 C N Q e f h)
@[simp] def zi.cps (C:CSem) (N:zN) (a b:AVal) (h:za) (Q:zQ):Prop:=
 zi.k14 C N Q a b h
def zi.Imp (C:CSem) (N:zN):Prop:=im2 C (N 561) (zi.cps C N)
@[simp] def zeg.k1 (C:CSem) (N:zN) (Q:zQ) (h:za):Prop:=
 B.pv (A.bld [(0,none,(.str [65])),(1,none,(.int .i64 1))] [.str [],.int .i64 0,.nils,.nils]) fun a=>
  B.newO h (ze2 [(0,none,(.str [67]))] (repL 1 [.str []])) fun b h=>
  B.pv (A.bld [(0,none,(.str [66])),(1,none,(.int .i64 1)),(3,none,(.sl b 0 0 1 1 1))] [.str [],.int .i64 0,.nils,.nils]) fun c=>
  B.pv (A.bld [(0,none,(.str [67])),(1,none,(.int .i64 1))] [.str [],.int .i64 0,.nils,.nils]) fun d=>
  B.pv (A.bld [(0,none,(.str [68])),(1,none,(.int .i64 1))] [.str [],.int .i64 0,.nils,.nils]) fun e=>
  B.pv (A.bld [(0,none,(.str [65])),(1,none,(.int .i64 2))] [.str [],.int .i64 0]) fun f=>
  B.newO h (ze2 [(0,some 2,f)] (repL 1 [.str [],.int .i64 0])) fun g h=>
  B.pv (A.bld [(0,none,(.str [75])),(2,none,(.sl g 0 0 1 2 1))] [.str [],.int .i64 0,.nils,.nils]) fun i=>
  B.newO h (ze2 [(0,some 4,a),(4,some 4,c),(8,some 4,d),(12,some 4,e),(16,some 4,i)] (repL 5 [.str [],.int .i64 0,.nils,.nils])) fun j h=>
  Q (.sl j 0 0 5 4 5) h
@[simp] def zeg.cps (C:CSem) (N:zN) (h:za) (Q:zQ):Prop:=
 zeg.k1 C N Q h
def zeg.Imp (C:CSem) (N:zN):Prop:=im0 C (N 562) (zeg.cps C N)
@[simp] def zdn.k1 (C:CSem) (N:zN) (Q:zQ) (Y1:zL) (b m a:AVal) (h:za):Prop:=
 B.pv (V.zcv b) fun c=>
  B.pv (V.bin .lss a c) fun d=>
  B.cond d
  (B.pv (V.idxS 1 b a) fun e=>
  B.ld h e fun f=>
  B.pv (V.idxS 1 m a) fun g=>
  B.ld h g fun i=>
  B.call C (N 133) [f,i] h fun j h=>
  B.pv (V.un .not j) fun k=>
  B.cond k
  (Q (.bool false) h)
  (B.pv (V.bin .add a (.int .i64 1)) fun l=>
  Y1 [l] h))
  (Q (.bool true) h)
@[simp] def zdn.l2 (C:CSem) (N:zN) (Q:zQ) (a b:AVal):zG
 | [c],h,Y1=>zdn.k1 C N Q Y1 a b c h
 | _,_,_=>False
@[simp] def zdn.k3 (C:CSem) (N:zN) (Q:zQ) (a b:AVal) (h:za):Prop:=
 B.pv (V.zcv a) fun d=>
  B.pv (V.zcv b) fun e=>
  B.pv (V.bin .neq d e) fun c=>
  B.cond c
  (Q (.bool false) h)
  (zx (zdn.l2 C N Q a b) [(.int .i64 0)] h)
@[simp] def zdn.cps (C:CSem) (N:zN) (a b:AVal) (h:za) (Q:zQ):Prop:=
 zdn.k3 C N Q a b h
def zdn.Imp (C:CSem) (N:zN):Prop:=im2 C (N 563) (zdn.cps C N)
@[simp] def zbv.k1 (C:CSem) (N:zN) (Q:zQ) (Y1:zL) (Y2:zL) (e b c d:AVal) (h:za):Prop:=
 B.pv (V.idxS 4 e c) fun f=>
  B.pv (V.fieldAddr 3 f) fun g=>
  B.ld h g fun i=>
  B.pv (V.zcv i) fun j=>
  B.pv (V.bin .lss d j) fun a=>
  B.gd h a true (fun K=>K b h) fun k h=>
  B.gd h a true (fun K=>B.pv (V.bin .leq k (.int .i64 2000)) fun v=>K v h) fun l h=>
  B.pick a l (.bool false) fun m=>
  B.cond m
  (B.pv (V.idxS 4 e c) fun n=>
  B.pv (V.fieldAddr 3 n) fun o=>
  B.ld h o fun p=>
  B.pv (V.idxS 1 p d) fun q=>
  B.ld h q fun r=>
  B.pv (V.zg6 r) fun s=>
  B.pv (V.bin .quo s (.int .i64 20)) fun t=>
  B.pv (V.bin .add b t) fun u=>
  B.pv (V.bin .add d (.int .i64 1)) fun w=>
  Y2 [u,w] h)
  (B.pv (V.bin .add c (.int .i64 1)) fun x=>
  Y1 [b,x] h)
@[simp] def zbv.l2 (C:CSem) (N:zN) (Q:zQ) (Y1:zL) (a b:AVal):zG
 | [c,d],h,Y2=>zbv.k1 C N Q Y1 Y2 a c b d h
 | _,_,_=>False
@[simp] def zbv.k3 (C:CSem) (N:zN) (Q:zQ) (Y1:zL) (Y3:zL) (b c d e:AVal) (h:za):Prop:=
 B.pv (V.idxS 4 b d) fun f=>
  B.pv (V.fieldAddr 2 f) fun g=>
  B.ld h g fun i=>
  B.pv (V.zcv i) fun j=>
  B.pv (V.bin .lss e j) fun a=>
  B.gd h a true (fun K=>K c h) fun k h=>
  B.gd h a true (fun K=>B.pv (V.bin .leq k (.int .i64 2000)) fun v=>K v h) fun l h=>
  B.pick a l (.bool false) fun m=>
  B.cond m
  (B.pv (V.idxS 4 b d) fun n=>
  B.pv (V.fieldAddr 2 n) fun o=>
  B.ld h o fun p=>
  B.pv (V.idxS 2 p e) fun q=>
  B.pv (V.fieldAddr 0 q) fun r=>
  B.ld h r fun s=>
  B.pv (V.zg6 s) fun t=>
  B.pv (V.bin .quo t (.int .i64 20)) fun u=>
  B.pv (V.bin .add c u) fun w=>
  B.pv (V.bin .add e (.int .i64 1)) fun x=>
  Y3 [w,x] h)
  (zx (zbv.l2 C N Q Y1 b d) [c,(.int .i64 0)] h)
@[simp] def zbv.l4 (C:CSem) (N:zN) (Q:zQ) (Y1:zL) (a b:AVal):zG
 | [c,d],h,Y3=>zbv.k3 C N Q Y1 Y3 a c b d h
 | _,_,_=>False
@[simp] def zbv.k5 (C:CSem) (N:zN) (Q:zQ) (Y1:zL) (a u b:AVal) (h:za):Prop:=
 B.pv (V.bin .add u (.int .i64 1)) fun c=>
  B.pv (V.idxS 4 a b) fun d=>
  B.pv (V.fieldAddr 0 d) fun e=>
  B.ld h e fun f=>
  B.pv (V.zg6 f) fun g=>
  B.pv (V.bin .quo g (.int .i64 20)) fun i=>
  B.pv (V.bin .add c i) fun j=>
  B.pv (V.idxS 4 a b) fun k=>
  B.pv (V.fieldAddr 2 k) fun l=>
  B.ld h l fun m=>
  B.pv (V.zcv m) fun n=>
  B.pv (V.bin .add j n) fun o=>
  B.pv (V.idxS 4 a b) fun p=>
  B.pv (V.fieldAddr 3 p) fun q=>
  B.ld h q fun r=>
  B.pv (V.zcv r) fun s=>
  B.pv (V.bin .add o s) fun t=>
  zx (zbv.l4 C N Q Y1 a b) [t,(.int .i64 0)] h
@[simp] def zbv.k6 (C:CSem) (N:zN) (Q:zQ) (Y1:zL) (c b d:AVal) (h:za):Prop:=
 B.pv (V.zcv c) fun i=>
  B.pv (V.bin .lss d i) fun a=>
  B.gd h a true (fun K=>K b h) fun e h=>
  B.gd h a true (fun K=>B.pv (V.bin .leq e (.int .i64 2000)) fun v=>K v h) fun f h=>
  B.pick a f (.bool false) fun g=>
  B.cond g
  (zbv.k5 C N Q Y1 c b d h)
  (Q b h)
@[simp] def zbv.l7 (C:CSem) (N:zN) (Q:zQ) (a:AVal):zG
 | [b,c],h,Y1=>zbv.k6 C N Q Y1 a b c h
 | _,_,_=>False
@[simp] def zbv.cps (C:CSem) (N:zN) (a:AVal) (h:za) (Q:zQ):Prop:=
 zx (zbv.l7 C N Q a) [(.int .i64 0),(.int .i64 0)] h
def zbv.Imp (C:CSem) (N:zN):Prop:=im1 C (N 564) (zbv.cps C N)
@[simp] def zd1.k1 (C:CSem) (N:zN) (Q:zQ) (a:AVal) (h:za):Prop:=
 B.cond (.bool false)
  (B.pv (V.toInt .u32 a) fun b=>
  B.call C (N 304) [b] h fun c h=>
  Q c h)
  (B.call C (N 305) [a] h fun d h=>
  Q d h)
@[simp] def zd1.cps (C:CSem) (N:zN) (a:AVal) (h:za) (Q:zQ):Prop:=
 zd1.k1 C N Q a h
def zd1.Imp (C:CSem) (N:zN):Prop:=im1 C (N 287) (zd1.cps C N)
@[simp] def zbu.k1 (C:CSem) (N:zN) (Q:zQ) (e f:AVal) (h:za):Prop:=
 B.pv (V.toInt .u8 e) fun a=>
  B.pv (V.zna (.str [0,1,2,2,3,3,3,3,4,4,4,4,4,4,4,4,5,5,5,5,5,5,5,5,5,5,5,5,5,5,5,5,6,6,6,6,6,6,6,6,6,6,6,6,6,6,6,6,6,6,6,6,6,6,6,6,6,6,6,6,6,6,6,6,7,7,7,7,7,7,7,7,7,7,7,7,7,7,7,7,7,7,7,7,7,7,7,7,7,7,7,7,7,7,7,7,7,7,7,7,7,7,7,7,7,7,7,7,7,7,7,7,7,7,7,7,7,7,7,7,7,7,7,7,7,7,7,7,8,8,8,8,8,8,8,8,8,8,8,8,8,8,8,8,8,8,8,8,8,8,8,8,8,8,8,8,8,8,8,8,8,8,8,8,8,8,8,8,8,8,8,8,8,8,8,8,8,8,8,8,8,8,8,8,8,8,8,8,8,8,8,8,8,8,8,8,8,8,8,8,8,8,8,8,8,8,8,8,8,8,8,8,8,8,8,8,8,8,8,8,8,8,8,8,8,8,8,8,8,8,8,8,8,8,8,8,8,8,8,8,8,8,8,8,8,8,8,8,8,8,8,8,8,8,8,8]) a) fun b=>
  B.pv (V.toInt .i64 b) fun c=>
  B.pv (V.bin .add f c) fun d=>
  Q d h
@[simp] def zbu.k2 (C:CSem) (N:zN) (Q:zQ) (a b:AVal) (h:za):Prop:=
 B.pv (V.bin .geq a (.int .u64 256)) fun c=>
  B.cond c
  (B.pv (V.bin .shr a (.int .u64 8)) fun d=>
  B.pv (V.bin .add b (.int .i64 8)) fun e=>
  zbu.k1 C N Q d e h)
  (zbu.k1 C N Q a b h)
@[simp] def zbu.k3 (C:CSem) (N:zN) (Q:zQ) (a b:AVal) (h:za):Prop:=
 B.pv (V.bin .geq a (.int .u64 65536)) fun e=>
  B.cond e
  (B.pv (V.bin .shr a (.int .u64 16)) fun c=>
  B.pv (V.bin .add b (.int .i64 16)) fun d=>
  zbu.k2 C N Q c d h)
  (zbu.k2 C N Q a b h)
@[simp] def zbu.k4 (C:CSem) (N:zN) (Q:zQ) (a b:AVal) (h:za):Prop:=
 B.pv (V.bin .geq a (.int .u64 4294967296)) fun c=>
  B.cond c
  (B.pv (V.bin .shr a (.int .u64 32)) fun d=>
  zbu.k3 C N Q d (.int .i64 32) h)
  (zbu.k3 C N Q a b h)
@[simp] def zbu.cps (C:CSem) (N:zN) (a:AVal) (h:za) (Q:zQ):Prop:=
 zbu.k4 C N Q a (.int .i64 0) h
def zbu.Imp (C:CSem) (N:zN):Prop:=im1 C (N 305) (zbu.cps C N)
@[simp] def zkg.cps (C:CSem) (E:zy) (a:AVal) (h:za) (Q:zQ):Prop:=
 B.pv (V.eqSl .eql a .nils) fun b=>
  B.cond b
  (Q .nils h)
  (B.appW h E.es E.bytes .sz a fun c h=>
  Q c h)
@[simp] def zbe.k1 (C:CSem) (E:zy) (Q:zQ) (Y1:zL) (Y2:zL) (c v1 v2 v3 v8 b:AVal) (h:za):Prop:=
 B.pv (V.bin .gtr b v1) fun a=>
  B.gd h a true (fun K=>K v3 h) fun d h=>
  B.gd h a true (fun K=>K c h) fun e h=>
  B.gd h a true (fun K=>K b h) fun f h=>
  B.gd h a true (fun K=>B.pv (V.idxS E.es e f) fun v=>K v h) fun g h=>
  B.gd h a true (fun K=>E.ld h g fun v=>K v h) fun i h=>
  B.gd h a true (fun K=>K c h) fun j h=>
  B.gd h a true (fun K=>K b h) fun k h=>
  B.gd h a true (fun K=>B.pv (V.bin .sub k (.int .i64 1)) fun v=>K v h) fun l h=>
  B.gd h a true (fun K=>B.pv (V.idxS E.es j l) fun v=>K v h) fun m h=>
  B.gd h a true (fun K=>E.ld h m fun v=>K v h) fun n h=>
  B.gd h a true (fun K=>B.zf2 h C d [i,n] K) fun o h=>
  B.gd h a true (fun K=>B.pv (V.bin .lss o (.int .i64 0)) fun v=>K v h) fun p h=>
  B.pick a p (.bool false) fun q=>
  B.cond q
  (B.pv (V.bin .sub b (.int .i64 1)) fun r=>
  B.pv (V.bin .sub b (.int .i64 1)) fun s=>
  B.pv (V.idxS E.es c s) fun t=>
  E.ld h t fun u=>
  B.pv (V.idxS E.es c b) fun w=>
  E.ld h w fun x=>
  B.pv (V.idxS E.es c b) fun y=>
  E.st h y u fun h=>
  B.pv (V.idxS E.es c r) fun z=>
  E.st h z x fun h=>
  B.pv (V.bin .sub b (.int .i64 1)) fun aa=>
  Y2 [aa] h)
  (B.pv (V.bin .add v8 (.int .i64 1)) fun ab=>
  Y1 [ab] h)
@[simp] def zbe.l2 (C:CSem) (E:zy) (Q:zQ) (Y1:zL) (a b c d e:AVal):zG
 | [f],h,Y2=>zbe.k1 C E Q Y1 Y2 a b c d e f h
 | _,_,_=>False
@[simp] def zbe.l3 (C:CSem) (E:zy) (Q:zQ) (d e b f:AVal):zG
 | [a],h,Y1=>B.pv (V.bin .lss a b) fun c=>
  B.cond c
  (zx (zbe.l2 C E Q Y1 d e b f a) [a] h)
  (Q (.tup []) h)
 | _,_,_=>False
@[simp] def zbe.cps (C:CSem) (E:zy) (c a d e:AVal) (h:za) (Q:zQ):Prop:=
 B.pv (V.bin .add a (.int .i64 1)) fun b=>
  zx (zbe.l3 C E Q c a d e) [b] h
@[simp] def zb2.k1 (C:CSem) (E:zy) (Q:zQ) (Y1:zL) (f g i a:AVal) (h:za):Prop:=
 B.pv (V.bin .lss a i) fun j=>
  B.cond j
  (B.pv (V.idxS E.es f a) fun b=>
  E.ld h b fun c=>
  B.zf2 h C g [c] fun d h=>
  B.cond d
  (Q a h)
  (B.pv (V.bin .add a (.int .i64 1)) fun e=>
  Y1 [e] h))
  (Q (.int .i64 (-1)) h)
@[simp] def zb2.l2 (C:CSem) (E:zy) (Q:zQ) (a b c:AVal):zG
 | [d],h,Y1=>zb2.k1 C E Q Y1 a b c d h
 | _,_,_=>False
@[simp] def zb2.cps (C:CSem) (E:zy) (a b:AVal) (h:za) (Q:zQ):Prop:=
 B.pv (V.zcv a) fun c=>
  zx (zb2.l2 C E Q a b c) [(.int .i64 0)] h
@[simp] def zir.cps (C:CSem) (E:zy) (f1:Nat) (a b:AVal) (h:za) (Q:zQ):Prop:=
 B.call C f1 [a,b] h fun c h=>
  B.pv (V.bin .geq c (.int .i64 0)) fun d=>
  Q d h
@[simp] def zfk.k1 (C:CSem) (E:zy) (f1 f2:Nat) (Q:zQ) (a e:AVal) (h:za):Prop:=
 B.pv (V.zcv a) fun b=>
  B.pv (V.toInt .u64 b) fun c=>
  B.call C f1 [c] h fun d h=>
  B.call C f2 [a,(.int .i64 0),b,d,e] h fun f h=>
  Q (.tup []) h
@[simp] def zfk.cps (C:CSem) (E:zy) (f1 f2:Nat) (a b:AVal) (h:za) (Q:zQ):Prop:=
 zfk.k1 C E f1 f2 Q a b h
@[simp] def zm.k1 (C:CSem) (E:zy) (f1 f2 f3 f4 f5 f6 f7 f8 f9:Nat) (Q:zQ) (Y1:zL) (d c e f g u w x i:AVal) (h:za):Prop:=
 B.pv (V.bin .gtr c (.int .i64 0)) fun a=>
  B.gd h a true (fun K=>K g h) fun y h=>
  B.gd h a true (fun K=>K d h) fun z h=>
  B.gd h a true (fun K=>K c h) fun aa h=>
  B.gd h a true (fun K=>B.pv (V.bin .sub aa (.int .i64 1)) fun v=>K v h) fun ab h=>
  B.gd h a true (fun K=>B.pv (V.idxS E.es z ab) fun v=>K v h) fun ac h=>
  B.gd h a true (fun K=>E.ld h ac fun v=>K v h) fun ad h=>
  B.gd h a true (fun K=>K d h) fun ae h=>
  B.gd h a true (fun K=>K i h) fun af h=>
  B.gd h a true (fun K=>B.pv (V.idxS E.es ae af) fun v=>K v h) fun ag h=>
  B.gd h a true (fun K=>E.ld h ag fun v=>K v h) fun ah h=>
  B.gd h a true (fun K=>B.zf2 h C y [ad,ah] K) fun ai h=>
  B.gd h a true (fun K=>B.pv (V.bin .lss ai (.int .i64 0)) fun v=>K v h) fun aj h=>
  B.gd h a true (fun K=>B.pv (V.un .not aj) fun v=>K v h) fun ak h=>
  B.pick a ak (.bool false) fun al=>
  B.cond al
  (B.call C f1 [d,c,e,i,g] h fun o h=>
  Y1 [o,e,f,u,w] h)
  (B.call C f2 [d,c,e,i,g] h fun j h=>
  B.pv (V.ext 0 j) fun b=>
  B.pv (V.ext 1 j) fun k=>
  B.pv (V.bin .sub b c) fun l=>
  B.pv (V.bin .sub e b) fun m=>
  B.pv (V.bin .quo x (.int .i64 8)) fun n=>
  B.pv (V.bin .lss l m) fun p=>
  B.cond p
  (B.pv (V.bin .geq l n) fun q=>
  B.call C f3 [d,c,b,f,g] h fun am h=>
  B.pv (V.bin .add b (.int .i64 1)) fun r=>
  Y1 [r,e,f,q,k] h)
  (B.pv (V.bin .geq m n) fun s=>
  B.pv (V.bin .add b (.int .i64 1)) fun t=>
  B.call C f3 [d,t,e,f,g] h fun an h=>
  Y1 [c,b,f,s,k] h))
@[simp] def zm.k2 (C:CSem) (E:zy) (f1 f2 f3 f4 f5 f6 f7 f8 f9:Nat) (Q:zQ) (Y1:zL) (f g i k j a b d e l:AVal) (h:za):Prop:=
 B.gd h a true (fun K=>K b h) fun m h=>
  B.pick a m (.bool false) fun c=>
  B.gd h c true (fun K=>K l h) fun n h=>
  B.gd h c true (fun K=>B.pv (V.bin .eql n (.int .i64 1)) fun v=>K v h) fun o h=>
  B.pick c o (.bool false) fun p=>
  B.cond p
  (B.call C f4 [f,g,i,j] h fun q h=>
  B.cond q
  (Q (.tup []) h)
  (zm.k1 C E f1 f2 f3 f4 f5 f6 f7 f8 f9 Q Y1 f g i k j a b d e h))
  (zm.k1 C E f1 f2 f3 f4 f5 f6 f7 f8 f9 Q Y1 f g i k j a b d e h)
@[simp] def zm.k3 (C:CSem) (E:zy) (f1 f2 f3 f4 f5 f6 f7 f8 f9:Nat) (Q:zQ) (Y1:zL) (i a b k j c d e f g:AVal) (h:za):Prop:=
 B.pv (V.bin .eql g (.int .i64 2)) fun l=>
  B.cond l
  (B.call C f5 [i,a,b,j] h fun p h=>
  B.pv (V.bin .sub b (.int .i64 1)) fun m=>
  B.pv (V.bin .sub f a) fun n=>
  B.pv (V.bin .sub m n) fun o=>
  zm.k2 C E f1 f2 f3 f4 f5 f6 f7 f8 f9 Q Y1 i a b k j c d e o (.int .i64 1) h)
  (zm.k2 C E f1 f2 f3 f4 f5 f6 f7 f8 f9 Q Y1 i a b k j c d e f g h)
@[simp] def zm.k4 (C:CSem) (E:zy) (f1 f2 f3 f4 f5 f6 f7 f8 f9:Nat) (Q:zQ) (Y1:zL) (b c d l e f g i:AVal) (h:za):Prop:=
 B.call C f6 [b,c,d,e] h fun a h=>
  B.pv (V.ext 0 a) fun j=>
  B.pv (V.ext 1 a) fun k=>
  zm.k3 C E f1 f2 f3 f4 f5 f6 f7 f8 f9 Q Y1 b c d l e f g i j k h
@[simp] def zm.k5 (C:CSem) (E:zy) (f1 f2 f3 f4 f5 f6 f7 f8 f9:Nat) (Q:zQ) (Y1:zL) (d e f i g a b c:AVal) (h:za):Prop:=
 B.pv (V.un .not a) fun j=>
  B.cond j
  (B.call C f7 [d,e,f,g] h fun l h=>
  B.pv (V.bin .sub i (.int .i64 1)) fun k=>
  zm.k4 C E f1 f2 f3 f4 f5 f6 f7 f8 f9 Q Y1 d e f k g a b c h)
  (zm.k4 C E f1 f2 f3 f4 f5 f6 f7 f8 f9 Q Y1 d e f i g a b c h)
@[simp] def zm.k6 (C:CSem) (E:zy) (f1 f2 f3 f4 f5 f6 f7 f8 f9:Nat) (Q:zQ) (Y1:zL) (a b c d e f g i:AVal) (h:za):Prop:=
 B.pv (V.bin .eql d (.int .i64 0)) fun j=>
  B.cond j
  (B.call C f8 [a,b,c,e] h fun k h=>
  Q (.tup []) h)
  (zm.k5 C E f1 f2 f3 f4 f5 f6 f7 f8 f9 Q Y1 a b c d e f g i h)
@[simp] def zm.k7 (C:CSem) (E:zy) (f1 f2 f3 f4 f5 f6 f7 f8 f9:Nat) (Q:zQ) (Y1:zL) (b c d j e f g a:AVal) (h:za):Prop:=
 B.pv (V.bin .leq a (.int .i64 12)) fun i=>
  B.cond i
  (B.call C f9 [b,c,d,e] h fun k h=>
  Q (.tup []) h)
  (zm.k6 C E f1 f2 f3 f4 f5 f6 f7 f8 f9 Q Y1 b c d j e f g a h)
@[simp] def zm.l8 (C:CSem) (E:zy) (f1 f2 f3 f4 f5 f6 f7 f8 f9:Nat) (Q:zQ) (f g:AVal):zG
 | [a,b,i,c,d],h,Y1=>B.pv (V.bin .sub b a) fun e=>
  zm.k7 C E f1 f2 f3 f4 f5 f6 f7 f8 f9 Q Y1 f a b i g c d e h
 | _,_,_=>False
@[simp] def zm.cps (C:CSem) (E:zy) (f1 f2 f3 f4 f5 f6 f7 f8 f9:Nat) (a b c d e:AVal) (h:za) (Q:zQ):Prop:=
 zx (zm.l8 C E f1 f2 f3 f4 f5 f6 f7 f8 f9 Q a e) [b,c,d,(.bool true),(.bool true)] h
@[simp] def zba.k1 (C:CSem) (E:zy) (f1:Nat) (Q:zQ) (Y1:zL) (b o c p a:AVal) (h:za):Prop:=
 B.pv (V.bin .geq a (.int .i64 0)) fun d=>
  B.cond d
  (B.pv (V.bin .add c a) fun e=>
  B.pv (V.bin .add c a) fun f=>
  B.pv (V.idxS E.es b f) fun g=>
  E.ld h g fun i=>
  B.pv (V.idxS E.es b c) fun j=>
  E.ld h j fun k=>
  B.pv (V.idxS E.es b c) fun l=>
  E.st h l i fun h=>
  B.pv (V.idxS E.es b e) fun m=>
  E.st h m k fun h=>
  B.call C f1 [b,p,a,c,o] h fun q h=>
  B.pv (V.bin .sub a (.int .i64 1)) fun n=>
  Y1 [n] h)
  (Q (.tup []) h)
@[simp] def zba.l2 (C:CSem) (E:zy) (f1:Nat) (Q:zQ) (b c d e:AVal):zG
 | [a],h,Y1=>zba.k1 C E f1 Q Y1 b c d e a h
 | _,_,_=>False
@[simp] def zba.k3 (C:CSem) (E:zy) (f1:Nat) (Q:zQ) (Y2:zL) (c d e j b a:AVal) (h:za):Prop:=
 B.pv (V.bin .geq a (.int .i64 0)) fun f=>
  B.cond f
  (B.call C f1 [c,a,b,e,d] h fun k h=>
  B.pv (V.bin .sub a (.int .i64 1)) fun g=>
  Y2 [g] h)
  (B.pv (V.bin .sub b (.int .i64 1)) fun i=>
  zx (zba.l2 C E f1 Q c d e j) [i] h)
@[simp] def zba.l4 (C:CSem) (E:zy) (f1:Nat) (Q:zQ) (c d e f a:AVal):zG
 | [b],h,Y2=>zba.k3 C E f1 Q Y2 c d e f a b h
 | _,_,_=>False
@[simp] def zba.k5 (C:CSem) (E:zy) (f1:Nat) (Q:zQ) (d e f g a:AVal) (h:za):Prop:=
 B.pv (V.bin .sub a (.int .i64 1)) fun b=>
  B.pv (V.bin .quo b (.int .i64 2)) fun c=>
  zx (zba.l4 C E f1 Q d e f g a) [c] h
@[simp] def zba.cps (C:CSem) (E:zy) (f1:Nat) (c a d e:AVal) (h:za) (Q:zQ):Prop:=
 B.pv (V.bin .sub d a) fun b=>
  zba.k5 C E f1 Q c e a (.int .i64 0) b h
@[simp] def zk.k1 (C:CSem) (E:zy) (f1 f2:Nat) (Q:zQ) (Y1:zL) (b d p q o a c:AVal) (h:za):Prop:=
 B.pv (V.bin .add d c) fun e=>
  B.pv (V.bin .add d c) fun f=>
  B.pv (V.idxS E.es b f) fun g=>
  E.ld h g fun i=>
  B.pv (V.idxS E.es b a) fun j=>
  E.ld h j fun k=>
  B.pv (V.idxS E.es b a) fun l=>
  E.st h l i fun h=>
  B.pv (V.idxS E.es b e) fun m=>
  E.st h m k fun h=>
  B.pv (V.bin .add a (.int .i64 1)) fun n=>
  Y1 [n] h
@[simp] def zk.k2 (C:CSem) (E:zy) (f1 f2:Nat) (Q:zQ) (Y1:zL) (e f b g c d a:AVal) (h:za):Prop:=
 B.pv (V.bin .geq a b) fun i=>
  B.cond i
  (B.pv (V.bin .sub a b) fun j=>
  zk.k1 C E f1 f2 Q Y1 e f b g c d j h)
  (zk.k1 C E f1 f2 Q Y1 e f b g c d a h)
@[simp] def zk.k3 (C:CSem) (E:zy) (f1 f2:Nat) (Q:zQ) (Y1:zL) (i j k b a c:AVal) (h:za):Prop:=
 B.call C f1 [b] h fun d h=>
  B.pv (V.bin .sub a (.int .u64 1)) fun e=>
  B.pv (V.bin .and d e) fun f=>
  B.pv (V.toInt .i64 f) fun g=>
  zk.k2 C E f1 f2 Q Y1 i j k b a c g h
@[simp] def zk.k4 (C:CSem) (E:zy) (f1 f2:Nat) (Q:zQ) (Y1:zL) (k b c l d a:AVal) (h:za):Prop:=
 B.pv (V.bin .quo c (.int .i64 4)) fun e=>
  B.pv (V.bin .mul e (.int .i64 2)) fun f=>
  B.pv (V.bin .add b f) fun g=>
  B.pv (V.bin .add g (.int .i64 1)) fun i=>
  B.pv (V.bin .leq a i) fun j=>
  B.cond j
  (zk.k3 C E f1 f2 Q Y1 k b c l d a h)
  (Q (.tup []) h)
@[simp] def zk.l5 (C:CSem) (E:zy) (f1 f2:Nat) (Q:zQ) (c d e f a:AVal):zG
 | [b],h,Y1=>zk.k4 C E f1 f2 Q Y1 c d e f a b h
 | _,_,_=>False
@[simp] def zk.k6 (C:CSem) (E:zy) (f1 f2:Nat) (Q:zQ) (i a b j c:AVal) (h:za):Prop:=
 B.pv (V.bin .quo b (.int .i64 4)) fun d=>
  B.pv (V.bin .mul d (.int .i64 2)) fun e=>
  B.pv (V.bin .add a e) fun f=>
  B.pv (V.bin .sub f (.int .i64 1)) fun g=>
  zx (zk.l5 C E f1 f2 Q i a b j c) [g] h
@[simp] def zk.k7 (C:CSem) (E:zy) (f1 f2:Nat) (Q:zQ) (e f a:AVal) (h:za):Prop:=
 B.pv (V.toInt .u64 a) fun b=>
  B.newO h (some [.int .u64 0]) fun c h=>
  B.st h (.ptr c 0 0) b fun h=>
  B.call C f2 [a] h fun d h=>
  zk.k6 C E f1 f2 Q e f a (.ptr c 0 0) d h
@[simp] def zk.k8 (C:CSem) (E:zy) (f1 f2:Nat) (Q:zQ) (d b e:AVal) (h:za):Prop:=
 B.pv (V.bin .sub e b) fun a=>
  B.pv (V.bin .geq a (.int .i64 8)) fun c=>
  B.cond c (zk.k7 C E f1 f2 Q d b a h) (Q (.tup []) h)
@[simp] def zk.cps (C:CSem) (E:zy) (f1 f2:Nat) (a b c d:AVal) (h:za) (Q:zQ):Prop:=
 zk.k8 C E f1 f2 Q a b c h
@[simp] def zo.k1 (C:CSem) (E:zy) (f1 f2:Nat) (Q:zQ) (c a:AVal) (h:za):Prop:=
 B.ld h c fun b=>
  B.pv (V.bin .eql b (.int .i64 0)) fun d=>
  B.cond d
  (Q (.tup [a,(.int .i64 1)]) h)
  (B.pv (V.bin .eql b (.int .i64 12)) fun e=>
  B.cond e
  (Q (.tup [a,(.int .i64 2)]) h)
  (Q (.tup [a,(.int .i64 0)]) h))
@[simp] def zo.k2 (C:CSem) (E:zy) (f1 f2:Nat) (Q:zQ) (b c i a e f g:AVal) (h:za):Prop:=
 B.pv (V.bin .geq i (.int .i64 50)) fun j=>
  B.cond j
  (B.call C f2 [b,e,a,c] h fun k h=>
  B.call C f2 [b,f,a,c] h fun l h=>
  B.call C f2 [b,g,a,c] h fun m h=>
  B.call C f1 [b,k,l,m,a,c] h fun d h=>
  zo.k1 C E f1 f2 Q a d h)
  (B.call C f1 [b,e,f,g,a,c] h fun d h=>
  zo.k1 C E f1 f2 Q a d h)
@[simp] def zo.k3 (C:CSem) (E:zy) (f1 f2:Nat) (Q:zQ) (g i a b d c e:AVal) (h:za):Prop:=
 B.pv (V.bin .geq a (.int .i64 8)) fun f=>
  B.cond f (zo.k2 C E f1 f2 Q g i a b d c e h) (zo.k1 C E f1 f2 Q b c h)
@[simp] def zo.k4 (C:CSem) (E:zy) (f1 f2:Nat) (Q:zQ) (i j k a b c d:AVal) (h:za):Prop:=
 B.pv (V.bin .quo a (.int .i64 4)) fun e=>
  B.pv (V.bin .mul e (.int .i64 3)) fun f=>
  B.pv (V.bin .add j f) fun g=>
  zo.k3 C E f1 f2 Q i k a b c d g h
@[simp] def zo.k5 (C:CSem) (E:zy) (f1 f2:Nat) (Q:zQ) (i b j a c d:AVal) (h:za):Prop:=
 B.pv (V.bin .quo a (.int .i64 4)) fun e=>
  B.pv (V.bin .mul e (.int .i64 2)) fun f=>
  B.pv (V.bin .add b f) fun g=>
  zo.k4 C E f1 f2 Q i b j a c d g h
@[simp] def zo.k6 (C:CSem) (E:zy) (f1 f2:Nat) (Q:zQ) (g b i a c:AVal) (h:za):Prop:=
 B.pv (V.bin .quo a (.int .i64 4)) fun d=>
  B.pv (V.bin .mul d (.int .i64 1)) fun e=>
  B.pv (V.bin .add b e) fun f=>
  zo.k5 C E f1 f2 Q g b i a c f h
@[simp] def zo.cps (C:CSem) (E:zy) (f1 f2:Nat) (d a e f:AVal) (h:za) (Q:zQ):Prop:=
 B.pv (V.bin .sub e a) fun b=>
  B.newO h (some [.int .i64 0]) fun c h=>
  zo.k6 C E f1 f2 Q d a f b (.ptr c 0 0) h
@[simp] def zci.k1 (C:CSem) (E:zy) (Q:zQ) (Y1:zL) (a b c:AVal) (h:za):Prop:=
 B.pv (V.bin .lss b c) fun d=>
  B.cond d
  (B.pv (V.idxS E.es a c) fun e=>
  E.ld h e fun f=>
  B.pv (V.idxS E.es a b) fun g=>
  E.ld h g fun i=>
  B.pv (V.idxS E.es a b) fun j=>
  E.st h j f fun h=>
  B.pv (V.idxS E.es a c) fun k=>
  E.st h k i fun h=>
  B.pv (V.bin .add b (.int .i64 1)) fun l=>
  B.pv (V.bin .sub c (.int .i64 1)) fun m=>
  Y1 [l,m] h)
  (Q (.tup []) h)
@[simp] def zci.l2 (C:CSem) (E:zy) (Q:zQ) (a:AVal):zG
 | [b,c],h,Y1=>zci.k1 C E Q Y1 a b c h
 | _,_,_=>False
@[simp] def zci.cps (C:CSem) (E:zy) (b c d e:AVal) (h:za) (Q:zQ):Prop:=
 B.pv (V.bin .sub d (.int .i64 1)) fun a=>
  zx (zci.l2 C E Q b) [c,a] h
@[simp] def zb.k1 (C:CSem) (E:zy) (Q:zQ) (Y1:zL) (Y2:zL) (b v1 y z x d a:AVal) (h:za):Prop:=
 B.pv (V.bin .lss a y) fun e=>
  B.cond e
  (B.pv (V.idxS E.es b a) fun f=>
  E.ld h f fun g=>
  B.pv (V.bin .sub a (.int .i64 1)) fun i=>
  B.pv (V.idxS E.es b i) fun j=>
  E.ld h j fun k=>
  B.zf2 h C z [g,k] fun l h=>
  B.pv (V.bin .lss l (.int .i64 0)) fun m=>
  B.pv (V.un .not m) fun n=>
  B.cond n
  (B.pv (V.bin .add d (.int .i64 1)) fun c=>
  Y1 [x,c] h)
  (B.pv (V.bin .sub a (.int .i64 1)) fun o=>
  B.pv (V.bin .sub a (.int .i64 1)) fun p=>
  B.pv (V.idxS E.es b p) fun q=>
  E.ld h q fun r=>
  B.pv (V.idxS E.es b a) fun s=>
  E.ld h s fun t=>
  B.pv (V.idxS E.es b a) fun u=>
  E.st h u r fun h=>
  B.pv (V.idxS E.es b o) fun v=>
  E.st h v t fun h=>
  B.pv (V.bin .add a (.int .i64 1)) fun w=>
  Y2 [w] h))
  (B.pv (V.bin .add d (.int .i64 1)) fun c=>
  Y1 [x,c] h)
@[simp] def zb.l2 (C:CSem) (E:zy) (Q:zQ) (Y1:zL) (c d e f g a:AVal):zG
 | [b],h,Y2=>zb.k1 C E Q Y1 Y2 c d e f g a b h
 | _,_,_=>False
@[simp] def zb.k3 (C:CSem) (E:zy) (Q:zQ) (Y1:zL) (i j f k a b:AVal) (h:za):Prop:=
 B.pv (V.bin .sub f a) fun c=>
  B.pv (V.bin .geq c (.int .i64 2)) fun d=>
  B.cond d (B.pv (V.bin .add a (.int .i64 1)) fun e=>
  zx (zb.l2 C E Q Y1 i j f k a b) [e] h) (B.pv (V.bin .add b (.int .i64 1)) fun g=>
  Y1 [a,g] h)
@[simp] def zb.k4 (C:CSem) (E:zy) (Q:zQ) (Y1:zL) (Y3:zL) (b f g d i c a:AVal) (h:za):Prop:=
 B.pv (V.bin .geq a (.int .i64 1)) fun j=>
  B.cond j
  (B.pv (V.idxS E.es b a) fun k=>
  E.ld h k fun l=>
  B.pv (V.bin .sub a (.int .i64 1)) fun m=>
  B.pv (V.idxS E.es b m) fun n=>
  E.ld h n fun o=>
  B.zf2 h C d [l,o] fun p h=>
  B.pv (V.bin .lss p (.int .i64 0)) fun q=>
  B.pv (V.un .not q) fun r=>
  B.cond r
  (zb.k3 C E Q Y1 b f g d i c h)
  (B.pv (V.bin .sub a (.int .i64 1)) fun s=>
  B.pv (V.bin .sub a (.int .i64 1)) fun t=>
  B.pv (V.idxS E.es b t) fun u=>
  E.ld h u fun v=>
  B.pv (V.idxS E.es b a) fun w=>
  E.ld h w fun x=>
  B.pv (V.idxS E.es b a) fun y=>
  E.st h y v fun h=>
  B.pv (V.idxS E.es b s) fun e=>
  E.st h e x fun h=>
  B.pv (V.bin .sub a (.int .i64 1)) fun z=>
  Y3 [z] h))
  (zb.k3 C E Q Y1 b f g d i c h)
@[simp] def zb.l5 (C:CSem) (E:zy) (Q:zQ) (Y1:zL) (c d e f g a:AVal):zG
 | [b],h,Y3=>zb.k4 C E Q Y1 Y3 c d e f g a b h
 | _,_,_=>False
@[simp] def zb.k6 (C:CSem) (E:zy) (Q:zQ) (Y1:zL) (d c e f a b:AVal) (h:za):Prop:=
 B.pv (V.bin .sub a c) fun g=>
  B.pv (V.bin .geq g (.int .i64 2)) fun i=>
  B.cond i (B.pv (V.bin .sub a (.int .i64 1)) fun j=>
  zx (zb.l5 C E Q Y1 d c e f a b) [j] h) (zb.k3 C E Q Y1 d c e f a b h)
@[simp] def zb.k7 (C:CSem) (E:zy) (Q:zQ) (Y1:zL) (a m n o b c:AVal) (h:za):Prop:=
 B.pv (V.bin .sub b (.int .i64 1)) fun d=>
  B.pv (V.bin .sub b (.int .i64 1)) fun e=>
  B.pv (V.idxS E.es a e) fun f=>
  E.ld h f fun g=>
  B.pv (V.idxS E.es a b) fun i=>
  E.ld h i fun j=>
  B.pv (V.idxS E.es a b) fun k=>
  E.st h k g fun h=>
  B.pv (V.idxS E.es a d) fun l=>
  E.st h l j fun h=>
  zb.k6 C E Q Y1 a m n o b c h
@[simp] def zb.k8 (C:CSem) (E:zy) (Q:zQ) (Y1:zL) (f a b g i c:AVal) (h:za):Prop:=
 B.pv (V.bin .sub b a) fun d=>
  B.pv (V.bin .lss d (.int .i64 50)) fun e=>
  B.cond e
  (Q (.bool false) h)
  (zb.k7 C E Q Y1 f a b g i c h)
@[simp] def zb.k9 (C:CSem) (E:zy) (Q:zQ) (Y1:zL) (Y4:zL) (c y d e b f:AVal) (h:za):Prop:=
 B.pv (V.bin .lss b d) fun a=>
  B.gd h a true (fun K=>K e h) fun g h=>
  B.gd h a true (fun K=>K c h) fun i h=>
  B.gd h a true (fun K=>K b h) fun j h=>
  B.gd h a true (fun K=>B.pv (V.idxS E.es i j) fun v=>K v h) fun k h=>
  B.gd h a true (fun K=>E.ld h k fun v=>K v h) fun l h=>
  B.gd h a true (fun K=>K c h) fun m h=>
  B.gd h a true (fun K=>K b h) fun n h=>
  B.gd h a true (fun K=>B.pv (V.bin .sub n (.int .i64 1)) fun v=>K v h) fun o h=>
  B.gd h a true (fun K=>B.pv (V.idxS E.es m o) fun v=>K v h) fun p h=>
  B.gd h a true (fun K=>E.ld h p fun v=>K v h) fun q h=>
  B.gd h a true (fun K=>B.zf2 h C g [l,q] K) fun r h=>
  B.gd h a true (fun K=>B.pv (V.bin .lss r (.int .i64 0)) fun v=>K v h) fun s h=>
  B.gd h a true (fun K=>B.pv (V.un .not s) fun v=>K v h) fun t h=>
  B.pick a t (.bool false) fun u=>
  B.cond u
  (B.pv (V.bin .add b (.int .i64 1)) fun w=>
  Y4 [w] h)
  (B.pv (V.bin .eql b d) fun x=>
  B.cond x
  (Q (.bool true) h)
  (zb.k8 C E Q Y1 c y d e b f h))
@[simp] def zb.l10 (C:CSem) (E:zy) (Q:zQ) (Y1:zL) (b c d e a:AVal):zG
 | [f],h,Y4=>zb.k9 C E Q Y1 Y4 b c d e f a h
 | _,_,_=>False
@[simp] def zb.k11 (C:CSem) (E:zy) (Q:zQ) (Y1:zL) (c d e f g a:AVal) (h:za):Prop:=
 B.pv (V.bin .lss a (.int .i64 5)) fun b=>
  B.cond b
  (zx (zb.l10 C E Q Y1 c d e f a) [g] h)
  (Q (.bool false) h)
@[simp] def zb.l12 (C:CSem) (E:zy) (Q:zQ) (b c d e:AVal):zG
 | [f,a],h,Y1=>zb.k11 C E Q Y1 b c d e f a h
 | _,_,_=>False
@[simp] def zb.cps (C:CSem) (E:zy) (c a d e:AVal) (h:za) (Q:zQ):Prop:=
 B.pv (V.bin .add a (.int .i64 1)) fun b=>
  zx (zb.l12 C E Q c a d e) [b,(.int .i64 0)] h
@[simp] def zj.k1 (C:CSem) (E:zy) (Q:zQ) (Y1:zL) (c n o a b:AVal) (h:za):Prop:=
 B.pv (V.bin .gtr a b) fun d=>
  B.cond d
  (Q a h)
  (B.pv (V.idxS E.es c b) fun e=>
  E.ld h e fun f=>
  B.pv (V.idxS E.es c a) fun g=>
  E.ld h g fun i=>
  B.pv (V.idxS E.es c a) fun j=>
  E.st h j f fun h=>
  B.pv (V.idxS E.es c b) fun k=>
  E.st h k i fun h=>
  B.pv (V.bin .add a (.int .i64 1)) fun l=>
  B.pv (V.bin .sub b (.int .i64 1)) fun m=>
  Y1 [l,m] h)
@[simp] def zj.k2 (C:CSem) (E:zy) (Q:zQ) (Y1:zL) (Y2:zL) (d e f c b:AVal) (h:za):Prop:=
 B.pv (V.bin .leq c b) fun a=>
  B.gd h a true (fun K=>K f h) fun g h=>
  B.gd h a true (fun K=>K d h) fun i h=>
  B.gd h a true (fun K=>K e h) fun j h=>
  B.gd h a true (fun K=>B.pv (V.idxS E.es i j) fun v=>K v h) fun k h=>
  B.gd h a true (fun K=>E.ld h k fun v=>K v h) fun l h=>
  B.gd h a true (fun K=>K d h) fun m h=>
  B.gd h a true (fun K=>K b h) fun n h=>
  B.gd h a true (fun K=>B.pv (V.idxS E.es m n) fun v=>K v h) fun o h=>
  B.gd h a true (fun K=>E.ld h o fun v=>K v h) fun p h=>
  B.gd h a true (fun K=>B.zf2 h C g [l,p] K) fun q h=>
  B.gd h a true (fun K=>B.pv (V.bin .lss q (.int .i64 0)) fun v=>K v h) fun r h=>
  B.pick a r (.bool false) fun s=>
  B.cond s
  (B.pv (V.bin .sub b (.int .i64 1)) fun t=>
  Y2 [t] h)
  (zj.k1 C E Q Y1 d e f c b h)
@[simp] def zj.l3 (C:CSem) (E:zy) (Q:zQ) (Y1:zL) (c d e a:AVal):zG
 | [b],h,Y2=>zj.k2 C E Q Y1 Y2 c d e a b h
 | _,_,_=>False
@[simp] def zj.k4 (C:CSem) (E:zy) (Q:zQ) (Y1:zL) (Y3:zL) (d e f b c:AVal) (h:za):Prop:=
 B.pv (V.bin .leq b c) fun a=>
  B.gd h a true (fun K=>K f h) fun g h=>
  B.gd h a true (fun K=>K d h) fun i h=>
  B.gd h a true (fun K=>K e h) fun j h=>
  B.gd h a true (fun K=>B.pv (V.idxS E.es i j) fun v=>K v h) fun k h=>
  B.gd h a true (fun K=>E.ld h k fun v=>K v h) fun l h=>
  B.gd h a true (fun K=>K d h) fun m h=>
  B.gd h a true (fun K=>K b h) fun n h=>
  B.gd h a true (fun K=>B.pv (V.idxS E.es m n) fun v=>K v h) fun o h=>
  B.gd h a true (fun K=>E.ld h o fun v=>K v h) fun p h=>
  B.gd h a true (fun K=>B.zf2 h C g [l,p] K) fun q h=>
  B.gd h a true (fun K=>B.pv (V.bin .lss q (.int .i64 0)) fun v=>K v h) fun r h=>
  B.gd h a true (fun K=>B.pv (V.un .not r) fun v=>K v h) fun s h=>
  B.pick a s (.bool false) fun t=>
  B.cond t
  (B.pv (V.bin .add b (.int .i64 1)) fun u=>
  Y3 [u] h)
  (zx (zj.l3 C E Q Y1 d e f b) [c] h)
@[simp] def zj.l5 (C:CSem) (E:zy) (Q:zQ) (Y1:zL) (c d e a:AVal):zG
 | [b],h,Y3=>zj.k4 C E Q Y1 Y3 c d e b a h
 | _,_,_=>False
@[simp] def zj.l6 (C:CSem) (E:zy) (Q:zQ) (c d e:AVal):zG
 | [a,b],h,Y1=>zx (zj.l5 C E Q Y1 c d e b) [a] h
 | _,_,_=>False
@[simp] def zj.k7 (C:CSem) (E:zy) (Q:zQ) (d a e f:AVal) (h:za):Prop:=
 B.pv (V.bin .add a (.int .i64 1)) fun b=>
  B.pv (V.bin .sub e (.int .i64 1)) fun c=>
  zx (zj.l6 C E Q d a f) [b,c] h
@[simp] def zj.k8 (C:CSem) (E:zy) (Q:zQ) (a b k c l:AVal) (h:za):Prop:=
 B.pv (V.idxS E.es a c) fun d=>
  E.ld h d fun e=>
  B.pv (V.idxS E.es a b) fun f=>
  E.ld h f fun g=>
  B.pv (V.idxS E.es a b) fun i=>
  E.st h i e fun h=>
  B.pv (V.idxS E.es a c) fun j=>
  E.st h j g fun h=>
  zj.k7 C E Q a b k l h
@[simp] def zj.cps (C:CSem) (E:zy) (a b c d e:AVal) (h:za) (Q:zQ):Prop:=
 zj.k8 C E Q a b c d e h
@[simp] def ze.k1 (C:CSem) (E:zy) (Q:zQ) (b j a:AVal) (h:za):Prop:=
 B.pv (V.idxS E.es b j) fun c=>
  E.ld h c fun d=>
  B.pv (V.idxS E.es b a) fun e=>
  E.ld h e fun f=>
  B.pv (V.idxS E.es b a) fun g=>
  E.st h g d fun h=>
  B.pv (V.idxS E.es b j) fun i=>
  E.st h i f fun h=>
  Q (.tup [a,(.bool false)]) h
@[simp] def ze.k2 (C:CSem) (E:zy) (Q:zQ) (Y1:zL) (c n o b a:AVal) (h:za):Prop:=
 B.pv (V.bin .gtr b a) fun d=>
  B.cond d
  (ze.k1 C E Q c n a h)
  (B.pv (V.idxS E.es c a) fun e=>
  E.ld h e fun f=>
  B.pv (V.idxS E.es c b) fun g=>
  E.ld h g fun i=>
  B.pv (V.idxS E.es c b) fun j=>
  E.st h j f fun h=>
  B.pv (V.idxS E.es c a) fun k=>
  E.st h k i fun h=>
  B.pv (V.bin .add b (.int .i64 1)) fun l=>
  B.pv (V.bin .sub a (.int .i64 1)) fun m=>
  Y1 [l,m] h)
@[simp] def ze.k3 (C:CSem) (E:zy) (Q:zQ) (Y1:zL) (Y2:zL) (d t u c b:AVal) (h:za):Prop:=
 B.pv (V.bin .leq c b) fun a=>
  B.gd h a true (fun K=>K u h) fun e h=>
  B.gd h a true (fun K=>K d h) fun f h=>
  B.gd h a true (fun K=>K b h) fun g h=>
  B.gd h a true (fun K=>B.pv (V.idxS E.es f g) fun v=>K v h) fun i h=>
  B.gd h a true (fun K=>E.ld h i fun v=>K v h) fun j h=>
  B.gd h a true (fun K=>K d h) fun k h=>
  B.gd h a true (fun K=>K t h) fun l h=>
  B.gd h a true (fun K=>B.pv (V.idxS E.es k l) fun v=>K v h) fun m h=>
  B.gd h a true (fun K=>E.ld h m fun v=>K v h) fun n h=>
  B.gd h a true (fun K=>B.zf2 h C e [j,n] K) fun o h=>
  B.gd h a true (fun K=>B.pv (V.bin .lss o (.int .i64 0)) fun v=>K v h) fun p h=>
  B.gd h a true (fun K=>B.pv (V.un .not p) fun v=>K v h) fun q h=>
  B.pick a q (.bool false) fun r=>
  B.cond r
  (B.pv (V.bin .sub b (.int .i64 1)) fun s=>
  Y2 [s] h)
  (ze.k2 C E Q Y1 d t u c b h)
@[simp] def ze.l4 (C:CSem) (E:zy) (Q:zQ) (Y1:zL) (c d e a:AVal):zG
 | [b],h,Y2=>ze.k3 C E Q Y1 Y2 c d e a b h
 | _,_,_=>False
@[simp] def ze.k5 (C:CSem) (E:zy) (Q:zQ) (Y1:zL) (Y3:zL) (d s t b c:AVal) (h:za):Prop:=
 B.pv (V.bin .leq b c) fun a=>
  B.gd h a true (fun K=>K t h) fun e h=>
  B.gd h a true (fun K=>K d h) fun f h=>
  B.gd h a true (fun K=>K b h) fun g h=>
  B.gd h a true (fun K=>B.pv (V.idxS E.es f g) fun v=>K v h) fun i h=>
  B.gd h a true (fun K=>E.ld h i fun v=>K v h) fun j h=>
  B.gd h a true (fun K=>K d h) fun k h=>
  B.gd h a true (fun K=>K s h) fun l h=>
  B.gd h a true (fun K=>B.pv (V.idxS E.es k l) fun v=>K v h) fun m h=>
  B.gd h a true (fun K=>E.ld h m fun v=>K v h) fun n h=>
  B.gd h a true (fun K=>B.zf2 h C e [j,n] K) fun o h=>
  B.gd h a true (fun K=>B.pv (V.bin .lss o (.int .i64 0)) fun v=>K v h) fun p h=>
  B.pick a p (.bool false) fun q=>
  B.cond q
  (B.pv (V.bin .add b (.int .i64 1)) fun r=>
  Y3 [r] h)
  (zx (ze.l4 C E Q Y1 d s t b) [c] h)
@[simp] def ze.l6 (C:CSem) (E:zy) (Q:zQ) (Y1:zL) (c d e a:AVal):zG
 | [b],h,Y3=>ze.k5 C E Q Y1 Y3 c d e b a h
 | _,_,_=>False
@[simp] def ze.l7 (C:CSem) (E:zy) (Q:zQ) (c d e:AVal):zG
 | [a,b],h,Y1=>zx (ze.l6 C E Q Y1 c d e b) [a] h
 | _,_,_=>False
@[simp] def ze.k8 (C:CSem) (E:zy) (Q:zQ) (e f g c d:AVal) (h:za):Prop:=
 B.pv (V.bin .add c (.int .i64 1)) fun a=>
  B.pv (V.bin .sub d (.int .i64 1)) fun b=>
  zx (ze.l7 C E Q e f g) [a,b] h
@[simp] def ze.k9 (C:CSem) (E:zy) (Q:zQ) (a k l b c:AVal) (h:za):Prop:=
 B.pv (V.idxS E.es a c) fun e=>
  E.ld h e fun f=>
  B.pv (V.idxS E.es a b) fun g=>
  E.ld h g fun i=>
  B.pv (V.idxS E.es a b) fun j=>
  E.st h j f fun h=>
  B.pv (V.idxS E.es a c) fun d=>
  E.st h d i fun h=>
  ze.k8 C E Q a k l b c h
@[simp] def ze.k10 (C:CSem) (E:zy) (Q:zQ) (b d m c a:AVal) (h:za):Prop:=
 B.pv (V.bin .gtr c a) fun e=>
  B.cond e
  (B.pv (V.idxS E.es b d) fun f=>
  E.ld h f fun g=>
  B.pv (V.idxS E.es b a) fun i=>
  E.ld h i fun j=>
  B.pv (V.idxS E.es b a) fun k=>
  E.st h k g fun h=>
  B.pv (V.idxS E.es b d) fun l=>
  E.st h l j fun h=>
  Q (.tup [a,(.bool true)]) h)
  (ze.k9 C E Q b d m c a h)
@[simp] def ze.k11 (C:CSem) (E:zy) (Q:zQ) (Y4:zL) (d e f c b:AVal) (h:za):Prop:=
 B.pv (V.bin .leq c b) fun a=>
  B.gd h a true (fun K=>K f h) fun g h=>
  B.gd h a true (fun K=>K d h) fun i h=>
  B.gd h a true (fun K=>K b h) fun j h=>
  B.gd h a true (fun K=>B.pv (V.idxS E.es i j) fun v=>K v h) fun k h=>
  B.gd h a true (fun K=>E.ld h k fun v=>K v h) fun l h=>
  B.gd h a true (fun K=>K d h) fun m h=>
  B.gd h a true (fun K=>K e h) fun n h=>
  B.gd h a true (fun K=>B.pv (V.idxS E.es m n) fun v=>K v h) fun o h=>
  B.gd h a true (fun K=>E.ld h o fun v=>K v h) fun p h=>
  B.gd h a true (fun K=>B.zf2 h C g [l,p] K) fun q h=>
  B.gd h a true (fun K=>B.pv (V.bin .lss q (.int .i64 0)) fun v=>K v h) fun r h=>
  B.gd h a true (fun K=>B.pv (V.un .not r) fun v=>K v h) fun s h=>
  B.pick a s (.bool false) fun t=>
  B.cond t
  (B.pv (V.bin .sub b (.int .i64 1)) fun u=>
  Y4 [u] h)
  (ze.k10 C E Q d e f c b h)
@[simp] def ze.l12 (C:CSem) (E:zy) (Q:zQ) (c d e a:AVal):zG
 | [b],h,Y4=>ze.k11 C E Q Y4 c d e a b h
 | _,_,_=>False
@[simp] def ze.k13 (C:CSem) (E:zy) (Q:zQ) (Y5:zL) (d e f b c:AVal) (h:za):Prop:=
 B.pv (V.bin .leq b c) fun a=>
  B.gd h a true (fun K=>K f h) fun g h=>
  B.gd h a true (fun K=>K d h) fun i h=>
  B.gd h a true (fun K=>K b h) fun j h=>
  B.gd h a true (fun K=>B.pv (V.idxS E.es i j) fun v=>K v h) fun k h=>
  B.gd h a true (fun K=>E.ld h k fun v=>K v h) fun l h=>
  B.gd h a true (fun K=>K d h) fun m h=>
  B.gd h a true (fun K=>K e h) fun n h=>
  B.gd h a true (fun K=>B.pv (V.idxS E.es m n) fun v=>K v h) fun o h=>
  B.gd h a true (fun K=>E.ld h o fun v=>K v h) fun p h=>
  B.gd h a true (fun K=>B.zf2 h C g [l,p] K) fun q h=>
  B.gd h a true (fun K=>B.pv (V.bin .lss q (.int .i64 0)) fun v=>K v h) fun r h=>
  B.pick a r (.bool false) fun s=>
  B.cond s
  (B.pv (V.bin .add b (.int .i64 1)) fun t=>
  Y5 [t] h)
  (zx (ze.l12 C E Q d e f b) [c] h)
@[simp] def ze.l14 (C:CSem) (E:zy) (Q:zQ) (c d e a:AVal):zG
 | [b],h,Y5=>ze.k13 C E Q Y5 c d e b a h
 | _,_,_=>False
@[simp] def ze.k15 (C:CSem) (E:zy) (Q:zQ) (d a e f:AVal) (h:za):Prop:=
 B.pv (V.bin .add a (.int .i64 1)) fun b=>
  B.pv (V.bin .sub e (.int .i64 1)) fun c=>
  zx (ze.l14 C E Q d a f c) [b] h
@[simp] def ze.k16 (C:CSem) (E:zy) (Q:zQ) (a b k c l:AVal) (h:za):Prop:=
 B.pv (V.idxS E.es a c) fun d=>
  E.ld h d fun e=>
  B.pv (V.idxS E.es a b) fun f=>
  E.ld h f fun g=>
  B.pv (V.idxS E.es a b) fun i=>
  E.st h i e fun h=>
  B.pv (V.idxS E.es a c) fun j=>
  E.st h j g fun h=>
  ze.k15 C E Q a b k l h
@[simp] def ze.cps (C:CSem) (E:zy) (a b c d e:AVal) (h:za) (Q:zQ):Prop:=
 ze.k16 C E Q a b c d e h
@[simp] def zbg.k1 (C:CSem) (E:zy) (Q:zQ) (Y1:zL) (b z c y d a:AVal) (h:za):Prop:=
 B.pv (V.bin .add c d) fun e=>
  B.pv (V.idxS E.es b e) fun f=>
  E.ld h f fun g=>
  B.pv (V.bin .add c a) fun i=>
  B.pv (V.idxS E.es b i) fun j=>
  E.ld h j fun k=>
  B.zf2 h C y [g,k] fun l h=>
  B.pv (V.bin .lss l (.int .i64 0)) fun m=>
  B.pv (V.un .not m) fun n=>
  B.cond n
  (Q (.tup []) h)
  (B.pv (V.bin .add c d) fun o=>
  B.pv (V.bin .add c a) fun p=>
  B.pv (V.bin .add c a) fun q=>
  B.pv (V.idxS E.es b q) fun r=>
  E.ld h r fun s=>
  B.pv (V.bin .add c d) fun t=>
  B.pv (V.idxS E.es b t) fun u=>
  E.ld h u fun v=>
  B.pv (V.idxS E.es b o) fun w=>
  E.st h w s fun h=>
  B.pv (V.idxS E.es b p) fun x=>
  E.st h x v fun h=>
  Y1 [a] h)
@[simp] def zbg.k2 (C:CSem) (E:zy) (Q:zQ) (Y1:zL) (c f d g e b:AVal) (h:za):Prop:=
 B.pv (V.bin .add b (.int .i64 1)) fun i=>
  B.pv (V.bin .lss i f) fun a=>
  B.gd h a true (fun K=>K g h) fun j h=>
  B.gd h a true (fun K=>K c h) fun k h=>
  B.gd h a true (fun K=>K d h) fun l h=>
  B.gd h a true (fun K=>K b h) fun m h=>
  B.gd h a true (fun K=>B.pv (V.bin .add l m) fun v=>K v h) fun n h=>
  B.gd h a true (fun K=>B.pv (V.idxS E.es k n) fun v=>K v h) fun o h=>
  B.gd h a true (fun K=>E.ld h o fun v=>K v h) fun p h=>
  B.gd h a true (fun K=>K c h) fun q h=>
  B.gd h a true (fun K=>K d h) fun r h=>
  B.gd h a true (fun K=>K b h) fun s h=>
  B.gd h a true (fun K=>B.pv (V.bin .add r s) fun v=>K v h) fun t h=>
  B.gd h a true (fun K=>B.pv (V.bin .add t (.int .i64 1)) fun v=>K v h) fun u h=>
  B.gd h a true (fun K=>B.pv (V.idxS E.es q u) fun v=>K v h) fun w h=>
  B.gd h a true (fun K=>E.ld h w fun v=>K v h) fun x h=>
  B.gd h a true (fun K=>B.zf2 h C j [p,x] K) fun y h=>
  B.gd h a true (fun K=>B.pv (V.bin .lss y (.int .i64 0)) fun v=>K v h) fun z h=>
  B.pick a z (.bool false) fun aa=>
  B.cond aa
  (B.pv (V.bin .add b (.int .i64 1)) fun ab=>
  zbg.k1 C E Q Y1 c f d g e ab h)
  (zbg.k1 C E Q Y1 c f d g e b h)
@[simp] def zbg.k3 (C:CSem) (E:zy) (Q:zQ) (Y1:zL) (f c g i a:AVal) (h:za):Prop:=
 B.pv (V.bin .mul (.int .i64 2) a) fun d=>
  B.pv (V.bin .add d (.int .i64 1)) fun b=>
  B.pv (V.bin .geq b c) fun e=>
  B.cond e
  (Q (.tup []) h)
  (zbg.k2 C E Q Y1 f c g i a b h)
@[simp] def zbg.l4 (C:CSem) (E:zy) (Q:zQ) (b c d e:AVal):zG
 | [a],h,Y1=>zbg.k3 C E Q Y1 b c d e a h
 | _,_,_=>False
@[simp] def zbg.cps (C:CSem) (E:zy) (a b c d e:AVal) (h:za) (Q:zQ):Prop:=
 zx (zbg.l4 C E Q a c d e) [b] h
@[simp] def zdr.k1 (C:CSem) (E:zy) (f1:Nat) (Q:zQ) (e a f g:AVal) (h:za):Prop:=
 B.pv (V.bin .sub a (.int .i64 1)) fun b=>
  B.pv (V.bin .add a (.int .i64 1)) fun c=>
  B.call C f1 [e,b,a,c,f,g] h fun d h=>
  Q d h
@[simp] def zdr.cps (C:CSem) (E:zy) (f1:Nat) (a b c d:AVal) (h:za) (Q:zQ):Prop:=
 zdr.k1 C E f1 Q a b c d h
@[simp] def zem.k1 (C:CSem) (E:zy) (f1:Nat) (Q:zQ) (d l m n e f:AVal) (h:za):Prop:=
 B.call C f1 [d,l,m,e,f] h fun a h=>
  B.pv (V.ext 0 a) fun g=>
  B.pv (V.ext 1 a) fun i=>
  B.call C f1 [d,i,n,e,f] h fun b h=>
  B.pv (V.ext 0 b) fun j=>
  B.pv (V.ext 1 b) fun o=>
  B.call C f1 [d,g,j,e,f] h fun c h=>
  B.pv (V.ext 0 c) fun p=>
  B.pv (V.ext 1 c) fun k=>
  Q k h
@[simp] def zem.cps (C:CSem) (E:zy) (f1:Nat) (a b c d e f:AVal) (h:za) (Q:zQ):Prop:=
 zem.k1 C E f1 Q a b c d e f h
@[simp] def zel.k1 (C:CSem) (E:zy) (Q:zQ) (c a b d p:AVal) (h:za):Prop:=
 B.pv (V.idxS E.es c b) fun e=>
  E.ld h e fun f=>
  B.pv (V.idxS E.es c a) fun g=>
  E.ld h g fun i=>
  B.zf2 h C p [f,i] fun j h=>
  B.pv (V.bin .lss j (.int .i64 0)) fun k=>
  B.cond k
  (B.nilCheck d fun l=>
  B.ld h l fun m=>
  B.pv (V.bin .add m (.int .i64 1)) fun n=>
  B.nilCheck d fun o=>
  B.st h o n fun h=>
  Q (.tup [b,a]) h)
  (Q (.tup [a,b]) h)
@[simp] def zel.cps (C:CSem) (E:zy) (a b c d e:AVal) (h:za) (Q:zQ):Prop:=
 zel.k1 C E Q a b c d e h
@[simp] def zhk.k1 (C:CSem) (E:zy) (f1 f2:Nat) (Q:zQ) (a:AVal) (h:za):Prop:=
 B.pv (V.zcv a) fun b=>
  B.pv (V.toInt .u64 b) fun c=>
  B.call C f1 [c] h fun d h=>
  B.call C f2 [a,(.int .i64 0),b,d] h fun e h=>
  Q (.tup []) h
@[simp] def zhk.cps (C:CSem) (E:zy) (f1 f2:Nat) (a:AVal) (h:za) (Q:zQ):Prop:=
 zhk.k1 C E f1 f2 Q a h
@[simp] def zcj.k1 (C:CSem) (E:zy) (Q:zQ) (Y1:zL) (Y2:zL) (e b d a:AVal) (h:za):Prop:=
 B.pv (V.zcv d) fun f=>
  B.pv (V.bin .lss a f) fun g=>
  B.cond g
  (B.pv (V.idxS E.es d a) fun i=>
  E.ld h i fun j=>
  B.pv (V.bin .sub a (.int .i64 1)) fun k=>
  B.pv (V.idxS E.es d k) fun l=>
  E.ld h l fun m=>
  B.pv (V.bin .neq j m) fun n=>
  B.cond n
  (B.pv (V.idxS E.es d a) fun o=>
  E.ld h o fun p=>
  B.pv (V.idxS E.es e b) fun q=>
  E.st h q p fun h=>
  B.pv (V.bin .add b (.int .i64 1)) fun r=>
  B.pv (V.bin .add a (.int .i64 1)) fun c=>
  Y2 [r,c] h)
  (B.pv (V.bin .add a (.int .i64 1)) fun c=>
  Y2 [b,c] h))
  (B.pv (V.zim E.es e (some b) none) fun s=>
  B.clr h E.z s fun _ h=>
  B.pv (V.zim E.es e none (some b)) fun t=>
  Q t h)
@[simp] def zcj.l2 (C:CSem) (E:zy) (Q:zQ) (Y1:zL) (a b:AVal):zG
 | [c,d],h,Y2=>zcj.k1 C E Q Y1 Y2 a c b d h
 | _,_,_=>False
@[simp] def zcj.k3 (C:CSem) (E:zy) (Q:zQ) (Y1:zL) (b a:AVal) (h:za):Prop:=
 B.pv (V.idxS E.es b a) fun c=>
  E.ld h c fun d=>
  B.pv (V.bin .sub a (.int .i64 1)) fun e=>
  B.pv (V.idxS E.es b e) fun f=>
  E.ld h f fun g=>
  B.pv (V.bin .eql d g) fun i=>
  B.cond i (B.pv (V.zim E.es b (some a) none) fun j=>
  zx (zcj.l2 C E Q Y1 b j) [a,(.int .i64 1)] h) (B.pv (V.bin .add a (.int .i64 1)) fun k=>
  Y1 [k] h)
@[simp] def zcj.l4 (C:CSem) (E:zy) (Q:zQ) (a:AVal):zG
 | [b],h,Y1=>B.pv (V.zcv a) fun c=>
  B.pv (V.bin .lss b c) fun d=>
  B.cond d
  (zcj.k3 C E Q Y1 a b h)
  (Q a h)
 | _,_,_=>False
@[simp] def zcj.k5 (C:CSem) (E:zy) (Q:zQ) (a:AVal) (h:za):Prop:=
 B.pv (V.zcv a) fun b=>
  B.pv (V.bin .lss b (.int .i64 2)) fun c=>
  B.cond c
  (Q a h)
  (zx (zcj.l4 C E Q a) [(.int .i64 1)] h)
@[simp] def zcj.cps (C:CSem) (E:zy) (a:AVal) (h:za) (Q:zQ):Prop:=
 zcj.k5 C E Q a h
@[simp] def z8.k1 (C:CSem) (E:zy) (f1 f2 f3 f4 f5 f6 f7 f8 f9 f10:Nat) (Q:zQ) (Y1:zL) (d c e f v8 v9 s g:AVal) (h:za):Prop:=
 B.pv (V.bin .gtr c (.int .i64 0)) fun a=>
  B.gd h a true (fun K=>K d h) fun t h=>
  B.gd h a true (fun K=>K c h) fun u h=>
  B.gd h a true (fun K=>B.pv (V.bin .sub u (.int .i64 1)) fun v=>K v h) fun w h=>
  B.gd h a true (fun K=>B.pv (V.idxS E.es t w) fun v=>K v h) fun x h=>
  B.gd h a true (fun K=>E.ld h x fun v=>K v h) fun y h=>
  B.gd h a true (fun K=>K d h) fun z h=>
  B.gd h a true (fun K=>K g h) fun aa h=>
  B.gd h a true (fun K=>B.pv (V.idxS E.es z aa) fun v=>K v h) fun ab h=>
  B.gd h a true (fun K=>E.ld h ab fun v=>K v h) fun ac h=>
  B.gd h a true (fun K=>B.call C f1 [y,ac] h K) fun ad h=>
  B.gd h a true (fun K=>B.pv (V.un .not ad) fun v=>K v h) fun ae h=>
  B.pick a ae (.bool false) fun af=>
  B.cond af
  (B.call C f2 [d,c,e,g] h fun ag h=>
  Y1 [ag,e,f,v8,v9] h)
  (B.call C f3 [d,c,e,g] h fun m h=>
  B.pv (V.ext 0 m) fun b=>
  B.pv (V.ext 1 m) fun i=>
  B.pv (V.bin .sub b c) fun j=>
  B.pv (V.bin .sub e b) fun k=>
  B.pv (V.bin .quo s (.int .i64 8)) fun l=>
  B.pv (V.bin .lss j k) fun n=>
  B.cond n
  (B.pv (V.bin .geq j l) fun o=>
  B.call C f4 [d,c,b,f] h fun aj h=>
  B.pv (V.bin .add b (.int .i64 1)) fun p=>
  Y1 [p,e,f,o,i] h)
  (B.pv (V.bin .geq k l) fun q=>
  B.pv (V.bin .add b (.int .i64 1)) fun r=>
  B.call C f4 [d,r,e,f] h fun ak h=>
  Y1 [c,b,f,q,i] h))
@[simp] def z8.k2 (C:CSem) (E:zy) (f1 f2 f3 f4 f5 f6 f7 f8 f9 f10:Nat) (Q:zQ) (Y1:zL) (e f g j b i c d k:AVal) (h:za):Prop:=
 B.gd h b true (fun K=>K i h) fun l h=>
  B.pick b l (.bool false) fun a=>
  B.gd h a true (fun K=>K k h) fun m h=>
  B.gd h a true (fun K=>B.pv (V.bin .eql m (.int .i64 1)) fun v=>K v h) fun n h=>
  B.pick a n (.bool false) fun o=>
  B.cond o
  (B.call C f5 [e,f,g] h fun p h=>
  B.cond p
  (Q (.tup []) h)
  (z8.k1 C E f1 f2 f3 f4 f5 f6 f7 f8 f9 f10 Q Y1 e f g j b i c d h))
  (z8.k1 C E f1 f2 f3 f4 f5 f6 f7 f8 f9 f10 Q Y1 e f g j b i c d h)
@[simp] def z8.k3 (C:CSem) (E:zy) (f1 f2 f3 f4 f5 f6 f7 f8 f9 f10:Nat) (Q:zQ) (Y1:zL) (f a b g i j c d e:AVal) (h:za):Prop:=
 B.pv (V.bin .eql e (.int .i64 2)) fun k=>
  B.cond k
  (B.call C f6 [f,a,b] h fun o h=>
  B.pv (V.bin .sub b (.int .i64 1)) fun l=>
  B.pv (V.bin .sub d a) fun m=>
  B.pv (V.bin .sub l m) fun n=>
  z8.k2 C E f1 f2 f3 f4 f5 f6 f7 f8 f9 f10 Q Y1 f a b g i j c n (.int .i64 1) h)
  (z8.k2 C E f1 f2 f3 f4 f5 f6 f7 f8 f9 f10 Q Y1 f a b g i j c d e h)
@[simp] def z8.k4 (C:CSem) (E:zy) (f1 f2 f3 f4 f5 f6 f7 f8 f9 f10:Nat) (Q:zQ) (Y1:zL) (b c d i j k e:AVal) (h:za):Prop:=
 B.call C f7 [b,c,d] h fun a h=>
  B.pv (V.ext 0 a) fun f=>
  B.pv (V.ext 1 a) fun g=>
  z8.k3 C E f1 f2 f3 f4 f5 f6 f7 f8 f9 f10 Q Y1 b c d i j k e f g h
@[simp] def z8.k5 (C:CSem) (E:zy) (f1 f2 f3 f4 f5 f6 f7 f8 f9 f10:Nat) (Q:zQ) (Y1:zL) (b c d f e g a:AVal) (h:za):Prop:=
 B.pv (V.un .not e) fun i=>
  B.cond i
  (B.call C f8 [b,c,d] h fun k h=>
  B.pv (V.bin .sub f (.int .i64 1)) fun j=>
  z8.k4 C E f1 f2 f3 f4 f5 f6 f7 f8 f9 f10 Q Y1 b c d j e g a h)
  (z8.k4 C E f1 f2 f3 f4 f5 f6 f7 f8 f9 f10 Q Y1 b c d f e g a h)
@[simp] def z8.k6 (C:CSem) (E:zy) (f1 f2 f3 f4 f5 f6 f7 f8 f9 f10:Nat) (Q:zQ) (Y1:zL) (a b c d g i e:AVal) (h:za):Prop:=
 B.pv (V.bin .eql d (.int .i64 0)) fun f=>
  B.cond f
  (B.call C f9 [a,b,c] h fun j h=>
  Q (.tup []) h)
  (z8.k5 C E f1 f2 f3 f4 f5 f6 f7 f8 f9 f10 Q Y1 a b c d g i e h)
@[simp] def z8.k7 (C:CSem) (E:zy) (f1 f2 f3 f4 f5 f6 f7 f8 f9 f10:Nat) (Q:zQ) (Y1:zL) (b c d f g i a:AVal) (h:za):Prop:=
 B.pv (V.bin .leq a (.int .i64 12)) fun e=>
  B.cond e
  (B.call C f10 [b,c,d] h fun j h=>
  Q (.tup []) h)
  (z8.k6 C E f1 f2 f3 f4 f5 f6 f7 f8 f9 f10 Q Y1 b c d f g i a h)
@[simp] def z8.l8 (C:CSem) (E:zy) (f1 f2 f3 f4 f5 f6 f7 f8 f9 f10:Nat) (Q:zQ) (d:AVal):zG
 | [a,b,e,f,g],h,Y1=>B.pv (V.bin .sub b a) fun c=>
  z8.k7 C E f1 f2 f3 f4 f5 f6 f7 f8 f9 f10 Q Y1 d a b e f g c h
 | _,_,_=>False
@[simp] def z8.cps (C:CSem) (E:zy) (f1 f2 f3 f4 f5 f6 f7 f8 f9 f10:Nat) (a b c d:AVal) (h:za) (Q:zQ):Prop:=
 zx (z8.l8 C E f1 f2 f3 f4 f5 f6 f7 f8 f9 f10 Q a) [b,c,d,(.bool true),(.bool true)] h
@[simp] def zb4.k1 (C:CSem) (E:zy) (f1:Nat) (Q:zQ) (Y1:zL) (Y2:zL) (c v1 v2 v6 b:AVal) (h:za):Prop:=
 B.pv (V.bin .gtr b v1) fun a=>
  B.gd h a true (fun K=>K c h) fun d h=>
  B.gd h a true (fun K=>K b h) fun e h=>
  B.gd h a true (fun K=>B.pv (V.idxS E.es d e) fun v=>K v h) fun f h=>
  B.gd h a true (fun K=>E.ld h f fun v=>K v h) fun g h=>
  B.gd h a true (fun K=>K c h) fun i h=>
  B.gd h a true (fun K=>K b h) fun j h=>
  B.gd h a true (fun K=>B.pv (V.bin .sub j (.int .i64 1)) fun v=>K v h) fun k h=>
  B.gd h a true (fun K=>B.pv (V.idxS E.es i k) fun v=>K v h) fun l h=>
  B.gd h a true (fun K=>E.ld h l fun v=>K v h) fun m h=>
  B.gd h a true (fun K=>B.call C f1 [g,m] h K) fun n h=>
  B.pick a n (.bool false) fun o=>
  B.cond o
  (B.pv (V.bin .sub b (.int .i64 1)) fun p=>
  B.pv (V.bin .sub b (.int .i64 1)) fun q=>
  B.pv (V.idxS E.es c q) fun r=>
  E.ld h r fun s=>
  B.pv (V.idxS E.es c b) fun t=>
  E.ld h t fun u=>
  B.pv (V.idxS E.es c b) fun w=>
  E.st h w s fun h=>
  B.pv (V.idxS E.es c p) fun x=>
  E.st h x u fun h=>
  B.pv (V.bin .sub b (.int .i64 1)) fun y=>
  Y2 [y] h)
  (B.pv (V.bin .add v6 (.int .i64 1)) fun z=>
  Y1 [z] h)
@[simp] def zb4.l2 (C:CSem) (E:zy) (f1:Nat) (Q:zQ) (Y1:zL) (a b c d:AVal):zG
 | [e],h,Y2=>zb4.k1 C E f1 Q Y1 Y2 a b c d e h
 | _,_,_=>False
@[simp] def zb4.l3 (C:CSem) (E:zy) (f1:Nat) (Q:zQ) (d e b:AVal):zG
 | [a],h,Y1=>B.pv (V.bin .lss a b) fun c=>
  B.cond c
  (zx (zb4.l2 C E f1 Q Y1 d e b a) [a] h)
  (Q (.tup []) h)
 | _,_,_=>False
@[simp] def zb4.cps (C:CSem) (E:zy) (f1:Nat) (b a c:AVal) (h:za) (Q:zQ):Prop:=
 B.pv (V.bin .add a (.int .i64 1)) fun d=>
  zx (zb4.l3 C E f1 Q b a c) [d] h
@[simp] def zbs.k1 (C:CSem) (E:zy) (f1:Nat) (Q:zQ) (Y1:zL) (b c o a:AVal) (h:za):Prop:=
 B.pv (V.bin .geq a (.int .i64 0)) fun d=>
  B.cond d
  (B.pv (V.bin .add c a) fun e=>
  B.pv (V.bin .add c a) fun f=>
  B.pv (V.idxS E.es b f) fun g=>
  E.ld h g fun i=>
  B.pv (V.idxS E.es b c) fun j=>
  E.ld h j fun k=>
  B.pv (V.idxS E.es b c) fun l=>
  E.st h l i fun h=>
  B.pv (V.idxS E.es b e) fun m=>
  E.st h m k fun h=>
  B.call C f1 [b,o,a,c] h fun p h=>
  B.pv (V.bin .sub a (.int .i64 1)) fun n=>
  Y1 [n] h)
  (Q (.tup []) h)
@[simp] def zbs.l2 (C:CSem) (E:zy) (f1:Nat) (Q:zQ) (b c d:AVal):zG
 | [a],h,Y1=>zbs.k1 C E f1 Q Y1 b c d a h
 | _,_,_=>False
@[simp] def zbs.k3 (C:CSem) (E:zy) (f1:Nat) (Q:zQ) (Y2:zL) (b c i d a:AVal) (h:za):Prop:=
 B.pv (V.bin .geq a (.int .i64 0)) fun e=>
  B.cond e
  (B.call C f1 [b,a,d,c] h fun j h=>
  B.pv (V.bin .sub a (.int .i64 1)) fun f=>
  Y2 [f] h)
  (B.pv (V.bin .sub d (.int .i64 1)) fun g=>
  zx (zbs.l2 C E f1 Q b c i) [g] h)
@[simp] def zbs.l4 (C:CSem) (E:zy) (f1:Nat) (Q:zQ) (a b c d:AVal):zG
 | [e],h,Y2=>zbs.k3 C E f1 Q Y2 a b c d e h
 | _,_,_=>False
@[simp] def zbs.k5 (C:CSem) (E:zy) (f1:Nat) (Q:zQ) (d e f a:AVal) (h:za):Prop:=
 B.pv (V.bin .sub a (.int .i64 1)) fun b=>
  B.pv (V.bin .quo b (.int .i64 2)) fun c=>
  zx (zbs.l4 C E f1 Q d e f a) [c] h
@[simp] def zbs.cps (C:CSem) (E:zy) (f1:Nat) (c a d:AVal) (h:za) (Q:zQ):Prop:=
 B.pv (V.bin .sub d a) fun b=>
  zbs.k5 C E f1 Q c a (.int .i64 0) b h
@[simp] def zr.k1 (C:CSem) (E:zy) (f1 f2:Nat) (Q:zQ) (Y1:zL) (a d o p q c b:AVal) (h:za):Prop:=
 B.pv (V.bin .add d b) fun e=>
  B.pv (V.bin .add d b) fun f=>
  B.pv (V.idxS E.es a f) fun g=>
  E.ld h g fun i=>
  B.pv (V.idxS E.es a c) fun j=>
  E.ld h j fun k=>
  B.pv (V.idxS E.es a c) fun l=>
  E.st h l i fun h=>
  B.pv (V.idxS E.es a e) fun m=>
  E.st h m k fun h=>
  B.pv (V.bin .add c (.int .i64 1)) fun n=>
  Y1 [n] h
@[simp] def zr.k2 (C:CSem) (E:zy) (f1 f2:Nat) (Q:zQ) (Y1:zL) (c d b e f g a:AVal) (h:za):Prop:=
 B.pv (V.bin .geq a b) fun i=>
  B.cond i
  (B.pv (V.bin .sub a b) fun j=>
  zr.k1 C E f1 f2 Q Y1 c d b e f g j h)
  (zr.k1 C E f1 f2 Q Y1 c d b e f g a h)
@[simp] def zr.k3 (C:CSem) (E:zy) (f1 f2:Nat) (Q:zQ) (Y1:zL) (g i j a b k:AVal) (h:za):Prop:=
 B.call C f1 [a] h fun c h=>
  B.pv (V.bin .sub b (.int .u64 1)) fun d=>
  B.pv (V.bin .and c d) fun e=>
  B.pv (V.toInt .i64 e) fun f=>
  zr.k2 C E f1 f2 Q Y1 g i j a b k f h
@[simp] def zr.k4 (C:CSem) (E:zy) (f1 f2:Nat) (Q:zQ) (Y1:zL) (j a b k l c:AVal) (h:za):Prop:=
 B.pv (V.bin .quo b (.int .i64 4)) fun d=>
  B.pv (V.bin .mul d (.int .i64 2)) fun e=>
  B.pv (V.bin .add a e) fun f=>
  B.pv (V.bin .add f (.int .i64 1)) fun g=>
  B.pv (V.bin .leq c g) fun i=>
  B.cond i
  (zr.k3 C E f1 f2 Q Y1 j a b k l c h)
  (Q (.tup []) h)
@[simp] def zr.l5 (C:CSem) (E:zy) (f1 f2:Nat) (Q:zQ) (a b c d e:AVal):zG
 | [f],h,Y1=>zr.k4 C E f1 f2 Q Y1 a b c d e f h
 | _,_,_=>False
@[simp] def zr.k6 (C:CSem) (E:zy) (f1 f2:Nat) (Q:zQ) (g a b i j:AVal) (h:za):Prop:=
 B.pv (V.bin .quo b (.int .i64 4)) fun c=>
  B.pv (V.bin .mul c (.int .i64 2)) fun d=>
  B.pv (V.bin .add a d) fun e=>
  B.pv (V.bin .sub e (.int .i64 1)) fun f=>
  zx (zr.l5 C E f1 f2 Q g a b i j) [f] h
@[simp] def zr.k7 (C:CSem) (E:zy) (f1 f2:Nat) (Q:zQ) (e f a:AVal) (h:za):Prop:=
 B.pv (V.toInt .u64 a) fun b=>
  B.newO h (some [.int .u64 0]) fun c h=>
  B.st h (.ptr c 0 0) b fun h=>
  B.call C f2 [a] h fun d h=>
  zr.k6 C E f1 f2 Q e f a (.ptr c 0 0) d h
@[simp] def zr.k8 (C:CSem) (E:zy) (f1 f2:Nat) (Q:zQ) (d b e:AVal) (h:za):Prop:=
 B.pv (V.bin .sub e b) fun a=>
  B.pv (V.bin .geq a (.int .i64 8)) fun c=>
  B.cond c (zr.k7 C E f1 f2 Q d b a h) (Q (.tup []) h)
@[simp] def zr.cps (C:CSem) (E:zy) (f1 f2:Nat) (a b c:AVal) (h:za) (Q:zQ):Prop:=
 zr.k8 C E f1 f2 Q a b c h
@[simp] def zbc.k1 (C:CSem) (E:zy) (f1 f2:Nat) (Q:zQ) (e a:AVal) (h:za):Prop:=
 B.ld h e fun b=>
  B.pv (V.bin .eql b (.int .i64 0)) fun c=>
  B.cond c
  (Q (.tup [a,(.int .i64 1)]) h)
  (B.pv (V.bin .eql b (.int .i64 12)) fun d=>
  B.cond d
  (Q (.tup [a,(.int .i64 2)]) h)
  (Q (.tup [a,(.int .i64 0)]) h))
@[simp] def zbc.k2 (C:CSem) (E:zy) (f1 f2:Nat) (Q:zQ) (b g a e c f:AVal) (h:za):Prop:=
 B.pv (V.bin .geq g (.int .i64 8)) fun i=>
  B.cond i
  (B.pv (V.bin .geq g (.int .i64 50)) fun j=>
  B.cond j
  (B.call C f1 [b,e,a] h fun k h=>
  B.call C f1 [b,c,a] h fun l h=>
  B.call C f1 [b,f,a] h fun m h=>
  B.call C f2 [b,k,l,m,a] h fun d h=>
  zbc.k1 C E f1 f2 Q a d h)
  (B.call C f2 [b,e,c,f,a] h fun d h=>
  zbc.k1 C E f1 f2 Q a d h))
  (zbc.k1 C E f1 f2 Q a c h)
@[simp] def zbc.k3 (C:CSem) (E:zy) (f1 f2:Nat) (Q:zQ) (g i a j b c:AVal) (h:za):Prop:=
 B.pv (V.bin .quo a (.int .i64 4)) fun d=>
  B.pv (V.bin .mul d (.int .i64 3)) fun e=>
  B.pv (V.bin .add i e) fun f=>
  zbc.k2 C E f1 f2 Q g a j b c f h
@[simp] def zbc.k4 (C:CSem) (E:zy) (f1 f2:Nat) (Q:zQ) (g a b i c:AVal) (h:za):Prop:=
 B.pv (V.bin .quo b (.int .i64 4)) fun d=>
  B.pv (V.bin .mul d (.int .i64 2)) fun e=>
  B.pv (V.bin .add a e) fun f=>
  zbc.k3 C E f1 f2 Q g a b i c f h
@[simp] def zbc.k5 (C:CSem) (E:zy) (f1 f2:Nat) (Q:zQ) (f a b g:AVal) (h:za):Prop:=
 B.pv (V.bin .quo b (.int .i64 4)) fun c=>
  B.pv (V.bin .mul c (.int .i64 1)) fun d=>
  B.pv (V.bin .add a d) fun e=>
  zbc.k4 C E f1 f2 Q f a b g e h
@[simp] def zbc.cps (C:CSem) (E:zy) (f1 f2:Nat) (c a d:AVal) (h:za) (Q:zQ):Prop:=
 B.pv (V.bin .sub d a) fun b=>
  B.newO h (some [.int .i64 0]) fun e h=>
  zbc.k5 C E f1 f2 Q c a b (.ptr e 0 0) h
@[simp] def zdb.k1 (C:CSem) (E:zy) (Q:zQ) (Y1:zL) (a b c:AVal) (h:za):Prop:=
 B.pv (V.bin .lss b c) fun d=>
  B.cond d
  (B.pv (V.idxS E.es a c) fun e=>
  E.ld h e fun f=>
  B.pv (V.idxS E.es a b) fun g=>
  E.ld h g fun i=>
  B.pv (V.idxS E.es a b) fun j=>
  E.st h j f fun h=>
  B.pv (V.idxS E.es a c) fun k=>
  E.st h k i fun h=>
  B.pv (V.bin .add b (.int .i64 1)) fun l=>
  B.pv (V.bin .sub c (.int .i64 1)) fun m=>
  Y1 [l,m] h)
  (Q (.tup []) h)
@[simp] def zdb.l2 (C:CSem) (E:zy) (Q:zQ) (a:AVal):zG
 | [b,c],h,Y1=>zdb.k1 C E Q Y1 a b c h
 | _,_,_=>False
@[simp] def zdb.cps (C:CSem) (E:zy) (b c d:AVal) (h:za) (Q:zQ):Prop:=
 B.pv (V.bin .sub d (.int .i64 1)) fun a=>
  zx (zdb.l2 C E Q b) [c,a] h
@[simp] def zf.k1 (C:CSem) (E:zy) (f1:Nat) (Q:zQ) (Y1:zL) (Y2:zL) (b y x v w a:AVal) (h:za):Prop:=
 B.pv (V.bin .lss a x) fun d=>
  B.cond d
  (B.pv (V.idxS E.es b a) fun e=>
  E.ld h e fun f=>
  B.pv (V.bin .sub a (.int .i64 1)) fun g=>
  B.pv (V.idxS E.es b g) fun i=>
  E.ld h i fun j=>
  B.call C f1 [f,j] h fun k h=>
  B.pv (V.un .not k) fun l=>
  B.cond l
  (B.pv (V.bin .add w (.int .i64 1)) fun c=>
  Y1 [v,c] h)
  (B.pv (V.bin .sub a (.int .i64 1)) fun m=>
  B.pv (V.bin .sub a (.int .i64 1)) fun n=>
  B.pv (V.idxS E.es b n) fun o=>
  E.ld h o fun p=>
  B.pv (V.idxS E.es b a) fun q=>
  E.ld h q fun r=>
  B.pv (V.idxS E.es b a) fun s=>
  E.st h s p fun h=>
  B.pv (V.idxS E.es b m) fun t=>
  E.st h t r fun h=>
  B.pv (V.bin .add a (.int .i64 1)) fun u=>
  Y2 [u] h))
  (B.pv (V.bin .add w (.int .i64 1)) fun c=>
  Y1 [v,c] h)
@[simp] def zf.l2 (C:CSem) (E:zy) (f1:Nat) (Q:zQ) (Y1:zL) (b c d e f:AVal):zG
 | [a],h,Y2=>zf.k1 C E f1 Q Y1 Y2 b c d e f a h
 | _,_,_=>False
@[simp] def zf.k3 (C:CSem) (E:zy) (f1:Nat) (Q:zQ) (Y1:zL) (i j c a d:AVal) (h:za):Prop:=
 B.pv (V.bin .sub c a) fun e=>
  B.pv (V.bin .geq e (.int .i64 2)) fun f=>
  B.cond f (B.pv (V.bin .add a (.int .i64 1)) fun b=>
  zx (zf.l2 C E f1 Q Y1 i j c a d) [b] h) (B.pv (V.bin .add d (.int .i64 1)) fun g=>
  Y1 [a,g] h)
@[simp] def zf.k4 (C:CSem) (E:zy) (f1:Nat) (Q:zQ) (Y1:zL) (Y3:zL) (a c d e f b:AVal) (h:za):Prop:=
 B.pv (V.bin .geq b (.int .i64 1)) fun g=>
  B.cond g
  (B.pv (V.idxS E.es a b) fun i=>
  E.ld h i fun j=>
  B.pv (V.bin .sub b (.int .i64 1)) fun k=>
  B.pv (V.idxS E.es a k) fun l=>
  E.ld h l fun m=>
  B.call C f1 [j,m] h fun n h=>
  B.pv (V.un .not n) fun o=>
  B.cond o
  (zf.k3 C E f1 Q Y1 a c d e f h)
  (B.pv (V.bin .sub b (.int .i64 1)) fun p=>
  B.pv (V.bin .sub b (.int .i64 1)) fun q=>
  B.pv (V.idxS E.es a q) fun r=>
  E.ld h r fun s=>
  B.pv (V.idxS E.es a b) fun t=>
  E.ld h t fun u=>
  B.pv (V.idxS E.es a b) fun v=>
  E.st h v s fun h=>
  B.pv (V.idxS E.es a p) fun w=>
  E.st h w u fun h=>
  B.pv (V.bin .sub b (.int .i64 1)) fun x=>
  Y3 [x] h))
  (zf.k3 C E f1 Q Y1 a c d e f h)
@[simp] def zf.l5 (C:CSem) (E:zy) (f1:Nat) (Q:zQ) (Y1:zL) (a b c d e:AVal):zG
 | [f],h,Y3=>zf.k4 C E f1 Q Y1 Y3 a b c d e f h
 | _,_,_=>False
@[simp] def zf.k6 (C:CSem) (E:zy) (f1:Nat) (Q:zQ) (Y1:zL) (c b d a e:AVal) (h:za):Prop:=
 B.pv (V.bin .sub a b) fun f=>
  B.pv (V.bin .geq f (.int .i64 2)) fun g=>
  B.cond g (B.pv (V.bin .sub a (.int .i64 1)) fun i=>
  zx (zf.l5 C E f1 Q Y1 c b d a e) [i] h) (zf.k3 C E f1 Q Y1 c b d a e h)
@[simp] def zf.k7 (C:CSem) (E:zy) (f1:Nat) (Q:zQ) (Y1:zL) (a l m b n:AVal) (h:za):Prop:=
 B.pv (V.bin .sub b (.int .i64 1)) fun c=>
  B.pv (V.bin .sub b (.int .i64 1)) fun d=>
  B.pv (V.idxS E.es a d) fun e=>
  E.ld h e fun f=>
  B.pv (V.idxS E.es a b) fun g=>
  E.ld h g fun i=>
  B.pv (V.idxS E.es a b) fun j=>
  E.st h j f fun h=>
  B.pv (V.idxS E.es a c) fun k=>
  E.st h k i fun h=>
  zf.k6 C E f1 Q Y1 a l m b n h
@[simp] def zf.k8 (C:CSem) (E:zy) (f1:Nat) (Q:zQ) (Y1:zL) (e a b f g:AVal) (h:za):Prop:=
 B.pv (V.bin .sub b a) fun c=>
  B.pv (V.bin .lss c (.int .i64 50)) fun d=>
  B.cond d
  (Q (.bool false) h)
  (zf.k7 C E f1 Q Y1 e a b f g h)
@[simp] def zf.k9 (C:CSem) (E:zy) (f1:Nat) (Q:zQ) (Y1:zL) (Y4:zL) (c t d b u:AVal) (h:za):Prop:=
 B.pv (V.bin .lss b d) fun a=>
  B.gd h a true (fun K=>K c h) fun e h=>
  B.gd h a true (fun K=>K b h) fun f h=>
  B.gd h a true (fun K=>B.pv (V.idxS E.es e f) fun v=>K v h) fun g h=>
  B.gd h a true (fun K=>E.ld h g fun v=>K v h) fun i h=>
  B.gd h a true (fun K=>K c h) fun j h=>
  B.gd h a true (fun K=>K b h) fun k h=>
  B.gd h a true (fun K=>B.pv (V.bin .sub k (.int .i64 1)) fun v=>K v h) fun l h=>
  B.gd h a true (fun K=>B.pv (V.idxS E.es j l) fun v=>K v h) fun m h=>
  B.gd h a true (fun K=>E.ld h m fun v=>K v h) fun n h=>
  B.gd h a true (fun K=>B.call C f1 [i,n] h K) fun o h=>
  B.gd h a true (fun K=>B.pv (V.un .not o) fun v=>K v h) fun p h=>
  B.pick a p (.bool false) fun q=>
  B.cond q
  (B.pv (V.bin .add b (.int .i64 1)) fun r=>
  Y4 [r] h)
  (B.pv (V.bin .eql b d) fun s=>
  B.cond s
  (Q (.bool true) h)
  (zf.k8 C E f1 Q Y1 c t d b u h))
@[simp] def zf.l10 (C:CSem) (E:zy) (f1:Nat) (Q:zQ) (Y1:zL) (a b c d:AVal):zG
 | [e],h,Y4=>zf.k9 C E f1 Q Y1 Y4 a b c e d h
 | _,_,_=>False
@[simp] def zf.k11 (C:CSem) (E:zy) (f1:Nat) (Q:zQ) (Y1:zL) (c d e f a:AVal) (h:za):Prop:=
 B.pv (V.bin .lss a (.int .i64 5)) fun b=>
  B.cond b
  (zx (zf.l10 C E f1 Q Y1 c d e a) [f] h)
  (Q (.bool false) h)
@[simp] def zf.l12 (C:CSem) (E:zy) (f1:Nat) (Q:zQ) (a b c:AVal):zG
 | [d,e],h,Y1=>zf.k11 C E f1 Q Y1 a b c d e h
 | _,_,_=>False
@[simp] def zf.cps (C:CSem) (E:zy) (f1:Nat) (c a d:AVal) (h:za) (Q:zQ):Prop:=
 B.pv (V.bin .add a (.int .i64 1)) fun b=>
  zx (zf.l12 C E f1 Q c a d) [b,(.int .i64 0)] h
@[simp] def zu.k1 (C:CSem) (E:zy) (f1:Nat) (Q:zQ) (Y1:zL) (c n b a:AVal) (h:za):Prop:=
 B.pv (V.bin .gtr b a) fun d=>
  B.cond d
  (Q b h)
  (B.pv (V.idxS E.es c a) fun e=>
  E.ld h e fun f=>
  B.pv (V.idxS E.es c b) fun g=>
  E.ld h g fun i=>
  B.pv (V.idxS E.es c b) fun j=>
  E.st h j f fun h=>
  B.pv (V.idxS E.es c a) fun k=>
  E.st h k i fun h=>
  B.pv (V.bin .add b (.int .i64 1)) fun l=>
  B.pv (V.bin .sub a (.int .i64 1)) fun m=>
  Y1 [l,m] h)
@[simp] def zu.k2 (C:CSem) (E:zy) (f1:Nat) (Q:zQ) (Y1:zL) (Y2:zL) (c d e b:AVal) (h:za):Prop:=
 B.pv (V.bin .leq e b) fun a=>
  B.gd h a true (fun K=>K c h) fun f h=>
  B.gd h a true (fun K=>K d h) fun g h=>
  B.gd h a true (fun K=>B.pv (V.idxS E.es f g) fun v=>K v h) fun i h=>
  B.gd h a true (fun K=>E.ld h i fun v=>K v h) fun j h=>
  B.gd h a true (fun K=>K c h) fun k h=>
  B.gd h a true (fun K=>K b h) fun l h=>
  B.gd h a true (fun K=>B.pv (V.idxS E.es k l) fun v=>K v h) fun m h=>
  B.gd h a true (fun K=>E.ld h m fun v=>K v h) fun n h=>
  B.gd h a true (fun K=>B.call C f1 [j,n] h K) fun o h=>
  B.pick a o (.bool false) fun p=>
  B.cond p
  (B.pv (V.bin .sub b (.int .i64 1)) fun q=>
  Y2 [q] h)
  (zu.k1 C E f1 Q Y1 c d e b h)
@[simp] def zu.l3 (C:CSem) (E:zy) (f1:Nat) (Q:zQ) (Y1:zL) (b c d:AVal):zG
 | [a],h,Y2=>zu.k2 C E f1 Q Y1 Y2 b c d a h
 | _,_,_=>False
@[simp] def zu.k4 (C:CSem) (E:zy) (f1:Nat) (Q:zQ) (Y1:zL) (Y3:zL) (d e b c:AVal) (h:za):Prop:=
 B.pv (V.bin .leq b c) fun a=>
  B.gd h a true (fun K=>K d h) fun f h=>
  B.gd h a true (fun K=>K e h) fun g h=>
  B.gd h a true (fun K=>B.pv (V.idxS E.es f g) fun v=>K v h) fun i h=>
  B.gd h a true (fun K=>E.ld h i fun v=>K v h) fun j h=>
  B.gd h a true (fun K=>K d h) fun k h=>
  B.gd h a true (fun K=>K b h) fun l h=>
  B.gd h a true (fun K=>B.pv (V.idxS E.es k l) fun v=>K v h) fun m h=>
  B.gd h a true (fun K=>E.ld h m fun v=>K v h) fun n h=>
  B.gd h a true (fun K=>B.call C f1 [j,n] h K) fun o h=>
  B.gd h a true (fun K=>B.pv (V.un .not o) fun v=>K v h) fun p h=>
  B.pick a p (.bool false) fun q=>
  B.cond q
  (B.pv (V.bin .add b (.int .i64 1)) fun r=>
  Y3 [r] h)
  (zx (zu.l3 C E f1 Q Y1 d e b) [c] h)
@[simp] def zu.l5 (C:CSem) (E:zy) (f1:Nat) (Q:zQ) (Y1:zL) (b c a:AVal):zG
 | [d],h,Y3=>zu.k4 C E f1 Q Y1 Y3 b c d a h
 | _,_,_=>False
@[simp] def zu.l6 (C:CSem) (E:zy) (f1:Nat) (Q:zQ) (b c:AVal):zG
 | [d,a],h,Y1=>zx (zu.l5 C E f1 Q Y1 b c a) [d] h
 | _,_,_=>False
@[simp] def zu.k7 (C:CSem) (E:zy) (f1:Nat) (Q:zQ) (d a e:AVal) (h:za):Prop:=
 B.pv (V.bin .add a (.int .i64 1)) fun b=>
  B.pv (V.bin .sub e (.int .i64 1)) fun c=>
  zx (zu.l6 C E f1 Q d a) [b,c] h
@[simp] def zu.k8 (C:CSem) (E:zy) (f1:Nat) (Q:zQ) (a b k c:AVal) (h:za):Prop:=
 B.pv (V.idxS E.es a c) fun d=>
  E.ld h d fun e=>
  B.pv (V.idxS E.es a b) fun f=>
  E.ld h f fun g=>
  B.pv (V.idxS E.es a b) fun i=>
  E.st h i e fun h=>
  B.pv (V.idxS E.es a c) fun j=>
  E.st h j g fun h=>
  zu.k7 C E f1 Q a b k h
@[simp] def zu.cps (C:CSem) (E:zy) (f1:Nat) (a b c d:AVal) (h:za) (Q:zQ):Prop:=
 zu.k8 C E f1 Q a b c d h
@[simp] def zh.k1 (C:CSem) (E:zy) (f1:Nat) (Q:zQ) (b j a:AVal) (h:za):Prop:=
 B.pv (V.idxS E.es b j) fun c=>
  E.ld h c fun d=>
  B.pv (V.idxS E.es b a) fun e=>
  E.ld h e fun f=>
  B.pv (V.idxS E.es b a) fun g=>
  E.st h g d fun h=>
  B.pv (V.idxS E.es b j) fun i=>
  E.st h i f fun h=>
  Q (.tup [a,(.bool false)]) h
@[simp] def zh.k2 (C:CSem) (E:zy) (f1:Nat) (Q:zQ) (Y1:zL) (c n b a:AVal) (h:za):Prop:=
 B.pv (V.bin .gtr b a) fun d=>
  B.cond d
  (zh.k1 C E f1 Q c n a h)
  (B.pv (V.idxS E.es c a) fun e=>
  E.ld h e fun f=>
  B.pv (V.idxS E.es c b) fun g=>
  E.ld h g fun i=>
  B.pv (V.idxS E.es c b) fun j=>
  E.st h j f fun h=>
  B.pv (V.idxS E.es c a) fun k=>
  E.st h k i fun h=>
  B.pv (V.bin .add b (.int .i64 1)) fun l=>
  B.pv (V.bin .sub a (.int .i64 1)) fun m=>
  Y1 [l,m] h)
@[simp] def zh.k3 (C:CSem) (E:zy) (f1:Nat) (Q:zQ) (Y1:zL) (Y2:zL) (d r c b:AVal) (h:za):Prop:=
 B.pv (V.bin .leq c b) fun a=>
  B.gd h a true (fun K=>K d h) fun e h=>
  B.gd h a true (fun K=>K b h) fun f h=>
  B.gd h a true (fun K=>B.pv (V.idxS E.es e f) fun v=>K v h) fun g h=>
  B.gd h a true (fun K=>E.ld h g fun v=>K v h) fun i h=>
  B.gd h a true (fun K=>K d h) fun j h=>
  B.gd h a true (fun K=>K r h) fun k h=>
  B.gd h a true (fun K=>B.pv (V.idxS E.es j k) fun v=>K v h) fun l h=>
  B.gd h a true (fun K=>E.ld h l fun v=>K v h) fun m h=>
  B.gd h a true (fun K=>B.call C f1 [i,m] h K) fun n h=>
  B.gd h a true (fun K=>B.pv (V.un .not n) fun v=>K v h) fun o h=>
  B.pick a o (.bool false) fun p=>
  B.cond p
  (B.pv (V.bin .sub b (.int .i64 1)) fun q=>
  Y2 [q] h)
  (zh.k2 C E f1 Q Y1 d r c b h)
@[simp] def zh.l4 (C:CSem) (E:zy) (f1:Nat) (Q:zQ) (Y1:zL) (c d a:AVal):zG
 | [b],h,Y2=>zh.k3 C E f1 Q Y1 Y2 c d a b h
 | _,_,_=>False
@[simp] def zh.k5 (C:CSem) (E:zy) (f1:Nat) (Q:zQ) (Y1:zL) (Y3:zL) (d q b c:AVal) (h:za):Prop:=
 B.pv (V.bin .leq b c) fun a=>
  B.gd h a true (fun K=>K d h) fun e h=>
  B.gd h a true (fun K=>K b h) fun f h=>
  B.gd h a true (fun K=>B.pv (V.idxS E.es e f) fun v=>K v h) fun g h=>
  B.gd h a true (fun K=>E.ld h g fun v=>K v h) fun i h=>
  B.gd h a true (fun K=>K d h) fun j h=>
  B.gd h a true (fun K=>K q h) fun k h=>
  B.gd h a true (fun K=>B.pv (V.idxS E.es j k) fun v=>K v h) fun l h=>
  B.gd h a true (fun K=>E.ld h l fun v=>K v h) fun m h=>
  B.gd h a true (fun K=>B.call C f1 [i,m] h K) fun n h=>
  B.pick a n (.bool false) fun o=>
  B.cond o
  (B.pv (V.bin .add b (.int .i64 1)) fun p=>
  Y3 [p] h)
  (zx (zh.l4 C E f1 Q Y1 d q b) [c] h)
@[simp] def zh.l6 (C:CSem) (E:zy) (f1:Nat) (Q:zQ) (Y1:zL) (c d a:AVal):zG
 | [b],h,Y3=>zh.k5 C E f1 Q Y1 Y3 c d b a h
 | _,_,_=>False
@[simp] def zh.l7 (C:CSem) (E:zy) (f1:Nat) (Q:zQ) (c d:AVal):zG
 | [a,b],h,Y1=>zx (zh.l6 C E f1 Q Y1 c d b) [a] h
 | _,_,_=>False
@[simp] def zh.k8 (C:CSem) (E:zy) (f1:Nat) (Q:zQ) (e f a b:AVal) (h:za):Prop:=
 B.pv (V.bin .add a (.int .i64 1)) fun c=>
  B.pv (V.bin .sub b (.int .i64 1)) fun d=>
  zx (zh.l7 C E f1 Q e f) [c,d] h
@[simp] def zh.k9 (C:CSem) (E:zy) (f1:Nat) (Q:zQ) (a k b c:AVal) (h:za):Prop:=
 B.pv (V.idxS E.es a c) fun d=>
  E.ld h d fun e=>
  B.pv (V.idxS E.es a b) fun f=>
  E.ld h f fun g=>
  B.pv (V.idxS E.es a b) fun i=>
  E.st h i e fun h=>
  B.pv (V.idxS E.es a c) fun j=>
  E.st h j g fun h=>
  zh.k8 C E f1 Q a k b c h
@[simp] def zh.k10 (C:CSem) (E:zy) (f1:Nat) (Q:zQ) (b d c a:AVal) (h:za):Prop:=
 B.pv (V.bin .gtr c a) fun e=>
  B.cond e
  (B.pv (V.idxS E.es b d) fun f=>
  E.ld h f fun g=>
  B.pv (V.idxS E.es b a) fun i=>
  E.ld h i fun j=>
  B.pv (V.idxS E.es b a) fun k=>
  E.st h k g fun h=>
  B.pv (V.idxS E.es b d) fun l=>
  E.st h l j fun h=>
  Q (.tup [a,(.bool true)]) h)
  (zh.k9 C E f1 Q b d c a h)
@[simp] def zh.k11 (C:CSem) (E:zy) (f1:Nat) (Q:zQ) (Y4:zL) (d e c b:AVal) (h:za):Prop:=
 B.pv (V.bin .leq c b) fun a=>
  B.gd h a true (fun K=>K d h) fun f h=>
  B.gd h a true (fun K=>K b h) fun g h=>
  B.gd h a true (fun K=>B.pv (V.idxS E.es f g) fun v=>K v h) fun i h=>
  B.gd h a true (fun K=>E.ld h i fun v=>K v h) fun j h=>
  B.gd h a true (fun K=>K d h) fun k h=>
  B.gd h a true (fun K=>K e h) fun l h=>
  B.gd h a true (fun K=>B.pv (V.idxS E.es k l) fun v=>K v h) fun m h=>
  B.gd h a true (fun K=>E.ld h m fun v=>K v h) fun n h=>
  B.gd h a true (fun K=>B.call C f1 [j,n] h K) fun o h=>
  B.gd h a true (fun K=>B.pv (V.un .not o) fun v=>K v h) fun p h=>
  B.pick a p (.bool false) fun q=>
  B.cond q
  (B.pv (V.bin .sub b (.int .i64 1)) fun r=>
  Y4 [r] h)
  (zh.k10 C E f1 Q d e c b h)
@[simp] def zh.l12 (C:CSem) (E:zy) (f1:Nat) (Q:zQ) (c d a:AVal):zG
 | [b],h,Y4=>zh.k11 C E f1 Q Y4 c d a b h
 | _,_,_=>False
@[simp] def zh.k13 (C:CSem) (E:zy) (f1:Nat) (Q:zQ) (Y5:zL) (d e b c:AVal) (h:za):Prop:=
 B.pv (V.bin .leq b c) fun a=>
  B.gd h a true (fun K=>K d h) fun f h=>
  B.gd h a true (fun K=>K b h) fun g h=>
  B.gd h a true (fun K=>B.pv (V.idxS E.es f g) fun v=>K v h) fun i h=>
  B.gd h a true (fun K=>E.ld h i fun v=>K v h) fun j h=>
  B.gd h a true (fun K=>K d h) fun k h=>
  B.gd h a true (fun K=>K e h) fun l h=>
  B.gd h a true (fun K=>B.pv (V.idxS E.es k l) fun v=>K v h) fun m h=>
  B.gd h a true (fun K=>E.ld h m fun v=>K v h) fun n h=>
  B.gd h a true (fun K=>B.call C f1 [j,n] h K) fun o h=>
  B.pick a o (.bool false) fun p=>
  B.cond p
  (B.pv (V.bin .add b (.int .i64 1)) fun q=>
  Y5 [q] h)
  (zx (zh.l12 C E f1 Q d e b) [c] h)
@[simp] def zh.l14 (C:CSem) (E:zy) (f1:Nat) (Q:zQ) (c d a:AVal):zG
 | [b],h,Y5=>zh.k13 C E f1 Q Y5 c d b a h
 | _,_,_=>False
@[simp] def zh.k15 (C:CSem) (E:zy) (f1:Nat) (Q:zQ) (d a e:AVal) (h:za):Prop:=
 B.pv (V.bin .add a (.int .i64 1)) fun b=>
  B.pv (V.bin .sub e (.int .i64 1)) fun c=>
  zx (zh.l14 C E f1 Q d a c) [b] h
@[simp] def zh.k16 (C:CSem) (E:zy) (f1:Nat) (Q:zQ) (a b k c:AVal) (h:za):Prop:=
 B.pv (V.idxS E.es a c) fun d=>
  E.ld h d fun e=>
  B.pv (V.idxS E.es a b) fun f=>
  E.ld h f fun g=>
  B.pv (V.idxS E.es a b) fun i=>
  E.st h i e fun h=>
  B.pv (V.idxS E.es a c) fun j=>
  E.st h j g fun h=>
  zh.k15 C E f1 Q a b k h
@[simp] def zh.cps (C:CSem) (E:zy) (f1:Nat) (a b c d:AVal) (h:za) (Q:zQ):Prop:=
 zh.k16 C E f1 Q a b c d h
@[simp] def zca.k1 (C:CSem) (E:zy) (f1:Nat) (Q:zQ) (Y1:zL) (a x b d c:AVal) (h:za):Prop:=
 B.pv (V.bin .add b d) fun e=>
  B.pv (V.idxS E.es a e) fun f=>
  E.ld h f fun g=>
  B.pv (V.bin .add b c) fun i=>
  B.pv (V.idxS E.es a i) fun j=>
  E.ld h j fun k=>
  B.call C f1 [g,k] h fun l h=>
  B.pv (V.un .not l) fun m=>
  B.cond m
  (Q (.tup []) h)
  (B.pv (V.bin .add b d) fun n=>
  B.pv (V.bin .add b c) fun o=>
  B.pv (V.bin .add b c) fun p=>
  B.pv (V.idxS E.es a p) fun q=>
  E.ld h q fun r=>
  B.pv (V.bin .add b d) fun s=>
  B.pv (V.idxS E.es a s) fun t=>
  E.ld h t fun u=>
  B.pv (V.idxS E.es a n) fun v=>
  E.st h v r fun h=>
  B.pv (V.idxS E.es a o) fun w=>
  E.st h w u fun h=>
  Y1 [c] h)
@[simp] def zca.k2 (C:CSem) (E:zy) (f1:Nat) (Q:zQ) (Y1:zL) (c e d f b:AVal) (h:za):Prop:=
 B.pv (V.bin .add b (.int .i64 1)) fun g=>
  B.pv (V.bin .lss g e) fun a=>
  B.gd h a true (fun K=>K c h) fun i h=>
  B.gd h a true (fun K=>K d h) fun j h=>
  B.gd h a true (fun K=>K b h) fun k h=>
  B.gd h a true (fun K=>B.pv (V.bin .add j k) fun v=>K v h) fun l h=>
  B.gd h a true (fun K=>B.pv (V.idxS E.es i l) fun v=>K v h) fun m h=>
  B.gd h a true (fun K=>E.ld h m fun v=>K v h) fun n h=>
  B.gd h a true (fun K=>K c h) fun o h=>
  B.gd h a true (fun K=>K d h) fun p h=>
  B.gd h a true (fun K=>K b h) fun q h=>
  B.gd h a true (fun K=>B.pv (V.bin .add p q) fun v=>K v h) fun r h=>
  B.gd h a true (fun K=>B.pv (V.bin .add r (.int .i64 1)) fun v=>K v h) fun s h=>
  B.gd h a true (fun K=>B.pv (V.idxS E.es o s) fun v=>K v h) fun t h=>
  B.gd h a true (fun K=>E.ld h t fun v=>K v h) fun u h=>
  B.gd h a true (fun K=>B.call C f1 [n,u] h K) fun w h=>
  B.pick a w (.bool false) fun x=>
  B.cond x
  (B.pv (V.bin .add b (.int .i64 1)) fun y=>
  zca.k1 C E f1 Q Y1 c e d f y h)
  (zca.k1 C E f1 Q Y1 c e d f b h)
@[simp] def zca.k3 (C:CSem) (E:zy) (f1:Nat) (Q:zQ) (Y1:zL) (f b g c:AVal) (h:za):Prop:=
 B.pv (V.bin .mul (.int .i64 2) c) fun d=>
  B.pv (V.bin .add d (.int .i64 1)) fun a=>
  B.pv (V.bin .geq a b) fun e=>
  B.cond e
  (Q (.tup []) h)
  (zca.k2 C E f1 Q Y1 f b g c a h)
@[simp] def zca.l4 (C:CSem) (E:zy) (f1:Nat) (Q:zQ) (a b c:AVal):zG
 | [d],h,Y1=>zca.k3 C E f1 Q Y1 a b c d h
 | _,_,_=>False
@[simp] def zca.cps (C:CSem) (E:zy) (f1:Nat) (a b c d:AVal) (h:za) (Q:zQ):Prop:=
 zx (zca.l4 C E f1 Q a c d) [b] h
@[simp] def ze8.cps (C:CSem) (E:zy) (f1:Nat) (d a e:AVal) (h:za) (Q:zQ):Prop:=
 B.pv (V.bin .sub a (.int .i64 1)) fun f=>
  B.pv (V.bin .add a (.int .i64 1)) fun b=>
  B.call C f1 [d,f,a,b,e] h fun c h=>
  Q c h
@[simp] def ze7.k1 (C:CSem) (E:zy) (f1:Nat) (Q:zQ) (d k l m e:AVal) (h:za):Prop:=
 B.call C f1 [d,k,l,e] h fun a h=>
  B.pv (V.ext 0 a) fun f=>
  B.pv (V.ext 1 a) fun g=>
  B.call C f1 [d,g,m,e] h fun b h=>
  B.pv (V.ext 0 b) fun i=>
  B.pv (V.ext 1 b) fun n=>
  B.call C f1 [d,f,i,e] h fun c h=>
  B.pv (V.ext 0 c) fun o=>
  B.pv (V.ext 1 c) fun j=>
  Q j h
@[simp] def ze7.cps (C:CSem) (E:zy) (f1:Nat) (a b c d e:AVal) (h:za) (Q:zQ):Prop:=
 ze7.k1 C E f1 Q a b c d e h
@[simp] def ze6.k1 (C:CSem) (E:zy) (f1:Nat) (Q:zQ) (c a b d:AVal) (h:za):Prop:=
 B.pv (V.idxS E.es c b) fun e=>
  E.ld h e fun f=>
  B.pv (V.idxS E.es c a) fun g=>
  E.ld h g fun i=>
  B.call C f1 [f,i] h fun j h=>
  B.cond j
  (B.nilCheck d fun k=>
  B.ld h k fun l=>
  B.pv (V.bin .add l (.int .i64 1)) fun m=>
  B.nilCheck d fun n=>
  B.st h n m fun h=>
  Q (.tup [b,a]) h)
  (Q (.tup [a,b]) h)
@[simp] def ze6.cps (C:CSem) (E:zy) (f1:Nat) (a b c d:AVal) (h:za) (Q:zQ):Prop:=
 ze6.k1 C E f1 Q a b c d h
@[simp] def zgh.k1 (C:CSem) (E:zy) (Q:zQ) (a m:AVal) (h:za):Prop:=
 B.pv (V.capSl a) fun c=>
  B.pv (V.zcv a) fun d=>
  B.pv (V.bin .sub c d) fun e=>
  B.pv (V.bin .sub m e) fun b=>
  B.pv (V.bin .gtr b (.int .i64 0)) fun f=>
  B.cond f
  (B.pv (V.capSl a) fun g=>
  B.pv (V.zim E.es a none (some g)) fun i=>
  B.appZ h E.es E.bytes E.z i b fun j h=>
  B.pv (V.zcv a) fun k=>
  B.pv (V.zim E.es j none (some k)) fun l=>
  Q l h)
  (Q a h)
@[simp] def zgh.cps (C:CSem) (E:zy) (b a:AVal) (h:za) (Q:zQ):Prop:=
 B.pv (V.bin .lss a (.int .i64 0)) fun c=>
  B.cond c
  (False)
  (zgh.k1 C E Q b a h)
@[simp] def zku.cps (C:CSem) (E:zy) (f1:Nat) (a b:AVal) (h:za) (Q:zQ):Prop:=
 B.call C f1 [a,b] h fun c h=>
  B.pv (V.bin .geq c (.int .i64 0)) fun d=>
  Q d h
@[simp] def zev.k1 (C:CSem) (E:zy) (Q:zQ) (Y1:zL) (f g i a:AVal) (h:za):Prop:=
 B.pv (V.bin .lss a i) fun j=>
  B.cond j
  (B.pv (V.idxS E.es f a) fun b=>
  E.ld h b fun c=>
  B.pv (V.bin .eql g c) fun d=>
  B.cond d
  (Q a h)
  (B.pv (V.bin .add a (.int .i64 1)) fun e=>
  Y1 [e] h))
  (Q (.int .i64 (-1)) h)
@[simp] def zev.l2 (C:CSem) (E:zy) (Q:zQ) (a b c:AVal):zG
 | [d],h,Y1=>zev.k1 C E Q Y1 a b c d h
 | _,_,_=>False
@[simp] def zev.cps (C:CSem) (E:zy) (a b:AVal) (h:za) (Q:zQ):Prop:=
 B.pv (V.zcv a) fun c=>
  zx (zev.l2 C E Q a b c) [(.int .i64 0)] h
@[simp] def zd0.k1 (C:CSem) (E:zy) (f1:Nat) (Q:zQ) (d e:AVal) (h:za):Prop:=
 B.pv (V.zcv d) fun a=>
  B.pv (V.zcv e) fun b=>
  B.pv (V.bin .lss a b) fun c=>
  B.cond c
  (Q (.int .i64 (-1)) h)
  (Q (.int .i64 0) h)
@[simp] def zd0.k2 (C:CSem) (E:zy) (f1:Nat) (Q:zQ) (Y1:zL) (o c p d a:AVal) (h:za):Prop:=
 B.pv (V.bin .lss a d) fun e=>
  B.cond e
  (B.pv (V.idxS E.es p a) fun f=>
  E.ld h f fun g=>
  B.pv (V.zcv c) fun i=>
  B.pv (V.bin .geq a i) fun j=>
  B.cond j
  (Q (.int .i64 1) h)
  (B.pv (V.idxS E.es c a) fun k=>
  E.ld h k fun l=>
  B.call C f1 [g,l] h fun b h=>
  B.pv (V.bin .neq b (.int .i64 0)) fun m=>
  B.cond m
  (Q b h)
  (B.pv (V.bin .add a (.int .i64 1)) fun n=>
  Y1 [n] h)))
  (zd0.k1 C E f1 Q o c h)
@[simp] def zd0.l3 (C:CSem) (E:zy) (f1:Nat) (Q:zQ) (c d e a:AVal):zG
 | [b],h,Y1=>zd0.k2 C E f1 Q Y1 c d e a b h
 | _,_,_=>False
@[simp] def zd0.cps (C:CSem) (E:zy) (f1:Nat) (a c:AVal) (h:za) (Q:zQ):Prop:=
 B.pv (V.zcv a) fun b=>
  zx (zd0.l3 C E f1 Q a c a b) [(.int .i64 0)] h
def zw.cps (C:CSem) (N:zN) (a b:AVal) (h:za) (Q:zQ):Prop:=
 zb2.cps C (opsF 8 80 [.int .i64 0,.str [],.int .i64 0,.int .i64 0,.int .i64 0,.int .u8 0,.int .i64 0,.str []] 0 []) a b h Q
def zw.Imp (C:CSem) (N:zN):Prop:=im2 C (N 206) (zw.cps C N)
@[simp] def zcw.k1 (C:CSem) (N:zN) (Q:zQ) (a:AVal) (h:za):Prop:=
 B.nilCheck a fun u=>
  B.ld h u fun v=>
  B.nilCheck a fun w=>
  B.ld h w fun x=>
  B.pv (V.bin .shl x (.int .u64 13)) fun y=>
  B.pv (V.bin .xor v y) fun b=>
  B.nilCheck a fun c=>
  B.st h c b fun h=>
  B.nilCheck a fun d=>
  B.ld h d fun e=>
  B.nilCheck a fun f=>
  B.ld h f fun g=>
  B.pv (V.bin .shr g (.int .u64 7)) fun i=>
  B.pv (V.bin .xor e i) fun j=>
  B.nilCheck a fun k=>
  B.st h k j fun h=>
  B.nilCheck a fun l=>
  B.ld h l fun m=>
  B.nilCheck a fun n=>
  B.ld h n fun o=>
  B.pv (V.bin .shl o (.int .u64 17)) fun p=>
  B.pv (V.bin .xor m p) fun q=>
  B.nilCheck a fun r=>
  B.st h r q fun h=>
  B.nilCheck a fun s=>
  B.ld h s fun t=>
  Q t h
@[simp] def zcw.cps (C:CSem) (N:zN) (a:AVal) (h:za) (Q:zQ):Prop:=
 zcw.k1 C N Q a h
def zcw.Imp (C:CSem) (N:zN):Prop:=im1 C (N 298) (zcw.cps C N)
@[simp] def zda.cps (C:CSem) (N:zN) (a:AVal) (h:za) (Q:zQ):Prop:=
 B.pv (V.toInt .u64 a) fun b=>
  B.call C (N 287) [b] h fun c h=>
  B.pv (V.bin .shl (.int .u64 1) c) fun d=>
  Q d h
def zda.Imp (C:CSem) (N:zN):Prop:=im1 C (N 299) (zda.cps C N)
def zbo.cps (C:CSem) (N:zN) (a:AVal) (h:za) (Q:zQ):Prop:=
 zhk.cps C (opsS 16 (.str []) 0) (N 287) (N 375) a h Q
def zbo.Imp (C:CSem) (N:zN):Prop:=im1 C (N 364) (zbo.cps C N)
def zbh.cps (C:CSem) (N:zN) (a:AVal) (h:za) (Q:zQ):Prop:=
 zcj.cps C (opsS 16 (.str []) 0) a h Q
def zbh.Imp (C:CSem) (N:zN):Prop:=im1 C (N 365) (zbh.cps C N)
def zbd.cps (C:CSem) (N:zN) (a b:AVal) (h:za) (Q:zQ):Prop:=
 zb2.cps C (opsF 4 72 [.str [],.int .i64 0,.nils,.nils] 0 []) a b h Q
def zbd.Imp (C:CSem) (N:zN):Prop:=im2 C (N 367) (zbd.cps C N)
@[simp] def zl.k1 (C:CSem) (N:zN) (Q:zQ) (Y1:zL) (b c d a:AVal) (h:za):Prop:=
 B.pv (V.bin .lss a d) fun e=>
  B.cond e
  (B.pv (V.idxS 1 c a) fun f=>
  B.ld h f fun g=>
  B.appW h 1 16 b g fun i h=>
  B.pv (V.bin .add a (.int .i64 1)) fun j=>
  Y1 [i,j] h)
  (Q b h)
@[simp] def zl.l2 (C:CSem) (N:zN) (Q:zQ) (a b:AVal):zG
 | [d,c],h,Y1=>zl.k1 C N Q Y1 d a b c h
 | _,_,_=>False
@[simp] def zl.k3 (C:CSem) (N:zN) (Q:zQ) (Y2:zL) (c d o e a:AVal) (h:za):Prop:=
 B.pv (V.bin .lss a e) fun f=>
  B.cond f
  (B.pv (V.idxS 1 o a) fun g=>
  B.ld h g fun i=>
  B.pv (V.zcv i) fun j=>
  B.pv (V.bin .add d j) fun b=>
  B.pv (V.bin .lss b (.int .i64 0)) fun k=>
  B.cond k
  (False)
  (B.pv (V.bin .add a (.int .i64 1)) fun l=>
  Y2 [b,l] h))
  (B.call C (N 376) [.nils,d] h fun m h=>
  B.pv (V.zcv c) fun n=>
  zx (zl.l2 C N Q c n) [m,(.int .i64 0)] h)
@[simp] def zl.l4 (C:CSem) (N:zN) (Q:zQ) (c d a:AVal):zG
 | [e,b],h,Y2=>zl.k3 C N Q Y2 c e d a b h
 | _,_,_=>False
@[simp] def zl.cps (C:CSem) (N:zN) (a:AVal) (h:za) (Q:zQ):Prop:=
 B.pv (V.zcv a) fun b=>
  zx (zl.l4 C N Q a a b) [(.int .i64 0),(.int .i64 0)] h
def zl.Imp (C:CSem) (N:zN):Prop:=im1 C (N 373) (zl.cps C N)
def zcx.cps (C:CSem) (N:zN) (a b c d:AVal) (h:za) (Q:zQ):Prop:=
 z8.cps C (opsS 16 (.str []) 0) (N 377) (N 378) (N 379) (N 375) (N 380) (N 381) (N 382) (N 383) (N 384) (N 385) a b c d h Q
def zcx.Imp (C:CSem) (N:zN):Prop:=im4 C (N 375) (zcx.cps C N)
def zbw.cps (C:CSem) (N:zN) (a b:AVal) (h:za) (Q:zQ):Prop:=
 zgh.cps C (opsS 16 (.str []) 0) a b h Q
def zbw.Imp (C:CSem) (N:zN):Prop:=im2 C (N 376) (zbw.cps C N)
def zby.cps (C:CSem) (N:zN) (a b c d:AVal) (h:za) (Q:zQ):Prop:=
 zu.cps C (opsS 16 (.str []) 0) (N 377) a b c d h Q
def zby.Imp (C:CSem) (N:zN):Prop:=im4 C (N 378) (zby.cps C N)
def zcn.cps (C:CSem) (N:zN) (a b c d:AVal) (h:za) (Q:zQ):Prop:=
 zh.cps C (opsS 16 (.str []) 0) (N 377) a b c d h Q
def zcn.Imp (C:CSem) (N:zN):Prop:=im4 C (N 379) (zcn.cps C N)
def zbp.cps (C:CSem) (N:zN) (a b c:AVal) (h:za) (Q:zQ):Prop:=
 zf.cps C (opsS 16 (.str []) 0) (N 377) a b c h Q
def zbp.Imp (C:CSem) (N:zN):Prop:=im3 C (N 380) (zbp.cps C N)
def zcb.cps (C:CSem) (N:zN) (a b c:AVal) (h:za) (Q:zQ):Prop:=
 zdb.cps C (opsS 16 (.str []) 0) a b c h Q
def zcb.Imp (C:CSem) (N:zN):Prop:=im3 C (N 381) (zcb.cps C N)
def zcf.cps (C:CSem) (N:zN) (a b c:AVal) (h:za) (Q:zQ):Prop:=
 zbc.cps C (opsS 16 (.str []) 0) (N 387) (N 388) a b c h Q
def zcf.Imp (C:CSem) (N:zN):Prop:=im3 C (N 382) (zcf.cps C N)
def zb7.cps (C:CSem) (N:zN) (a b c:AVal) (h:za) (Q:zQ):Prop:=
 zr.cps C (opsS 16 (.str []) 0) (N 298) (N 299) a b c h Q
def zb7.Imp (C:CSem) (N:zN):Prop:=im3 C (N 383) (zb7.cps C N)
def zct.cps (C:CSem) (N:zN) (a b c:AVal) (h:za) (Q:zQ):Prop:=
 zbs.cps C (opsS 16 (.str []) 0) (N 386) a b c h Q
def zct.Imp (C:CSem) (N:zN):Prop:=im3 C (N 384) (zct.cps C N)
def zb5.cps (C:CSem) (N:zN) (a b c:AVal) (h:za) (Q:zQ):Prop:=
 zb4.cps C (opsS 16 (.str []) 0) (N 377) a b c h Q
def zb5.Imp (C:CSem) (N:zN):Prop:=im3 C (N 385) (zb5.cps C N)
def zcr.cps (C:CSem) (N:zN) (a b c d:AVal) (h:za) (Q:zQ):Prop:=
 zca.cps C (opsS 16 (.str []) 0) (N 377) a b c d h Q
def zcr.Imp (C:CSem) (N:zN):Prop:=im4 C (N 386) (zcr.cps C N)
def zb0.cps (C:CSem) (N:zN) (a b c:AVal) (h:za) (Q:zQ):Prop:=
 ze8.cps C (opsS 16 (.str []) 0) (N 388) a b c h Q
def zb0.Imp (C:CSem) (N:zN):Prop:=im3 C (N 387) (zb0.cps C N)
def zc4.cps (C:CSem) (N:zN) (a b c d e:AVal) (h:za) (Q:zQ):Prop:=
 ze7.cps C (opsS 16 (.str []) 0) (N 390) a b c d e h Q
def zc4.Imp (C:CSem) (N:zN):Prop:=im5 C (N 388) (zc4.cps C N)
def zc2.cps (C:CSem) (N:zN) (a b c d:AVal) (h:za) (Q:zQ):Prop:=
 ze6.cps C (opsS 16 (.str []) 0) (N 377) a b c d h Q
def zc2.Imp (C:CSem) (N:zN):Prop:=im4 C (N 390) (zc2.cps C N)
def zbi.cps (C:CSem) (N:zN) (a b:AVal) (h:za) (Q:zQ):Prop:=
 zku.cps C (opsS 16 (.str []) 0) (N 445) a b h Q
def zbi.Imp (C:CSem) (N:zN):Prop:=im2 C (N 442) (zbi.cps C N)
def zbt.cps (C:CSem) (N:zN) (a b:AVal) (h:za) (Q:zQ):Prop:=
 zev.cps C (opsS 16 (.str []) 0) a b h Q
def zbt.Imp (C:CSem) (N:zN):Prop:=im2 C (N 445) (zbt.cps C N)
def zbm.cps (C:CSem) (N:zN) (a b:AVal) (h:za) (Q:zQ):Prop:=
 zfk.cps C (opsS 24 (.nils) 0) (N 287) (N 579) a b h Q
def zbm.Imp (C:CSem) (N:zN):Prop:=im2 C (N 566) (zbm.cps C N)
def zbf.cps (C:CSem) (N:zN) (a:AVal) (h:za) (Q:zQ):Prop:=
 zkg.cps C (opsS 16 (.str []) 0) a h Q
def zbf.Imp (C:CSem) (N:zN):Prop:=im1 C (N 567) (zbf.cps C N)
def zbj.cps (C:CSem) (N:zN) (a:AVal) (h:za) (Q:zQ):Prop:=
 zkg.cps C (opsF 2 24 [.str [],.int .i64 0] 0 []) a h Q
def zbj.Imp (C:CSem) (N:zN):Prop:=im1 C (N 569) (zbj.cps C N)
def z7.cps (C:CSem) (N:zN) (a b:AVal) (h:za) (Q:zQ):Prop:=
 zb2.cps C (opsF 6 56 [.int .i64 0,.str [],.int .i64 0,.int .i64 0,.int .i64 0,.bool false] 0 []) a b h Q
def z7.Imp (C:CSem) (N:zN):Prop:=im2 C (N 572) (z7.cps C N)
def z6.cps (C:CSem) (N:zN) (a b:AVal) (h:za) (Q:zQ):Prop:=
 zir.cps C (opsF 4 72 [.str [],.int .i64 0,.nils,.nils] 0 []) (N 367) a b h Q
def z6.Imp (C:CSem) (N:zN):Prop:=im2 C (N 575) (z6.cps C N)
def zbk.cps (C:CSem) (N:zN) (a b:AVal) (h:za) (Q:zQ):Prop:=
 zd0.cps C (opsS 16 (.str []) 0) (N 580) a b h Q
def zbk.Imp (C:CSem) (N:zN):Prop:=im2 C (N 578) (zbk.cps C N)
def zcy.cps (C:CSem) (N:zN) (a b c d e:AVal) (h:za) (Q:zQ):Prop:=
 zm.cps C (opsS 24 (.nils) 0) (N 581) (N 582) (N 579) (N 583) (N 584) (N 585) (N 586) (N 587) (N 588) a b c d e h Q
def zcy.Imp (C:CSem) (N:zN):Prop:=im5 C (N 579) (zcy.cps C N)
def zbz.cps (C:CSem) (N:zN) (a b c d e:AVal) (h:za) (Q:zQ):Prop:=
 zj.cps C (opsS 24 (.nils) 0) a b c d e h Q
def zbz.Imp (C:CSem) (N:zN):Prop:=im5 C (N 581) (zbz.cps C N)
def zco.cps (C:CSem) (N:zN) (a b c d e:AVal) (h:za) (Q:zQ):Prop:=
 ze.cps C (opsS 24 (.nils) 0) a b c d e h Q
def zco.Imp (C:CSem) (N:zN):Prop:=im5 C (N 582) (zco.cps C N)
def zbq.cps (C:CSem) (N:zN) (a b c d:AVal) (h:za) (Q:zQ):Prop:=
 zb.cps C (opsS 24 (.nils) 0) a b c d h Q
def zbq.Imp (C:CSem) (N:zN):Prop:=im4 C (N 583) (zbq.cps C N)
def zcc.cps (C:CSem) (N:zN) (a b c d:AVal) (h:za) (Q:zQ):Prop:=
 zci.cps C (opsS 24 (.nils) 0) a b c d h Q
def zcc.Imp (C:CSem) (N:zN):Prop:=im4 C (N 584) (zcc.cps C N)
def zcg.cps (C:CSem) (N:zN) (a b c d:AVal) (h:za) (Q:zQ):Prop:=
 zo.cps C (opsS 24 (.nils) 0) (N 589) (N 590) a b c d h Q
def zcg.Imp (C:CSem) (N:zN):Prop:=im4 C (N 585) (zcg.cps C N)
def zb8.cps (C:CSem) (N:zN) (a b c d:AVal) (h:za) (Q:zQ):Prop:=
 zk.cps C (opsS 24 (.nils) 0) (N 298) (N 299) a b c d h Q
def zb8.Imp (C:CSem) (N:zN):Prop:=im4 C (N 586) (zb8.cps C N)
def zcu.cps (C:CSem) (N:zN) (a b c d:AVal) (h:za) (Q:zQ):Prop:=
 zba.cps C (opsS 24 (.nils) 0) (N 591) a b c d h Q
def zcu.Imp (C:CSem) (N:zN):Prop:=im4 C (N 587) (zcu.cps C N)
def zb6.cps (C:CSem) (N:zN) (a b c d:AVal) (h:za) (Q:zQ):Prop:=
 zbe.cps C (opsS 24 (.nils) 0) a b c d h Q
def zb6.Imp (C:CSem) (N:zN):Prop:=im4 C (N 588) (zb6.cps C N)
def zc5.cps (C:CSem) (N:zN) (a b c d e f:AVal) (h:za) (Q:zQ):Prop:=
 zem.cps C (opsS 24 (.nils) 0) (N 592) a b c d e f h Q
def zc5.Imp (C:CSem) (N:zN):Prop:=im6 C (N 589) (zc5.cps C N)
def zb1.cps (C:CSem) (N:zN) (a b c d:AVal) (h:za) (Q:zQ):Prop:=
 zdr.cps C (opsS 24 (.nils) 0) (N 589) a b c d h Q
def zb1.Imp (C:CSem) (N:zN):Prop:=im4 C (N 590) (zb1.cps C N)
def zcs.cps (C:CSem) (N:zN) (a b c d e:AVal) (h:za) (Q:zQ):Prop:=
 zbg.cps C (opsS 24 (.nils) 0) a b c d e h Q
def zcs.Imp (C:CSem) (N:zN):Prop:=im5 C (N 591) (zcs.cps C N)
def zc3.cps (C:CSem) (N:zN) (a b c d e:AVal) (h:za) (Q:zQ):Prop:=
 zel.cps C (opsS 24 (.nils) 0) a b c d e h Q
def zc3.Imp (C:CSem) (N:zN):Prop:=im5 C (N 592) (zc3.cps C N)
end Go.Ab
set_option maxRecDepth 100000
namespace Go.Ab.S12
open Go.Ab Go.Proofs
noncomputable abbrev P:Program:=Try.prog
def lkz:List (Nat×List Nat)->Nat->List Nat
 | [],_=>[]
 | (a,b)::r,k=>bif Nat.beq a k then b else lkz r k
def pz (e:List (Nat×List Nat)):Nat->List (Nat×List Nat)
 | 0=>[]
 | n+1=>pz e n++[(n,lkz e n)]
@[reducible] def LkT (P:Program) (I:Bx) (f:Func) (F:CSem->(zQ)->zcd->za->Prop):Prop:= ∀ {C:CSem} (hC:zl0 C) (Q:zQ) (s:zcd) (h:za),F C Q s h->bwp P C I (f.body.getD .skip) (retB P I f.results.toList Q) s h
theorem eT {P:Program} {C:CSem} {I:Bx} (hC:zl0 C) {c:Code} {Q:Ex->zcd->za->Prop} {s:zcd} {h:za} (X:zcd->za->Prop) {p:Prop} (hR:p) (hb: ∀ s h,X s h->bwp P C I (cB c) Q s h) (e:bwp P C I (cA c) (Ex.then X Q) s h=p:=by kernel_rfl) (hk:isS c=true:=by kernel_rfl):bwp P C I c Q s h:=eS hC X (e1 hR e) hb hk
@[reducible] def on1 (F:AVal->zG):List AVal->zG
 | [a],u,v,w=>F a u v w
 | _,_,_,_=>False
@[reducible] def on2 (F:AVal->AVal->zG):List AVal->zG
 | [a,b],u,v,w=>F a b u v w
 | _,_,_,_=>False
@[reducible] def on3 (F:AVal->AVal->AVal->zG):List AVal->zG
 | [a,b,c],u,v,w=>F a b c u v w
 | _,_,_,_=>False
@[reducible] def on4 (F:AVal->AVal->AVal->AVal->zG):List AVal->zG
 | [a,b,c,d],u,v,w=>F a b c d u v w
 | _,_,_,_=>False
@[reducible] def on5 (F:AVal->AVal->AVal->AVal->AVal->zG):List AVal->zG
 | [a,b,c,d,e],u,v,w=>F a b c d e u v w
 | _,_,_,_=>False
@[reducible] def on6 (F:AVal->AVal->AVal->AVal->AVal->AVal->zG):List AVal->zG
 | [a,b,c,d,e,f],u,v,w=>F a b c d e f u v w
 | _,_,_,_=>False
@[reducible] def on9 (F:AVal->AVal->AVal->AVal->AVal->AVal->AVal->AVal->AVal->zG):List AVal->zG
 | [a,b,c,d,e,f,g,i,j],u,v,w=>F a b c d e f g i j u v w
 | _,_,_,_=>False
def N (k:Nat):Nat:=[0,0,0,0,0,0,0,0,0,0,0,0,0,0,0,0,0,0,0,0,0,0,0,0,0,0,0,0,0,0,0,0,0,0,0,0,0,0,0,0,0,0,0,0,0,0,0,0,0,0,0,0,0,0,0,0,0,0,0,0,0,0,0,0,0,0,0,0,0,0,0,0,0,0,30,0,0,0,0,0,0,0,0,0,0,0,0,0,0,0,0,0,0,0,0,0,0,0,0,0,0,0,0,0,0,0,0,0,0,0,47,0,0,0,0,0,14,0,0,0,0,0,0,0,0,0,0,0,0,0,0,0,72,9,29,31,0,0,0,0,0,0,0,0,0,0,0,0,0,0,0,0,0,0,0,0,0,0,0,0,0,0,0,0,0,0,0,0,0,0,0,0,0,0,0,0,0,0,0,0,0,0,0,0,0,0,0,0,0,0,0,0,0,0,0,0,0,0,0,0,0,0,0,0,0,0,37,0,0,0,0,0,0,0,0,0,0,0,0,0,0,0,0,0,0,0,0,0,0,0,0,0,0,0,0,0,0,0,0,0,0,0,0,0,0,0,0,0,0,0,0,0,0,0,0,0,0,0,0,0,0,0,0,0,0,0,0,0,0,0,0,0,0,0,0,0,0,0,0,0,0,0,0,0,0,0,0,42,0,0,0,0,0,0,0,0,0,0,76,75,0,0,0,0,59,60,0,0,0,0,0,0,0,0,0,0,0,0,0,0,0,0,0,0,0,0,0,0,0,0,0,0,0,0,0,0,0,0,0,0,0,0,0,0,0,0,0,0,0,0,0,0,0,0,26,0,0,0,0,0,0,45,0,0,20,25,0,48,70,71,0,0,0,49,0,41,73,56,57,58,55,54,53,52,51,50,74,77,78,69,82,0,0,0,0,0,0,0,0,0,0,0,0,0,0,0,0,0,0,0,0,0,0,0,0,0,0,0,0,0,0,0,0,0,0,0,0,0,0,0,0,0,0,0,0,0,0,0,0,0,0,0,27,0,0,46,0,0,0,0,0,0,0,0,0,0,0,0,0,0,0,0,0,0,0,0,0,0,0,0,0,0,0,0,0,0,0,0,0,0,0,0,0,0,0,0,0,0,0,0,0,0,0,0,0,0,0,0,0,0,0,0,0,0,0,0,0,0,0,0,0,0,0,0,0,0,0,0,0,0,0,0,0,0,0,0,0,0,0,0,0,0,0,0,0,0,0,0,0,0,0,0,0,0,0,0,0,0,0,0,0,11,8,10,7,6,5,3,13,15,12,4,16,17,18,23,22,21,19,28,34,36,35,38,33,32,40,39,24,43,44,67,68,66,65,64,63,62,61,81,80,79,83].getD k 0
theorem mixed:P.follows .mixedOrders=true:=by kernel_rfl
def zi.I:Bx:=⟨[2,3,10,11],[22,27,53,55,60,62,67,69,74,79,84,89,96,107,114,125],171,[(10,pz [] 8),(11,pz [] 8),(14,pz [] 18),(32,pz [] 10),(36,[(0,[]),(1,[]),(3,[]),(5,[]),(2,[3]),(4,[]),(6,[]),(7,[])])]⟩
theorem zi.L:LkT P zi.I Try.f4 fun C Q s h=>zi.cps C N (s 0) (s 1) h Q:=fun {C} hC Q s h hR=>eT hC (fun s h=>B.call C (N 556) [] h fun a h=>B.pv (V.un .not a) fun b=>B.cond b (Q (.bool false) h) (zi.k13 C N Q (s 173) (s 174) h)) hR (fun s h hR=>eT hC (fun s h=>zi.k13 C N Q (s 173) (s 174) h) hR (fun s h hR=>eT hC (fun s h=>zi.k12 C N Q (.int .i64 0) (.int .i64 0) (.int .i64 0) (s 173) (s 174) h) hR (fun s h hR=>eT hC (fun s h=>zi.k12 C N Q (s 5) (s 6) (s 7) (s 173) (s 174) h) hR (fun s h hR=>eT hC (fun s h=>zx (zi.l11 C N Q (s 8) (s 173) (s 174)) [(s 5),(s 6),(s 7),(.int .i64 0)] h) hR (fun s h hR=>eS hC (fun s h=>zx (zi.l9 C N Q (s 5) (s 6) (s 7) (s 8) (s 173) (s 174)) [(.int .i64 0),(.int .i64 0)] h) (eT hC (fun s h=>zx (zi.l11 C N Q (s 8) (s 173) (s 174)) [(s 5),(s 6),(s 7),(s 9)] h) hR (fun s h hR=>eK (eL hC [8,173,174] [5,6,7,9] (on3 (zi.l11 C N Q)) hR (fun Y4 s h hR=>e1 hR)))) (fun s h hR=>eT hC (fun s h=>zx (zi.l9 C N Q (s 5) (s 6) (s 7) (s 8) (s 173) (s 174)) [(s 12),(.int .i64 0)] h) hR (fun s h hR=>eS hC (fun s h=>zx (zi.l7 C N Q (s 5) (s 6) (s 7) (s 8) (s 173) (s 174)) [(s 12),(.int .i64 0)] h) (eT hC (fun s h=>zx (zi.l9 C N Q (s 5) (s 6) (s 7) (s 8) (s 173) (s 174)) [(s 12),(s 13)] h) hR (fun s h hR=>eK (eL hC [5,6,7,8,173,174] [12,13] (on6 (zi.l9 C N Q)) hR (fun Y3 s h hR=>e1 hR)))) (fun s h hR=>eS hC (fun s h=>zi.k5 C N Q (s 5) (s 6) (s 7) (s 12) (s 173) (s 174) h) (eT hC (fun s h=>zx (zi.l7 C N Q (s 5) (s 6) (s 7) (s 8) (s 173) (s 174)) [(s 12),(s 14)] h) hR (fun s h hR=>eK (eL hC [5,6,7,8,173,174] [12,14] (on6 (zi.l7 C N Q)) hR (fun Y2 s h hR=>e1 hR)))) (fun s h hR=>eT hC (fun s h=>zi.k4 C N Q (s 173) (s 174) h) hR (fun s h hR=>eT hC (fun s h=>zx (zi.l3 C N Q (s 15) (s 173) (s 174)) [(.int .i64 1)] h) hR (fun s h hR=>eS hC (fun s h=>zi.k1 C N Q (s 15) (s 173) (s 174) h) (eT hC (fun s h=>zx (zi.l3 C N Q (s 15) (s 173) (s 174)) [(s 16)] h) hR (fun s h hR=>eK (eL hC [15,173,174] [16] (on3 (zi.l3 C N Q)) hR (fun Y1 s h hR=>e1 hR)))) (fun s h hR=>e1 hR))))))))))))
theorem zi.imp:zi.Imp (AC P) N:=fun a b h Q hR=>eF mixed (fn:=Try.f4) (fun hC=>zi.L hC (dn Q) (zdh [a,b]) h hR)
def zd8.I:Bx:=⟨[1],[],49,[]⟩
theorem zd8.L:LkT P zd8.I Try.f5 fun C Q s h=>zd8.cps C N h Q:=fun {C} hC Q s h hR=>e1 hR
theorem zd8.imp:zd8.Imp (AC P) N:=fun h Q hR=>eF mixed (fn:=Try.f5) (fun hC=>zd8.L hC (dn Q) (zdh []) h hR)
def zc8.I:Bx:=⟨[],[],38,[]⟩
theorem zc8.L:LkT P zc8.I Try.f6 fun C Q s h=>zc8.cps C N (s 0) (s 1) h Q:=fun {C} hC Q s h hR=>eT hC (fun s h=>zx (zc8.l3 C N Q (s 0) (s 1)) [(.int .i64 0),(.int .i64 0)] h) hR (fun s h hR=>eT hC (fun s h=>zx (zc8.l3 C N Q (s 0) (s 1)) [(s 5),(.int .i64 0)] h) hR (fun s h hR=>eS hC (fun s h=>zc8.k1 C N Q (s 0) (s 5) h) (eT hC (fun s h=>zx (zc8.l3 C N Q (s 0) (s 1)) [(s 5),(s 6)] h) hR (fun s h hR=>eK (eL hC [0,1] [5,6] (on2 (zc8.l3 C N Q)) hR (fun Y1 s h hR=>e1 hR)))) (fun s h hR=>e1 hR)))
theorem zc8.imp:zc8.Imp (AC P) N:=fun a b h Q hR=>eF mixed (fn:=Try.f6) (fun hC=>zc8.L hC (dn Q) (zdh [a,b]) h hR)
def zdo.I:Bx:=⟨[],[],50,[]⟩
theorem zdo.L:LkT P zdo.I Try.f7 fun C Q s h=>zdo.cps C N (s 0) h Q:=fun {C} hC Q s h hR=>eT hC (fun s h=>zdo.k5 C N Q (s 0) h) hR (fun s h hR=>eT hC (fun s h=>B.zl6 h fun c h=>B.rangeMap h (s 3) fun a h=>zx (zdo.l4 C N Q (s 4) c a) [] h) hR (fun s h hR=>eT hC (fun s h=>B.rangeMap h (s 3) fun a h=>zx (zdo.l4 C N Q (s 4) (s 5) a) [] h) hR (fun s h hR=>eS hC (fun s h=>B.rangeMap h (s 5) fun b h=>zx (zdo.l2 C N Q b) [.nils] h) (eT hC (fun s h=>zx (zdo.l4 C N Q (s 4) (s 5) (s 17)) [] h) hR (fun s h hR=>eK (eL hC [4,5,17] [] (on3 (zdo.l4 C N Q)) hR (fun Y2 s h hR=>e1 hR)))) (fun s h hR=>eT hC (fun s h=>B.rangeMap h (s 5) fun b h=>zx (zdo.l2 C N Q b) [(s 7)] h) hR (fun s h hR=>eS hC (fun s h=>B.call C (N 566) [(s 7),(.fn (N 565) [] [])] h fun d h=>Q (s 7) h) (eT hC (fun s h=>zx (zdo.l2 C N Q (s 35)) [(s 7)] h) hR (fun s h hR=>eK (eL hC [35] [7] (on1 (zdo.l2 C N Q)) hR (fun Y1 s h hR=>e1 hR)))) (fun s h hR=>e1 hR))))))
theorem zdo.imp:zdo.Imp (AC P) N:=fun a h Q hR=>eF mixed (fn:=Try.f7) (fun hC=>zdo.L hC (dn Q) (zdh [a]) h hR)
def zc7.I:Bx:=⟨[],[],32,[]⟩
theorem zc7.L:LkT P zc7.I Try.f8 fun C Q s h=>zc7.cps C N (s 0) (s 1) h Q:=fun {C} hC Q s h hR=>eT hC (fun s h=>zx (zc7.l4 C N Q (s 0) (s 1)) [(.int .i64 0)] h) hR (fun s h hR=>eS hC (fun s h=>Q (.int .i64 (-1)) h) (eT hC (fun s h=>zx (zc7.l4 C N Q (s 0) (s 1)) [(s 5)] h) hR (fun s h hR=>eK (eL hC [0,1] [5] (on2 (zc7.l4 C N Q)) hR (fun Y1 s h hR=>eT hC (fun s h=>zx (zc7.l2 C N Q Y1 (s 0) (s 1) (s 5)) [(.int .i64 0)] h) hR (fun s h hR=>eS hC (fun s h=>B.pv (V.bin .add (s 5) (.int .i64 1)) fun a=>Y1 [a] h) (eK (eT hC (fun s h=>zx (zc7.l2 C N Q Y1 (s 0) (s 1) (s 5)) [(s 6)] h) hR (fun s h hR=>eK (eL hC [0,1,5] [6] (on3 (zc7.l2 C N Q Y1)) hR (fun Y2 s h hR=>e1 hR))))) (fun s h hR=>e1 hR)))))) (fun s h hR=>e1 hR))
theorem zc7.imp:zc7.Imp (AC P) N:=fun a b h Q hR=>eF mixed (fn:=Try.f8) (fun hC=>zc7.L hC (dn Q) (zdh [a,b]) h hR)
def zdi.I:Bx:=⟨[],[],26,[(6,pz [] 9)]⟩
theorem zdi.L:LkT P zdi.I Try.f9 fun C Q s h=>zdi.cps C N (s 0) (s 1) h Q:=fun {C} hC Q s h hR=>eT hC (fun s h=>zdi.k3 C N Q (s 0) (s 1) h) hR (fun s h hR=>eT hC (fun s h=>zx (zqi.l4  Q (s 0) (s 1)) [(.int .i64 0)] h) hR (fun s h hR=>eS hC (fun s h=>Q (.bool true) h) (eT hC (fun s h=>zx (zqi.l4  Q (s 0) (s 1)) [(s 5)] h) hR (fun s h hR=>eK (eL hC [0,1] [5] (on2 (zqi.l4  Q)) hR (fun Y1 s h hR=>e1 hR)))) (fun s h hR=>e1 hR)))
theorem zdi.imp:zdi.Imp (AC P) N:=fun a b h Q hR=>eF mixed (fn:=Try.f9) (fun hC=>zdi.L hC (dn Q) (zdh [a,b]) h hR)
def zc1.I:Bx:=⟨[],[],65,[]⟩
theorem zc1.L:LkT P zc1.I Try.f10 fun C Q s h=>zc1.cps C N (s 0) (s 1) h Q:=fun {C} hC Q s h hR=>eT hC (fun s h=>zc1.k5 C N Q (s 0) (s 1) h) hR (fun s h hR=>eT hC (fun s h=>B.zl6 h fun b h=>B.pv (V.zcv (s 1)) fun a=>zx (zc1.l4 C N Q (s 5) (s 6) b (s 1) a) [.nils,(.int .i64 0)] h) hR (fun s h hR=>eT hC (fun s h=>B.pv (V.zcv (s 1)) fun a=>zx (zc1.l4 C N Q (s 5) (s 6) (s 7) (s 1) a) [.nils,(.int .i64 0)] h) hR (fun s h hR=>eT hC (fun s h=>B.pv (V.zcv (s 1)) fun a=>zx (zc1.l4 C N Q (s 5) (s 6) (s 7) (s 1) a) [(s 8),(.int .i64 0)] h) hR (fun s h hR=>eS hC (fun s h=>B.rangeMap h (s 5) fun c h=>zx (zc1.l2 C N Q (s 6) (s 7) c) [(s 8)] h) (eT hC (fun s h=>zx (zc1.l4 C N Q (s 5) (s 6) (s 7) (s 20) (s 21)) [(s 8),(s 22)] h) hR (fun s h hR=>eK (eL hC [5,6,7,20,21] [8,22] (on5 (zc1.l4 C N Q)) hR (fun Y2 s h hR=>e1 hR)))) (fun s h hR=>eS hC (fun s h=>B.call C (N 364) [(s 8)] h fun f h=>B.call C (N 365) [(s 8)] h fun d h=>B.call C (N 567) [d] h fun e h=>Q e h) (eT hC (fun s h=>zx (zc1.l2 C N Q (s 6) (s 7) (s 45)) [(s 8)] h) hR (fun s h hR=>eK (eL hC [6,7,45] [8] (on3 (zc1.l2 C N Q)) hR (fun Y1 s h hR=>e1 hR)))) (fun s h hR=>e1 hR))))))
theorem zc1.imp:zc1.Imp (AC P) N:=fun a b h Q hR=>eF mixed (fn:=Try.f10) (fun hC=>zc1.L hC (dn Q) (zdh [a,b]) h hR)
def zcl.I:Bx:=⟨[1],[7,19,29,41,50,62],66,[(9,pz [] 21)]⟩
theorem zcl.L:LkT P zcl.I Try.f12 fun C Q s h=>zcl.cps C N (s 0) h Q:=fun {C} hC Q s h hR=>eT hC (fun s h=>zx (zcl.l5 C N Q (s 67)) [(.int .i64 0),(.int .i64 0)] h) hR (fun s h hR=>eT hC (fun s h=>zx (zcl.l5 C N Q (s 67)) [(s 3),(.int .i64 0)] h) hR (fun s h hR=>eS hC (fun s h=>zx (zcl.l3 C N Q (s 67)) [(s 3),(.int .i64 0)] h) (eT hC (fun s h=>zx (zcl.l5 C N Q (s 67)) [(s 3),(s 4)] h) hR (fun s h hR=>eK (eL hC [67] [3,4] (on1 (zcl.l5 C N Q)) hR (fun Y2 s h hR=>e1 hR)))) (fun s h hR=>eS hC (fun s h=>zcl.k1 C N Q (s 3) (s 67) h) (eT hC (fun s h=>zx (zcl.l3 C N Q (s 67)) [(s 3),(s 5)] h) hR (fun s h hR=>eK (eL hC [67] [3,5] (on1 (zcl.l3 C N Q)) hR (fun Y1 s h hR=>e1 hR)))) (fun s h hR=>e1 hR))))
theorem zcl.imp:zcl.Imp (AC P) N:=fun a h Q hR=>eF mixed (fn:=Try.f12) (fun hC=>zcl.L hC (dn Q) (zdh [a]) h hR)
def zbx.I:Bx:=⟨[2,4,5,7,9,11],[12,14,16,19,27,30,33,36,37,38,43,45,53,56,61,63,71,74,79],82,[(6,[(0,[]),(1,[]),(3,[]),(4,[]),(2,[4]),(6,[]),(5,[]),(7,[]),(8,[]),(9,[])])]⟩
theorem zbx.L:LkT P zbx.I Try.f13 fun C Q s h=>zbx.cps C N (s 0) (s 1) h Q:=fun {C} hC Q s h hR=>eT hC (fun s h=>zbx.k7 C N Q (s 1) (s 84) (s 86) h) hR (fun s h hR=>eT hC (fun s h=>B.al (s 84) (B.pv (V.zcm 3 (s 84)) fun a=>B.pv (V.zcv a) fun d=>zx (zbx.l6 C N Q (s 1) a d (s 84) (s 86)) [(.int .i64 0),(s 87)] h)) hR (fun s h hR=>eS hC (fun s h=>B.al (s 84) (B.pv (V.zcm 4 (s 84)) fun b=>B.pv (V.zcv b) fun e=>zx (zbx.l4 C N Q (s 1) b e (s 84) (s 86)) [(.int .i64 0),(s 87)] h)) (eT hC (fun s h=>zx (zbx.l6 C N Q (s 1) (s 20) (s 21) (s 84) (s 86)) [(s 22),(s 87)] h) hR (fun s h hR=>eK (eL hC [1,20,21,84,86] [22,87] (on5 (zbx.l6 C N Q)) hR (fun Y3 s h hR=>e1 hR)))) (fun s h hR=>eS hC (fun s h=>B.al (s 84) (B.pv (V.zcm 5 (s 84)) fun c=>B.pv (V.zcv c) fun f=>zx (zbx.l2 C N Q (s 1) c f (s 86)) [(.int .i64 0),(s 87)] h)) (eT hC (fun s h=>zx (zbx.l4 C N Q (s 1) (s 46) (s 47) (s 84) (s 86)) [(s 48),(s 87)] h) hR (fun s h hR=>eK (eL hC [1,46,47,84,86] [48,87] (on5 (zbx.l4 C N Q)) hR (fun Y2 s h hR=>e1 hR)))) (fun s h hR=>eS hC (fun s h=>B.pv (V.zeq 0 6 (s 87)) fun g=>B.pv (V.setN 0 6 g (s 86)) fun i=>B.pv (oneOf (zmq (V.zeq 0 6 i) (some []))) fun v=>Q v h) (eT hC (fun s h=>zx (zbx.l2 C N Q (s 1) (s 64) (s 65) (s 86)) [(s 66),(s 87)] h) hR (fun s h hR=>eK (eL hC [1,64,65,86] [66,87] (on4 (zbx.l2 C N Q)) hR (fun Y1 s h hR=>e1 hR)))) (fun s h hR=>e1 hR)))))
theorem zbx.imp:zbx.Imp (AC P) N:=fun a b h Q hR=>eF mixed (fn:=Try.f13) (fun hC=>zbx.L hC (dn Q) (zdh [a,b]) h hR)
def zdv.I:Bx:=⟨[2,3],[5,7,11,13,18,20,25,27,32,34,39,41],45,[]⟩
theorem zdv.L:LkT P zdv.I Try.f14 fun C Q s h=>zdv.cps C N (s 0) (s 1) h Q:=fun {C} hC Q s h hR=>e1 hR
theorem zdv.imp:zdv.Imp (AC P) N:=fun a b h Q hR=>eF mixed (fn:=Try.f14) (fun hC=>zdv.L hC (dn Q) (zdh [a,b]) h hR)
def zn.I:Bx:=⟨[2],[8,18,29,41,51,57,59,71,77,79],96,[(19,pz [] 11),(25,pz [] 11)]⟩
theorem zn.L:LkT P zn.I Try.f15 fun C Q s h=>zn.cps C N (s 0) (s 1) h Q:=fun {C} hC Q s h hR=>eT hC (fun s h=>zn.k11 C N Q (s 3) (s 98) h) hR (fun s h hR=>eT hC (fun s h=>B.pv (V.fieldAddr 0 (s 3)) fun a=>B.ld h a fun b=>zn.k10 C N Q (s 3) (s 5) b (s 98) h) hR (fun s h hR=>eS hC (fun s h=>zn.k1 C N Q (s 3) h) (eT hC (fun s h=>zn.k10 C N Q (s 3) (s 5) (s 13) (s 98) h) hR (fun s h hR=>eK (eT hC (fun s h=>B.cond (s 14) (zn.k2 C N Q (s 3) (s 5) (s 98) h) (B.pv (V.bin .eql (s 13) (.int .u8 9)) fun c=>B.cond c (zn.k3 C N Q (s 3) (s 5) (s 98) h) (zn.k9 C N Q (s 3) (s 5) (s 13) (s 98) h))) hR (fun s h hR=>eC 14 hR (fun hR=>e1 hR) (fun hR=>eT hC (fun s h=>B.cond (s 26) (zn.k3 C N Q (s 3) (s 5) (s 98) h) (zn.k9 C N Q (s 3) (s 5) (s 13) (s 98) h)) hR (fun s h hR=>eC 26 hR (fun hR=>e1 hR) (fun hR=>eT hC (fun s h=>B.cond (s 37) (zn.k4 C N Q (s 3) (s 5) (s 98) h) (zn.k8 C N Q (s 3) (s 13) (s 98) h)) hR (fun s h hR=>eC 37 hR (fun hR=>e1 hR) (fun hR=>eT hC (fun s h=>B.cond (s 47) (zn.k5 C N Q (s 3) (s 98) h) (zn.k7 C N Q (s 3) (s 13) (s 98) h)) hR (fun s h hR=>eC 47 hR (fun hR=>e1 hR) (fun hR=>eT hC (fun s h=>zn.k6 C N Q (s 3) (s 67) (s 98) h) hR (fun s h hR=>e1 hR)))))))))))) (fun s h hR=>e1 hR)))
theorem zn.imp:zn.Imp (AC P) N:=fun a b h Q hR=>eF mixed (fn:=Try.f15) (fun hC=>zn.L hC (dn Q) (zdh [a,b]) h hR)
def zeg.I:Bx:=⟨[],[],10,[]⟩
theorem zeg.L:LkT P zeg.I Try.f16 fun C Q s h=>zeg.cps C N h Q:=fun {C} hC Q s h hR=>e1 hR
theorem zeg.imp:zeg.Imp (AC P) N:=fun h Q hR=>eF mixed (fn:=Try.f16) (fun hC=>zeg.L hC (dn Q) (zdh []) h hR)
def zdn.I:Bx:=⟨[],[],27,[(6,pz [] 10)]⟩
theorem zdn.L:LkT P zdn.I Try.f17 fun C Q s h=>zdn.cps C N (s 0) (s 1) h Q:=fun {C} hC Q s h hR=>eT hC (fun s h=>zdn.k3 C N Q (s 0) (s 1) h) hR (fun s h hR=>eT hC (fun s h=>zx (zdn.l2 C N Q (s 0) (s 1)) [(.int .i64 0)] h) hR (fun s h hR=>eS hC (fun s h=>Q (.bool true) h) (eT hC (fun s h=>zx (zdn.l2 C N Q (s 0) (s 1)) [(s 5)] h) hR (fun s h hR=>eK (eL hC [0,1] [5] (on2 (zdn.l2 C N Q)) hR (fun Y1 s h hR=>e1 hR)))) (fun s h hR=>e1 hR)))
theorem zdn.imp:zdn.Imp (AC P) N:=fun a b h Q hR=>eF mixed (fn:=Try.f17) (fun hC=>zdn.L hC (dn Q) (zdh [a,b]) h hR)
def zbv.I:Bx:=⟨[],[],95,[(5,pz [] 25)]⟩
theorem zbv.L:LkT P zbv.I Try.f18 fun C Q s h=>zbv.cps C N (s 0) h Q:=fun {C} hC Q s h hR=>eT hC (fun s h=>zx (zbv.l7 C N Q (s 0)) [(.int .i64 0),(.int .i64 0)] h) hR (fun s h hR=>eT hC (fun s h=>zx (zbv.l7 C N Q (s 0)) [(s 3),(.int .i64 0)] h) hR (fun s h hR=>eS hC (fun s h=>Q (s 3) h) (eT hC (fun s h=>zx (zbv.l7 C N Q (s 0)) [(s 3),(s 4)] h) hR (fun s h hR=>eK (eL hC [0] [3,4] (on1 (zbv.l7 C N Q)) hR (fun Y1 s h hR=>eT hC (fun s h=>zbv.k5 C N Q Y1 (s 0) (s 3) (s 4) h) hR (fun s h hR=>eS hC (fun s h=>B.pv (V.bin .add (s 4) (.int .i64 1)) fun a=>Y1 [(s 3),a] h) (eK (eT hC (fun s h=>zx (zbv.l4 C N Q Y1 (s 0) (s 4)) [(s 3),(.int .i64 0)] h) hR (fun s h hR=>eS hC (fun s h=>zx (zbv.l2 C N Q Y1 (s 0) (s 4)) [(s 3),(.int .i64 0)] h) (eT hC (fun s h=>zx (zbv.l4 C N Q Y1 (s 0) (s 4)) [(s 3),(s 5)] h) hR (fun s h hR=>eK (eL hC [0,4] [3,5] (on2 (zbv.l4 C N Q Y1)) hR (fun Y3 s h hR=>e1 hR)))) (fun s h hR=>eT hC (fun s h=>zx (zbv.l2 C N Q Y1 (s 0) (s 4)) [(s 3),(s 6)] h) hR (fun s h hR=>eK (eL hC [0,4] [3,6] (on2 (zbv.l2 C N Q Y1)) hR (fun Y2 s h hR=>e1 hR))))))) (fun s h hR=>e1 hR)))))) (fun s h hR=>e1 hR)))
theorem zbv.imp:zbv.Imp (AC P) N:=fun a h Q hR=>eF mixed (fn:=Try.f18) (fun hC=>zbv.L hC (dn Q) (zdh [a]) h hR)
def zq.I:Bx:=⟨[6,10,12],[23,25,36,44,46,50,58],66,[(23,pz [] 4)]⟩
theorem zq.L:LkT P zq.I Try.f19 fun C Q s h=>zq.cps C N (s 0) h Q:=fun {C} hC Q s h hR=>eT hC (fun s h=>zq.k13 C N Q (s 0) h) hR (fun s h hR=>eT hC (fun s h=>B.pv (V.zcv (s 0)) fun d=>zx (zq.l12 C N Q (s 0) (s 4) (s 0) d) [(.int .i64 0)] h) hR (fun s h hR=>eS hC (fun s h=>zq.k10 C N Q (s 0) (s 4) h) (eT hC (fun s h=>zx (zq.l12 C N Q (s 0) (s 4) (s 16) (s 17)) [(s 18)] h) hR (fun s h hR=>eK (eL hC [0,4,16,17] [18] (on4 (zq.l12 C N Q)) hR (fun Y4 s h hR=>e1 hR)))) (fun s h hR=>eT hC (fun s h=>B.pv (V.zcv (s 0)) fun a=>zx (zq.l9 C N Q (s 4) (s 7) (.fn (N 576) [] [(s 4),(s 7)]) (s 0) a) [(.int .i64 0)] h) hR (fun s h hR=>eT hC (fun s h=>B.pv (V.zcv (s 0)) fun a=>zx (zq.l9 C N Q (s 4) (s 7) (s 8) (s 0) a) [(.int .i64 0)] h) hR (fun s h hR=>eS hC (fun s h=>B.ld h (s 4) fun b=>B.ld h (s 7) fun c=>Q (.tup [b,c]) h) (eT hC (fun s h=>zx (zq.l9 C N Q (s 4) (s 7) (s 8) (s 30) (s 31)) [(s 32)] h) hR (fun s h hR=>eK (eL hC [4,7,8,30,31] [32] (on5 (zq.l9 C N Q)) hR (fun Y1 s h hR=>eT hC (fun s h=>B.cond (s 33) (zq.k7 C N Q Y1 (s 4) (s 7) (s 8) (s 30) (s 31) (s 32) h) (B.ld h (s 4) fun b=>B.ld h (s 7) fun c=>Q (.tup [b,c]) h)) hR (fun s h hR=>eT hC (fun s h=>zq.k7 C N Q Y1 (s 4) (s 7) (s 8) (s 30) (s 31) (s 32) h) hR (fun s h hR=>eS hC (fun s h=>B.pv (V.bin .add (s 32) (.int .i64 1)) fun e=>Y1 [e] h) (eK (eT hC (fun s h=>zq.k6 C N Q Y1 (s 4) (s 7) (s 8) (s 30) (s 31) (s 32) (s 76) h) hR (fun s h hR=>eS hC (fun s h=>zq.k3 C N Q Y1 (s 4) (s 7) (s 8) (s 30) (s 31) (s 32) (s 76) h) (eT hC (fun s h=>zx (zq.l5 C N Q Y1 (s 4) (s 7) (s 8) (s 30) (s 31) (s 32) (s 37) (s 38) (s 76)) [(s 39)] h) hR (fun s h hR=>eK (eL hC [4,7,8,30,31,32,37,38,76] [39] (on9 (zq.l5 C N Q Y1)) hR (fun Y3 s h hR=>e1 hR)))) (fun s h hR=>eT hC (fun s h=>zx (zq.l2 C N Q Y1 (s 4) (s 7) (s 8) (s 30) (s 31) (s 32) (s 51) (s 52) (s 76)) [(s 53)] h) hR (fun s h hR=>eK (eL hC [4,7,8,30,31,32,51,52,76] [53] (on9 (zq.l2 C N Q Y1)) hR (fun Y2 s h hR=>e1 hR))))))) (fun s h hR=>e1 hR))))))) (fun s h hR=>e1 hR))))))
theorem zq.imp:zq.Imp (AC P) N:=fun a h Q hR=>eF mixed (fn:=Try.f19) (fun hC=>zq.L hC (dn Q) (zdh [a]) h hR)
def zbo.I:Bx:=⟨[],[],11,[]⟩
theorem zbo.L:LkT P zbo.I Try.f20 fun C Q s h=>zbo.cps C N (s 0) h Q:=fun {C} hC Q s h hR=>e1 hR
theorem zbo.imp:zbo.Imp (AC P) N:=fun a h Q hR=>eF mixed (fn:=Try.f20) (fun hC=>zbo.L hC (dn Q) (zdh [a]) h hR)
def zbf.I:Bx:=⟨[],[],8,[]⟩
theorem zbf.L:LkT P zbf.I Try.f21 fun C Q s h=>zbf.cps C N (s 0) h Q:=fun {C} hC Q s h hR=>e1 hR
theorem zbf.imp:zbf.Imp (AC P) N:=fun a h Q hR=>eF mixed (fn:=Try.f21) (fun hC=>zbf.L hC (dn Q) (zdh [a]) h hR)
def zbm.I:Bx:=⟨[],[],14,[]⟩
theorem zbm.L:LkT P zbm.I Try.f22 fun C Q s h=>zbm.cps C N (s 0) (s 1) h Q:=fun {C} hC Q s h hR=>e1 hR
theorem zbm.imp:zbm.Imp (AC P) N:=fun a b h Q hR=>eF mixed (fn:=Try.f22) (fun hC=>zbm.L hC (dn Q) (zdh [a,b]) h hR)
def zep.I:Bx:=⟨[],[],8,[]⟩
theorem zep.L:LkT P zep.I Try.f23 fun C Q s h=>zep.cps C N (s 0) (s 1) h Q:=fun {C} hC Q s h hR=>e1 hR
theorem zep.imp:zep.Imp (AC P) N:=fun a b h Q hR=>eF mixed (fn:=Try.f23) (fun hC=>zep.L hC (dn Q) (zdh [a,b]) h hR)
def zbk.I:Bx:=⟨[],[],36,[]⟩
theorem zbk.L:LkT P zbk.I Try.f24 fun C Q s h=>zbk.cps C N (s 0) (s 1) h Q:=fun {C} hC Q s h hR=>eT hC (fun s h=>B.pv (V.zcv (s 0)) fun a=>zx (zd0.l3 C (opsS 16 (.str []) 0) (N 580) Q (s 0) (s 1) (s 0) a) [(.int .i64 0)] h) hR (fun s h hR=>eS hC (fun s h=>zd0.k1 C (opsS 16 (.str []) 0) (N 580) Q (s 0) (s 1) h) (eT hC (fun s h=>zx (zd0.l3 C (opsS 16 (.str []) 0) (N 580) Q (s 0) (s 1) (s 9) (s 10)) [(s 11)] h) hR (fun s h hR=>eK (eL hC [0,1,9,10] [11] (on4 (zd0.l3 C (opsS 16 (.str []) 0) (N 580) Q)) hR (fun Y1 s h hR=>e1 hR)))) (fun s h hR=>e1 hR))
theorem zbk.imp:zbk.Imp (AC P) N:=fun a b h Q hR=>eF mixed (fn:=Try.f24) (fun hC=>zbk.L hC (dn Q) (zdh [a,b]) h hR)
def zbh.I:Bx:=⟨[],[],61,[(6,pz [] 10),(11,pz [] 10)]⟩
theorem zbh.L:LkT P zbh.I Try.f25 fun C Q s h=>zbh.cps C N (s 0) h Q:=fun {C} hC Q s h hR=>eT hC (fun s h=>zcj.k5 C (opsS 16 (.str []) 0) Q (s 0) h) hR (fun s h hR=>eT hC (fun s h=>zx (zcj.l4 C (opsS 16 (.str []) 0) Q (s 0)) [(.int .i64 1)] h) hR (fun s h hR=>eS hC (fun s h=>Q (s 0) h) (eT hC (fun s h=>zx (zcj.l4 C (opsS 16 (.str []) 0) Q (s 0)) [(s 3)] h) hR (fun s h hR=>eK (eL hC [0] [3] (on1 (zcj.l4 C (opsS 16 (.str []) 0) Q)) hR (fun Y1 s h hR=>eT hC (fun s h=>zcj.k3 C (opsS 16 (.str []) 0) Q Y1 (s 0) (s 3) h) hR (fun s h hR=>eS hC (fun s h=>B.pv (V.bin .add (s 3) (.int .i64 1)) fun a=>Y1 [a] h) (eK (eT hC (fun s h=>B.cond (s 25) (B.pv (V.zim (opsS 16 (.str []) 0).es (s 0) (some (s 3)) none) fun b=>zx (zcj.l2 C (opsS 16 (.str []) 0) Q Y1 (s 0) b) [(s 3),(.int .i64 1)] h) (B.pv (V.bin .add (s 3) (.int .i64 1)) fun a=>Y1 [a] h)) hR (fun s h hR=>eC 25 hR (fun hR=>eT hC (fun s h=>zx (zcj.l2 C (opsS 16 (.str []) 0) Q Y1 (s 0) (s 4)) [(s 3),(.int .i64 1)] h) hR (fun s h hR=>eS hC (fun s h=>B.pv (V.zim (opsS 16 (.str []) 0).es (s 0) (some (s 3)) none) fun c=>B.clr h (opsS 16 (.str []) 0).z c fun _ h=>B.pv (V.zim (opsS 16 (.str []) 0).es (s 0) none (some (s 3))) fun d=>Q d h) (eT hC (fun s h=>zx (zcj.l2 C (opsS 16 (.str []) 0) Q Y1 (s 0) (s 4)) [(s 3),(s 5)] h) hR (fun s h hR=>eK (eL hC [0,4] [3,5] (on2 (zcj.l2 C (opsS 16 (.str []) 0) Q Y1)) hR (fun Y2 s h hR=>e1 hR)))) (fun s h hR=>e1 hR))) (fun hR=>e1 hR)))) (fun s h hR=>e1 hR)))))) (fun s h hR=>e1 hR)))
theorem zbh.imp:zbh.Imp (AC P) N:=fun a h Q hR=>eF mixed (fn:=Try.f25) (fun hC=>zbh.L hC (dn Q) (zdh [a]) h hR)
def zbi.I:Bx:=⟨[],[],9,[]⟩
theorem zbi.L:LkT P zbi.I Try.f27 fun C Q s h=>zbi.cps C N (s 0) (s 1) h Q:=fun {C} hC Q s h hR=>e1 hR
theorem zbi.imp:zbi.Imp (AC P) N:=fun a b h Q hR=>eF mixed (fn:=Try.f27) (fun hC=>zbi.L hC (dn Q) (zdh [a,b]) h hR)
def zbj.I:Bx:=⟨[],[],8,[]⟩
theorem zbj.L:LkT P zbj.I Try.f28 fun C Q s h=>zbj.cps C N (s 0) h Q:=fun {C} hC Q s h hR=>e1 hR
theorem zbj.imp:zbj.Imp (AC P) N:=fun a h Q hR=>eF mixed (fn:=Try.f28) (fun hC=>zbj.L hC (dn Q) (zdh [a]) h hR)
def zc9.I:Bx:=⟨[],[],27,[(6,pz [] 10)]⟩
theorem zc9.L:LkT P zc9.I Try.f29 fun C Q s h=>zc9.cps C N (s 0) (s 1) h Q:=fun {C} hC Q s h hR=>eT hC (fun s h=>zc9.k3 C N Q (s 0) (s 1) h) hR (fun s h hR=>eT hC (fun s h=>zx (zc9.l2 C N Q (s 0) (s 1)) [(.int .i64 0)] h) hR (fun s h hR=>eS hC (fun s h=>Q (.bool true) h) (eT hC (fun s h=>zx (zc9.l2 C N Q (s 0) (s 1)) [(s 5)] h) hR (fun s h hR=>eK (eL hC [0,1] [5] (on2 (zc9.l2 C N Q)) hR (fun Y1 s h hR=>e1 hR)))) (fun s h hR=>e1 hR)))
theorem zc9.imp:zc9.Imp (AC P) N:=fun a b h Q hR=>eF mixed (fn:=Try.f29) (fun hC=>zc9.L hC (dn Q) (zdh [a,b]) h hR)
def zd3.I:Bx:=⟨[],[],26,[(6,pz [] 9)]⟩
theorem zd3.L:LkT P zd3.I Try.f30 fun C Q s h=>zd3.cps C N (s 0) (s 1) h Q:=fun {C} hC Q s h hR=>eT hC (fun s h=>zd3.k3 C N Q (s 0) (s 1) h) hR (fun s h hR=>eT hC (fun s h=>zx (zkz.l4 6 [.i .i64,.s,.i .i64,.i .i64,.i .i64,.b] Q (s 0) (s 1)) [(.int .i64 0)] h) hR (fun s h hR=>eS hC (fun s h=>Q (.bool true) h) (eT hC (fun s h=>zx (zkz.l4 6 [.i .i64,.s,.i .i64,.i .i64,.i .i64,.b] Q (s 0) (s 1)) [(s 5)] h) hR (fun s h hR=>eK (eL hC [0,1] [5] (on2 (zkz.l4 6 [.i .i64,.s,.i .i64,.i .i64,.i .i64,.b] Q)) hR (fun Y1 s h hR=>e1 hR)))) (fun s h hR=>e1 hR)))
theorem zd3.imp:zd3.Imp (AC P) N:=fun a b h Q hR=>eF mixed (fn:=Try.f30) (fun hC=>zd3.L hC (dn Q) (zdh [a,b]) h hR)
def zdq.I:Bx:=⟨[],[],26,[(6,pz [] 9)]⟩
theorem zdq.L:LkT P zdq.I Try.f31 fun C Q s h=>zdq.cps C N (s 0) (s 1) h Q:=fun {C} hC Q s h hR=>eT hC (fun s h=>zdq.k3 C N Q (s 0) (s 1) h) hR (fun s h hR=>eT hC (fun s h=>zx (zkz.l4 8 [.i .i64,.s,.i .i64,.i .i64,.i .i64,.i .u8,.i .i64,.s] Q (s 0) (s 1)) [(.int .i64 0)] h) hR (fun s h hR=>eS hC (fun s h=>Q (.bool true) h) (eT hC (fun s h=>zx (zkz.l4 8 [.i .i64,.s,.i .i64,.i .i64,.i .i64,.i .u8,.i .i64,.s] Q (s 0) (s 1)) [(s 5)] h) hR (fun s h hR=>eK (eL hC [0,1] [5] (on2 (zkz.l4 8 [.i .i64,.s,.i .i64,.i .i64,.i .i64,.i .u8,.i .i64,.s] Q)) hR (fun Y1 s h hR=>e1 hR)))) (fun s h hR=>e1 hR)))
theorem zdq.imp:zdq.Imp (AC P) N:=fun a b h Q hR=>eF mixed (fn:=Try.f31) (fun hC=>zdq.L hC (dn Q) (zdh [a,b]) h hR)
def z6.I:Bx:=⟨[],[],9,[]⟩
theorem z6.L:LkT P z6.I Try.f32 fun C Q s h=>z6.cps C N (s 0) (s 1) h Q:=fun {C} hC Q s h hR=>e1 hR
theorem z6.imp:z6.Imp (AC P) N:=fun a b h Q hR=>eF mixed (fn:=Try.f32) (fun hC=>z6.L hC (dn Q) (zdh [a,b]) h hR)
def zdy.I:Bx:=⟨[2],[4],9,[]⟩
theorem zdy.L:LkT P zdy.I Try.f33 fun C Q s h=>zdy.cps C N (s 0) (s 1) h Q:=fun {C} hC Q s h hR=>e1 hR
theorem zdy.imp:zdy.Imp (AC P) N:=fun a b h Q hR=>eF mixed (fn:=Try.f33) (fun hC=>zdy.L hC (dn Q) (zdh [a,b]) h hR)
def zd7.I:Bx:=⟨[],[],15,[]⟩
theorem zd7.L:LkT P zd7.I Try.f34 fun C Q s h=>zd7.cps C N (s 0) (s 1) h Q:=fun {C} hC Q s h hR=>e1 hR
theorem zd7.imp:zd7.Imp (AC P) N:=fun a b h Q hR=>eF mixed (fn:=Try.f34) (fun hC=>zd7.L hC (dn Q) (zdh [a,b]) h hR)
def z7.I:Bx:=⟨[],[],19,[]⟩
abbrev z7.E:zy:=opsF 6 56 [.int .i64 0,.str [],.int .i64 0,.int .i64 0,.int .i64 0,.bool false] 0 []
theorem z7.L:LkT P z7.I Try.f35 fun C Q s h=>z7.cps C N (s 0) (s 1) h Q:=fun {C} hC Q s h hR=>eT hC (fun s h=>B.pv (V.zcv (s 0)) fun a=>zx (zb2.l2 C z7.E Q (s 0) (s 1) a) [(.int .i64 0)] h) hR (fun s h hR=>eS hC (fun s h=>Q (.int .i64 (-1)) h) (eT hC (fun s h=>zx (zb2.l2 C z7.E Q (s 0) (s 1) (s 7)) [(s 8)] h) hR (fun s h hR=>eK (eL hC [0,1,7] [8] (on3 (zb2.l2 C z7.E Q)) hR (fun Y1 s h hR=>e1 hR)))) (fun s h hR=>e1 hR))
theorem z7.imp:z7.Imp (AC P) N:=fun a b h Q hR=>eF mixed (fn:=Try.f35) (fun hC=>z7.L hC (dn Q) (zdh [a,b]) h hR)
def zdx.I:Bx:=⟨[2],[4],9,[]⟩
theorem zdx.L:LkT P zdx.I Try.f36 fun C Q s h=>zdx.cps C N (s 0) (s 1) h Q:=fun {C} hC Q s h hR=>e1 hR
theorem zdx.imp:zdx.Imp (AC P) N:=fun a b h Q hR=>eF mixed (fn:=Try.f36) (fun hC=>zdx.L hC (dn Q) (zdh [a,b]) h hR)
def zw.I:Bx:=⟨[],[],19,[]⟩
abbrev zw.E:zy:=opsF 8 80 [.int .i64 0,.str [],.int .i64 0,.int .i64 0,.int .i64 0,.int .u8 0,.int .i64 0,.str []] 0 []
theorem zw.L:LkT P zw.I Try.f37 fun C Q s h=>zw.cps C N (s 0) (s 1) h Q:=fun {C} hC Q s h hR=>eT hC (fun s h=>B.pv (V.zcv (s 0)) fun a=>zx (zb2.l2 C zw.E Q (s 0) (s 1) a) [(.int .i64 0)] h) hR (fun s h hR=>eS hC (fun s h=>Q (.int .i64 (-1)) h) (eT hC (fun s h=>zx (zb2.l2 C zw.E Q (s 0) (s 1) (s 7)) [(s 8)] h) hR (fun s h hR=>eK (eL hC [0,1,7] [8] (on3 (zb2.l2 C zw.E Q)) hR (fun Y1 s h hR=>e1 hR)))) (fun s h hR=>e1 hR))
theorem zw.imp:zw.Imp (AC P) N:=fun a b h Q hR=>eF mixed (fn:=Try.f37) (fun hC=>zw.L hC (dn Q) (zdh [a,b]) h hR)
def zdw.I:Bx:=⟨[2],[4],9,[]⟩
theorem zdw.L:LkT P zdw.I Try.f38 fun C Q s h=>zdw.cps C N (s 0) (s 1) h Q:=fun {C} hC Q s h hR=>e1 hR
theorem zdw.imp:zdw.Imp (AC P) N:=fun a b h Q hR=>eF mixed (fn:=Try.f38) (fun hC=>zdw.L hC (dn Q) (zdh [a,b]) h hR)
def zch.I:Bx:=⟨[],[],13,[]⟩
theorem zch.L:LkT P zch.I Try.f39 fun C Q s h=>zch.cps C N (s 0) (s 1) h Q:=fun {C} hC Q s h hR=>eT hC (fun s h=>zx (zch.l2 C N Q (s 1)) [(s 0)] h) hR (fun s h hR=>eS hC (fun s h=>Q (s 0) h) (eK (eL hC [1] [0] (on1 (zch.l2 C N Q)) hR (fun Y1 s h hR=>e1 hR))) (fun s h hR=>e1 hR))
theorem zch.imp:zch.Imp (AC P) N:=fun a b h Q hR=>eF mixed (fn:=Try.f39) (fun hC=>zch.L hC (dn Q) (zdh [a,b]) h hR)
def zdc.I:Bx:=⟨[],[],22,[(2,[(0,[]),(1,[]),(2,[]),(4,[]),(5,[]),(3,[0,4]),(6,[0]),(7,[])])]⟩
theorem zdc.L:LkT P zdc.I Try.f40 fun C Q s h=>zdc.cps C N (s 0) (s 1) (s 2) (s 3) h Q:=fun {C} hC Q s h hR=>e1 hR
theorem zdc.imp:zdc.Imp (AC P) N:=fun a b c d h Q hR=>eF mixed (fn:=Try.f40) (fun hC=>zdc.L hC (dn Q) (zdh [a,b,c,d]) h hR)
def zcx.I:Bx:=⟨[],[],134,[(17,pz [] 15)]⟩
theorem zcx.L:LkT P zcx.I Try.f41 fun C Q s h=>zcx.cps C N (s 0) (s 1) (s 2) (s 3) h Q:=fun {C} hC Q s h hR=>eT hC (fun s h=>zx (z8.l8 C (opsS 16 (.str []) 0) (N 377) (N 378) (N 379) (N 375) (N 380) (N 381) (N 382) (N 383) (N 384) (N 385) Q (s 0)) [(s 1),(s 2),(s 3),(s 8),(.bool true)] h) hR (fun s h hR=>eT hC (fun s h=>zx (z8.l8 C (opsS 16 (.str []) 0) (N 377) (N 378) (N 379) (N 375) (N 380) (N 381) (N 382) (N 383) (N 384) (N 385) Q (s 0)) [(s 1),(s 2),(s 3),(s 8),(s 9)] h) hR (fun s h hR=>eK (eL hC [0] [1,2,3,8,9] (on1 (z8.l8 C (opsS 16 (.str []) 0) (N 377) (N 378) (N 379) (N 375) (N 380) (N 381) (N 382) (N 383) (N 384) (N 385) Q)) hR (fun Y1 s h hR=>eK (eT hC (fun s h=>z8.k7 C (opsS 16 (.str []) 0) (N 377) (N 378) (N 379) (N 375) (N 380) (N 381) (N 382) (N 383) (N 384) (N 385) Q Y1 (s 0) (s 1) (s 2) (s 3) (s 8) (s 9) (s 10) h) hR (fun s h hR=>eT hC (fun s h=>z8.k6 C (opsS 16 (.str []) 0) (N 377) (N 378) (N 379) (N 375) (N 380) (N 381) (N 382) (N 383) (N 384) (N 385) Q Y1 (s 0) (s 1) (s 2) (s 3) (s 8) (s 9) (s 10) h) hR (fun s h hR=>eT hC (fun s h=>z8.k5 C (opsS 16 (.str []) 0) (N 377) (N 378) (N 379) (N 375) (N 380) (N 381) (N 382) (N 383) (N 384) (N 385) Q Y1 (s 0) (s 1) (s 2) (s 3) (s 8) (s 9) (s 10) h) hR (fun s h hR=>eT hC (fun s h=>z8.k4 C (opsS 16 (.str []) 0) (N 377) (N 378) (N 379) (N 375) (N 380) (N 381) (N 382) (N 383) (N 384) (N 385) Q Y1 (s 0) (s 1) (s 2) (s 3) (s 8) (s 9) (s 10) h) hR (fun s h hR=>eT hC (fun s h=>z8.k3 C (opsS 16 (.str []) 0) (N 377) (N 378) (N 379) (N 375) (N 380) (N 381) (N 382) (N 383) (N 384) (N 385) Q Y1 (s 0) (s 1) (s 2) (s 3) (s 8) (s 9) (s 10) (s 11) (s 12) h) hR (fun s h hR=>eT hC (fun s h=>z8.k2 C (opsS 16 (.str []) 0) (N 377) (N 378) (N 379) (N 375) (N 380) (N 381) (N 382) (N 383) (N 384) (N 385) Q Y1 (s 0) (s 1) (s 2) (s 3) (s 8) (s 9) (s 10) (s 11) (s 12) h) hR (fun s h hR=>eT hC (fun s h=>z8.k1 C (opsS 16 (.str []) 0) (N 377) (N 378) (N 379) (N 375) (N 380) (N 381) (N 382) (N 383) (N 384) (N 385) Q Y1 (s 0) (s 1) (s 2) (s 3) (s 8) (s 9) (s 10) (s 11) h) hR (fun s h hR=>e1 hR))))))))))))
theorem zcx.imp:zcx.Imp (AC P) N:=fun a b c d h Q hR=>eF mixed (fn:=Try.f41) (fun hC=>zcx.L hC (dn Q) (zdh [a,b,c,d]) h hR)
def zd1.I:Bx:=⟨[],[],8,[]⟩
theorem zd1.L:LkT P zd1.I Try.f42 fun C Q s h=>zd1.cps C N (s 0) h Q:=fun {C} hC Q s h hR=>e1 hR
theorem zd1.imp:zd1.Imp (AC P) N:=fun a h Q hR=>eF mixed (fn:=Try.f42) (fun hC=>zd1.L hC (dn Q) (zdh [a]) h hR)
def zcy.I:Bx:=⟨[],[],148,[(17,pz [] 17)]⟩
theorem zcy.L:LkT P zcy.I Try.f43 fun C Q s h=>zcy.cps C N (s 0) (s 1) (s 2) (s 3) (s 4) h Q:=fun {C} hC Q s h hR=>eT hC (fun s h=>zx (zm.l8 C (opsS 24 (.nils) 0) (N 581) (N 582) (N 579) (N 583) (N 584) (N 585) (N 586) (N 587) (N 588) Q (s 0) (s 4)) [(s 1),(s 2),(s 3),(s 10),(.bool true)] h) hR (fun s h hR=>eT hC (fun s h=>zx (zm.l8 C (opsS 24 (.nils) 0) (N 581) (N 582) (N 579) (N 583) (N 584) (N 585) (N 586) (N 587) (N 588) Q (s 0) (s 4)) [(s 1),(s 2),(s 3),(s 10),(s 11)] h) hR (fun s h hR=>eK (eL hC [0,4] [1,2,3,10,11] (on2 (zm.l8 C (opsS 24 (.nils) 0) (N 581) (N 582) (N 579) (N 583) (N 584) (N 585) (N 586) (N 587) (N 588) Q)) hR (fun Y1 s h hR=>eK (eT hC (fun s h=>zm.k7 C (opsS 24 (.nils) 0) (N 581) (N 582) (N 579) (N 583) (N 584) (N 585) (N 586) (N 587) (N 588) Q Y1 (s 0) (s 1) (s 2) (s 3) (s 4) (s 10) (s 11) (s 12) h) hR (fun s h hR=>eT hC (fun s h=>zm.k6 C (opsS 24 (.nils) 0) (N 581) (N 582) (N 579) (N 583) (N 584) (N 585) (N 586) (N 587) (N 588) Q Y1 (s 0) (s 1) (s 2) (s 3) (s 4) (s 10) (s 11) (s 12) h) hR (fun s h hR=>eT hC (fun s h=>zm.k5 C (opsS 24 (.nils) 0) (N 581) (N 582) (N 579) (N 583) (N 584) (N 585) (N 586) (N 587) (N 588) Q Y1 (s 0) (s 1) (s 2) (s 3) (s 4) (s 10) (s 11) (s 12) h) hR (fun s h hR=>eT hC (fun s h=>zm.k4 C (opsS 24 (.nils) 0) (N 581) (N 582) (N 579) (N 583) (N 584) (N 585) (N 586) (N 587) (N 588) Q Y1 (s 0) (s 1) (s 2) (s 3) (s 4) (s 10) (s 11) (s 12) h) hR (fun s h hR=>eT hC (fun s h=>zm.k3 C (opsS 24 (.nils) 0) (N 581) (N 582) (N 579) (N 583) (N 584) (N 585) (N 586) (N 587) (N 588) Q Y1 (s 0) (s 1) (s 2) (s 3) (s 4) (s 10) (s 11) (s 12) (s 13) (s 14) h) hR (fun s h hR=>eT hC (fun s h=>zm.k2 C (opsS 24 (.nils) 0) (N 581) (N 582) (N 579) (N 583) (N 584) (N 585) (N 586) (N 587) (N 588) Q Y1 (s 0) (s 1) (s 2) (s 3) (s 4) (s 10) (s 11) (s 12) (s 13) (s 14) h) hR (fun s h hR=>eT hC (fun s h=>zm.k1 C (opsS 24 (.nils) 0) (N 581) (N 582) (N 579) (N 583) (N 584) (N 585) (N 586) (N 587) (N 588) Q Y1 (s 0) (s 1) (s 2) (s 3) (s 4) (s 10) (s 11) (s 12) (s 13) h) hR (fun s h hR=>e1 hR))))))))))))
theorem zcy.imp:zcy.Imp (AC P) N:=fun a b c d e h Q hR=>eF mixed (fn:=Try.f43) (fun hC=>zcy.L hC (dn Q) (zdh [a,b,c,d,e]) h hR)
def zck.I:Bx:=⟨[],[],20,[]⟩
theorem zck.L:LkT P zck.I Try.f44 fun C Q s h=>zck.cps C N (s 0) (s 1) h Q:=fun {C} hC Q s h hR=>e1 hR
theorem zck.imp:zck.Imp (AC P) N:=fun a b h Q hR=>eF mixed (fn:=Try.f44) (fun hC=>zck.L hC (dn Q) (zdh [a,b]) h hR)
def zbt.I:Bx:=⟨[],[],19,[]⟩
theorem zbt.L:LkT P zbt.I Try.f46 fun C Q s h=>zbt.cps C N (s 0) (s 1) h Q:=fun {C} hC Q s h hR=>eT hC (fun s h=>B.pv (V.zcv (s 0)) fun a=>zx (zev.l2 C (opsS 16 (.str []) 0) Q (s 0) (s 1) a) [(.int .i64 0)] h) hR (fun s h hR=>eS hC (fun s h=>Q (.int .i64 (-1)) h) (eT hC (fun s h=>zx (zev.l2 C (opsS 16 (.str []) 0) Q (s 0) (s 1) (s 7)) [(s 8)] h) hR (fun s h hR=>eK (eL hC [0,1,7] [8] (on3 (zev.l2 C (opsS 16 (.str []) 0) Q)) hR (fun Y1 s h hR=>e1 hR)))) (fun s h hR=>e1 hR))
theorem zbt.imp:zbt.Imp (AC P) N:=fun a b h Q hR=>eF mixed (fn:=Try.f46) (fun hC=>zbt.L hC (dn Q) (zdh [a,b]) h hR)
def zd6.I:Bx:=⟨[2,3],[5,7,11,13,18,20,25,27],31,[]⟩
theorem zd6.L:LkT P zd6.I Try.f47 fun C Q s h=>zd6.cps C N (s 0) (s 1) h Q:=fun {C} hC Q s h hR=>e1 hR
theorem zd6.imp:zd6.Imp (AC P) N:=fun a b h Q hR=>eF mixed (fn:=Try.f47) (fun hC=>zd6.L hC (dn Q) (zdh [a,b]) h hR)
def zbd.I:Bx:=⟨[],[],19,[]⟩
abbrev zbd.E:zy:=opsF 4 72 [.str [],.int .i64 0,.nils,.nils] 0 []
theorem zbd.L:LkT P zbd.I Try.f48 fun C Q s h=>zbd.cps C N (s 0) (s 1) h Q:=fun {C} hC Q s h hR=>eT hC (fun s h=>B.pv (V.zcv (s 0)) fun a=>zx (zb2.l2 C zbd.E Q (s 0) (s 1) a) [(.int .i64 0)] h) hR (fun s h hR=>eS hC (fun s h=>Q (.int .i64 (-1)) h) (eT hC (fun s h=>zx (zb2.l2 C zbd.E Q (s 0) (s 1) (s 7)) [(s 8)] h) hR (fun s h hR=>eK (eL hC [0,1,7] [8] (on3 (zb2.l2 C zbd.E Q)) hR (fun Y1 s h hR=>e1 hR)))) (fun s h hR=>e1 hR))
theorem zbd.imp:zbd.Imp (AC P) N:=fun a b h Q hR=>eF mixed (fn:=Try.f48) (fun hC=>zbd.L hC (dn Q) (zdh [a,b]) h hR)
def zl.I:Bx:=⟨[],[],36,[]⟩
theorem zl.L:LkT P zl.I Try.f49 fun C Q s h=>zl.cps C N (s 0) h Q:=fun {C} hC Q s h hR=>eT hC (fun s h=>B.pv (V.zcv (s 0)) fun a=>zx (zl.l4 C N Q (s 0) (s 0) a) [(.int .i64 0),(.int .i64 0)] h) hR (fun s h hR=>eT hC (fun s h=>B.pv (V.zcv (s 0)) fun a=>zx (zl.l4 C N Q (s 0) (s 0) a) [(s 3),(.int .i64 0)] h) hR (fun s h hR=>eS hC (fun s h=>B.call C (N 376) [.nils,(s 3)] h fun c h=>B.pv (V.zcv (s 0)) fun b=>zx (zl.l2 C N Q (s 0) b) [c,(.int .i64 0)] h) (eT hC (fun s h=>zx (zl.l4 C N Q (s 0) (s 9) (s 10)) [(s 3),(s 11)] h) hR (fun s h hR=>eK (eL hC [0,9,10] [3,11] (on3 (zl.l4 C N Q)) hR (fun Y2 s h hR=>e1 hR)))) (fun s h hR=>eT hC (fun s h=>B.pv (V.zcv (s 0)) fun b=>zx (zl.l2 C N Q (s 0) b) [(s 6),(.int .i64 0)] h) hR (fun s h hR=>eS hC (fun s h=>Q (s 6) h) (eT hC (fun s h=>zx (zl.l2 C N Q (s 25) (s 26)) [(s 6),(s 27)] h) hR (fun s h hR=>eK (eL hC [25,26] [6,27] (on2 (zl.l2 C N Q)) hR (fun Y1 s h hR=>e1 hR)))) (fun s h hR=>e1 hR)))))
theorem zl.imp:zl.Imp (AC P) N:=fun a h Q hR=>eF mixed (fn:=Try.f49) (fun hC=>zl.L hC (dn Q) (zdh [a]) h hR)
def zb5.I:Bx:=⟨[],[],49,[(4,pz [] 15),(6,pz [] 18)]⟩
theorem zb5.L:LkT P zb5.I Try.f50 fun C Q s h=>zb5.cps C N (s 0) (s 1) (s 2) h Q:=fun {C} hC Q s h hR=>eT hC (fun s h=>zx (zb4.l3 C (opsS 16 (.str []) 0) (N 377) Q (s 0) (s 1) (s 2)) [(s 6)] h) hR (fun s h hR=>eK (eL hC [0,1,2] [6] (on3 (zb4.l3 C (opsS 16 (.str []) 0) (N 377) Q)) hR (fun Y1 s h hR=>eT hC (fun s h=>zx (zb4.l2 C (opsS 16 (.str []) 0) (N 377) Q Y1 (s 0) (s 1) (s 2) (s 6)) [(s 6)] h) hR (fun s h hR=>eS hC (fun s h=>B.pv (V.bin .add (s 6) (.int .i64 1)) fun a=>Y1 [a] h) (eK (eT hC (fun s h=>zx (zb4.l2 C (opsS 16 (.str []) 0) (N 377) Q Y1 (s 0) (s 1) (s 2) (s 6)) [(s 7)] h) hR (fun s h hR=>eK (eL hC [0,1,2,6] [7] (on4 (zb4.l2 C (opsS 16 (.str []) 0) (N 377) Q Y1)) hR (fun Y2 s h hR=>e1 hR))))) (fun s h hR=>e1 hR)))))
theorem zb5.imp:zb5.Imp (AC P) N:=fun a b c h Q hR=>eF mixed (fn:=Try.f50) (fun hC=>zb5.L hC (dn Q) (zdh [a,b,c]) h hR)
def zct.I:Bx:=⟨[],[],56,[(10,pz [] 20)]⟩
theorem zct.L:LkT P zct.I Try.f51 fun C Q s h=>zct.cps C N (s 0) (s 1) (s 2) h Q:=fun {C} hC Q s h hR=>eT hC (fun s h=>B.pv (V.bin .sub (s 2) (s 1)) fun a=>zbs.k5 C (opsS 16 (.str []) 0) (N 386) Q (s 0) (s 6) (.int .i64 0) a h) hR (fun s h hR=>eT hC (fun s h=>B.pv (V.bin .sub (s 2) (s 1)) fun a=>zbs.k5 C (opsS 16 (.str []) 0) (N 386) Q (s 0) (s 6) (s 7) a h) hR (fun s h hR=>eT hC (fun s h=>zbs.k5 C (opsS 16 (.str []) 0) (N 386) Q (s 0) (s 6) (s 7) (s 8) h) hR (fun s h hR=>eS hC (fun s h=>B.pv (V.bin .sub (s 8) (.int .i64 1)) fun b=>zx (zbs.l2 C (opsS 16 (.str []) 0) (N 386) Q (s 0) (s 6) (s 7)) [b] h) (eT hC (fun s h=>zx (zbs.l4 C (opsS 16 (.str []) 0) (N 386) Q (s 0) (s 6) (s 7) (s 8)) [(s 9)] h) hR (fun s h hR=>eK (eL hC [0,6,7,8] [9] (on4 (zbs.l4 C (opsS 16 (.str []) 0) (N 386) Q)) hR (fun Y2 s h hR=>e1 hR)))) (fun s h hR=>eT hC (fun s h=>zx (zbs.l2 C (opsS 16 (.str []) 0) (N 386) Q (s 0) (s 6) (s 7)) [(s 10)] h) hR (fun s h hR=>eK (eL hC [0,6,7] [10] (on3 (zbs.l2 C (opsS 16 (.str []) 0) (N 386) Q)) hR (fun Y1 s h hR=>e1 hR)))))))
theorem zct.imp:zct.Imp (AC P) N:=fun a b c h Q hR=>eF mixed (fn:=Try.f51) (fun hC=>zct.L hC (dn Q) (zdh [a,b,c]) h hR)
def zb7.I:Bx:=⟨[],[],65,[(10,pz [] 20)]⟩
theorem zb7.L:LkT P zb7.I Try.f52 fun C Q s h=>zb7.cps C N (s 0) (s 1) (s 2) h Q:=fun {C} hC Q s h hR=>eT hC (fun s h=>B.pv (V.bin .geq (s 6) (.int .i64 8)) fun a=>B.cond a (zr.k7 C (opsS 16 (.str []) 0) (N 298) (N 299) Q (s 0) (s 1) (s 6) h) (Q (.tup []) h)) hR (fun s h hR=>eT hC (fun s h=>B.cond (s 15) (zr.k7 C (opsS 16 (.str []) 0) (N 298) (N 299) Q (s 0) (s 1) (s 6) h) (Q (.tup []) h)) hR (fun s h hR=>eC 15 hR (fun hR=>eT hC (fun s h=>B.call C (N 299) [(s 6)] h fun b h=>zr.k6 C (opsS 16 (.str []) 0) (N 298) (N 299) Q (s 0) (s 1) (s 6) (s 7) b h) hR (fun s h hR=>eT hC (fun s h=>zr.k6 C (opsS 16 (.str []) 0) (N 298) (N 299) Q (s 0) (s 1) (s 6) (s 7) (s 8) h) hR (fun s h hR=>eT hC (fun s h=>zx (zr.l5 C (opsS 16 (.str []) 0) (N 298) (N 299) Q (s 0) (s 1) (s 6) (s 7) (s 8)) [(s 9)] h) hR (fun s h hR=>eK (eL hC [0,1,6,7,8] [9] (on5 (zr.l5 C (opsS 16 (.str []) 0) (N 298) (N 299) Q)) hR (fun Y1 s h hR=>eT hC (fun s h=>zr.k3 C (opsS 16 (.str []) 0) (N 298) (N 299) Q Y1 (s 0) (s 1) (s 6) (s 7) (s 8) (s 9) h) hR (fun s h hR=>eS hC (fun s h=>B.pv (V.bin .add (s 9) (.int .i64 1)) fun c=>Y1 [c] h) (eK (eT hC (fun s h=>zr.k2 C (opsS 16 (.str []) 0) (N 298) (N 299) Q Y1 (s 0) (s 1) (s 6) (s 7) (s 8) (s 9) (s 10) h) hR (fun s h hR=>eT hC (fun s h=>zr.k1 C (opsS 16 (.str []) 0) (N 298) (N 299) Q Y1 (s 0) (s 1) (s 6) (s 7) (s 8) (s 9) (s 10) h) hR (fun s h hR=>e1 hR)))) (fun s h hR=>e1 hR)))))))) (fun hR=>e1 hR)))
theorem zb7.imp:zb7.Imp (AC P) N:=fun a b c h Q hR=>eF mixed (fn:=Try.f52) (fun hC=>zb7.L hC (dn Q) (zdh [a,b,c]) h hR)
def zcf.I:Bx:=⟨[],[],57,[]⟩
theorem zcf.L:LkT P zcf.I Try.f53 fun C Q s h=>zcf.cps C N (s 0) (s 1) (s 2) h Q:=fun {C} hC Q s h hR=>eT hC (fun s h=>B.pv (V.bin .sub (s 2) (s 1)) fun b=>B.newO h (some [.int .i64 0]) fun a h=>zbc.k5 C (opsS 16 (.str []) 0) (N 387) (N 388) Q (s 0) (s 1) b (.ptr a 0 0) h) hR (fun s h hR=>eT hC (fun s h=>B.newO h (some [.int .i64 0]) fun a h=>zbc.k5 C (opsS 16 (.str []) 0) (N 387) (N 388) Q (s 0) (s 1) (s 8) (.ptr a 0 0) h) hR (fun s h hR=>eT hC (fun s h=>zbc.k5 C (opsS 16 (.str []) 0) (N 387) (N 388) Q (s 0) (s 1) (s 8) (s 9) h) hR (fun s h hR=>eT hC (fun s h=>zbc.k4 C (opsS 16 (.str []) 0) (N 387) (N 388) Q (s 0) (s 1) (s 8) (s 9) (s 10) h) hR (fun s h hR=>eT hC (fun s h=>zbc.k3 C (opsS 16 (.str []) 0) (N 387) (N 388) Q (s 0) (s 1) (s 8) (s 9) (s 10) (s 11) h) hR (fun s h hR=>eT hC (fun s h=>zbc.k2 C (opsS 16 (.str []) 0) (N 387) (N 388) Q (s 0) (s 8) (s 9) (s 10) (s 11) (s 12) h) hR (fun s h hR=>eT hC (fun s h=>zbc.k1 C (opsS 16 (.str []) 0) (N 387) (N 388) Q (s 9) (s 11) h) hR (fun s h hR=>e1 hR)))))))
theorem zcf.imp:zcf.Imp (AC P) N:=fun a b c h Q hR=>eF mixed (fn:=Try.f53) (fun hC=>zcf.L hC (dn Q) (zdh [a,b,c]) h hR)
def zcb.I:Bx:=⟨[],[],32,[(3,pz [] 16)]⟩
theorem zcb.L:LkT P zcb.I Try.f54 fun C Q s h=>zcb.cps C N (s 0) (s 1) (s 2) h Q:=fun {C} hC Q s h hR=>eT hC (fun s h=>B.pv (V.bin .sub (s 2) (.int .i64 1)) fun a=>zx (zdb.l2 C (opsS 16 (.str []) 0) Q (s 0)) [(s 6),a] h) hR (fun s h hR=>eT hC (fun s h=>zx (zdb.l2 C (opsS 16 (.str []) 0) Q (s 0)) [(s 6),(s 7)] h) hR (fun s h hR=>eK (eL hC [0] [6,7] (on1 (zdb.l2 C (opsS 16 (.str []) 0) Q)) hR (fun Y1 s h hR=>e1 hR))))
theorem zcb.imp:zcb.Imp (AC P) N:=fun a b c h Q hR=>eF mixed (fn:=Try.f54) (fun hC=>zcb.L hC (dn Q) (zdh [a,b,c]) h hR)
def zbp.I:Bx:=⟨[],[],133,[(5,pz [] 16),(11,pz [] 18),(16,pz [] 11),(17,pz [] 18),(22,pz [] 11),(23,pz [] 18)]⟩
theorem zbp.L:LkT P zbp.I Try.f55 fun C Q s h=>zbp.cps C N (s 0) (s 1) (s 2) h Q:=fun {C} hC Q s h hR=>eT hC (fun s h=>B.pv (V.bin .add (s 1) (.int .i64 1)) fun c=>zx (zf.l12 C (opsS 16 (.str []) 0) (N 377) Q (s 0) (s 1) (s 2)) [c,(.int .i64 0)] h) hR (fun s h hR=>eT hC (fun s h=>zx (zf.l12 C (opsS 16 (.str []) 0) (N 377) Q (s 0) (s 1) (s 2)) [(s 7),(.int .i64 0)] h) hR (fun s h hR=>eS hC (fun s h=>Q (.bool false) h) (eT hC (fun s h=>zx (zf.l12 C (opsS 16 (.str []) 0) (N 377) Q (s 0) (s 1) (s 2)) [(s 7),(s 8)] h) hR (fun s h hR=>eK (eL hC [0,1,2] [7,8] (on3 (zf.l12 C (opsS 16 (.str []) 0) (N 377) Q)) hR (fun Y1 s h hR=>eT hC (fun s h=>zx (zf.l10 C (opsS 16 (.str []) 0) (N 377) Q Y1 (s 0) (s 1) (s 2) (s 8)) [(s 7)] h) hR (fun s h hR=>eS hC (fun s h=>B.pv (V.bin .add (s 8) (.int .i64 1)) fun a=>Y1 [(s 7),a] h) (eK (eS hC (fun s h=>B.pv (V.bin .eql (s 7) (s 2)) fun d=>B.cond d (Q (.bool true) h) (zf.k8 C (opsS 16 (.str []) 0) (N 377) Q Y1 (s 0) (s 1) (s 2) (s 7) (s 8) h)) (eK (eL hC [0,1,2,8] [7] (on4 (zf.l10 C (opsS 16 (.str []) 0) (N 377) Q Y1)) hR (fun Y4 s h hR=>e1 hR))) (fun s h hR=>eT hC (fun s h=>zf.k8 C (opsS 16 (.str []) 0) (N 377) Q Y1 (s 0) (s 1) (s 2) (s 7) (s 8) h) hR (fun s h hR=>eT hC (fun s h=>zf.k7 C (opsS 16 (.str []) 0) (N 377) Q Y1 (s 0) (s 1) (s 2) (s 7) (s 8) h) hR (fun s h hR=>eT hC (fun s h=>zf.k6 C (opsS 16 (.str []) 0) (N 377) Q Y1 (s 0) (s 1) (s 2) (s 7) (s 8) h) hR (fun s h hR=>eS hC (fun s h=>zf.k3 C (opsS 16 (.str []) 0) (N 377) Q Y1 (s 0) (s 1) (s 2) (s 7) (s 8) h) (eT hC (fun s h=>B.cond (s 61) (B.pv (V.bin .sub (s 7) (.int .i64 1)) fun e=>zx (zf.l5 C (opsS 16 (.str []) 0) (N 377) Q Y1 (s 0) (s 1) (s 2) (s 7) (s 8)) [e] h) (zf.k3 C (opsS 16 (.str []) 0) (N 377) Q Y1 (s 0) (s 1) (s 2) (s 7) (s 8) h)) hR (fun s h hR=>eC 61 hR (fun hR=>eT hC (fun s h=>zx (zf.l5 C (opsS 16 (.str []) 0) (N 377) Q Y1 (s 0) (s 1) (s 2) (s 7) (s 8)) [(s 9)] h) hR (fun s h hR=>eK (eL hC [0,1,2,7,8] [9] (on5 (zf.l5 C (opsS 16 (.str []) 0) (N 377) Q Y1)) hR (fun Y3 s h hR=>e1 hR)))) (fun hR=>e1 hR))) (fun s h hR=>eT hC (fun s h=>B.cond (s 98) (B.pv (V.bin .add (s 7) (.int .i64 1)) fun b=>zx (zf.l2 C (opsS 16 (.str []) 0) (N 377) Q Y1 (s 0) (s 1) (s 2) (s 7) (s 8)) [b] h) (B.pv (V.bin .add (s 8) (.int .i64 1)) fun a=>Y1 [(s 7),a] h)) hR (fun s h hR=>eC 98 hR (fun hR=>eT hC (fun s h=>zx (zf.l2 C (opsS 16 (.str []) 0) (N 377) Q Y1 (s 0) (s 1) (s 2) (s 7) (s 8)) [(s 10)] h) hR (fun s h hR=>eK (eL hC [0,1,2,7,8] [10] (on5 (zf.l2 C (opsS 16 (.str []) 0) (N 377) Q Y1)) hR (fun Y2 s h hR=>e1 hR)))) (fun hR=>e1 hR))))))))) (fun s h hR=>e1 hR)))))) (fun s h hR=>e1 hR)))
theorem zbp.imp:zbp.Imp (AC P) N:=fun a b c h Q hR=>eF mixed (fn:=Try.f55) (fun hC=>zbp.L hC (dn Q) (zdh [a,b,c]) h hR)
def zdl.I:Bx:=⟨[],[],17,[]⟩
theorem zdl.L:LkT P zdl.I Try.f56 fun C Q s h=>zdl.cps C N (s 0) (s 1) h Q:=fun {C} hC Q s h hR=>e1 hR
theorem zdl.imp:zdl.Imp (AC P) N:=fun a b h Q hR=>eF mixed (fn:=Try.f56) (fun hC=>zdl.L hC (dn Q) (zdh [a,b]) h hR)
def zby.I:Bx:=⟨[],[],84,[(1,pz [] 16),(3,pz [] 15),(5,pz [] 14),(8,pz [] 16)]⟩
theorem zby.L:LkT P zby.I Try.f57 fun C Q s h=>zby.cps C N (s 0) (s 1) (s 2) (s 3) h Q:=fun {C} hC Q s h hR=>eT hC (fun s h=>zu.k8 C (opsS 16 (.str []) 0) (N 377) Q (s 0) (s 1) (s 2) (s 3) h) hR (fun s h hR=>eT hC (fun s h=>zu.k7 C (opsS 16 (.str []) 0) (N 377) Q (s 0) (s 1) (s 2) h) hR (fun s h hR=>eT hC (fun s h=>zx (zu.l6 C (opsS 16 (.str []) 0) (N 377) Q (s 0) (s 1)) [(s 9),(s 10)] h) hR (fun s h hR=>eS hC (fun s h=>Q (s 9) h) (eK (eL hC [0,1] [9,10] (on2 (zu.l6 C (opsS 16 (.str []) 0) (N 377) Q)) hR (fun Y1 s h hR=>eK (eS hC (fun s h=>zx (zu.l3 C (opsS 16 (.str []) 0) (N 377) Q Y1 (s 0) (s 1) (s 9)) [(s 10)] h) (eK (eL hC [0,1,10] [9] (on3 (zu.l5 C (opsS 16 (.str []) 0) (N 377) Q Y1)) hR (fun Y3 s h hR=>e1 hR))) (fun s h hR=>eS hC (fun s h=>zu.k1 C (opsS 16 (.str []) 0) (N 377) Q Y1 (s 0) (s 1) (s 9) (s 10) h) (eK (eL hC [0,1,9] [10] (on3 (zu.l3 C (opsS 16 (.str []) 0) (N 377) Q Y1)) hR (fun Y2 s h hR=>e1 hR))) (fun s h hR=>e1 hR)))))) (fun s h hR=>e1 hR))))
theorem zby.imp:zby.Imp (AC P) N:=fun a b c d h Q hR=>eF mixed (fn:=Try.f57) (fun hC=>zby.L hC (dn Q) (zdh [a,b,c,d]) h hR)
def zcn.I:Bx:=⟨[],[],168,[(1,pz [] 16),(3,pz [] 14),(5,pz [] 15),(8,pz [] 16),(10,pz [] 16),(13,pz [] 14),(15,pz [] 15),(18,pz [] 16),(21,pz [] 16)]⟩
theorem zcn.L:LkT P zcn.I Try.f58 fun C Q s h=>zcn.cps C N (s 0) (s 1) (s 2) (s 3) h Q:=fun {C} hC Q s h hR=>eT hC (fun s h=>zh.k16 C (opsS 16 (.str []) 0) (N 377) Q (s 0) (s 1) (s 2) (s 3) h) hR (fun s h hR=>eT hC (fun s h=>zh.k15 C (opsS 16 (.str []) 0) (N 377) Q (s 0) (s 1) (s 2) h) hR (fun s h hR=>eT hC (fun s h=>zx (zh.l14 C (opsS 16 (.str []) 0) (N 377) Q (s 0) (s 1) (s 11)) [(s 10)] h) hR (fun s h hR=>eS hC (fun s h=>zx (zh.l12 C (opsS 16 (.str []) 0) (N 377) Q (s 0) (s 1) (s 10)) [(s 11)] h) (eK (eL hC [0,1,11] [10] (on3 (zh.l14 C (opsS 16 (.str []) 0) (N 377) Q)) hR (fun Y5 s h hR=>e1 hR))) (fun s h hR=>eS hC (fun s h=>zh.k10 C (opsS 16 (.str []) 0) (N 377) Q (s 0) (s 1) (s 10) (s 11) h) (eK (eL hC [0,1,10] [11] (on3 (zh.l12 C (opsS 16 (.str []) 0) (N 377) Q)) hR (fun Y4 s h hR=>e1 hR))) (fun s h hR=>eT hC (fun s h=>zh.k9 C (opsS 16 (.str []) 0) (N 377) Q (s 0) (s 1) (s 10) (s 11) h) hR (fun s h hR=>eT hC (fun s h=>zh.k8 C (opsS 16 (.str []) 0) (N 377) Q (s 0) (s 1) (s 10) (s 11) h) hR (fun s h hR=>eT hC (fun s h=>B.pv (V.bin .sub (s 11) (.int .i64 1)) fun a=>zx (zh.l7 C (opsS 16 (.str []) 0) (N 377) Q (s 0) (s 1)) [(s 10),a] h) hR (fun s h hR=>eT hC (fun s h=>zx (zh.l7 C (opsS 16 (.str []) 0) (N 377) Q (s 0) (s 1)) [(s 10),(s 11)] h) hR (fun s h hR=>eS hC (fun s h=>zh.k1 C (opsS 16 (.str []) 0) (N 377) Q (s 0) (s 1) (s 11) h) (eK (eL hC [0,1] [10,11] (on2 (zh.l7 C (opsS 16 (.str []) 0) (N 377) Q)) hR (fun Y1 s h hR=>eK (eS hC (fun s h=>zx (zh.l4 C (opsS 16 (.str []) 0) (N 377) Q Y1 (s 0) (s 1) (s 10)) [(s 11)] h) (eK (eL hC [0,1,11] [10] (on3 (zh.l6 C (opsS 16 (.str []) 0) (N 377) Q Y1)) hR (fun Y3 s h hR=>e1 hR))) (fun s h hR=>eS hC (fun s h=>zh.k2 C (opsS 16 (.str []) 0) (N 377) Q Y1 (s 0) (s 1) (s 10) (s 11) h) (eK (eL hC [0,1,10] [11] (on3 (zh.l4 C (opsS 16 (.str []) 0) (N 377) Q Y1)) hR (fun Y2 s h hR=>e1 hR))) (fun s h hR=>e1 hR)))))) (fun s h hR=>e1 hR))))))))))
theorem zcn.imp:zcn.Imp (AC P) N:=fun a b c d h Q hR=>eF mixed (fn:=Try.f58) (fun hC=>zcn.L hC (dn Q) (zdh [a,b,c,d]) h hR)
def zbu.I:Bx:=⟨[],[],25,[]⟩
theorem zbu.L:LkT P zbu.I Try.f60 fun C Q s h=>zbu.cps C N (s 0) h Q:=fun {C} hC Q s h hR=>eT hC (fun s h=>zbu.k4 C N Q (s 0) (s 2) h) hR (fun s h hR=>eT hC (fun s h=>zbu.k3 C N Q (s 0) (s 2) h) hR (fun s h hR=>eT hC (fun s h=>zbu.k2 C N Q (s 0) (s 2) h) hR (fun s h hR=>eT hC (fun s h=>zbu.k1 C N Q (s 0) (s 2) h) hR (fun s h hR=>e1 hR))))
theorem zbu.imp:zbu.Imp (AC P) N:=fun a h Q hR=>eF mixed (fn:=Try.f60) (fun hC=>zbu.L hC (dn Q) (zdh [a]) h hR)
def zb6.I:Bx:=⟨[],[],53,[(4,pz [] 17),(6,pz [] 18)]⟩
theorem zb6.L:LkT P zb6.I Try.f61 fun C Q s h=>zb6.cps C N (s 0) (s 1) (s 2) (s 3) h Q:=fun {C} hC Q s h hR=>eT hC (fun s h=>zx (zbe.l3 C (opsS 24 (.nils) 0) Q (s 0) (s 1) (s 2) (s 3)) [(s 8)] h) hR (fun s h hR=>eK (eL hC [0,1,2,3] [8] (on4 (zbe.l3 C (opsS 24 (.nils) 0) Q)) hR (fun Y1 s h hR=>eT hC (fun s h=>zx (zbe.l2 C (opsS 24 (.nils) 0) Q Y1 (s 0) (s 1) (s 2) (s 3) (s 8)) [(s 8)] h) hR (fun s h hR=>eS hC (fun s h=>B.pv (V.bin .add (s 8) (.int .i64 1)) fun a=>Y1 [a] h) (eK (eT hC (fun s h=>zx (zbe.l2 C (opsS 24 (.nils) 0) Q Y1 (s 0) (s 1) (s 2) (s 3) (s 8)) [(s 9)] h) hR (fun s h hR=>eK (eL hC [0,1,2,3,8] [9] (on5 (zbe.l2 C (opsS 24 (.nils) 0) Q Y1)) hR (fun Y2 s h hR=>e1 hR))))) (fun s h hR=>e1 hR)))))
theorem zb6.imp:zb6.Imp (AC P) N:=fun a b c d h Q hR=>eF mixed (fn:=Try.f61) (fun hC=>zb6.L hC (dn Q) (zdh [a,b,c,d]) h hR)
def zcu.I:Bx:=⟨[],[],60,[(10,pz [] 20)]⟩
theorem zcu.L:LkT P zcu.I Try.f62 fun C Q s h=>zcu.cps C N (s 0) (s 1) (s 2) (s 3) h Q:=fun {C} hC Q s h hR=>eT hC (fun s h=>B.pv (V.bin .sub (s 2) (s 1)) fun a=>zba.k5 C (opsS 24 (.nils) 0) (N 591) Q (s 0) (s 3) (s 8) (.int .i64 0) a h) hR (fun s h hR=>eT hC (fun s h=>B.pv (V.bin .sub (s 2) (s 1)) fun a=>zba.k5 C (opsS 24 (.nils) 0) (N 591) Q (s 0) (s 3) (s 8) (s 9) a h) hR (fun s h hR=>eT hC (fun s h=>zba.k5 C (opsS 24 (.nils) 0) (N 591) Q (s 0) (s 3) (s 8) (s 9) (s 10) h) hR (fun s h hR=>eS hC (fun s h=>B.pv (V.bin .sub (s 10) (.int .i64 1)) fun b=>zx (zba.l2 C (opsS 24 (.nils) 0) (N 591) Q (s 0) (s 3) (s 8) (s 9)) [b] h) (eT hC (fun s h=>zx (zba.l4 C (opsS 24 (.nils) 0) (N 591) Q (s 0) (s 3) (s 8) (s 9) (s 10)) [(s 11)] h) hR (fun s h hR=>eK (eL hC [0,3,8,9,10] [11] (on5 (zba.l4 C (opsS 24 (.nils) 0) (N 591) Q)) hR (fun Y2 s h hR=>e1 hR)))) (fun s h hR=>eT hC (fun s h=>zx (zba.l2 C (opsS 24 (.nils) 0) (N 591) Q (s 0) (s 3) (s 8) (s 9)) [(s 12)] h) hR (fun s h hR=>eK (eL hC [0,3,8,9] [12] (on4 (zba.l2 C (opsS 24 (.nils) 0) (N 591) Q)) hR (fun Y1 s h hR=>e1 hR)))))))
theorem zcu.imp:zcu.Imp (AC P) N:=fun a b c d h Q hR=>eF mixed (fn:=Try.f62) (fun hC=>zcu.L hC (dn Q) (zdh [a,b,c,d]) h hR)
def zb8.I:Bx:=⟨[],[],67,[(10,pz [] 20)]⟩
theorem zb8.L:LkT P zb8.I Try.f63 fun C Q s h=>zb8.cps C N (s 0) (s 1) (s 2) (s 3) h Q:=fun {C} hC Q s h hR=>eT hC (fun s h=>B.pv (V.bin .geq (s 8) (.int .i64 8)) fun a=>B.cond a (zk.k7 C (opsS 24 (.nils) 0) (N 298) (N 299) Q (s 0) (s 1) (s 8) h) (Q (.tup []) h)) hR (fun s h hR=>eT hC (fun s h=>B.cond (s 17) (zk.k7 C (opsS 24 (.nils) 0) (N 298) (N 299) Q (s 0) (s 1) (s 8) h) (Q (.tup []) h)) hR (fun s h hR=>eC 17 hR (fun hR=>eT hC (fun s h=>B.call C (N 299) [(s 8)] h fun b h=>zk.k6 C (opsS 24 (.nils) 0) (N 298) (N 299) Q (s 0) (s 1) (s 8) (s 9) b h) hR (fun s h hR=>eT hC (fun s h=>zk.k6 C (opsS 24 (.nils) 0) (N 298) (N 299) Q (s 0) (s 1) (s 8) (s 9) (s 10) h) hR (fun s h hR=>eT hC (fun s h=>zx (zk.l5 C (opsS 24 (.nils) 0) (N 298) (N 299) Q (s 0) (s 1) (s 8) (s 9) (s 10)) [(s 11)] h) hR (fun s h hR=>eK (eL hC [0,1,8,9,10] [11] (on5 (zk.l5 C (opsS 24 (.nils) 0) (N 298) (N 299) Q)) hR (fun Y1 s h hR=>eT hC (fun s h=>zk.k3 C (opsS 24 (.nils) 0) (N 298) (N 299) Q Y1 (s 0) (s 1) (s 8) (s 9) (s 10) (s 11) h) hR (fun s h hR=>eS hC (fun s h=>B.pv (V.bin .add (s 11) (.int .i64 1)) fun c=>Y1 [c] h) (eK (eT hC (fun s h=>zk.k2 C (opsS 24 (.nils) 0) (N 298) (N 299) Q Y1 (s 0) (s 1) (s 8) (s 9) (s 10) (s 11) (s 12) h) hR (fun s h hR=>eT hC (fun s h=>zk.k1 C (opsS 24 (.nils) 0) (N 298) (N 299) Q Y1 (s 0) (s 1) (s 8) (s 9) (s 10) (s 11) (s 12) h) hR (fun s h hR=>e1 hR)))) (fun s h hR=>e1 hR)))))))) (fun hR=>e1 hR)))
theorem zb8.imp:zb8.Imp (AC P) N:=fun a b c d h Q hR=>eF mixed (fn:=Try.f63) (fun hC=>zb8.L hC (dn Q) (zdh [a,b,c,d]) h hR)
def zcg.I:Bx:=⟨[],[],63,[]⟩
theorem zcg.L:LkT P zcg.I Try.f64 fun C Q s h=>zcg.cps C N (s 0) (s 1) (s 2) (s 3) h Q:=fun {C} hC Q s h hR=>eT hC (fun s h=>B.pv (V.bin .sub (s 2) (s 1)) fun b=>B.newO h (some [.int .i64 0]) fun a h=>zo.k6 C (opsS 24 (.nils) 0) (N 589) (N 590) Q (s 0) (s 1) (s 3) b (.ptr a 0 0) h) hR (fun s h hR=>eT hC (fun s h=>B.newO h (some [.int .i64 0]) fun a h=>zo.k6 C (opsS 24 (.nils) 0) (N 589) (N 590) Q (s 0) (s 1) (s 3) (s 10) (.ptr a 0 0) h) hR (fun s h hR=>eT hC (fun s h=>zo.k6 C (opsS 24 (.nils) 0) (N 589) (N 590) Q (s 0) (s 1) (s 3) (s 10) (s 11) h) hR (fun s h hR=>eT hC (fun s h=>zo.k5 C (opsS 24 (.nils) 0) (N 589) (N 590) Q (s 0) (s 1) (s 3) (s 10) (s 11) (s 12) h) hR (fun s h hR=>eT hC (fun s h=>zo.k4 C (opsS 24 (.nils) 0) (N 589) (N 590) Q (s 0) (s 1) (s 3) (s 10) (s 11) (s 12) (s 13) h) hR (fun s h hR=>eT hC (fun s h=>zo.k3 C (opsS 24 (.nils) 0) (N 589) (N 590) Q (s 0) (s 3) (s 10) (s 11) (s 12) (s 13) (s 14) h) hR (fun s h hR=>eS hC (fun s h=>zo.k1 C (opsS 24 (.nils) 0) (N 589) (N 590) Q (s 11) (s 13) h) (eT hC (fun s h=>B.cond (s 34) (zo.k2 C (opsS 24 (.nils) 0) (N 589) (N 590) Q (s 0) (s 3) (s 10) (s 11) (s 12) (s 13) (s 14) h) (zo.k1 C (opsS 24 (.nils) 0) (N 589) (N 590) Q (s 11) (s 13) h)) hR (fun s h hR=>eC 34 hR (fun hR=>eT hC (fun s h=>B.call C (N 589) [(s 0),(s 12),(s 13),(s 14),(s 11),(s 3)] h fun c h=>zo.k1 C (opsS 24 (.nils) 0) (N 589) (N 590) Q (s 11) c h) hR (fun s h hR=>e1 hR)) (fun hR=>e1 hR))) (fun s h hR=>e1 hR)))))))
theorem zcg.imp:zcg.Imp (AC P) N:=fun a b c d h Q hR=>eF mixed (fn:=Try.f64) (fun hC=>zcg.L hC (dn Q) (zdh [a,b,c,d]) h hR)
def zcc.I:Bx:=⟨[],[],34,[(3,pz [] 16)]⟩
theorem zcc.L:LkT P zcc.I Try.f65 fun C Q s h=>zcc.cps C N (s 0) (s 1) (s 2) (s 3) h Q:=fun {C} hC Q s h hR=>eT hC (fun s h=>B.pv (V.bin .sub (s 2) (.int .i64 1)) fun a=>zx (zci.l2 C (opsS 24 (.nils) 0) Q (s 0)) [(s 8),a] h) hR (fun s h hR=>eT hC (fun s h=>zx (zci.l2 C (opsS 24 (.nils) 0) Q (s 0)) [(s 8),(s 9)] h) hR (fun s h hR=>eK (eL hC [0] [8,9] (on1 (zci.l2 C (opsS 24 (.nils) 0) Q)) hR (fun Y1 s h hR=>e1 hR))))
theorem zcc.imp:zcc.Imp (AC P) N:=fun a b c d h Q hR=>eF mixed (fn:=Try.f65) (fun hC=>zcc.L hC (dn Q) (zdh [a,b,c,d]) h hR)
def zbq.I:Bx:=⟨[],[],141,[(5,pz [] 18),(11,pz [] 18),(16,pz [] 13),(17,pz [] 18),(22,pz [] 13),(23,pz [] 18)]⟩
theorem zbq.L:LkT P zbq.I Try.f66 fun C Q s h=>zbq.cps C N (s 0) (s 1) (s 2) (s 3) h Q:=fun {C} hC Q s h hR=>eT hC (fun s h=>B.pv (V.bin .add (s 1) (.int .i64 1)) fun c=>zx (zb.l12 C (opsS 24 (.nils) 0) Q (s 0) (s 1) (s 2) (s 3)) [c,(.int .i64 0)] h) hR (fun s h hR=>eT hC (fun s h=>zx (zb.l12 C (opsS 24 (.nils) 0) Q (s 0) (s 1) (s 2) (s 3)) [(s 9),(.int .i64 0)] h) hR (fun s h hR=>eS hC (fun s h=>Q (.bool false) h) (eT hC (fun s h=>zx (zb.l12 C (opsS 24 (.nils) 0) Q (s 0) (s 1) (s 2) (s 3)) [(s 9),(s 10)] h) hR (fun s h hR=>eK (eL hC [0,1,2,3] [9,10] (on4 (zb.l12 C (opsS 24 (.nils) 0) Q)) hR (fun Y1 s h hR=>eT hC (fun s h=>zx (zb.l10 C (opsS 24 (.nils) 0) Q Y1 (s 0) (s 1) (s 2) (s 3) (s 10)) [(s 9)] h) hR (fun s h hR=>eS hC (fun s h=>B.pv (V.bin .add (s 10) (.int .i64 1)) fun a=>Y1 [(s 9),a] h) (eK (eS hC (fun s h=>B.pv (V.bin .eql (s 9) (s 2)) fun d=>B.cond d (Q (.bool true) h) (zb.k8 C (opsS 24 (.nils) 0) Q Y1 (s 0) (s 1) (s 2) (s 3) (s 9) (s 10) h)) (eK (eL hC [0,1,2,3,10] [9] (on5 (zb.l10 C (opsS 24 (.nils) 0) Q Y1)) hR (fun Y4 s h hR=>e1 hR))) (fun s h hR=>eT hC (fun s h=>zb.k8 C (opsS 24 (.nils) 0) Q Y1 (s 0) (s 1) (s 2) (s 3) (s 9) (s 10) h) hR (fun s h hR=>eT hC (fun s h=>zb.k7 C (opsS 24 (.nils) 0) Q Y1 (s 0) (s 1) (s 2) (s 3) (s 9) (s 10) h) hR (fun s h hR=>eT hC (fun s h=>zb.k6 C (opsS 24 (.nils) 0) Q Y1 (s 0) (s 1) (s 2) (s 3) (s 9) (s 10) h) hR (fun s h hR=>eS hC (fun s h=>zb.k3 C (opsS 24 (.nils) 0) Q Y1 (s 0) (s 1) (s 2) (s 3) (s 9) (s 10) h) (eT hC (fun s h=>B.cond (s 65) (B.pv (V.bin .sub (s 9) (.int .i64 1)) fun e=>zx (zb.l5 C (opsS 24 (.nils) 0) Q Y1 (s 0) (s 1) (s 2) (s 3) (s 9) (s 10)) [e] h) (zb.k3 C (opsS 24 (.nils) 0) Q Y1 (s 0) (s 1) (s 2) (s 3) (s 9) (s 10) h)) hR (fun s h hR=>eC 65 hR (fun hR=>eT hC (fun s h=>zx (zb.l5 C (opsS 24 (.nils) 0) Q Y1 (s 0) (s 1) (s 2) (s 3) (s 9) (s 10)) [(s 11)] h) hR (fun s h hR=>eK (eL hC [0,1,2,3,9,10] [11] (on6 (zb.l5 C (opsS 24 (.nils) 0) Q Y1)) hR (fun Y3 s h hR=>e1 hR)))) (fun hR=>e1 hR))) (fun s h hR=>eT hC (fun s h=>B.cond (s 104) (B.pv (V.bin .add (s 9) (.int .i64 1)) fun b=>zx (zb.l2 C (opsS 24 (.nils) 0) Q Y1 (s 0) (s 1) (s 2) (s 3) (s 9) (s 10)) [b] h) (B.pv (V.bin .add (s 10) (.int .i64 1)) fun a=>Y1 [(s 9),a] h)) hR (fun s h hR=>eC 104 hR (fun hR=>eT hC (fun s h=>zx (zb.l2 C (opsS 24 (.nils) 0) Q Y1 (s 0) (s 1) (s 2) (s 3) (s 9) (s 10)) [(s 12)] h) hR (fun s h hR=>eK (eL hC [0,1,2,3,9,10] [12] (on6 (zb.l2 C (opsS 24 (.nils) 0) Q Y1)) hR (fun Y2 s h hR=>e1 hR)))) (fun hR=>e1 hR))))))))) (fun s h hR=>e1 hR)))))) (fun s h hR=>e1 hR)))
theorem zbq.imp:zbq.Imp (AC P) N:=fun a b c d h Q hR=>eF mixed (fn:=Try.f66) (fun hC=>zbq.L hC (dn Q) (zdh [a,b,c,d]) h hR)
def zbz.I:Bx:=⟨[],[],90,[(1,pz [] 16),(3,pz [] 17),(5,pz [] 16),(8,pz [] 16)]⟩
theorem zbz.L:LkT P zbz.I Try.f67 fun C Q s h=>zbz.cps C N (s 0) (s 1) (s 2) (s 3) (s 4) h Q:=fun {C} hC Q s h hR=>eT hC (fun s h=>zj.k8 C (opsS 24 (.nils) 0) Q (s 0) (s 1) (s 2) (s 3) (s 4) h) hR (fun s h hR=>eT hC (fun s h=>zj.k7 C (opsS 24 (.nils) 0) Q (s 0) (s 1) (s 2) (s 4) h) hR (fun s h hR=>eT hC (fun s h=>zx (zj.l6 C (opsS 24 (.nils) 0) Q (s 0) (s 1) (s 4)) [(s 11),(s 12)] h) hR (fun s h hR=>eS hC (fun s h=>Q (s 11) h) (eK (eL hC [0,1,4] [11,12] (on3 (zj.l6 C (opsS 24 (.nils) 0) Q)) hR (fun Y1 s h hR=>eK (eS hC (fun s h=>zx (zj.l3 C (opsS 24 (.nils) 0) Q Y1 (s 0) (s 1) (s 4) (s 11)) [(s 12)] h) (eK (eL hC [0,1,4,12] [11] (on4 (zj.l5 C (opsS 24 (.nils) 0) Q Y1)) hR (fun Y3 s h hR=>e1 hR))) (fun s h hR=>eS hC (fun s h=>zj.k1 C (opsS 24 (.nils) 0) Q Y1 (s 0) (s 1) (s 4) (s 11) (s 12) h) (eK (eL hC [0,1,4,11] [12] (on4 (zj.l3 C (opsS 24 (.nils) 0) Q Y1)) hR (fun Y2 s h hR=>e1 hR))) (fun s h hR=>e1 hR)))))) (fun s h hR=>e1 hR))))
theorem zbz.imp:zbz.Imp (AC P) N:=fun a b c d e h Q hR=>eF mixed (fn:=Try.f67) (fun hC=>zbz.L hC (dn Q) (zdh [a,b,c,d,e]) h hR)
def zco.I:Bx:=⟨[],[],178,[(1,pz [] 16),(3,pz [] 16),(5,pz [] 17),(8,pz [] 16),(10,pz [] 16),(13,pz [] 16),(15,pz [] 17),(18,pz [] 16),(21,pz [] 16)]⟩
theorem zco.L:LkT P zco.I Try.f68 fun C Q s h=>zco.cps C N (s 0) (s 1) (s 2) (s 3) (s 4) h Q:=fun {C} hC Q s h hR=>eT hC (fun s h=>ze.k16 C (opsS 24 (.nils) 0) Q (s 0) (s 1) (s 2) (s 3) (s 4) h) hR (fun s h hR=>eT hC (fun s h=>ze.k15 C (opsS 24 (.nils) 0) Q (s 0) (s 1) (s 2) (s 4) h) hR (fun s h hR=>eT hC (fun s h=>zx (ze.l14 C (opsS 24 (.nils) 0) Q (s 0) (s 1) (s 4) (s 13)) [(s 12)] h) hR (fun s h hR=>eS hC (fun s h=>zx (ze.l12 C (opsS 24 (.nils) 0) Q (s 0) (s 1) (s 4) (s 12)) [(s 13)] h) (eK (eL hC [0,1,4,13] [12] (on4 (ze.l14 C (opsS 24 (.nils) 0) Q)) hR (fun Y5 s h hR=>e1 hR))) (fun s h hR=>eS hC (fun s h=>ze.k10 C (opsS 24 (.nils) 0) Q (s 0) (s 1) (s 4) (s 12) (s 13) h) (eK (eL hC [0,1,4,12] [13] (on4 (ze.l12 C (opsS 24 (.nils) 0) Q)) hR (fun Y4 s h hR=>e1 hR))) (fun s h hR=>eT hC (fun s h=>ze.k9 C (opsS 24 (.nils) 0) Q (s 0) (s 1) (s 4) (s 12) (s 13) h) hR (fun s h hR=>eT hC (fun s h=>ze.k8 C (opsS 24 (.nils) 0) Q (s 0) (s 1) (s 4) (s 12) (s 13) h) hR (fun s h hR=>eT hC (fun s h=>B.pv (V.bin .sub (s 13) (.int .i64 1)) fun a=>zx (ze.l7 C (opsS 24 (.nils) 0) Q (s 0) (s 1) (s 4)) [(s 12),a] h) hR (fun s h hR=>eT hC (fun s h=>zx (ze.l7 C (opsS 24 (.nils) 0) Q (s 0) (s 1) (s 4)) [(s 12),(s 13)] h) hR (fun s h hR=>eS hC (fun s h=>ze.k1 C (opsS 24 (.nils) 0) Q (s 0) (s 1) (s 13) h) (eK (eL hC [0,1,4] [12,13] (on3 (ze.l7 C (opsS 24 (.nils) 0) Q)) hR (fun Y1 s h hR=>eK (eS hC (fun s h=>zx (ze.l4 C (opsS 24 (.nils) 0) Q Y1 (s 0) (s 1) (s 4) (s 12)) [(s 13)] h) (eK (eL hC [0,1,4,13] [12] (on4 (ze.l6 C (opsS 24 (.nils) 0) Q Y1)) hR (fun Y3 s h hR=>e1 hR))) (fun s h hR=>eS hC (fun s h=>ze.k2 C (opsS 24 (.nils) 0) Q Y1 (s 0) (s 1) (s 4) (s 12) (s 13) h) (eK (eL hC [0,1,4,12] [13] (on4 (ze.l4 C (opsS 24 (.nils) 0) Q Y1)) hR (fun Y2 s h hR=>e1 hR))) (fun s h hR=>e1 hR)))))) (fun s h hR=>e1 hR))))))))))
theorem zco.imp:zco.Imp (AC P) N:=fun a b c d e h Q hR=>eF mixed (fn:=Try.f68) (fun hC=>zco.L hC (dn Q) (zdh [a,b,c,d,e]) h hR)
def zdk.I:Bx:=⟨[],[],6,[]⟩
theorem zdk.L:LkT P zdk.I Try.f69 fun C Q s h=>zdk.cps C N (s 0) h Q:=fun {C} hC Q s h hR=>e1 hR
theorem zdk.imp:zdk.Imp (AC P) N:=fun a h Q hR=>eF mixed (fn:=Try.f69) (fun hC=>zdk.L hC (dn Q) (zdh [a]) h hR)
def zdp.I:Bx:=⟨[],[],26,[(6,pz [] 9)]⟩
theorem zdp.L:LkT P zdp.I Try.f72 fun C Q s h=>zdp.cps C N (s 0) (s 1) h Q:=fun {C} hC Q s h hR=>eT hC (fun s h=>zdp.k3 C N Q (s 0) (s 1) h) hR (fun s h hR=>eT hC (fun s h=>zx (zkz.l4 2 [.s,.i .i64] Q (s 0) (s 1)) [(.int .i64 0)] h) hR (fun s h hR=>eS hC (fun s h=>Q (.bool true) h) (eT hC (fun s h=>zx (zkz.l4 2 [.s,.i .i64] Q (s 0) (s 1)) [(s 5)] h) hR (fun s h hR=>eK (eL hC [0,1] [5] (on2 (zkz.l4 2 [.s,.i .i64] Q)) hR (fun Y1 s h hR=>e1 hR)))) (fun s h hR=>e1 hR)))
theorem zdp.imp:zdp.Imp (AC P) N:=fun a b h Q hR=>eF mixed (fn:=Try.f72) (fun hC=>zdp.L hC (dn Q) (zdh [a,b]) h hR)
def zbw.I:Bx:=⟨[],[],27,[]⟩
theorem zbw.L:LkT P zbw.I Try.f73 fun C Q s h=>zbw.cps C N (s 0) (s 1) h Q:=fun {C} hC Q s h hR=>eT hC (fun s h=>B.pv (V.bin .lss (s 1) (.int .i64 0)) fun a=>B.cond a (False) (zgh.k1 C (opsS 16 (.str []) 0) Q (s 0) (s 1) h)) hR (fun s h hR=>eT hC (fun s h=>zgh.k1 C (opsS 16 (.str []) 0) Q (s 0) (s 1) h) hR (fun s h hR=>e1 hR))
theorem zbw.imp:zbw.Imp (AC P) N:=fun a b h Q hR=>eF mixed (fn:=Try.f73) (fun hC=>zbw.L hC (dn Q) (zdh [a,b]) h hR)
def zcr.I:Bx:=⟨[],[],76,[(3,pz [] 20),(5,pz [] 14),(6,pz [] 24)]⟩
theorem zcr.L:LkT P zcr.I Try.f74 fun C Q s h=>zcr.cps C N (s 0) (s 1) (s 2) (s 3) h Q:=fun {C} hC Q s h hR=>eT hC (fun s h=>zx (zca.l4 C (opsS 16 (.str []) 0) (N 377) Q (s 0) (s 2) (s 3)) [(s 8)] h) hR (fun s h hR=>eK (eL hC [0,2,3] [8] (on3 (zca.l4 C (opsS 16 (.str []) 0) (N 377) Q)) hR (fun Y1 s h hR=>eK (eT hC (fun s h=>B.pv (V.bin .geq (s 9) (s 2)) fun a=>B.cond a (Q (.tup []) h) (zca.k2 C (opsS 16 (.str []) 0) (N 377) Q Y1 (s 0) (s 2) (s 3) (s 8) (s 9) h)) hR (fun s h hR=>eT hC (fun s h=>zca.k2 C (opsS 16 (.str []) 0) (N 377) Q Y1 (s 0) (s 2) (s 3) (s 8) (s 9) h) hR (fun s h hR=>eT hC (fun s h=>zca.k1 C (opsS 16 (.str []) 0) (N 377) Q Y1 (s 0) (s 2) (s 3) (s 8) (s 9) h) hR (fun s h hR=>e1 hR)))))))
theorem zcr.imp:zcr.Imp (AC P) N:=fun a b c d h Q hR=>eF mixed (fn:=Try.f74) (fun hC=>zcr.L hC (dn Q) (zdh [a,b,c,d]) h hR)
def zda.I:Bx:=⟨[],[],7,[]⟩
theorem zda.L:LkT P zda.I Try.f75 fun C Q s h=>zda.cps C N (s 0) h Q:=fun {C} hC Q s h hR=>e1 hR
theorem zda.imp:zda.Imp (AC P) N:=fun a h Q hR=>eF mixed (fn:=Try.f75) (fun hC=>zda.L hC (dn Q) (zdh [a]) h hR)
def zcw.I:Bx:=⟨[],[],33,[(1,pz [] 10),(2,pz [] 10),(3,pz [] 10)]⟩
theorem zcw.L:LkT P zcw.I Try.f76 fun C Q s h=>zcw.cps C N (s 0) h Q:=fun {C} hC Q s h hR=>e1 hR
theorem zcw.imp:zcw.Imp (AC P) N:=fun a h Q hR=>eF mixed (fn:=Try.f76) (fun hC=>zcw.L hC (dn Q) (zdh [a]) h hR)
def zb0.I:Bx:=⟨[],[],15,[]⟩
theorem zb0.L:LkT P zb0.I Try.f77 fun C Q s h=>zb0.cps C N (s 0) (s 1) (s 2) h Q:=fun {C} hC Q s h hR=>e1 hR
theorem zb0.imp:zb0.Imp (AC P) N:=fun a b c h Q hR=>eF mixed (fn:=Try.f77) (fun hC=>zb0.L hC (dn Q) (zdh [a,b,c]) h hR)
def zc4.I:Bx:=⟨[],[],36,[]⟩
theorem zc4.L:LkT P zc4.I Try.f78 fun C Q s h=>zc4.cps C N (s 0) (s 1) (s 2) (s 3) (s 4) h Q:=fun {C} hC Q s h hR=>e1 hR
theorem zc4.imp:zc4.Imp (AC P) N:=fun a b c d e h Q hR=>eF mixed (fn:=Try.f78) (fun hC=>zc4.L hC (dn Q) (zdh [a,b,c,d,e]) h hR)
def zcs.I:Bx:=⟨[],[],82,[(3,pz [] 22),(5,pz [] 16),(6,pz [] 24)]⟩
theorem zcs.L:LkT P zcs.I Try.f79 fun C Q s h=>zcs.cps C N (s 0) (s 1) (s 2) (s 3) (s 4) h Q:=fun {C} hC Q s h hR=>eT hC (fun s h=>zx (zbg.l4 C (opsS 24 (.nils) 0) Q (s 0) (s 2) (s 3) (s 4)) [(s 10)] h) hR (fun s h hR=>eK (eL hC [0,2,3,4] [10] (on4 (zbg.l4 C (opsS 24 (.nils) 0) Q)) hR (fun Y1 s h hR=>eK (eT hC (fun s h=>B.pv (V.bin .geq (s 11) (s 2)) fun a=>B.cond a (Q (.tup []) h) (zbg.k2 C (opsS 24 (.nils) 0) Q Y1 (s 0) (s 2) (s 3) (s 4) (s 10) (s 11) h)) hR (fun s h hR=>eT hC (fun s h=>zbg.k2 C (opsS 24 (.nils) 0) Q Y1 (s 0) (s 2) (s 3) (s 4) (s 10) (s 11) h) hR (fun s h hR=>eT hC (fun s h=>zbg.k1 C (opsS 24 (.nils) 0) Q Y1 (s 0) (s 2) (s 3) (s 4) (s 10) (s 11) h) hR (fun s h hR=>e1 hR)))))))
theorem zcs.imp:zcs.Imp (AC P) N:=fun a b c d e h Q hR=>eF mixed (fn:=Try.f79) (fun hC=>zcs.L hC (dn Q) (zdh [a,b,c,d,e]) h hR)
def zb1.I:Bx:=⟨[],[],18,[]⟩
theorem zb1.L:LkT P zb1.I Try.f80 fun C Q s h=>zb1.cps C N (s 0) (s 1) (s 2) (s 3) h Q:=fun {C} hC Q s h hR=>e1 hR
theorem zb1.imp:zb1.Imp (AC P) N:=fun a b c d h Q hR=>eF mixed (fn:=Try.f80) (fun hC=>zb1.L hC (dn Q) (zdh [a,b,c,d]) h hR)
def zc5.I:Bx:=⟨[],[],41,[]⟩
theorem zc5.L:LkT P zc5.I Try.f81 fun C Q s h=>zc5.cps C N (s 0) (s 1) (s 2) (s 3) (s 4) (s 5) h Q:=fun {C} hC Q s h hR=>e1 hR
theorem zc5.imp:zc5.Imp (AC P) N:=fun a b c d e f h Q hR=>eF mixed (fn:=Try.f81) (fun hC=>zc5.L hC (dn Q) (zdh [a,b,c,d,e,f]) h hR)
def zc2.I:Bx:=⟨[],[],28,[(1,pz [] 9)]⟩
theorem zc2.L:LkT P zc2.I Try.f82 fun C Q s h=>zc2.cps C N (s 0) (s 1) (s 2) (s 3) h Q:=fun {C} hC Q s h hR=>e1 hR
theorem zc2.imp:zc2.Imp (AC P) N:=fun a b c d h Q hR=>eF mixed (fn:=Try.f82) (fun hC=>zc2.L hC (dn Q) (zdh [a,b,c,d]) h hR)
def zc3.I:Bx:=⟨[],[],32,[(1,pz [] 11)]⟩
theorem zc3.L:LkT P zc3.I Try.f83 fun C Q s h=>zc3.cps C N (s 0) (s 1) (s 2) (s 3) (s 4) h Q:=fun {C} hC Q s h hR=>e1 hR
theorem zc3.imp:zc3.Imp (AC P) N:=fun a b c d e h Q hR=>eF mixed (fn:=Try.f83) (fun hC=>zc3.L hC (dn Q) (zdh [a,b,c,d,e]) h hR)
end Go.Ab.S12
namespace Go.Ab
variable {C:CSem} {N:zN}
section
variable {h h':za} {x:AVal} {b:List UInt8}
end
abbrev AllAt (h:za) (l:List Ob):Prop:= ∀ o∈l,o.at h
structure DK (T Ad:Type) where
 n:Nat
 bytes:Nat
 z:List AVal
 pos:0<n
 small:bytes <= 1000
 zlen:z.length=n
 cells:T->Ad->List AVal
 len: ∀ t a,(cells t a).length=n
 at_:za->T->Ad->Prop
 mono: ∀ {h h':za} {t:T} {a:Ad},h.le h'->at_ h t a->at_ h' t a
 ok:T->Prop
 at_ok: ∀ {h:za} {t:T} {a:Ad},at_ h t a->ok t
 obs:Bool->T->Ad->List Ob
 ofObs: ∀ {b:Bool} {h:za} {t:T} {a:Ad},ok t->AllAt h (obs b t a)->at_ h t a
section
variable {T Ad:Type} (K:DK T Ad)
abbrev DK.cs (p:T×Ad):List AVal:=K.cells p.1 p.2
def DK.os (b:Bool) (P:List (T×Ad)):List Ob:=P.flatMap fun p=>K.obs b p.1 p.2
def Dl (h:za) (x:AVal) (L:List T):Prop:= ∃ (P:List (T×Ad)) (R:List (List AVal)),P.map (·.1)=L /\ SlX h K.n x (P.map K.cs) R /\ ∀ p∈P,K.at_ h p.1 p.2
structure DEl (h:za) (x:AVal) (i:Nat) (t:T) (a:Ad):Prop where
 idx:V.idxS K.n x (.int .i64 (i:Int))=some (elp K.n x i 0)
 ldn:A.ldnv h (elp K.n x i 0) K.n=some (.agg (K.cells t a))
 fld: ∀ f o,V.fieldAddr o (elp K.n x i f)=some (elp K.n x i (f+o))
 ld: ∀ f,f<K.n->A.ldv h (elp K.n x i f)=(K.cells t a)[f]?
 at_:K.at_ h t a
variable {K} {h h' h0:za} {x:AVal} {L M:List T}
theorem slX_el {h:za} {x:AVal} {P:List (T×Ad)} {R:List (List AVal)} (s:SlX h K.n x (P.map K.cs) R) (ha: ∀ p∈P,K.at_ h p.1 p.2) {i:Nat} {p:T×Ad} (hi:P[i]? =some p):DEl K h x i p.1 p.2:=by
 have hc:(P.map K.cs)[i]? =some (K.cells p.1 p.2):=by rw [List.getElem?_map,hi];rfl
 have hl:i<(P.map K.cs).length:=(List.getElem?_eq_some_iff.1 hc).1
 exact ⟨s.idxN hl,s.elem hc,fun f o=>s.zne hl f o,fun f hf=>s.ldv hc hf,ha p (List.mem_of_getElem? hi)⟩
theorem Dl.get (hd:Dl K h x L) {i:Nat} {t:T} (hi:L[i]? =some t): ∃ a,DEl K h x i t a:=by
 obtain ⟨P,R,rfl,s,ha⟩:=hd
 rw [List.getElem?_map] at hi
 obtain ⟨p,hp,rfl⟩:=Option.map_eq_some_iff.1 hi
 exact ⟨p.2,slX_el s ha hp⟩
theorem Dl.mono (hd:Dl K h x L) (hle:h.le h'):Dl K h' x L:=by
 obtain ⟨P,R,e,s,ha⟩:=hd
 exact ⟨P,R,e,s.mono hle,fun p hp=>K.mono hle (ha p hp)⟩
theorem Dl.zcv (hd:Dl K h x L):V.zcv x=some (.int .i64 L.length):=by
 obtain ⟨P,R,rfl,s,ha⟩:=hd
 simpa using s.zcv
theorem Dl.zcq (hd:Dl K h x L):x.zcq=true:=by
 obtain ⟨P,R,rfl,s,ha⟩:=hd
 exact s.zcq
theorem dl_of {P:List (T×Ad)} {R:List (List AVal)} {b:Bool} {l:List Ob} (hok: ∀ p∈P,K.ok p.1) (hl:AllAt h l) (h1: .sl K.n x (P.map K.cs) R∈l) (h2: ∀ o∈K.os b P,o∈l):Dl K h x (P.map (·.1)):=
 ⟨P,R,rfl,hl _ h1,fun p hp=>K.ofObs (hok p hp) fun o ho=>hl o (h2 o (List.mem_flatMap.2 ⟨p,hp,ho⟩))⟩
theorem DK.os_append (b:Bool) (P P':List (T×Ad)):K.os b (P++P')=K.os b P++K.os b P':=List.flatMap_append
theorem DK.os_one (b:Bool) (p:T×Ad):K.os b [p]=K.obs b p.1 p.2:=by simp [DK.os]
abbrev Df (K:DK T Ad) (h0 h:za) (x:AVal) (P:List (T×Ad)):Prop:=Owns h0 h (.sl K.n x (P.map K.cs) []::K.os false P)
def SameE (K:DK T Ad) [DecidableEq T] (C:CSem) (f:Nat):Prop:= ∀ (t u:T) (a b:Ad) (h:za) (Q:zQ),K.at_ h t a->K.at_ h u b->Q (.bool (decide (t=u))) h->C f [.agg (K.cells t a),.agg (K.cells u b)] h Q
theorem fill_agg (K:DK T Ad) (t:T) (a:Ad):ze2 [(0,some K.n,.agg (K.cells t a))] (repL 1 K.z)=some (K.cells t a):=by
 have hrep:repL 1 K.z=K.z:=by unfold repL;split<;>simp_all
 have h1:=K.len t a
 rw [hrep]
 simp [h1,K.zlen]
@[simp] def sameD.k1 (C:CSem) (n f:Nat) (Q:zQ) (Y1:zL) (v0 v1 v5:AVal) (h:za):Prop:=
 B.pv (V.zcv v0) fun v13=>
  B.pv (V.bin .lss v5 v13) fun v14=>
  B.cond v14
  (B.pv (V.idxS n v0 v5) fun v19=>
  B.ldn h v19 n fun v20=>
  B.pv (V.idxS n v1 v5) fun v23=>
  B.ldn h v23 n fun v24=>
  B.call C f [v20,v24] h fun v25 h=>
  B.pv (V.un .not v25) fun v26=>
  B.cond v26
  (Q (.bool false) h)
  (B.pv (V.bin .add v5 (.int .i64 1)) fun v16=>
  Y1 [v16] h))
  (Q (.bool true) h)
@[simp] def sameD.l2 (C:CSem) (n f:Nat) (Q:zQ) (v0 v1:AVal):zG
 | [v5],h,Y1=>sameD.k1 C n f Q Y1 v0 v1 v5 h
 | _,_,_=>False
def sameD (C:CSem) (n f:Nat) (v0 v1:AVal) (h:za) (Q:zQ):Prop:=
 B.pv (V.zcv v0) fun v7=>
  B.pv (V.zcv v1) fun v9=>
  B.pv (V.bin .neq v7 v9) fun v10=>
  B.cond v10
  (Q (.bool false) h)
  (zx (sameD.l2 C n f Q v0 v1) [(.int .i64 0)] h)
theorem sameD_spec [DecidableEq T] {f:Nat} (sf:SameE K C f) {y:AVal} {Q:zQ} (hx:Dl K h x L) (hy:Dl K h y M) (hlen:L.length<4611686018427387904) (hq:Q (.bool (decide (L=M))) h):sameD C K.n f x y h Q:=by
 have hlx:=hx.zcv
 have hly:=hy.zcv
 simp -dsimp [sameD,hlx,hly]
 refine B.zt (fun hb=> ?_) (fun hb=> ?_)<;>simp -dsimp at hb ⊢
 ·rw [decide_eq_false fun e=>hb (by rw [e])] at hq
  exact hq
 ·refine zx.intro (fun n vs hh=> ∃ k,k+n=L.length /\ vs=[.int .i64 k] /\ hh=h /\ L.take k=M.take k) L.length ?_ ⟨0,by simp,by simp,rfl,by simp⟩
  rintro Y n vs _ ⟨k,hn,rfl,rfl,he⟩ hY
  simp -dsimp [hlx]
  refine B.zt (fun hc=> ?_) (fun hc=> ?_)<;>simp -dsimp at hc ⊢
  ·obtain ⟨w,hw⟩:=zfb hc
   obtain ⟨u,hu⟩:=zfb (L:=M) (k:=k) (by omega)
   obtain ⟨a,ea⟩:=hx.get hw
   obtain ⟨b,eb⟩:=hy.get hu
   simp -dsimp only [ea.idx,ea.ldn,eb.idx,eb.ldn,B.zd,B.zq7]
   refine sf _ _ _ _ _ _ ea.at_ eb.at_ ?_
   simp -dsimp only [V.zgf,B.zd]
   refine B.zt (fun hd=> ?_) (fun hd=> ?_)<;>simp -dsimp at hd ⊢
   ·rw [decide_eq_false fun e=>by subst e;rw [hw] at hu;cases hu;exact hd rfl] at hq
    exact hq
   ·simp [inc64 (n:=k) (by omega)]
    refine hY (L.length-(k+1)) _ _ (by omega) ⟨k+1,by omega,by simp,rfl,?_⟩
    rw [take_succ hw,take_succ hu,he,hd]
  ·rw [List.take_of_length_le (by omega),List.take_of_length_le (by omega)] at he
   rw [decide_eq_true he] at hq
   exact hq
end
end Go.Ab
set_option maxRecDepth 100000
namespace Go.Ab
variable {C:CSem} {N:zN}
@[irreducible] def mark (k i:Int):Int:=IntKind.i64.wrap (IntKind.i64.wrap (1000003*IntKind.i64.wrap (k+7))+i)
def zd3.Spec (C:CSem) (N:zN):Prop:= ∀ (x y:AVal) (L M:List Lot) (R S:List (List AVal)) (h:za) (Q:zQ),SlX h 6 x (L.map Lot.cs) R->SlX h 6 y (M.map Lot.cs) S->L.length<4611686018427387904 ->
 Q (.bool (decide (L=M))) h->C (N 74) [x,y] h Q
theorem zd3.spec (i:zd3.Imp C N):zd3.Spec C N:=fun x y L M R S h Q hx hy hlen hq=>
 i x y h Q (znt lotF hx hy hlen (zbr hq))
def markPart (k i:Int):Part:=⟨[],mark k i⟩
abbrev zp2:List (List AVal):=marks partF (markPart 1) 12
def zdp.Spec (C:CSem) (N:zN):Prop:= ∀ (x y:AVal) (L M:List Part) (R S:List (List AVal)) (h:za) (Q:zQ),SlX h 2 x (L.map Part.cs) R->SlX h 2 y (M.map Part.cs) S->L.length<4611686018427387904 ->
 Q (.bool (decide (L=M))) h->C (N 132) [x,y] h Q
theorem zdp.spec (i:zdp.Imp C N):zdp.Spec C N:=fun x y L M R S h Q hx hy hlen hq=>
 i x y h Q (znt partF hx hy hlen (zbr hq))
def zdq.Spec (C:CSem) (N:zN):Prop:= ∀ (x y:AVal) (L M:List Line) (R S:List (List AVal)) (h:za) (Q:zQ),SlX h 8 x (L.map Line.cs) R->SlX h 8 y (M.map Line.cs) S->L.length<4611686018427387904 ->
 Q (.bool (decide (L=M))) h->C (N 135) [x,y] h Q
theorem zdq.spec (i:zdq.Imp C N):zdq.Spec C N:=fun x y L M R S h Q hx hy hlen hq=>
 i x y h Q (znt lineF hx hy hlen (zbr hq))
@[irreducible] def markText (k i:Int):List UInt8:=[35,byt k,byt (k.fdiv 256),byt (k.fdiv 65536),47,byt i,byt (i.fdiv 256),byt (i.fdiv 65536)]
abbrev zp1:List (List AVal):=cmarks tS (markText 1) 12
def zdi.Spec (C:CSem) (N:zN):Prop:= ∀ (x y:AVal) (L M:List (List UInt8)) (R S:List (List AVal)) (h:za) (Q:zQ),SlX h 1 x (L.map tc) R->SlX h 1 y (M.map tc) S->L.length<4611686018427387904 ->
 Q (.bool (decide (L=M))) h->C (N 133) [x,y] h Q
theorem zdi.spec (i:zdi.Imp C N):zdi.Spec C N:=fun x y L M R S h Q hx hy hlen hq=>
 i x y h Q (sameS_spec tS hx hy hlen (zbr hq))
end Go.Ab
namespace Go.Ab
variable {C:CSem} {N:zN}
structure Itm where
 Code:List UInt8
 Life:Int
 ze0:List Part
 zed:List (List UInt8)
 deriving DecidableEq
def few:Nat:=100000000
abbrev Itm.ok (t:Itm):Prop:=t.ze0.length <= few /\ t.zed.length <= few
def partsOb (b:Bool) (x:AVal) (l:List Part):Ob:= .sl 2 x (l.map Part.cs) (bif b then zp2 else [])
def textsOb (b:Bool) (x:AVal) (l:List (List UInt8)):Ob:= .sl 1 x (l.map tc) (bif b then zp1 else [])
def zfn:DK Itm (AVal×AVal) where
 n:=4
 bytes:=72
 z:=[.str [],.int .i64 0,.nils,.nils]
 pos:=by omega
 small:=by omega
 zlen:=rfl
 cells t a:=[.str t.Code,.int .i64 t.Life,a.1,a.2]
 len _ _:=rfl
 at_ h t a:=(∃ R,SlX h 2 a.1 (t.ze0.map Part.cs) R) /\ (∃ R,SlX h 1 a.2 (t.zed.map tc) R) /\ t.ok
 mono hle ha:=⟨ha.1.imp fun _ r=>r.mono hle,ha.2.1.imp fun _ r=>r.mono hle,ha.2.2⟩
 ok:=Itm.ok
 at_ok ha:=ha.2.2
 obs b t a:=[partsOb b a.1 t.ze0,textsOb b a.2 t.zed]
 ofObs {b h t a} hk ha:=⟨⟨_,show SlX h 2 a.1 (t.ze0.map Part.cs) (bif b then zp2 else []) from ha (partsOb b a.1 t.ze0) (by simp)⟩,⟨_,show SlX h 1 a.2 (t.zed.map tc) (bif b then zp1 else []) from ha (textsOb b a.2 t.zed) (by simp)⟩,hk⟩
abbrev iCells (t:Itm) (a:AVal×AVal):List AVal:=[.str t.Code,.int .i64 t.Life,a.1,a.2]
theorem Itm.eq_iff (t u:Itm):t=u↔((t.Code=u.Code /\ t.Life=u.Life) /\ t.ze0=u.ze0) /\ t.zed=u.zed:=by
 cases t;cases u;simp [Itm.mk.injEq,and_assoc]
def zd6.Spec (C:CSem) (N:zN):Prop:=SameE zfn C (N 110)
theorem zd6.spec (i:zd6.Imp C N) (s1:zdp.Spec C N) (s2:zdi.Spec C N):zd6.Spec C N:=by
 intro t u a b h Q ha hb hq
 obtain ⟨⟨R1,a1⟩,⟨R2,a2⟩,a3,a4⟩:(∃ R,SlX h 2 a.1 (t.ze0.map Part.cs) R) /\ (∃ R,SlX h 1 a.2 (t.zed.map tc) R) /\ t.ok:=ha
 obtain ⟨⟨S1,b1⟩,⟨S2,b2⟩,b3,b4⟩:(∃ R,SlX h 2 b.1 (u.ze0.map Part.cs) R) /\ (∃ R,SlX h 1 b.2 (u.zed.map tc) R) /\ u.ok:=hb
 unfold few at a3 a4
 apply i
 simp +contextual -dsimp [zfn]
 refine B.znc (v:= .bool (decide (t.ze0=u.ze0))) (fun _ Q hq=>s1 _ _ _ _ _ _ _ _ a1 b1 (by omega) hq) ?_
 simp +contextual -dsimp
 refine B.znc (v:= .bool (decide (t.zed=u.zed))) (fun _ Q hq=>s2 _ _ _ _ _ _ _ _ a2 b2 (by omega) hq) ?_
 simp -dsimp
 refine zbr ?_
 have:decide (t=u)=(((decide (t.Code=u.Code)&&decide (t.Life=u.Life))&&decide (t.ze0=u.ze0))&&decide (t.zed=u.zed)):=by
  rw [Bool.eq_iff_iff]
  simp only [decide_eq_true_eq,Bool.and_eq_true]
  exact Itm.eq_iff t u
 rw [this] at hq
 exact hq
def zc9.Spec (C:CSem) (N:zN):Prop:= ∀ (x y:AVal) (L M:List Itm) (h:za) (Q:zQ),Dl zfn h x L->Dl zfn h y M->L.length<4611686018427387904->Q (.bool (decide (L=M))) h->C (N 134) [x,y] h Q
theorem zc9.spec (i:zc9.Imp C N) (s1:zd6.Spec C N):zc9.Spec C N:=fun x y L M h Q hx hy hl hq=>
 i x y h Q (sameD_spec (K:=zfn) s1 hx hy hl (zbr hq))
end Go.Ab
namespace Go.Ab
abbrev zft:List UInt8->List UInt8->Bool:=Op.bytesLess
theorem lessB_nil (a:List UInt8):zft a []=false:=by cases a<;>rfl
theorem zm4 (a b:UInt8) (as1 bs:List UInt8):zft (a::as1) (b::bs)=(decide (a<b)||(a==b&&zft as1 bs)):=rfl
theorem u8_tri (a b:UInt8):a<b \/ a=b \/ b<a:=by
 simp only [UInt8.lt_iff_toNat_lt, <- UInt8.toNat_inj];omega
theorem zhw: ∀ a:List UInt8,zft a a=false
 | []=>rfl
 | a::as1=>by rw [zm4,zhw as1];simp
theorem zif: ∀ {a b c:List UInt8},zft a b=true->zft b c=true->zft a c=true
 | _,[],_,h,_=>by rw [lessB_nil] at h;cases h
 | _,_::_,[],_,h=>by rw [lessB_nil] at h;cases h
 | [],_::_,_::_,_,_=>rfl
 | a::as1,b::bs,c::cs,h1,h2=>by
  rw [zm4] at h1 h2 ⊢
  simp only [Bool.or_eq_true,decide_eq_true_eq,Bool.and_eq_true,beq_iff_eq] at h1 h2 ⊢
  rcases h1 with h1|⟨rfl,h1⟩
  ·rcases h2 with h2|⟨rfl,h2⟩
   ·left;simp only [UInt8.lt_iff_toNat_lt] at *;omega
   ·exact .inl h1
  ·rcases h2 with h2|⟨rfl,h2⟩
   ·exact .inl h2
   ·exact .inr ⟨rfl,zif h1 h2⟩
theorem zkl: ∀ {a b:List UInt8},zft a b=false->zft b a=false->a=b
 | [],[],_,_=>rfl
 | [],_::_,h,_=>by cases h
 | _::_,[],_,h=>by cases h
 | a::as1,b::bs,h1,h2=>by
  rw [zm4] at h1 h2
  simp only [Bool.or_eq_false_iff,decide_eq_false_iff_not,Bool.and_eq_false_iff,beq_eq_false_iff_ne] at h1 h2
  obtain rfl:a=b:=by rcases u8_tri a b with h|h|h<;>simp_all
  rw [zkl (h1.2.resolve_left fun h=>h rfl) (h2.2.resolve_left fun h=>h rfl)]
theorem zlh {a b:List UInt8} (h:zft a b=true):zft b a=false:=by
 cases e:zft b a with
 | false=>rfl
 | true=>have:=zif h e;rw [zhw] at this;cases this
theorem zo2 {a b:List UInt8} (h:zft a b=true):a≠b:=fun e=>by subst e;rw [zhw] at h;cases h
theorem zjq {a b:List UInt8} (h:zft a b=false) (hne:a≠b):zft b a=true:=by
 cases e:zft b a with
 | true=>rfl
 | false=>exact absurd (zkl h e) hne
abbrev cmpB:=Lib.compareBytes
theorem znj: ∀ a b:List UInt8,cmpB a b=if zft a b then -1 else if zft b a then 1 else 0
 | [],[]=>rfl
 | [],_::_=>rfl
 | _::_,[]=>rfl
 | a::as1,b::bs=>by
  have ih:=znj as1 bs
  show (if a<b then -1 else if b<a then 1 else cmpB as1 bs)=_
  rw [ih,zm4,zm4]
  rcases u8_tri a b with h|rfl|h
  ·simp [h]
  ·have hi: ¬ a<a:=by simp only [UInt8.lt_iff_toNat_lt];omega
   simp
  ·have h1: ¬ a<b:=by simp only [UInt8.lt_iff_toNat_lt] at *;omega
   have h2:a≠b:=fun e=>by subst e;exact h1 h
   have h3:(a==b)=false:=by simp [h2]
   simp [h,h1,h3]
theorem znk {a b:List UInt8}:cmpB a b<0↔zft a b=true:=by
 rw [znj];split
 ·simp [*]
 ·split<;>simp [*]
theorem cmpB_zero {a b:List UInt8}:cmpB a b=0↔a=b:=by
 rw [znj];split
 ·rename_i h;simp [zo2 h]
 ·split
  ·rename_i h;simp [(zo2 h).symm]
  ·rename_i h1 h2;simp [zkl (by simpa using h1) (by simpa using h2)]
theorem rise_ext {T:Type} {lt:T->T->Prop} (asym: ∀ a b,lt a b->lt b a->False) {l m:List T} (s:l.Pairwise lt) (t:m.Pairwise lt) (e: ∀ x,x∈l↔x∈m):l=m:=by
 have nd: ∀ {l:List T},l.Pairwise lt->l.Nodup:=fun h=>h.imp fun {a b} hab e=>by subst e;exact asym a a hab hab
 exact List.Perm.eq_of_pairwise (le:=lt) (fun a b _ _ h1 h2=>(asym a b h1 h2).elim) s t ((List.perm_ext_iff_of_nodup (nd s) (nd t)).2 e)
end Go.Ab
namespace Go.Ab
variable {C:CSem} {N:zN}
theorem SlX.sliceIn {T:Type} {h:za} {es:Nat} {x:AVal} {f:T->List AVal} {L:List T} {R:List (List AVal)} (hs:SlX h es x (L.map f) R) (hes:0<es) {lo hi:Nat} {a b:Option AVal} (ha:a=none /\ lo=0 \/ ∃ k,a=some (.int k lo)) (hb:b=none /\ hi=L.length \/ ∃ k,b=some (.int k hi)) (h1:lo <= hi) (h2:hi <= L.length):
  ∃ x' R',V.zim es x a b=some x' /\ SlX h es x' (((L.take hi).drop lo).map f) R' /\ foot x'=foot x:=by
 obtain ⟨x',e1,e2,e3⟩:=hs.slice hes ha (by simpa using hb) h1 (by simp;omega)
 refine ⟨x',(L.map f++R).drop hi,e1,?_,e3⟩
 rwa [List.take_append_of_le_length (by simpa using h2), <- List.map_take, <- List.map_drop] at e2
end Go.Ab
namespace Go.Ab
theorem flat_take {α:Type} {n:Nat}: ∀ {css:List (List α)},(∀ cs∈css,cs.length=n)-> ∀ k:Nat,(css.take k).flatten=css.flatten.take (k*n)
 | [],_,k=>by simp
 | c::css,hl,0=>by simp
 | c::css,hl,k+1=>by
  have hc:c.length=n:=hl c (by simp)
  rw [List.take_succ_cons,List.flatten_cons,List.flatten_cons,flat_take (fun p hp=>hl p (by simp [hp])) k,Nat.add_mul,Nat.one_mul,show k*n+n=c.length+k*n by omega,List.take_length_add_append]
theorem flat_drop {α:Type} {n:Nat}: ∀ {css:List (List α)},(∀ cs∈css,cs.length=n)-> ∀ k:Nat,(css.drop k).flatten=css.flatten.drop (k*n)
 | [],_,k=>by simp
 | c::css,hl,0=>by simp
 | c::css,hl,k+1=>by
  have hc:c.length=n:=hl c (by simp)
  rw [List.drop_succ_cons,List.flatten_cons,flat_drop (fun p hp=>hl p (by simp [hp])) k,Nat.add_mul,Nat.one_mul,show k*n+n=c.length+k*n by omega,List.drop_length_add_append]
theorem lay_read {cells Z F:List AVal} {off lo T:Nat} (h5:(cells.drop off).take T=F) (hF:F.length=T) (hh:off+T <= cells.length) (hz:lo+Z.length <= T):
  ((cells.take (off+lo)++Z++cells.drop (off+lo+Z.length)).drop off).take T=F.take lo++Z++F.drop (lo+Z.length):=by
 subst h5
 apply List.ext_getElem?
 intro k
 by_cases hk:k<T
 ·rw [List.getElem?_take_of_lt hk,List.getElem?_drop,List.append_assoc,List.append_assoc]
  have l1:(cells.take (off+lo)).length=off+lo:=by simp;omega
  have l2:(((cells.drop off).take T).take lo).length=lo:=by simp;omega
  rw [zlk _ _ _ l1,zlk _ _ _ l2,show off+k-(off+lo)=k-lo by omega]
  by_cases k1:k<lo
  ·rw [if_pos (by omega),if_pos k1,List.getElem?_take_of_lt (by omega),List.getElem?_take_of_lt (by omega),List.getElem?_take_of_lt (by omega),List.getElem?_drop]
  ·rw [if_neg (by omega),if_neg k1]
   split
   ·rfl
   ·rw [List.getElem?_drop,List.getElem?_drop,List.getElem?_take_of_lt (by omega),List.getElem?_drop]
    congr 1
    omega
 ·rw [List.getElem?_take_eq_none (by omega),List.getElem?_eq_none]
  simp
  omega
section
variable {h h0:za} {es:Nat} {x:AVal} {L R:List (List AVal)} {l:List Ob}
theorem SlX.clrTail {lo:Nat} {z:List AVal} {K:zQ} (ho:SlX h es x L R) (hown: ∀ id b,foot x=some id->h id=some b->b.own=true) (hz:z.length=es) (hlo:lo <= L.length)
  (hk: ∀ h',SlX h' es x (L.take lo++List.replicate (L.length-lo) z) R->(∀ id b,foot x=some id->h' id=some b->b.own=true)->But x h h'->K (.tup []) h'):
  ∃ y,V.zim es x (some (.int .i64 (lo:Int))) none=some y /\ A.clr h (some z) y K:=by
 rcases ho.at_ with ⟨e,e',e''⟩|⟨id,g,off,cp,b,hi,h1,h1',h2,h3,h4,hh,h5⟩
 ·subst e e'
  have:lo=0:=by simpa using hlo
  subst this
  refine ⟨x,?_,?_⟩
  ·rcases e'' with rfl|rfl<;>rfl
  ·have:=hk h (by simpa using ho) hown (fun _ _ h _=>h)
   rcases e'' with rfl|rfl<;>exact this
 ·subst h1
  refine ⟨.sl id g (off+lo*es) (L.length-lo) es (max L.length cp-lo),?_,?_⟩
  ·simp only [V.zim,endsC_eq (.inr ⟨_,rfl⟩) (.inl ⟨rfl,rfl⟩)]
   rw [if_pos ⟨hlo,by omega⟩]
   simp
  ·simp only [A.clr]
   split
   ·rename_i h0
    refine hk h ?_ hown (fun _ _ h _=>h)
    rw [h0,List.take_of_length_le (by omega)]
    simpa using ho
   ·rename_i hne
    have hown':=hown id b rfl h2
    generalize hZ:(List.replicate (L.length-lo) z).flatten=Z
    have hzl:Z.length=(L.length-lo)*es:=by rw [<- hZ];simp [hz]
    have hTl:(L++R).length=L.length+R.length:=by simp
    have hmul:lo*es+(L.length-lo)*es=L.length*es:=by rw [<- Nat.add_mul];congr 1;omega
    have hmul2:L.length*es+R.length*es=(L.length+R.length)*es:=by rw [<- Nat.add_mul]
    have hbl:Nat.ble (0+(off+lo*es)+(L.length-lo)*es) hi=true:=by rw [Nat.ble_eq];omega
    have hput:V.putN (off+lo*es) ((L.length-lo)*es) (.agg Z) b.cells=some (b.cells.take (off+lo*es)++Z++b.cells.drop (off+lo*es+(L.length-lo)*es)):=by
     simp only [V.putN];rw [if_pos ⟨hzl,by omega⟩]
    simp only [A.stv,h2,h3,hown',hbl,Bool.true_and,cond_true,hput,A.ph]
    have rd:=lay_read (cells:=b.cells) (Z:=Z) (off:=off) (lo:=lo*es) h5 (by rw [zlm ho.len,hTl]) (by omega) (by rw [hzl];omega)
    have hnew:(L.take lo++List.replicate (L.length-lo) z++R).flatten=(L++R).flatten.take (lo*es)++Z++(L++R).flatten.drop (lo*es+Z.length):=by
     rw [List.flatten_append,List.flatten_append,hZ,hzl,hmul, <- flat_take ho.len, <- flat_drop ho.len,List.take_append_of_le_length hlo,List.drop_left]
    rw [<- hnew,hzl] at rd
    have hll:(L.take lo++List.replicate (L.length-lo) z).length=L.length:=by simp;omega
    have hlen': ∀ p∈L.take lo++List.replicate (L.length-lo) z++R,p.length=es:=fun p hp=>by
     rcases List.mem_append.1 hp with hp|hp
     ·rcases List.mem_append.1 hp with hp|hp
      ·exact ho.len p (List.mem_append_left _ (List.mem_of_mem_take hp))
      ·rw [(List.mem_replicate.1 hp).2];exact hz
     ·exact ho.len p (List.mem_append_right _ hp)
    refine hk _ ⟨hlen',.inr ⟨id,g,off,cp,_,hi,by rw [hll],by rw [hll];exact h1',zb9 ..,zie ..,by rw [hll];exact h4,?_,by simp only;rw [hll];exact rd⟩⟩ (fun j b1 hj hb1=> ?_) (fun j b1 e1 e2=> ?_)
    ·simp;omega
    ·cases hj
     rw [zb9] at hb1;cases hb1;rfl
    ·rw [zz]
     ·exact e1
     ·intro e;subst e;exact e2 rfl
theorem Owns.clrTail {lo:Nat} {z:List AVal} {K:zQ} (ho:Owns h0 h l) (k:Nat) (hk:l[k]? =some (.sl es x L R)) (hz:z.length=es) (hlo:lo <= L.length)
  (hK: ∀ h',Owns h0 h' (l.set k (.sl es x (L.take lo++List.replicate (L.length-lo) z) R))->But x h h'->K (.tup []) h'):
  ∃ y,V.zim es x (some (.int .i64 (lo:Int))) none=some y /\ A.clr h (some z) y K:=
 (ho.slAt k hk).clrTail (ho.ownAt k hk) hz hlo fun h' h1 h2 h3=>hK h' (ho.turn k hk h1 h2 h3 (.inl rfl)) h3
end
abbrev Ents (K T:Type):=List (K×T×Nat)
def zey {K T:Type} (ps:Ents K T):List K:=ps.map (·.1)
theorem zkb {K T:Type} (p:K×T×Nat) (r:Ents K T):zey (p::r)=p.1::zey r:=rfl
section
variable {K T:Type} [DecidableEq K]
def getP:Ents K T->K->Option T
 | [],_=>none
 | p::r,k=>if p.1=k then some p.2.1 else getP r k
def putP:Ents K T->K->T->Nat->Ents K T
 | [],k,t,c=>[(k,t,c)]
 | p::r,k,t,c=>if p.1=k then (k,t,p.2.2)::r else p::putP r k t c
def clkP (ps:Ents K T) (k:K) (c:Nat):Nat:=if (getP ps k).isSome then c else c+1
def idxP:Ents K T->K->Option (Nat×T×Nat)
 | [],_=>none
 | p::r,k=>if p.1=k then some (0,p.2.1,p.2.2) else (idxP r k).map fun (i,q)=>(i+1,q)
theorem zll (k k':K) (t:T) (c:Nat): ∀ ps:Ents K T,getP (putP ps k t c) k'=if k'=k then some t else getP ps k'
 | []=>by
  simp only [putP,getP]
  by_cases h:k'=k
  ·rw [if_pos h.symm,if_pos h]
  ·rw [if_neg (Ne.symm h),if_neg h]
 | p::r=>by
  have ih:=zll k k' t c r
  simp only [putP]
  by_cases hp:p.1=k
  ·rw [if_pos hp]
   simp only [getP]
   by_cases h:k'=k
   ·rw [if_pos h.symm,if_pos h]
   ·rw [if_neg (Ne.symm h),if_neg h,if_neg (by rw [hp];exact Ne.symm h)]
  ·rw [if_neg hp]
   simp only [getP,ih]
   by_cases h:k'=k
   ·subst h;rw [if_neg hp,if_pos rfl,if_pos rfl]
   ·rw [if_neg h,if_neg h]
theorem znb {k:K}: ∀ {ps:Ents K T},getP ps k=none↔k∉zey ps
 | []=>by simp [getP,zey]
 | p::r=>by
  have ih:=znb (k:=k) (ps:=r)
  simp only [getP,zey,List.map_cons,List.mem_cons,not_or] at ih ⊢
  by_cases hp:p.1=k
  ·simp [hp]
  ·simp [hp,ih,Ne.symm hp]
theorem zlj (k:K): ∀ ps:Ents K T,getP ps k=(idxP ps k).map (·.2.1)
 | []=>rfl
 | p::r=>by
  simp only [getP,idxP]
  split
  ·rfl
  ·rw [zlj k r];cases idxP r k<;>rfl
theorem zo3 {k:K} {t:T} {c i:Nat} {q:T×Nat}: ∀ {ps:Ents K T},idxP ps k=some (i,q)->putP ps k t c=ps.set i (k,t,q.2) /\ i<ps.length
 | [],h=>by simp [idxP] at h
 | p::r,h=>by
  simp only [idxP] at h
  by_cases hp:p.1=k
  ·rw [if_pos hp] at h
   simp only [Option.some.injEq,Prod.mk.injEq] at h
   obtain ⟨rfl,rfl⟩:=h
   simp [putP,hp]
  ·rw [if_neg hp] at h
   cases hr:idxP r k with
   | none=>simp [hr] at h
   | some x=>
    obtain ⟨j,q'⟩:=x
    simp [hr] at h
    obtain ⟨rfl,rfl⟩:=h
    have:=zo3 (t:=t) (c:=c) hr
    simp [putP,hp,this.1,this.2]
theorem zh1 {k:K} {t:T} {c:Nat}: ∀ {ps:Ents K T},idxP ps k=none->putP ps k t c=ps++[(k,t,c)]
 | [],_=>rfl
 | p::r,h=>by
  simp only [idxP] at h
  by_cases hp:p.1=k
  ·rw [if_pos hp] at h;cases h
  ·rw [if_neg hp] at h
   cases hr:idxP r k with
   | none=>simp [putP,hp,zh1 hr]
   | some x=>simp [hr] at h
theorem keysP_put (k:K) (t:T) (c:Nat): ∀ ps:Ents K T,zey (putP ps k t c)=if k∈zey ps then zey ps else zey ps++[k]
 | []=>by simp [putP,zey]
 | p::r=>by
  have ih:=keysP_put k t c r
  by_cases hp:p.1=k
  ·rw [putP,if_pos hp,zkb,zkb,if_pos (by simp [hp]),hp]
  ·rw [putP,if_neg hp,zkb,ih,zkb]
   by_cases hm:k∈zey r
   ·rw [if_pos hm,if_pos (by simp [hm])]
   ·rw [if_neg hm,if_neg (by simp [hm,Ne.symm hp])];rfl
theorem zpw {ps:Ents K T} (h:(zey ps).Nodup) (k:K) (t:T) (c:Nat):(zey (putP ps k t c)).Nodup:=by
 rw [keysP_put]
 split
 ·exact h
 ·rename_i hk
  rw [List.nodup_append]
  exact ⟨h,List.pairwise_singleton _ _,fun a ha b hb e=>hk (by rw [List.mem_singleton.1 hb] at e;rw [<- e];exact ha)⟩
theorem getP_mem {k:K} {t:T}: ∀ {ps:Ents K T},getP ps k=some t-> ∃ n,(k,t,n)∈ps
 | [],h=>by simp [getP] at h
 | p::r,h=>by
  simp only [getP] at h
  by_cases hp:p.1=k
  ·rw [if_pos hp] at h
   cases h
   exact ⟨p.2.2,by rw [<- hp];simp⟩
  ·rw [if_neg hp] at h
   obtain ⟨n,hn⟩:=getP_mem h
   exact ⟨n,by simp [hn]⟩
theorem mem_getP {ps:Ents K T} (hn:(zey ps).Nodup) {p:K×T×Nat} (hp:p∈ps):getP ps p.1=some p.2.1:=by
 induction ps with
 | nil=>cases hp
 | cons q r ih=>
  simp only [zey,List.map_cons,List.nodup_cons] at hn
  simp only [getP]
  rcases List.mem_cons.1 hp with rfl|hp
  ·rw [if_pos rfl]
  ·rw [if_neg,ih hn.2 hp]
   intro e
   exact hn.1 (by rw [e];exact List.mem_map_of_mem hp)
end
structure KeyE (kd:KD) {K:Type} [DecidableEq K] (κ:K->AVal):Prop where
 same: ∀ a b,V.sameK kd (κ a) (κ b)=some (decide (a=b))
theorem keyS:KeyE .s (fun s:List UInt8=> .str s):=⟨fun a b=>by
 simp only [V.sameK];congr 1;rw [Bool.eq_iff_iff,beq_iff_eq,decide_eq_true_eq]⟩
def encM {K T:Type} (κ:K->AVal) (v:T->AVal) (ps:Ents K T):List (AVal×AVal×Nat):=ps.map fun p=>(κ p.1,v p.2.1,p.2.2)
section
variable {kd:KD} {K T:Type} [DecidableEq K] {κ:K->AVal} {v:T->AVal}
theorem zqa (hκ:KeyE kd κ) (k:K): ∀ (ps:Ents K T) (i:Nat),V.findK kd (κ k) (encM κ v ps) i=some ((idxP ps k).map fun (j,q)=>(i+j,v q.1,q.2))
 | [],i=>rfl
 | p::r,i=>by
  simp only [encM,List.map_cons,V.findK,hκ.same,idxP]
  by_cases hp:k=p.1
  ·rw [if_pos hp.symm];simp [hp]
  ·rw [if_neg (Ne.symm hp)]
   have ih:=zqa hκ k r (i+1)
   simp only [encM] at ih
   simp only [hp,decide_false,ih]
   cases idxP r k with
   | none=>rfl
   | some x=>obtain ⟨j,q⟩:=x;simp only [Option.map_some];congr 3;omega
theorem fset_enc (hκ:KeyE kd κ) (k:K) (t:T) (ps:Ents K T) (c:Nat):A.fset (some kd) (κ k) (v t) (encM κ v ps) c=some (encM κ v (putP ps k t c),clkP ps k c,.undef):=by
 simp only [A.fset,zqa hκ,clkP,zlj]
 cases h:idxP ps k with
 | none=>simp [zh1 h,encM]
 | some x=>
  obtain ⟨j,q⟩:=x
  have:=zo3 (t:=t) (c:=c) h
  simp only [Option.map_some,Option.isSome_some,if_true,Nat.zero_add,this.1,encM,List.map_set]
end
def zfi (es:List (AVal×AVal×Nat)) (c:Nat):Blk:=zgu (.map es c)
theorem Owns.newBlk {h0 h:za} {l:List Ob} (ho:Owns h0 h l) {id:Nat} (hid:h id=none) {b:Blk} (hb:b.own=true):Owns h0 (upd h id b) (l++[.blk id b]):=
 ho.join ⟨zjr _ hid,fun o hm=>by rw [List.mem_singleton.1 hm];exact zb9 ..,fun o hm j hj=>by rw [List.mem_singleton.1 hm] at hj;cases hj;exact ⟨hid,fun b hb'=>by rw [zb9] at hb';cases hb';exact hb⟩,List.pairwise_singleton _ _⟩
theorem Owns.zl6 {h0 h:za} {l:List Ob} {K T:Type} (ho:Owns h0 h l) (κ:K->AVal) (v:T->AVal) {Q:zQ} (hq: ∀ id h',h id=none->Owns h0 h' (l++[.blk id (zfi (encM κ v []) 0)])->h.le h'->Q (.mp id) h'):B.zl6 h Q:=
 fun id hid=>hq id _ hid (ho.newBlk hid rfl) (zjr _ hid)
section
variable {h0 h:za} {l:List Ob} {kd:KD} {K T:Type} [DecidableEq K] {κ:K->AVal} {v:T->AVal}
theorem Owns.setBlk (ho:Owns h0 h l) (k:Nat) {id:Nat} {b b':Blk} (hk:l[k]? =some (.blk id b)) (hb:b'.own=true):Owns h0 (upd h id b') (l.set k (.blk id b')):=
 ho.turn k hk (zb9 ..) (fun j c hj hc=>by cases hj;rw [zb9] at hc;cases hc;exact hb) (fun j c e1 e2=>by rw [zz];exact e1;intro e;subst e;exact e2 rfl) (.inl rfl)
theorem zm3 {id:Nat} {es:List (AVal×AVal×Nat)} {c:Nat} (hb:h id=some (zfi es c)):A.zlz h (.mp id)=some (es,c):=by simp [A.zlz,hb,zfi,zgu]
theorem objT_blk {id:Nat} {es es':List (AVal×AVal×Nat)} {c c':Nat} {u:AVal} {f:List (AVal×AVal×Nat)->Nat->Option (List (AVal×AVal×Nat)×Nat×AVal)} {Q:zQ} (hb:h id=some (zfi es c)) (hf:f es c=some (es',c',u))
  (hq:Q u (upd h id (zfi es' c'))):A.objT h (.mp id) f Q:=by
 unfold zfi zgu at *
 simp only [A.objT,hb,hf]
 exact hq
theorem lkp_blk {id:Nat} {c:Nat} {ps:Ents K T} (hκ:KeyE kd κ) (hb:h id=some (zfi (encM κ v ps) c)) (z:T) (k:K) (ok:Bool):
  A.lkp h (some kd) (some (v z)) ok (.mp id) (κ k)=some (bif ok then .tup [v ((getP ps k).getD z),.bool (getP ps k).isSome] else v ((getP ps k).getD z)):=by
 simp only [A.lkp,A.entries,zm3 hb,zqa hκ,zlj]
 cases idxP ps k with
 | none=>rfl
 | some x=>rfl
theorem Owns.lkp (ho:Owns h0 h l) (i:Nat) {id c:Nat} {ps:Ents K T} (hi:l[i]? =some (.blk id (zfi (encM κ v ps) c))) (hκ:KeyE kd κ) (z:T) (k:K):A.lkp h (some kd) (some (v z)) false (.mp id) (κ k)=some (v ((getP ps k).getD z)):=
 lkp_blk hκ (ho.at i hi) z k false
theorem Owns.mset (ho:Owns h0 h l) (i:Nat) {id c:Nat} {ps:Ents K T} (hi:l[i]? =some (.blk id (zfi (encM κ v ps) c))) (hκ:KeyE kd κ) (k:K) (t:T) {Q:za->Prop}
  (hq: ∀ h',Owns h0 h' (l.set i (.blk id (zfi (encM κ v (putP ps k t c)) (clkP ps k c))))->But (.mp id) h h'->(∀ j,j≠id->h' j=h j)->Q h'):B.mset h kd (.mp id) (κ k) (v t) Q:=
 objT_blk (ho.at i hi) (fset_enc hκ k t ps c) (hq _ (ho.setBlk i hi rfl) (fun j b e1 e2=>by rw [zz];exact e1;intro e;subst e;exact e2 rfl) fun j hj=>zz _ _ hj)
end
end Go.Ab
