/- What is proved: a part of the way to the statement: AcJ. No conditions. -/
import Derived.Test.YtljejbplojnnpaaGreatQ3
import Derived.Test.YtljejbplojnnpaaGreatQ5
import Derived.Test.YtljejbplojnnpaaGreatQ2
import Derived.Lib.Bytealg
set_option linter.unusedVariables false
set_option linter.unusedSimpArgs false
set_option maxRecDepth 100000
namespace Go.Ab
open List
structure lT where
 oe:Int
 oY:Int
 deriving DecidableEq
@[simp] theorem lT.eta(w:lT):lT.mk w.oe w.oY=w:=rfl
structure bZ where
 Id:Int
 Item:List UInt8
 oe:Int
 oY:Int
 ek:Int
 rH:Bool
 deriving DecidableEq
@[simp] def bZ.cs(l:bZ):List a7:=[.int .i64 l.Id,.str l.Item,.int .i64 l.oe,.int .i64 l.oY,.int .i64 l.ek,.bool l.rH]
def yS:Flat bZ where
 cs:=bZ.cs
 es:=6
 sh:=[.i .i64,.s,.i .i64,.i .i64,.i .i64,.b]
 len _:=rfl
 pos:=by omega
 eq a b:=by
  cases a;cases b;simp
structure fA where
 Want:Int
 bZ:Int
 ek:Int
 deriving DecidableEq
@[simp] def fA.cs(u:fA):List a7:=[.int .i64 u.Want,.int .i64 u.bZ,.int .i64 u.ek]
def yP:Flat fA where
 cs:=fA.cs
 es:=3
 sh:=[.i .i64,.i .i64,.i .i64]
 len _:=rfl
 pos:=by omega
 eq a b:=by
  cases a;cases b;simp
structure Want where
 Item:List UInt8
 Day:Int
 ek:Int
 deriving DecidableEq
structure Part where
 Item:List UInt8
 ek:Int
 deriving DecidableEq
@[simp] def Part.cs(u:Part):List a7:=[.str u.Item,.int .i64 u.ek]
def yI:Flat Part where
 cs:=Part.cs
 es:=2
 sh:=[.s,.i .i64]
 len _:=rfl
 pos:=by omega
 eq a b:=by
  cases a;cases b;simp
theorem yE(a b:UInt8):decide ((a.toNat:Int)=b.toNat)=decide (a=b):=by
 rw[decide_eq_decide];constructor
 ·intro h;exact UInt8.toNat_inj.1 (by omega)
 ·intro h;rw[h]
structure dC where
 Id:Int
 Item:List UInt8
 ek:Int
 tR:Int
 pe:Int
 State:UInt8
 Day:Int
 Code:List UInt8
 deriving DecidableEq
@[simp] def dC.cs(u:dC):List a7:=[.int .i64 u.Id,.str u.Item,.int .i64 u.ek,.int .i64 u.tR,.int .i64 u.pe,.int .u8 (u.State.toNat:Int),.int .i64 u.Day,.str u.Code]
def yL:Flat dC where
 cs:=dC.cs
 es:=8
 sh:=[.i .i64,.s,.i .i64,.i .i64,.i .i64,.i .u8,.i .i64,.s]
 len _:=rfl
 pos:=by omega
 eq a b:=by
  cases a;cases b;simp[yE]
def bS:B3 UInt8 where
 c b:= .int .u8 b.toNat
 cell _:=rfl
 eql a b:=by rw[V.tF,yE]
 neq a b:=by rw[V.OT,yE]
abbrev bc:UInt8->List a7:=bS.cs
def tS:B3 (List UInt8) where
 c b:= .str b
 cell _:=rfl
 eql a b:=by rw[V.rB]
 neq a b:=by rw[V.Oq]
abbrev tc:List UInt8->List a7:=tS.cs
theorem wrap_u8(n:Int):IntKind.u8.wrap n=n % 256:=by
 simp[IntKind.wrap,IntKind.bits,IntKind.signed]
theorem Au(n:Nat):IntKind.u8.wrap (n:Int)=((UInt8.ofNat n).toNat:Int):=by
 rw[wrap_u8];simp
def dN(m:Int):UInt8:=UInt8.ofNat (m % 256).toNat
theorem D5(m:Int):((dN m).toNat:Int)=m % 256:=by
 have h1:=Int.emod_nonneg m (show (256:Int)≠0 by omega);have a:=Int.emod_lt_of_pos m (show (0:Int)<256 by omega);simp[dN];omega
theorem mz(m:Int):IntKind.u8.wrap m=((dN m).toNat:Int):=by rw[wrap_u8,D5]
theorem Ao{m n:Int}(h:m % 256=n % 256):dN m=dN n:=by unfold dN;rw[h]
theorem wz{k j:IntKind}{a b:Int}(h0:0 <= b)(h1:b<k.bits):V.bin .shr (.int k a) (.int j b)=some (.int k (a.fdiv (2 ^ b.toNat))):=by
 simp only[V.bin,V.shift];rw[if_neg (by omega),Nat.min_eq_left (by omega)]
theorem wrap_u64(n:Int):IntKind.u64.wrap n=n % 18446744073709551616:=by
 simp[IntKind.wrap,IntKind.bits,IntKind.signed]
theorem Gk:∀s:List UInt8,V.vg (s.map bc).flatten=some s
 | []=>rfl
 | a::r=>by
  have:=Gk r
  simp only[map_cons,flatten_cons,cons_append,nil_append]at this ⊢
  simp only[V.vg,this]
  simp[V.D4,bS]
theorem hF{h:a9}{x:a7}{s:List UInt8}{R:List (List a7)}(hx:aJ h 1 x (s.map bc) R)(K:a7->Prop):(B.gk h x K:Prop)=K (.str s):=by
 have h1:=hx.jR;have a:=hx.rdv;rw[length_map]at h1 a;simp only[B.gk,A.gk,h1,a,Gk]
structure cW where
 kE:Int
 Id:Int
 Day:Int
 Code:List UInt8
 State:UInt8
 bJ:List bZ
 Uses:List fA
 deriving DecidableEq
@[simp] def cW.cs(t:cW)(x y:a7):List a7:=[.int .i64 t.kE,.int .i64 t.Id,.int .i64 t.Day,.str t.Code,.int .u8 (t.State.toNat:Int),x,y]
structure kP(h:a9)(t:cW)(x y:a7):Prop where
 iU:∃R,aJ h 6 x (t.bJ.map bZ.cs) R
 sK:∃R,aJ h 3 y (t.Uses.map fA.cs) R
theorem kP.mono{h H:a9}{t:cW}{x y:a7}(c:kP h t x y)(hle:h.le H):kP H t x y:=by
 obtain⟨⟨R,a⟩,⟨S,b⟩⟩:=c;exact⟨⟨R,a.mono hle⟩,⟨S,b.mono hle⟩⟩
def tP(n:Int):Prop:= -9223372036854775808 <= n /\ n <= 9223372036854775807
def bZ.ok(l:bZ):Prop:=tP l.Id /\ tP l.ek
def fA.ok(u:fA):Prop:=tP u.Want /\ tP u.bZ /\ tP u.ek
def cW.ok(t:cW):Prop:=tP t.Id /\ (∀l∈t.bJ,l.ok) /\ ∀u∈t.Uses,u.ok
@[simp] def lL.aY(C:aC)(N:zN)(a b:a7)(h:a9)(Q:zQ):=B.pv (V.bin .add a (i6 7)) λc=>B.pv (V.bin .mul (i6 1000003) c) λd=>B.pv (V.bin .add d b) λe=>Q e h
variable(C:aC)(N:Nat→Nat)(Q:zQ)
def lL.aD:=mi C (N 20) (lL.aY C N)
@[simp] def qF.k1(c:a7)(h:a9):=B.pv (A.ey 7 c) λa=>B.al a (B.pv (V.aF 5 a) λd=>B.call C (N 48) [d] h λe h=>B.al a (B.pv (V.cL 5 e a) λa=>B.al a (B.pv (V.aF 6 a) λf=>B.call C (N 49) [f] h λg h=>B.al a (B.pv (V.cL 6 g a) λa=>B.pv (V.bM 0 7 a) λb=>B.pv (V.bU 0 7 b (.agg [i6 0,i6 0,i6 0,.str [],.int .u8 0,.aA,.aA])) λi=>B.pv (oneOf (cJ (V.bM 0 7 i) (some []))) λv=>Q v h))))
def qF.aD:=fy C (N 27) (qF.k1 C N)
@[simp] def qH.k1(m n:a7)(h:a9):=B.pv (A.ey 7 m) λc=>B.pv (A.ey 7 n) λd=>B.pv (V.bM 0 7 c) λo=>B.pv (V.bM 0 7 d) λp=>B.call C (N 42) [o,p] h λb h=>B.al c (bV h b (V.aF 5 c) λe h=>B.al d (bV h b (V.aF 5 d) λf h=>dG C h b (N 54) [e,f] λg h=>B.pick b g (.bool false) λa=>B.al c (bV h a (V.aF 6 c) λi h=>B.al d (bV h a (V.aF 6 d) λj h=>dG C h a (N 55) [i,j] λk h=>B.pick a k (.bool false) λl=>Q l h))))
def qH.aD:=fk C (N 30) (qH.k1 C N)
@[simp] def qD.k1(b:a7)(h:a9):=B.pv (A.ey 7 b) λa=>B.al a (B.pv (V.aF 5 a) λc=>B.call C (N 56) [c] h λe h=>B.al a (B.pv (V.aF 6 a) λd=>B.call C (N 57) [d] h λf h=>Q (.bI []) h))
def qD.aD:=fy C (N 31) (qD.k1 C N)
@[simp] def nw.k3(C:aC)(N:zN)(Q:zQ)(a b:a7)(h:a9):=B.pv (V.aE a) λd=>B.pv (V.aE b) λe=>B.pv (V.bin .neq d e) λc=>B.cond c (Q (.bool false) h) (aB (rP.l4  Q a b) [(i6 0)] h)
def nw.aD:=fk C (N 34) (nw.k3 C N)
@[simp] def nu.k1(Y1:zL)(b c a:a7)(h:a9):=B.pv (V.aE b) λj=>B.pv (V.bin .lss a j) λd=>B.cond d (B.pv (V.aM 1 b a) λe=>B.ld h e λf=>B.call C (N 63) [c,f] h λk h=>B.pv (V.bin .add a (i6 1)) λg=>Y1 [g] h) (B.call C (N 62) [c] h λi h=>Q i h)
@[simp] def nu.l2(a b:a7):zG|[c],h,Y1=>nu.k1 C N Q Y1 a b c h|_,_,_=>False
@[simp] def nu.k3(a:a7)(h:a9):=B.pv (A.cD [] [.aA,.aA,.aA,.aA,.aA,.aA,.aA,.aA,.aA,.aA,.aA,.aA,.aA,.aA,.aA,.aA,.aA,.aA,.aA,.aA,.aA,.aA,.aA]) λb=>B.bL h (A.kZ 23 b) λc h=>aB (nu.l2 C N Q a (.ptr c 0 0)) [(i6 0)] h
def nu.aD:=fy C (N 35) (nu.k3 C N)
@[simp] def pD.k3(a:a7)(h:a9):=B.pv (V.aE a) λc=>B.pv (V.bin .add c (i6 12)) λd=>0<1 /\ B.eO h 1 (some [.int .u8 0]) (i6 0) d λe h=>B.bO h 1 1 e a λb h=>aB (oX.l4 C 1 (N 64) (.int .u8 0) 1 Q a) [b,(i6 0)] h
def pD.aD:=fy C (N 37) (pD.k3 C N)
@[simp] def mU.k3(e a:a7)(h:a9):=B.pv (V.aE a) λb=>B.pv (V.bin .add b (i6 12)) λc=>B.pv (V.dS 1 e none (some c)) λd=>aB (rn.l4 C (N 64) 1 Q a d) [(i6 0)] h
@[simp] def mU.k4(a b:a7)(h:a9):=B.pv (V.aE a) λe=>B.pv (V.aE b) λc=>B.pv (V.bin .neq e c) λd=>B.cond d (Q (.bool false) h) (mU.k3 C N Q a b h)
def mU.aD:=fk C (N 39) (mU.k4 C N)
@[simp] def qu.k3(a:a7)(h:a9):=B.pv (V.aE a) λb=>B.pv (V.bin .add b (i6 12)) λc=>B.pv (V.dS 1 a none (some c)) λd=>aB (jH.l3 C 1 (N 64) (λh p v K=>B.st h p v K) 2 Q d) [(i6 0)] h
def qu.aD:=fy C (N 40) (qu.k3 C N)
@[simp] def ov.k1(v0 v1:a7)(h:a9):=B.pv (A.ey 7 v0) λa=>B.pv (A.ey 7 v1) λb=>B.al a (B.pv (V.aF 0 a) λv6=>B.al b (B.pv (V.aF 0 b) λv=>B.pv (V.bin .eql v6 v) λi=>B.al a (bV h i (V.aF 1 a) λj h=>B.al b (bV h i (V.aF 1 b) λk h=>bD h i (V.bin .eql j k) λl h=>B.pick i l (.bool false) λc=>B.al a (bV h c (V.aF 2 a) λm h=>B.al b (bV h c (V.aF 2 b) λn h=>bD h c (V.bin .eql m n) λo h=>B.pick c o (.bool false) λd=>B.al a (bV h d (V.aF 3 a) λp h=>B.al b (bV h d (V.aF 3 b) λq h=>bD h d (V.bin .eql p q) λr h=>B.pick d r (.bool false) λe=>B.al a (bV h e (V.aF 4 a) λs h=>B.al b (bV h e (V.aF 4 b) λt h=>bD h e (V.bin .eql s t) λu h=>B.pick e u (.bool false) λf=>B.al a (bV h f (V.aF 5 a) λw h=>B.al b (bV h f (V.aF 5 b) λx h=>dG C h f (N 74) [w,x] λy h=>B.pick f y (.bool false) λg=>B.al a (bV h g (V.aF 6 a) λz h=>B.al b (bV h g (V.aF 6 b) λE h=>dG C h g (N 75) [z,E] λD h=>B.pick g D (.bool false) λac=>Q ac h))))))))))))))
def ov.aD:=fk C (N 42) (ov.k1 C N)
@[simp] def nt.k1(Y1:zL)(b c a:a7)(h:a9):=B.pv (V.aE b) λj=>B.pv (V.bin .lss a j) λd=>B.cond d (B.pv (V.aM 1 b a) λe=>B.ld h e λf=>B.call C (N 76) [c,f] h λk h=>B.pv (V.bin .add a (i6 1)) λg=>Y1 [g] h) (B.call C (N 62) [c] h λi h=>Q i h)
@[simp] def nt.l2(a b:a7):zG|[c],h,Y1=>nt.k1 C N Q Y1 a b c h|_,_,_=>False
@[simp] def nt.k3(a:a7)(h:a9):=B.pv (A.cD [] [.aA,.aA,.aA,.aA,.aA,.aA,.aA,.aA,.aA,.aA,.aA,.aA,.aA,.aA,.aA,.aA,.aA,.aA,.aA,.aA,.aA,.aA,.aA]) λb=>B.bL h (A.kZ 23 b) λc h=>aB (nt.l2 C N Q a (.ptr c 0 0)) [(i6 0)] h
def nt.aD:=fy C (N 43) (nt.k3 C N)
@[simp] def mV.aY(C:aC)(N:zN)(a:a7)(h:a9)(Q:zQ):Prop:=B.bO h 1 1 .aA a λb h=>Q b h
def mV.aD:=g9 C (N 45) (mV.aY C N)
@[simp] def ox.k3(a:a7)(h:a9):=B.pv (V.aE a) λc=>B.pv (V.bin .add c (i6 12)) λd=>0<6 /\ B.eO h 56 (some [i6 0,.str [],i6 0,i6 0,i6 0,.bool false]) (i6 0) d λe h=>B.bO h 6 56 e a λb h=>aB (kR.l4 C 6 56 (N 77) [i6 0,.str [],i6 0,i6 0,i6 0,.bool false] 1 Q a) [b,(i6 0)] h
def ox.aD:=fy C (N 48) (ox.k3 C N)
@[simp] def pG.k3(a:a7)(h:a9):=B.pv (V.aE a) λc=>B.pv (V.bin .add c (i6 12)) λd=>0<3 /\ B.eO h 24 (some [i6 0,i6 0,i6 0]) (i6 0) d λe h=>B.bO h 3 24 e a λb h=>aB (kR.l4 C 3 24 (N 78) [i6 0,i6 0,i6 0] 1 Q a) [b,(i6 0)] h
def pG.aD:=fy C (N 49) (pG.k3 C N)
@[simp] def mq.k3(f a:a7)(h:a9):=B.pv (V.aE a) λc=>B.pv (V.bin .add c (i6 12)) λd=>B.pv (V.dS 6 f none (some d)) λe=>aB (mH.l4 C 6 (N 77) [.i .i64,.s,.i .i64,.i .i64,.i .i64,.b] 1 Q a e) [(i6 0)] h
@[simp] def mq.k4(a b:a7)(h:a9):=B.pv (V.aE a) λe=>B.pv (V.aE b) λc=>B.pv (V.bin .neq e c) λd=>B.cond d (Q (.bool false) h) (mq.k3 C N Q a b h)
def mq.aD:=fk C (N 54) (mq.k4 C N)
@[simp] def nb.k3(e a:a7)(h:a9):=B.pv (V.aE a) λb=>B.pv (V.bin .add b (i6 12)) λc=>B.pv (V.dS 3 e none (some c)) λd=>aB (mH.l4 C 3 (N 78) [.i .i64,.i .i64,.i .i64] 1 Q a d) [(i6 0)] h
@[simp] def nb.k4(a b:a7)(h:a9):=B.pv (V.aE a) λe=>B.pv (V.aE b) λc=>B.pv (V.bin .neq e c) λd=>B.cond d (Q (.bool false) h) (nb.k3 C N Q a b h)
def nb.aD:=fk C (N 55) (nb.k4 C N)
@[simp] def pF.k3(a:a7)(h:a9):=B.pv (V.aE a) λb=>B.pv (V.bin .add b (i6 12)) λc=>B.pv (V.dS 6 a none (some c)) λd=>aB (jH.l3 C 6 (N 77) (λh p v K=>B.gp h p 6 v K) 2 Q d) [(i6 0)] h
def pF.aD:=fy C (N 56) (pF.k3 C N)
@[simp] def qC.k3(a:a7)(h:a9):=B.pv (V.aE a) λb=>B.pv (V.bin .add b (i6 12)) λc=>B.pv (V.dS 3 a none (some c)) λd=>aB (jH.l3 C 3 (N 78) (λh p v K=>B.gp h p 3 v K) 2 Q d) [(i6 0)] h
def qC.aD:=fy C (N 57) (qC.k3 C N)
@[simp] def mo.k1(a:a7)(h:a9):=B.nilCheck a λv4=>B.pv (V.fieldAddr 0 v4) λv5=>B.ld h v5 λv6=>B.call C (N 80) [v6] h λy h=>B.gd h y true (λK=>K a h) λA h=>B.gd h y true (λK=>B.nilCheck A λv=>K v h) λbv h=>bD h y (V.fieldAddr 1 bv) λbw h=>gb h y bw λbx h=>dG C h y (N 81) [bx] λbz h=>B.pick y bz (.bool false) λk=>B.gd h k true (λK=>K a h) λca h=>B.gd h k true (λK=>B.nilCheck ca λv=>K v h) λcb h=>bD h k (V.fieldAddr 2 cb) λcc h=>gb h k cc λcd h=>dG C h k (N 82) [cd] λce h=>B.pick k ce (.bool false) λl=>B.gd h l true (λK=>K a h) λcf h=>B.gd h l true (λK=>B.nilCheck cf λv=>K v h) λcg h=>bD h l (V.fieldAddr 3 cg) λch h=>gb h l ch λci h=>dG C h l (N 83) [ci] λcj h=>B.pick l cj (.bool false) λm=>B.gd h m true (λK=>K a h) λck h=>B.gd h m true (λK=>B.nilCheck ck λv=>K v h) λcl h=>bD h m (V.fieldAddr 4 cl) λcm h=>gb h m cm λcn h=>dG C h m (N 84) [cn] λco h=>B.pick m co (.bool false) λn=>B.gd h n true (λK=>K a h) λcp h=>B.gd h n true (λK=>B.nilCheck cp λv=>K v h) λcq h=>bD h n (V.fieldAddr 5 cq) λcr h=>gb h n cr λcs h=>dG C h n (N 85) [cs] λct h=>B.pick n ct (.bool false) λo=>B.gd h o true (λK=>K a h) λcu h=>B.gd h o true (λK=>B.nilCheck cu λv=>K v h) λcv h=>bD h o (V.fieldAddr 6 cv) λcw h=>gb h o cw λcx h=>dG C h o (N 86) [cx] λcy h=>B.pick o cy (.bool false) λp=>B.gd h p true (λK=>K a h) λcz h=>B.gd h p true (λK=>B.nilCheck cz λv=>K v h) λda h=>bD h p (V.fieldAddr 7 da) λdb h=>gb h p db λdc h=>dG C h p (N 87) [dc] λdd h=>B.pick p dd (.bool false) λq=>B.gd h q true (λK=>K a h) λde h=>B.gd h q true (λK=>B.nilCheck de λv=>K v h) λdf h=>bD h q (V.fieldAddr 8 df) λdg h=>gb h q dg λdh h=>dG C h q (N 88) [dh] λdi h=>B.pick q di (.bool false) λr=>B.gd h r true (λK=>K a h) λdj h=>B.gd h r true (λK=>B.nilCheck dj λv=>K v h) λdk h=>bD h r (V.fieldAddr 9 dk) λdl h=>gb h r dl λdm h=>dG C h r (N 89) [dm] λdn h=>B.pick r dn (.bool false) λs=>B.gd h s true (λK=>K a h) λZ h=>B.gd h s true (λK=>B.nilCheck Z λv=>K v h) λY h=>bD h s (V.fieldAddr 10 Y) λX h=>gb h s X λds h=>dG C h s (N 90) [ds] λW h=>B.pick s W (.bool false) λt=>B.gd h t true (λK=>K a h) λU h=>B.gd h t true (λK=>B.nilCheck U λv=>K v h) λT h=>bD h t (V.fieldAddr 11 T) λS h=>gb h t S λR h=>dG C h t (N 91) [R] λP h=>B.pick t P (.bool false) λu=>B.gd h u true (λK=>K a h) λO h=>B.gd h u true (λK=>B.nilCheck O λv=>K v h) λM h=>bD h u (V.fieldAddr 12 M) λL h=>gb h u L λJ h=>dG C h u (N 92) [J] λI h=>B.pick u I (.bool false) λw=>B.gd h w true (λK=>K a h) λH h=>B.gd h w true (λK=>B.nilCheck H λv=>K v h) λG h=>bD h w (V.fieldAddr 13 G) λF h=>gb h w F λE h=>dG C h w (N 93) [E] λD h=>B.pick w D (.bool false) λx=>B.gd h x true (λK=>K a h) λz h=>B.gd h x true (λK=>B.nilCheck z λv=>K v h) λaa h=>bD h x (V.fieldAddr 14 aa) λab h=>gb h x ab λac h=>dG C h x (N 94) [ac] λad h=>B.pick x ad (.bool false) λb=>B.gd h b true (λK=>K a h) λae h=>B.gd h b true (λK=>B.nilCheck ae λv=>K v h) λaf h=>bD h b (V.fieldAddr 15 af) λag h=>gb h b ag λah h=>dG C h b (N 95) [ah] λai h=>B.pick b ai (.bool false) λc=>B.gd h c true (λK=>K a h) λaj h=>B.gd h c true (λK=>B.nilCheck aj λv=>K v h) λak h=>bD h c (V.fieldAddr 16 ak) λal h=>gb h c al λam h=>dG C h c (N 96) [am] λan h=>B.pick c an (.bool false) λd=>B.gd h d true (λK=>K a h) λao h=>B.gd h d true (λK=>B.nilCheck ao λv=>K v h) λap h=>bD h d (V.fieldAddr 17 ap) λaq h=>gb h d aq λar h=>dG C h d (N 97) [ar] λau h=>B.pick d au (.bool false) λe=>B.gd h e true (λK=>K a h) λav h=>B.gd h e true (λK=>B.nilCheck av λv=>K v h) λaw h=>bD h e (V.fieldAddr 18 aw) λax h=>gb h e ax λay h=>dG C h e (N 98) [ay] λaz h=>B.pick e az (.bool false) λf=>B.gd h f true (λK=>K a h) λba h=>B.gd h f true (λK=>B.nilCheck ba λv=>K v h) λbb h=>bD h f (V.fieldAddr 19 bb) λbc h=>gb h f bc λbd h=>dG C h f (N 99) [bd] λbe h=>B.pick f be (.bool false) λg=>B.gd h g true (λK=>K a h) λbf h=>B.gd h g true (λK=>B.nilCheck bf λv=>K v h) λbg h=>bD h g (V.fieldAddr 20 bg) λbh h=>gb h g bh λbi h=>dG C h g (N 100) [bi] λbj h=>B.pick g bj (.bool false) λi=>B.gd h i true (λK=>K a h) λbk h=>B.gd h i true (λK=>B.nilCheck bk λv=>K v h) λbl h=>bD h i (V.fieldAddr 21 bl) λbm h=>gb h i bm λbn h=>dG C h i (N 101) [bn] λbo h=>B.pick i bo (.bool false) λj=>B.gd h j true (λK=>K a h) λbp h=>B.gd h j true (λK=>B.nilCheck bp λv=>K v h) λbq h=>bD h j (V.fieldAddr 22 bq) λbr h=>gb h j br λbs h=>dG C h j (N 102) [bs] λbt h=>B.pick j bt (.bool false) λbu=>Q bu h
def mo.aD:=fy C (N 62) (mo.k1 C N)
@[simp] def ua.k1(C:aC)(N:zN)(Q:zQ)(a f:a7)(h:a9):=B.nilCheck a λg=>B.pv (V.fieldAddr 4 g) λi=>B.ld h i λj=>B.bL h (bN [(0,none,f)] (bG 1 [.aA])) λb h=>B.bO h 1 24 j (.sl b 0 0 1 1 1) λc h=>B.nilCheck a λd=>B.pv (V.fieldAddr 4 d) λe=>B.st h e c λh=>Q (.bI []) h
def ua.aD:=fk C (N 63) (ua.k1 C N)
@[simp] def na.k1(c d:a7)(h:a9):=B.call C (N 20) [c,d] h λe h=>B.pv (V.toInt .u64 e) λf=>B.pv (V.bin .mul f (.int .u64 11400714819323198485)) λg=>B.pv (V.bin .shr g (.int .u64 56)) λa=>B.pv (V.toInt .u8 a) λb=>Q b h
def na.aD:=fk C (N 64) (na.k1 C N)
@[simp] def ow.k3(C:aC)(N:zN)(Q:zQ)(a c:a7)(h:a9):=B.pv (V.aE a) λe=>B.pv (V.aE c) λf=>B.pv (V.bin .neq e f) λd=>B.cond d (Q (.bool false) h) (aB (mD.l4 6 [.i .i64,.s,.i .i64,.i .i64,.i .i64,.b] Q a c) [(i6 0)] h)
def ow.aD:=fk C (N 74) (ow.k3 C N)
@[simp] def pE.k3(C:aC)(N:zN)(Q:zQ)(a b:a7)(h:a9):=B.pv (V.aE a) λd=>B.pv (V.aE b) λe=>B.pv (V.bin .neq d e) λc=>B.cond c (Q (.bool false) h) (aB (mD.l4 3 [.i .i64,.i .i64,.i .i64] Q a b) [(i6 0)] h)
def pE.aD:=fk C (N 75) (pE.k3 C N)
@[simp] def oq.k1(Y1:zL)(i b a:a7)(h:a9):=B.pv (V.aE b) λc=>B.pv (V.bin .lss a c) λd=>B.cond d (B.pv (V.aM 7 b a) λe=>B.cR h e 7 λf=>B.call C (N 105) [i,f] h λj h=>B.pv (V.bin .add a (i6 1)) λg=>Y1 [g] h) (Q (.bI []) h)
@[simp] def oq.l2(a b:a7):zG|[c],h,Y1=>oq.k1 C N Q Y1 a b c h|_,_,_=>False
@[simp] def oq.k3(a b:a7)(h:a9):=B.nilCheck a λg=>B.pv (V.fieldAddr 13 g) λi=>B.ld h i λj=>B.bL h (bN [(0,none,b)] (bG 1 [.aA])) λc h=>B.bO h 1 24 j (.sl c 0 0 1 1 1) λd h=>B.nilCheck a λe=>B.pv (V.fieldAddr 13 e) λf=>B.st h f d λh=>aB (oq.l2 C N Q a b) [(i6 0)] h
def oq.aD:=fk C (N 76) (oq.k3 C N)
@[simp] def nA.k1(a b:a7)(h:a9):=B.call C (N 20) [a,b] h λc h=>B.pv (A.cD [(0,none,c)] [i6 0,.str [],i6 0,i6 0,i6 0,.bool false]) λd=>B.pv (V.bU 0 6 d (.agg [i6 0,.str [],i6 0,i6 0,i6 0,.bool false])) λe=>B.pv (oneOf (cJ (V.bM 0 6 e) (some []))) λv=>Q v h
def nA.aD:=fk C (N 77) (nA.k1 C N)
@[simp] def n8.k1(a b:a7)(h:a9):=B.call C (N 20) [a,b] h λc h=>B.pv (A.cD [(1,none,c)] [i6 0,i6 0,i6 0]) λd=>B.pv (V.bU 0 3 d (.agg [i6 0,i6 0,i6 0])) λe=>B.pv (oneOf (cJ (V.bM 0 3 e) (some []))) λv=>Q v h
def n8.aD:=fk C (N 78) (n8.k1 C N)
def kg.aY(a:a7)(h:a9)(Q:zQ):=aB (aH.gz (dH 16 (.str []) (N 106)) C Q a) [(i6 0)] h
def kg.aD:=g9 C (N 83) (kg.aY C N)
def kh.aY(a:a7)(h:a9)(Q:zQ):=aB (aH.gz (dH 1 (.int .u8 0) (N 64)) C Q a) [(i6 0)] h
def kh.aD:=g9 C (N 84) (kh.aY C N)
def fg.aY(a:a7)(h:a9)(Q:zQ):=aB (aH.gz (rW 6 56 [i6 0,.str [],i6 0,i6 0,i6 0,.bool false] (N 77) [.i .i64,.s,.i .i64,.i .i64,.i .i64,.b]) C Q a) [(i6 0)] h
def fg.aD:=g9 C (N 86) (fg.aY C N)
def fe.aY(a:a7)(h:a9)(Q:zQ):=aB (aH.gz (rW 3 24 [i6 0,i6 0,i6 0] (N 78) [.i .i64,.i .i64,.i .i64]) C Q a) [(i6 0)] h
def fe.aD:=g9 C (N 88) (fe.aY C N)
def eX.aY(a:a7)(h:a9)(Q:zQ):=aB (aH.gz (rW 2 24 [.str [],i6 0] (N 108) [.s,.i .i64]) C Q a) [(i6 0)] h
def eX.aD:=g9 C (N 89) (eX.aY C N)
def fa.aY(a:a7)(h:a9)(Q:zQ):=aB (aH.gz (pZ C 4 72 [.str [],i6 0,.aA,.aA] (N 109) (N 110)) C Q a) [(i6 0)] h
def fa.aD:=g9 C (N 90) (fa.aY C N)
def eY.aY(a:a7)(h:a9)(Q:zQ):=aB (aH.gz (rW 8 80 [i6 0,.str [],i6 0,i6 0,i6 0,.int .u8 0,i6 0,.str []] (N 111) [.i .i64,.s,.i .i64,.i .i64,.i .i64,.i .u8,.i .i64,.s]) C Q a) [(i6 0)] h
def eY.aD:=g9 C (N 91) (eY.aY C N)
def eV.aY(a:a7)(h:a9)(Q:zQ):=aB (aH.gz (pZ C 7 96 [i6 0,i6 0,i6 0,.str [],.int .u8 0,.aA,.aA] (N 114) (N 42)) C Q a) [(i6 0)] h
def eV.aD:=g9 C (N 93) (eV.aY C N)
def eQ.aY(a:a7)(h:a9)(Q:zQ):=aB (aH.gz (pZ C 6 96 [i6 0,i6 0,i6 0,.aA,.aA,.aA] (N 115) (N 116)) C Q a) [(i6 0)] h
def eQ.aD:=g9 C (N 94) (eQ.aY C N)
def ff.aY(a:a7)(h:a9)(Q:zQ):=aB (aH.gz (pZ C 2 48 [.aA,.aA] (N 117) (N 118)) C Q a) [(i6 0)] h
def ff.aD:=g9 C (N 95) (ff.aY C N)
@[simp] def ue.k1(b d:a7)(h:a9):=B.pv (A.ey 7 d) λa=>B.al a (B.pv (V.aF 5 a) λe=>B.call C (N 130) [b,e] h λg h=>B.al a (B.pv (V.aF 6 a) λc=>B.call C (N 131) [b,c] h λf h=>Q (.bI []) h))
def ue.aD:=fk C (N 105) (ue.k1 C N)
@[simp] def ny.k1(C:aC)(N:zN)(Q:zQ)(a b:a7)(h:a9):=B.pv (V.toInt .u8 a) λm=>B.pv (V.bin .shr a (.int .u64 8)) λn=>B.pv (V.toInt .u8 n) λo=>B.pv (V.bin .shr a (.int .u64 16)) λc=>B.pv (V.toInt .u8 c) λd=>B.pv (V.toInt .u8 b) λe=>B.pv (V.bin .shr b (.int .u64 8)) λf=>B.pv (V.toInt .u8 f) λg=>B.pv (V.bin .shr b (.int .u64 16)) λi=>B.pv (V.toInt .u8 i) λj=>B.bL h (bN [(0,none,(.int .u8 35)),(1,none,m),(2,none,o),(3,none,d),(4,none,(.int .u8 47)),(5,none,e),(6,none,g),(7,none,j)] (bG 8 [.int .u8 0])) λk h=>B.gk h (.sl k 0 0 8 1 8) λl=>Q l h
def ny.aD:=fk C (N 106) (ny.k1 C N)
@[simp] def nz.k1(a b:a7)(h:a9):=B.call C (N 20) [a,b] h λc h=>B.pv (A.cD [(1,none,c)] [.str [],i6 0]) λd=>B.pv (V.bU 0 2 d (.agg [.str [],i6 0])) λe=>B.pv (oneOf (cJ (V.bM 0 2 e) (some []))) λv=>Q v h
def nz.aD:=fk C (N 108) (nz.k1 C N)
@[simp] def n6.k1(a b:a7)(h:a9):=B.call C (N 20) [a,b] h λc h=>B.pv (A.cD [(1,none,c)] [.str [],i6 0,.aA,.aA]) λd=>B.pv (V.bU 0 4 d (.agg [.str [],i6 0,.aA,.aA])) λe=>B.pv (oneOf (cJ (V.bM 0 4 e) (some []))) λv=>Q v h
def n6.aD:=fk C (N 109) (n6.k1 C N)
@[simp] def n7.k1(q r:a7)(h:a9):=B.pv (A.ey 4 q) λc=>B.pv (A.ey 4 r) λd=>B.al c (B.pv (V.aF 0 c) λs=>B.al d (B.pv (V.aF 0 d) λt=>B.pv (V.bin .eql s t) λe=>B.al c (bV h e (V.aF 1 c) λf h=>B.al d (bV h e (V.aF 1 d) λg h=>bD h e (V.bin .eql f g) λi h=>B.pick e i (.bool false) λa=>B.al c (bV h a (V.aF 2 c) λj h=>B.al d (bV h a (V.aF 2 d) λk h=>dG C h a (N 132) [j,k] λl h=>B.pick a l (.bool false) λb=>B.al c (bV h b (V.aF 3 c) λm h=>B.al d (bV h b (V.aF 3 d) λn h=>dG C h b (N 133) [m,n] λo h=>B.pick b o (.bool false) λp=>Q p h))))))))
def n7.aD:=fk C (N 110) (n7.k1 C N)
@[simp] def n5.k1(a b:a7)(h:a9):=B.call C (N 20) [a,b] h λc h=>B.pv (A.cD [(0,none,c)] [i6 0,.str [],i6 0,i6 0,i6 0,.int .u8 0,i6 0,.str []]) λd=>B.pv (V.bU 0 8 d (.agg [i6 0,.str [],i6 0,i6 0,i6 0,.int .u8 0,i6 0,.str []])) λe=>B.pv (oneOf (cJ (V.bM 0 8 e) (some []))) λv=>Q v h
def n5.aD:=fk C (N 111) (n5.k1 C N)
@[simp] def qB.k1(a b:a7)(h:a9):=B.call C (N 20) [a,b] h λc h=>B.pv (A.cD [(1,none,c)] [i6 0,i6 0,i6 0,.str [],.int .u8 0,.aA,.aA]) λd=>B.pv (V.bU 0 7 d (.agg [i6 0,i6 0,i6 0,.str [],.int .u8 0,.aA,.aA])) λe=>B.pv (oneOf (cJ (V.bM 0 7 e) (some []))) λv=>Q v h
def qB.aD:=fk C (N 114) (qB.k1 C N)
@[simp] def qo.k1(a b:a7)(h:a9):=B.call C (N 20) [a,b] h λc h=>B.pv (A.cD [(0,none,c)] [i6 0,i6 0,i6 0,.aA,.aA,.aA]) λd=>B.pv (V.bU 0 6 d (.agg [i6 0,i6 0,i6 0,.aA,.aA,.aA])) λe=>B.pv (oneOf (cJ (V.bM 0 6 e) (some []))) λv=>Q v h
def qo.aD:=fk C (N 115) (qo.k1 C N)
@[simp] def nv.k1(z v1:a7)(h:a9):=B.pv (A.ey 6 z) λa=>B.pv (A.ey 6 v1) λb=>B.al a (B.pv (V.aF 0 a) λv6=>B.al b (B.pv (V.aF 0 b) λv=>B.pv (V.bin .eql v6 v) λg=>B.al a (bV h g (V.aF 1 a) λi h=>B.al b (bV h g (V.aF 1 b) λj h=>bD h g (V.bin .eql i j) λk h=>B.pick g k (.bool false) λc=>B.al a (bV h c (V.aF 2 a) λl h=>B.al b (bV h c (V.aF 2 b) λm h=>bD h c (V.bin .eql l m) λn h=>B.pick c n (.bool false) λd=>B.al a (bV h d (V.aF 3 a) λo h=>B.al b (bV h d (V.aF 3 b) λp h=>dG C h d (N 134) [o,p] λq h=>B.pick d q (.bool false) λe=>B.al a (bV h e (V.aF 4 a) λr h=>B.al b (bV h e (V.aF 4 b) λs h=>dG C h e (N 74) [r,s] λt h=>B.pick e t (.bool false) λf=>B.al a (bV h f (V.aF 5 a) λu h=>B.al b (bV h f (V.aF 5 b) λw h=>dG C h f (N 135) [u,w] λx h=>B.pick f x (.bool false) λy=>Q y h))))))))))))
def nv.aD:=fk C (N 116) (nv.k1 C N)
@[simp] def n9.k1(a b:a7)(h:a9):=B.call C (N 64) [a,b] h λc h=>B.bL h (bN [(0,none,c)] (bG 1 [.int .u8 0])) λd h=>B.pv (A.cD [(0,none,(.sl d 0 0 1 1 1))] [.aA,.aA]) λe=>B.pv (V.bU 0 2 e (.agg [.aA,.aA])) λf=>B.pv (oneOf (cJ (V.bM 0 2 f) (some []))) λv=>Q v h
def n9.aD:=fk C (N 117) (n9.k1 C N)
@[simp] def nB.k1(i j:a7)(h:a9):=B.pv (A.ey 2 i) λb=>B.pv (A.ey 2 j) λc=>B.al b (B.pv (V.aF 0 b) λk=>B.al c (B.pv (V.aF 0 c) λl=>B.call C (N 34) [k,l] h λa h=>B.al b (bV h a (V.aF 1 b) λd h=>B.al c (bV h a (V.aF 1 c) λe h=>dG C h a (N 34) [d,e] λf h=>B.pick a f (.bool false) λg=>Q g h))))
def nB.aD:=fk C (N 118) (nB.k1 C N)
@[simp] def ud.k1(C:aC)(N:zN)(Q:zQ)(a f:a7)(h:a9):=B.nilCheck a λg=>B.pv (V.fieldAddr 6 g) λi=>B.ld h i λj=>B.bL h (bN [(0,none,f)] (bG 1 [.aA])) λb h=>B.bO h 1 24 j (.sl b 0 0 1 1 1) λc h=>B.nilCheck a λd=>B.pv (V.fieldAddr 6 d) λe=>B.st h e c λh=>Q (.bI []) h
def ud.aD:=fk C (N 130) (ud.k1 C N)
@[simp] def uc.k1(C:aC)(N:zN)(Q:zQ)(a f:a7)(h:a9):=B.nilCheck a λg=>B.pv (V.fieldAddr 8 g) λi=>B.ld h i λj=>B.bL h (bN [(0,none,f)] (bG 1 [.aA])) λb h=>B.bO h 1 24 j (.sl b 0 0 1 1 1) λc h=>B.nilCheck a λd=>B.pv (V.fieldAddr 8 d) λe=>B.st h e c λh=>Q (.bI []) h
def uc.aD:=fk C (N 131) (uc.k1 C N)
@[simp] def pt.k3(C:aC)(N:zN)(Q:zQ)(a b:a7)(h:a9):=B.pv (V.aE a) λd=>B.pv (V.aE b) λe=>B.pv (V.bin .neq d e) λc=>B.cond c (Q (.bool false) h) (aB (mD.l4 2 [.s,.i .i64] Q a b) [(i6 0)] h)
def pt.aD:=fk C (N 132) (pt.k3 C N)
@[simp] def pr.k3(C:aC)(N:zN)(Q:zQ)(a b:a7)(h:a9):=B.pv (V.aE a) λd=>B.pv (V.aE b) λe=>B.pv (V.bin .neq d e) λc=>B.cond c (Q (.bool false) h) (aB (rP.l4  Q a b) [(i6 0)] h)
def pr.aD:=fk C (N 133) (pr.k3 C N)
@[simp] def lF.k1(Y1:zL)(b m a:a7)(h:a9):=B.pv (V.aE b) λc=>B.pv (V.bin .lss a c) λd=>B.cond d (B.pv (V.aM 4 b a) λe=>B.cR h e 4 λf=>B.pv (V.aM 4 m a) λg=>B.cR h g 4 λi=>B.call C (N 110) [f,i] h λj h=>B.pv (V.un .not j) λk=>B.cond k (Q (.bool false) h) (B.pv (V.bin .add a (i6 1)) λl=>Y1 [l] h)) (Q (.bool true) h)
@[simp] def lF.l2(a b:a7):zG|[c],h,Y1=>lF.k1 C N Q Y1 a b c h|_,_,_=>False
@[simp] def lF.k3(a b:a7)(h:a9):=B.pv (V.aE a) λd=>B.pv (V.aE b) λe=>B.pv (V.bin .neq d e) λc=>B.cond c (Q (.bool false) h) (aB (lF.l2 C N Q a b) [(i6 0)] h)
def lF.aD:=fk C (N 134) (lF.k3 C N)
@[simp] def py.k3(C:aC)(N:zN)(Q:zQ)(a b:a7)(h:a9):=B.pv (V.aE a) λd=>B.pv (V.aE b) λe=>B.pv (V.bin .neq d e) λc=>B.cond c (Q (.bool false) h) (aB (mD.l4 8 [.i .i64,.s,.i .i64,.i .i64,.i .i64,.i .u8,.i .i64,.s] Q a b) [(i6 0)] h)
def py.aD:=fk C (N 135) (py.k3 C N)
@[simp] def pC.k3(a:a7)(h:a9):=B.pv (V.aE a) λc=>B.pv (V.bin .add c (i6 12)) λd=>0<8 /\ B.eO h 80 (some [i6 0,.str [],i6 0,i6 0,i6 0,.int .u8 0,i6 0,.str []]) (i6 0) d λe h=>B.bO h 8 80 e a λb h=>aB (kR.l4 C 8 80 (N 111) [i6 0,.str [],i6 0,i6 0,i6 0,.int .u8 0,i6 0,.str []] 1 Q a) [b,(i6 0)] h
def pC.aD:=fy C (N 186) (pC.k3 C N)
@[simp] def mR.k3(e a:a7)(h:a9):=B.pv (V.aE a) λb=>B.pv (V.bin .add b (i6 12)) λc=>B.pv (V.dS 8 e none (some c)) λd=>aB (mH.l4 C 8 (N 111) [.i .i64,.s,.i .i64,.i .i64,.i .i64,.i .u8,.i .i64,.s] 1 Q a d) [(i6 0)] h
@[simp] def mR.k4(a b:a7)(h:a9):=B.pv (V.aE a) λe=>B.pv (V.aE b) λc=>B.pv (V.bin .neq e c) λd=>B.cond d (Q (.bool false) h) (mR.k3 C N Q a b h)
def mR.aD:=fk C (N 189) (mR.k4 C N)
@[simp] def qt.k3(a:a7)(h:a9):=B.pv (V.aE a) λb=>B.pv (V.bin .add b (i6 12)) λc=>B.pv (V.dS 8 a none (some c)) λd=>aB (jH.l3 C 8 (N 111) (λh p v K=>B.gp h p 8 v K) 2 Q d) [(i6 0)] h
def qt.aD:=fy C (N 190) (qt.k3 C N)
@[simp] def tZ.k1(C:aC)(N:zN)(Q:zQ)(a f:a7)(h:a9):=B.nilCheck a λg=>B.pv (V.fieldAddr 11 g) λi=>B.ld h i λj=>B.bL h (bN [(0,none,f)] (bG 1 [.aA])) λb h=>B.bO h 1 24 j (.sl b 0 0 1 1 1) λc h=>B.nilCheck a λd=>B.pv (V.fieldAddr 11 d) λe=>B.st h e c λh=>Q (.bI []) h
def tZ.aD:=fk C (N 207) (tZ.k1 C N)
@[simp] def qJ.aY(C:aC)(N:zN)(a:a7)(h:a9)(Q:zQ):Prop:=B.bO h 6 56 .aA a λb h=>Q b h
def qJ.aD:=g9 C (N 229) (qJ.aY C N)
@[simp] def jk.k1(Y1:zL)(k b a:a7)(h:a9):=B.pv (V.bin .lss a (i6 12)) λc=>B.cond c (B.call C (N 117) [(i6 1),a] h λd h=>B.bL h (bN [(0,some 2,d)] (bG 1 [.aA,.aA])) λe h=>B.bO h 2 48 b (.sl e 0 0 1 2 1) λf h=>B.pv (V.bin .add a (i6 1)) λg=>Y1 [f,g] h) (B.pv (V.aE k) λi=>B.pv (V.dS 2 b none (some i)) λj=>Q j h)
@[simp] def jk.l2(a:a7):zG|[b,c],h,Y1=>jk.k1 C N Q Y1 a b c h|_,_,_=>False
@[simp] def jk.k3(Y2:zL)(a c b:a7)(h:a9):=B.pv (V.aE a) λd=>B.pv (V.bin .lss b d) λe=>B.cond e (B.pv (V.aM 2 a b) λf=>B.cR h f 2 λg=>B.call C (N 271) [g] h λi h=>B.pv (V.bU 0 2 i (.agg [.aA,.aA])) λn=>B.pv (V.bM 0 2 n) λj=>B.bL h (bN [(0,some 2,j)] (bG 1 [.aA,.aA])) λk h=>B.bO h 2 48 c (.sl k 0 0 1 2 1) λl h=>B.pv (V.bin .add b (i6 1)) λm=>Y2 [l,m] h) (aB (jk.l2 C N Q a) [c,(i6 0)] h)
@[simp] def jk.l4(a:a7):zG|[b,c],h,Y2=>jk.k3 C N Q Y2 a b c h|_,_,_=>False
@[simp] def jk.k5(a:a7)(h:a9):=B.pv (V.aE a) λc=>B.pv (V.bin .add c (i6 12)) λd=>0<2 /\ B.eO h 48 (some [.aA,.aA]) (i6 0) d λb h=>aB (jk.l4 C N Q a) [b,(i6 0)] h
def jk.aD:=fy C (N 254) (jk.k5 C N)
@[simp] def jN.k1(Y1:zL)(e g d:a7)(h:a9):=B.pv (V.aE g) λi=>B.pv (V.bin .lss d i) λj=>B.cond j (B.pv (V.aE e) λk=>B.pv (V.bin .lss d k) λb=>B.gd h b true (λK=>K g h) λl h=>B.gd h b true (λK=>K d h) λm h=>bD h b (V.aM 2 l m) λn h=>B.gd h b true (λK=>B.cR h n 2 λv=>K v h) λo h=>B.gd h b true (λK=>K e h) λp h=>B.gd h b true (λK=>K d h) λq h=>bD h b (V.aM 2 p q) λr h=>B.gd h b true (λK=>B.cR h r 2 λv=>K v h) λs h=>dG C h b (N 280) [o,s] λt h=>bD h b (V.un .not t) λu h=>B.pick b u (.bool false) λc=>B.gd h c false (λK=>K d h) λw h=>B.gd h c false (λK=>K e h) λx h=>bH h c (V.aE x) λy h=>bH h c (V.bin .geq w y) λz h=>B.gd h c false (λK=>K z h) λa h=>B.gd h a true (λK=>K g h) λL h=>B.gd h a true (λK=>K d h) λJ h=>bD h a (V.aM 2 L J) λf h=>B.gd h a true (λK=>B.cR h f 2 λv=>K v h) λac h=>B.gd h a true (λK=>K d h) λad h=>B.gd h a true (λK=>K e h) λI h=>bD h a (V.aE I) λH h=>bD h a (V.bin .sub ad H) λG h=>B.gd h a true (λK=>B.call C (N 117) [(i6 1),G] h (B.jV h [(f,some 2)] K)) λF h=>dG C h a (N 118) [ac,F] λE h=>bD h a (V.un .not E) λD h=>B.gd h c false (λK=>B.pick a D (.bool false) λv=>K v h) λA h=>B.pick c (.bool true) A λal=>B.cond al (Q (.bool false) h) (B.pv (V.bin .add d (i6 1)) λam=>Y1 [am] h)) (Q (.bool true) h)
@[simp] def jN.l2(a b:a7):zG|[c],h,Y1=>jN.k1 C N Q Y1 a b c h|_,_,_=>False
@[simp] def jN.k3(e a:a7)(h:a9):=B.pv (V.aE a) λb=>B.pv (V.bin .add b (i6 12)) λc=>B.pv (V.dS 2 e none (some c)) λd=>aB (jN.l2 C N Q a d) [(i6 0)] h
@[simp] def jN.k4(a b:a7)(h:a9):=B.pv (V.aE a) λe=>B.pv (V.aE b) λc=>B.pv (V.bin .neq e c) λd=>B.cond d (Q (.bool false) h) (jN.k3 C N Q a b h)
def jN.aD:=fk C (N 258) (jN.k4 C N)
@[simp] def kW.k1(Y1:zL)(b m a:a7)(h:a9):=B.pv (V.aE b) λc=>B.pv (V.bin .lss a c) λd=>B.cond d (B.pv (V.aM 2 b a) λe=>B.cR h e 2 λf=>B.pv (V.aM 2 m a) λg=>B.cR h g 2 λi=>B.call C (N 118) [f,i] h λj h=>B.pv (V.un .not j) λk=>B.cond k (Q (.bool false) h) (B.pv (V.bin .add a (i6 1)) λl=>Y1 [l] h)) (Q (.bool true) h)
@[simp] def kW.l2(a b:a7):zG|[c],h,Y1=>kW.k1 C N Q Y1 a b c h|_,_,_=>False
@[simp] def kW.k3(a b:a7)(h:a9):=B.pv (V.aE a) λd=>B.pv (V.aE b) λe=>B.pv (V.bin .neq d e) λc=>B.cond c (Q (.bool false) h) (aB (kW.l2 C N Q a b) [(i6 0)] h)
def kW.aD:=fk C (N 263) (kW.k3 C N)
@[simp] def qP.k1(c:a7)(h:a9):=B.pv (A.ey 2 c) λa=>B.al a (B.pv (V.aF 0 a) λd=>B.call C (N 37) [d] h λe h=>B.al a (B.pv (V.cL 0 e a) λa=>B.al a (B.pv (V.aF 1 a) λf=>B.call C (N 37) [f] h λg h=>B.al a (B.pv (V.cL 1 g a) λa=>B.pv (V.bM 0 2 a) λb=>B.pv (V.bU 0 2 b (.agg [.aA,.aA])) λi=>B.pv (oneOf (cJ (V.bM 0 2 i) (some []))) λv=>Q v h))))
def qP.aD:=fy C (N 271) (qP.k1 C N)
@[simp] def qQ.k1(m n:a7)(h:a9):=B.pv (A.ey 2 m) λc=>B.pv (A.ey 2 n) λd=>B.pv (V.bM 0 2 c) λo=>B.pv (V.bM 0 2 d) λp=>B.call C (N 118) [o,p] h λb h=>B.al c (bV h b (V.aF 0 c) λe h=>B.al d (bV h b (V.aF 0 d) λf h=>dG C h b (N 39) [e,f] λg h=>B.pick b g (.bool false) λa=>B.al c (bV h a (V.aF 1 c) λi h=>B.al d (bV h a (V.aF 1 d) λj h=>dG C h a (N 39) [i,j] λk h=>B.pick a k (.bool false) λl=>Q l h))))
def qQ.aD:=fk C (N 280) (qQ.k1 C N)
@[simp] def jO.k1(Y1:zL)(b c a:a7)(h:a9):=B.pv (V.aE b) λl=>B.pv (V.bin .lss a l) λm=>B.cond m (B.pv (V.aM 2 b a) λd=>B.cR h d 2 λe=>B.call C (N 311) [e] h λf h=>B.pv (V.bU 0 2 f (.agg [.aA,.aA])) λn=>B.pv (V.bM 0 2 n) λg=>B.bL h (bN [(0,some 2,g)] (bG 1 [.aA,.aA])) λi h=>B.bO h 2 48 c (.sl i 0 0 1 2 1) λj h=>B.pv (V.bin .add a (i6 1)) λk=>Y1 [j,k] h) (Q c h)
@[simp] def jO.l2(a:a7):zG|[b,c],h,Y1=>jO.k1 C N Q Y1 a b c h|_,_,_=>False
@[simp] def jO.aY(a:a7)(h:a9)(Q:zQ):=aB (jO.l2 C N Q a) [.aA,(i6 0)] h
def jO.aD:=g9 C (N 306) (jO.aY C N)
@[simp] def lH.k1(Y1:zL)(b c a:a7)(h:a9):=B.pv (V.aE b) λj=>B.pv (V.bin .lss a j) λd=>B.cond d (B.pv (V.aM 1 b a) λe=>B.ld h e λf=>B.call C (N 312) [c,f] h λk h=>B.pv (V.bin .add a (i6 1)) λg=>Y1 [g] h) (B.call C (N 62) [c] h λi h=>Q i h)
@[simp] def lH.l2(a b:a7):zG|[c],h,Y1=>lH.k1 C N Q Y1 a b c h|_,_,_=>False
@[simp] def lH.k3(a:a7)(h:a9):=B.pv (A.cD [] [.aA,.aA,.aA,.aA,.aA,.aA,.aA,.aA,.aA,.aA,.aA,.aA,.aA,.aA,.aA,.aA,.aA,.aA,.aA,.aA,.aA,.aA,.aA]) λb=>B.bL h (A.kZ 23 b) λc h=>aB (lH.l2 C N Q a (.ptr c 0 0)) [(i6 0)] h
def lH.aD:=fy C (N 307) (lH.k3 C N)
@[simp] def qR.k1(c:a7)(h:a9):=B.pv (A.ey 2 c) λa=>B.al a (B.pv (V.aF 0 a) λd=>B.call C (N 45) [d] h λe h=>B.al a (B.pv (V.cL 0 e a) λa=>B.al a (B.pv (V.aF 1 a) λf=>B.call C (N 45) [f] h λg h=>B.al a (B.pv (V.cL 1 g a) λa=>B.pv (V.bM 0 2 a) λb=>B.pv (V.bU 0 2 b (.agg [.aA,.aA])) λi=>B.pv (oneOf (cJ (V.bM 0 2 i) (some []))) λv=>Q v h))))
def qR.aD:=fy C (N 311) (qR.k1 C N)
@[simp] def mO.k1(Y1:zL)(i b a:a7)(h:a9):=B.pv (V.aE b) λc=>B.pv (V.bin .lss a c) λd=>B.cond d (B.pv (V.aM 2 b a) λe=>B.cR h e 2 λf=>B.call C (N 315) [i,f] h λj h=>B.pv (V.bin .add a (i6 1)) λg=>Y1 [g] h) (Q (.bI []) h)
@[simp] def mO.l2(a b:a7):zG|[c],h,Y1=>mO.k1 C N Q Y1 a b c h|_,_,_=>False
@[simp] def mO.k3(a b:a7)(h:a9):=B.nilCheck a λg=>B.pv (V.fieldAddr 15 g) λi=>B.ld h i λj=>B.bL h (bN [(0,none,b)] (bG 1 [.aA])) λc h=>B.bO h 1 24 j (.sl c 0 0 1 1 1) λd h=>B.nilCheck a λe=>B.pv (V.fieldAddr 15 e) λf=>B.st h f d λh=>aB (mO.l2 C N Q a b) [(i6 0)] h
def mO.aD:=fk C (N 312) (mO.k3 C N)
@[simp] def qm.k1(b d:a7)(h:a9):=B.pv (A.ey 2 d) λa=>B.al a (B.pv (V.aF 0 a) λe=>B.call C (N 63) [b,e] h λg h=>B.al a (B.pv (V.aF 1 a) λc=>B.call C (N 63) [b,c] h λf h=>Q (.bI []) h))
def qm.aD:=fk C (N 315) (qm.k1 C N)
@[simp] def pB.k3(a:a7)(h:a9):=B.pv (V.aE a) λc=>B.pv (V.bin .add c (i6 12)) λd=>0<2 /\ B.eO h 24 (some [.str [],i6 0]) (i6 0) d λe h=>B.bO h 2 24 e a λb h=>aB (kR.l4 C 2 24 (N 108) [.str [],i6 0] 1 Q a) [b,(i6 0)] h
def pB.aD:=fy C (N 319) (pB.k3 C N)
@[simp] def mQ.k3(e a:a7)(h:a9):=B.pv (V.aE a) λb=>B.pv (V.bin .add b (i6 12)) λc=>B.pv (V.dS 2 e none (some c)) λd=>aB (mH.l4 C 2 (N 108) [.s,.i .i64] 1 Q a d) [(i6 0)] h
@[simp] def mQ.k4(a b:a7)(h:a9):=B.pv (V.aE a) λe=>B.pv (V.aE b) λc=>B.pv (V.bin .neq e c) λd=>B.cond d (Q (.bool false) h) (mQ.k3 C N Q a b h)
def mQ.aD:=fk C (N 324) (mQ.k4 C N)
@[simp] def lG.k1(Y1:zL)(b c a:a7)(h:a9):=B.pv (V.aE b) λl=>B.pv (V.bin .lss a l) λm=>B.cond m (B.pv (V.aM 4 b a) λd=>B.cR h d 4 λe=>B.call C (N 361) [e] h λf h=>B.pv (V.bU 0 4 f (.agg [.str [],i6 0,.aA,.aA])) λn=>B.pv (V.bM 0 4 n) λg=>B.bL h (bN [(0,some 4,g)] (bG 1 [.str [],i6 0,.aA,.aA])) λi h=>B.bO h 4 72 c (.sl i 0 0 1 4 1) λj h=>B.pv (V.bin .add a (i6 1)) λk=>Y1 [j,k] h) (Q c h)
@[simp] def lG.l2(a:a7):zG|[b,c],h,Y1=>lG.k1 C N Q Y1 a b c h|_,_,_=>False
@[simp] def lG.aY(a:a7)(h:a9)(Q:zQ):=aB (lG.l2 C N Q a) [.aA,(i6 0)] h
def lG.aD:=g9 C (N 354) (lG.aY C N)
@[simp] def qK.k1(c:a7)(h:a9):=B.pv (A.ey 4 c) λa=>B.al a (B.pv (V.aF 2 a) λd=>B.call C (N 368) [d] h λe h=>B.al a (B.pv (V.cL 2 e a) λa=>B.al a (B.pv (V.aF 3 a) λf=>B.call C (N 369) [f] h λg h=>B.al a (B.pv (V.cL 3 g a) λa=>B.pv (V.bM 0 4 a) λb=>B.pv (V.bU 0 4 b (.agg [.str [],i6 0,.aA,.aA])) λi=>B.pv (oneOf (cJ (V.bM 0 4 i) (some []))) λv=>Q v h))))
def qK.aD:=fy C (N 361) (qK.k1 C N)
@[simp] def qz.aY(C:aC)(N:zN)(a:a7)(h:a9)(Q:zQ):Prop:=B.bO h 2 24 .aA a λb h=>Q b h
def qz.aD:=g9 C (N 368) (qz.aY C N)
@[simp] def qx.aY(C:aC)(N:zN)(a:a7)(h:a9)(Q:zQ):Prop:=B.bO h 1 16 .aA a λb h=>Q b h
def qx.aD:=g9 C (N 369) (qx.aY C N)
@[simp] def jv.k1(Y1:zL)(k b a:a7)(h:a9):=B.pv (V.bin .lss a (i6 12)) λc=>B.cond c (B.call C (N 109) [(i6 1),a] h λd h=>B.bL h (bN [(0,some 4,d)] (bG 1 [.str [],i6 0,.aA,.aA])) λe h=>B.bO h 4 72 b (.sl e 0 0 1 4 1) λf h=>B.pv (V.bin .add a (i6 1)) λg=>Y1 [f,g] h) (B.pv (V.aE k) λi=>B.pv (V.dS 4 b none (some i)) λj=>Q j h)
@[simp] def jv.l2(a:a7):zG|[b,c],h,Y1=>jv.k1 C N Q Y1 a b c h|_,_,_=>False
@[simp] def jv.k3(Y2:zL)(a c b:a7)(h:a9):=B.pv (V.aE a) λd=>B.pv (V.bin .lss b d) λe=>B.cond e (B.pv (V.aM 4 a b) λf=>B.cR h f 4 λg=>B.call C (N 399) [g] h λi h=>B.pv (V.bU 0 4 i (.agg [.str [],i6 0,.aA,.aA])) λn=>B.pv (V.bM 0 4 n) λj=>B.bL h (bN [(0,some 4,j)] (bG 1 [.str [],i6 0,.aA,.aA])) λk h=>B.bO h 4 72 c (.sl k 0 0 1 4 1) λl h=>B.pv (V.bin .add b (i6 1)) λm=>Y2 [l,m] h) (aB (jv.l2 C N Q a) [c,(i6 0)] h)
@[simp] def jv.l4(a:a7):zG|[b,c],h,Y2=>jv.k3 C N Q Y2 a b c h|_,_,_=>False
@[simp] def jv.k5(a:a7)(h:a9):=B.pv (V.aE a) λc=>B.pv (V.bin .add c (i6 12)) λd=>0<4 /\ B.eO h 72 (some [.str [],i6 0,.aA,.aA]) (i6 0) d λb h=>aB (jv.l4 C N Q a) [b,(i6 0)] h
def jv.aD:=fy C (N 391) (jv.k5 C N)
@[simp] def kj.k1(Y1:zL)(e g d:a7)(h:a9):=B.pv (V.aE g) λi=>B.pv (V.bin .lss d i) λj=>B.cond j (B.pv (V.aE e) λk=>B.pv (V.bin .lss d k) λb=>B.gd h b true (λK=>K g h) λl h=>B.gd h b true (λK=>K d h) λm h=>bD h b (V.aM 4 l m) λn h=>B.gd h b true (λK=>B.cR h n 4 λv=>K v h) λo h=>B.gd h b true (λK=>K e h) λp h=>B.gd h b true (λK=>K d h) λq h=>bD h b (V.aM 4 p q) λr h=>B.gd h b true (λK=>B.cR h r 4 λv=>K v h) λs h=>dG C h b (N 400) [o,s] λt h=>bD h b (V.un .not t) λu h=>B.pick b u (.bool false) λc=>B.gd h c false (λK=>K d h) λw h=>B.gd h c false (λK=>K e h) λx h=>bH h c (V.aE x) λy h=>bH h c (V.bin .geq w y) λz h=>B.gd h c false (λK=>K z h) λa h=>B.gd h a true (λK=>K g h) λL h=>B.gd h a true (λK=>K d h) λJ h=>bD h a (V.aM 4 L J) λf h=>B.gd h a true (λK=>B.cR h f 4 λv=>K v h) λac h=>B.gd h a true (λK=>K d h) λad h=>B.gd h a true (λK=>K e h) λI h=>bD h a (V.aE I) λH h=>bD h a (V.bin .sub ad H) λG h=>B.gd h a true (λK=>B.call C (N 109) [(i6 1),G] h (B.jV h [(f,some 4)] K)) λF h=>dG C h a (N 110) [ac,F] λE h=>bD h a (V.un .not E) λD h=>B.gd h c false (λK=>B.pick a D (.bool false) λv=>K v h) λA h=>B.pick c (.bool true) A λal=>B.cond al (Q (.bool false) h) (B.pv (V.bin .add d (i6 1)) λam=>Y1 [am] h)) (Q (.bool true) h)
@[simp] def kj.l2(a b:a7):zG|[c],h,Y1=>kj.k1 C N Q Y1 a b c h|_,_,_=>False
@[simp] def kj.k3(e a:a7)(h:a9):=B.pv (V.aE a) λb=>B.pv (V.bin .add b (i6 12)) λc=>B.pv (V.dS 4 e none (some c)) λd=>aB (kj.l2 C N Q a d) [(i6 0)] h
@[simp] def kj.k4(a b:a7)(h:a9):=B.pv (V.aE a) λe=>B.pv (V.aE b) λc=>B.pv (V.bin .neq e c) λd=>B.cond d (Q (.bool false) h) (kj.k3 C N Q a b h)
def kj.aD:=fk C (N 392) (kj.k4 C N)
@[simp] def jj.k1(Y1:zL)(b a:a7)(h:a9):=B.pv (V.aE b) λc=>B.pv (V.bin .lss a c) λd=>B.cond d (B.call C (N 109) [(i6 2),a] h λe h=>B.pv (V.aM 4 b a) λf=>B.gp h f 4 e λh=>B.pv (V.bin .add a (i6 1)) λg=>Y1 [g] h) (Q (.bI []) h)
@[simp] def jj.l2(a:a7):zG|[b],h,Y1=>jj.k1 C N Q Y1 a b h|_,_,_=>False
@[simp] def jj.k3(a:a7)(h:a9):=B.pv (V.aE a) λb=>B.pv (V.bin .add b (i6 12)) λc=>B.pv (V.dS 4 a none (some c)) λd=>aB (jj.l2 C N Q d) [(i6 0)] h
@[simp] def jj.k4(Y2:zL)(a b:a7)(h:a9):=B.pv (V.aE a) λf=>B.pv (V.bin .lss b f) λg=>B.cond g (B.pv (V.aM 4 a b) λc=>B.cR h c 4 λd=>B.call C (N 401) [d] h λi h=>B.pv (V.bin .add b (i6 1)) λe=>Y2 [e] h) (jj.k3 C N Q a h)
@[simp] def jj.l5(a:a7):zG|[b],h,Y2=>jj.k4 C N Q Y2 a b h|_,_,_=>False
@[simp] def jj.aY(a:a7)(h:a9)(Q:zQ):=aB (jj.l5 C N Q a) [(i6 0)] h
def jj.aD:=g9 C (N 393) (jj.aY C N)
@[simp] def qG.k1(c:a7)(h:a9):=B.pv (A.ey 4 c) λa=>B.al a (B.pv (V.aF 2 a) λd=>B.call C (N 319) [d] h λe h=>B.al a (B.pv (V.cL 2 e a) λa=>B.al a (B.pv (V.aF 3 a) λf=>B.call C (N 406) [f] h λg h=>B.al a (B.pv (V.cL 3 g a) λa=>B.pv (V.bM 0 4 a) λb=>B.pv (V.bU 0 4 b (.agg [.str [],i6 0,.aA,.aA])) λi=>B.pv (oneOf (cJ (V.bM 0 4 i) (some []))) λv=>Q v h))))
def qG.aD:=fy C (N 399) (qG.k1 C N)
@[simp] def qI.k1(m n:a7)(h:a9):=B.pv (A.ey 4 m) λc=>B.pv (A.ey 4 n) λd=>B.pv (V.bM 0 4 c) λo=>B.pv (V.bM 0 4 d) λp=>B.call C (N 110) [o,p] h λb h=>B.al c (bV h b (V.aF 2 c) λe h=>B.al d (bV h b (V.aF 2 d) λf h=>dG C h b (N 324) [e,f] λg h=>B.pick b g (.bool false) λa=>B.al c (bV h a (V.aF 3 c) λi h=>B.al d (bV h a (V.aF 3 d) λj h=>dG C h a (N 407) [i,j] λk h=>B.pick a k (.bool false) λl=>Q l h))))
def qI.aD:=fk C (N 400) (qI.k1 C N)
@[simp] def qE.k1(b:a7)(h:a9):=B.pv (A.ey 4 b) λa=>B.al a (B.pv (V.aF 2 a) λc=>B.call C (N 408) [c] h λe h=>B.al a (B.pv (V.aF 3 a) λd=>B.call C (N 409) [d] h λf h=>Q (.bI []) h))
def qE.aD:=fy C (N 401) (qE.k1 C N)
@[simp] def tX.k1(C:aC)(N:zN)(Q:zQ)(a f:a7)(h:a9):=B.nilCheck a λg=>B.pv (V.fieldAddr 3 g) λi=>B.ld h i λj=>B.bL h (bN [(0,none,f)] (bG 1 [.aA])) λb h=>B.bO h 1 24 j (.sl b 0 0 1 1 1) λc h=>B.nilCheck a λd=>B.pv (V.fieldAddr 3 d) λe=>B.st h e c λh=>Q (.bI []) h
def tX.aD:=fk C (N 405) (tX.k1 C N)
@[simp] def pA.k3(a:a7)(h:a9):=B.pv (V.aE a) λc=>B.pv (V.bin .add c (i6 12)) λd=>0<1 /\ B.eO h 16 (some [.str []]) (i6 0) d λe h=>B.bO h 1 16 e a λb h=>aB (oX.l4 C 16 (N 106) (.str []) 1 Q a) [b,(i6 0)] h
def pA.aD:=fy C (N 406) (pA.k3 C N)
@[simp] def mP.k3(e a:a7)(h:a9):=B.pv (V.aE a) λb=>B.pv (V.bin .add b (i6 12)) λc=>B.pv (V.dS 1 e none (some c)) λd=>aB (rn.l4 C (N 106) 1 Q a d) [(i6 0)] h
@[simp] def mP.k4(a b:a7)(h:a9):=B.pv (V.aE a) λe=>B.pv (V.aE b) λc=>B.pv (V.bin .neq e c) λd=>B.cond d (Q (.bool false) h) (mP.k3 C N Q a b h)
def mP.aD:=fk C (N 407) (mP.k4 C N)
@[simp] def qs.k3(a:a7)(h:a9):=B.pv (V.aE a) λb=>B.pv (V.bin .add b (i6 12)) λc=>B.pv (V.dS 2 a none (some c)) λd=>aB (jH.l3 C 2 (N 108) (λh p v K=>B.gp h p 2 v K) 2 Q d) [(i6 0)] h
def qs.aD:=fy C (N 408) (qs.k3 C N)
@[simp] def qp.k3(a:a7)(h:a9):=B.pv (V.aE a) λb=>B.pv (V.bin .add b (i6 12)) λc=>B.pv (V.dS 1 a none (some c)) λd=>aB (jH.l3 C 1 (N 106) (λh p v K=>B.st h p v K) 2 Q d) [(i6 0)] h
def qp.aD:=fy C (N 409) (qp.k3 C N)
@[simp] def qy.k1(e:a7)(h:a9):=B.pv (A.ey 6 e) λa=>B.al a (B.pv (V.aF 3 a) λf=>B.call C (N 354) [f] h λg h=>B.al a (B.pv (V.cL 3 g a) λa=>B.al a (B.pv (V.aF 4 a) λi=>B.call C (N 229) [i] h λj h=>B.al a (B.pv (V.cL 4 j a) λa=>B.al a (B.pv (V.aF 5 a) λb=>B.call C (N 437) [b] h λc h=>B.al a (B.pv (V.cL 5 c a) λa=>B.pv (V.bM 0 6 a) λd=>B.pv (V.bU 0 6 d (.agg [i6 0,i6 0,i6 0,.aA,.aA,.aA])) λk=>B.pv (oneOf (cJ (V.bM 0 6 k) (some []))) λv=>Q v h))))))
def qy.aD:=fy C (N 420) (qy.k1 C N)
@[simp] def q7.aY(C:aC)(N:zN)(a:a7)(h:a9)(Q:zQ):Prop:=B.bO h 8 80 .aA a λb h=>Q b h
def q7.aD:=g9 C (N 437) (q7.aY C N)
@[simp] def qv.k1(e:a7)(h:a9):=B.pv (A.ey 6 e) λa=>B.al a (B.pv (V.aF 3 a) λf=>B.call C (N 391) [f] h λg h=>B.al a (B.pv (V.cL 3 g a) λa=>B.al a (B.pv (V.aF 4 a) λi=>B.call C (N 48) [i] h λj h=>B.al a (B.pv (V.cL 4 j a) λa=>B.al a (B.pv (V.aF 5 a) λb=>B.call C (N 186) [b] h λc h=>B.al a (B.pv (V.cL 5 c a) λa=>B.pv (V.bM 0 6 a) λd=>B.pv (V.bU 0 6 d (.agg [i6 0,i6 0,i6 0,.aA,.aA,.aA])) λk=>B.pv (oneOf (cJ (V.bM 0 6 k) (some []))) λv=>Q v h))))))
def qv.aD:=fy C (N 446) (qv.k1 C N)
@[simp] def qw.k1(q r:a7)(h:a9):=B.pv (A.ey 6 q) λc=>B.pv (A.ey 6 r) λd=>B.pv (V.bM 0 6 c) λs=>B.pv (V.bM 0 6 d) λt=>B.call C (N 116) [s,t] h λe h=>B.al c (bV h e (V.aF 3 c) λf h=>B.al d (bV h e (V.aF 3 d) λg h=>dG C h e (N 392) [f,g] λi h=>B.pick e i (.bool false) λa=>B.al c (bV h a (V.aF 4 c) λj h=>B.al d (bV h a (V.aF 4 d) λk h=>dG C h a (N 54) [j,k] λl h=>B.pick a l (.bool false) λb=>B.al c (bV h b (V.aF 5 c) λm h=>B.al d (bV h b (V.aF 5 d) λn h=>dG C h b (N 189) [m,n] λo h=>B.pick b o (.bool false) λp=>Q p h))))))
def qw.aD:=fk C (N 447) (qw.k1 C N)
@[simp] def qq.k1(b:a7)(h:a9):=B.pv (A.ey 6 b) λa=>B.al a (B.pv (V.aF 3 a) λc=>B.call C (N 393) [c] h λg h=>B.al a (B.pv (V.aF 4 a) λd=>B.call C (N 56) [d] h λi h=>B.al a (B.pv (V.aF 5 a) λe=>B.call C (N 190) [e] h λf h=>Q (.bI []) h)))
def qq.aD:=fy C (N 448) (qq.k1 C N)
@[simp] def iW.k1(Y1:zL)(b a:a7)(h:a9):=B.pv (V.aE b) λc=>B.pv (V.bin .lss a c) λd=>B.cond d (B.call C (N 117) [(i6 2),a] h λe h=>B.pv (V.aM 2 b a) λf=>B.gp h f 2 e λh=>B.pv (V.bin .add a (i6 1)) λg=>Y1 [g] h) (Q (.bI []) h)
@[simp] def iW.l2(a:a7):zG|[b],h,Y1=>iW.k1 C N Q Y1 a b h|_,_,_=>False
@[simp] def iW.k3(a:a7)(h:a9):=B.pv (V.aE a) λb=>B.pv (V.bin .add b (i6 12)) λc=>B.pv (V.dS 2 a none (some c)) λd=>aB (iW.l2 C N Q d) [(i6 0)] h
@[simp] def iW.k4(Y2:zL)(a b:a7)(h:a9):=B.pv (V.aE a) λf=>B.pv (V.bin .lss b f) λg=>B.cond g (B.pv (V.aM 2 a b) λc=>B.cR h c 2 λd=>B.call C (N 468) [d] h λi h=>B.pv (V.bin .add b (i6 1)) λe=>Y2 [e] h) (iW.k3 C N Q a h)
@[simp] def iW.l5(a:a7):zG|[b],h,Y2=>iW.k4 C N Q Y2 a b h|_,_,_=>False
@[simp] def iW.aY(a:a7)(h:a9)(Q:zQ):=aB (iW.l5 C N Q a) [(i6 0)] h
def iW.aD:=g9 C (N 451) (iW.aY C N)
@[simp] def ns.k1(Y1:zL)(b c a:a7)(h:a9):=B.pv (V.aE b) λj=>B.pv (V.bin .lss a j) λd=>B.cond d (B.pv (V.aM 1 b a) λe=>B.ld h e λf=>B.call C (N 470) [c,f] h λk h=>B.pv (V.bin .add a (i6 1)) λg=>Y1 [g] h) (B.call C (N 62) [c] h λi h=>Q i h)
@[simp] def ns.l2(a b:a7):zG|[c],h,Y1=>ns.k1 C N Q Y1 a b c h|_,_,_=>False
@[simp] def ns.k3(a:a7)(h:a9):=B.pv (A.cD [] [.aA,.aA,.aA,.aA,.aA,.aA,.aA,.aA,.aA,.aA,.aA,.aA,.aA,.aA,.aA,.aA,.aA,.aA,.aA,.aA,.aA,.aA,.aA]) λb=>B.bL h (A.kZ 23 b) λc h=>aB (ns.l2 C N Q a (.ptr c 0 0)) [(i6 0)] h
def ns.aD:=fy C (N 453) (ns.k3 C N)
@[simp] def qO.k1(b:a7)(h:a9):=B.pv (A.ey 2 b) λa=>B.al a (B.pv (V.aF 0 a) λc=>B.call C (N 40) [c] h λe h=>B.al a (B.pv (V.aF 1 a) λd=>B.call C (N 40) [d] h λf h=>Q (.bI []) h))
def qO.aD:=fy C (N 468) (qO.k1 C N)
@[simp] def om.k1(Y1:zL)(i b a:a7)(h:a9):=B.pv (V.aE b) λc=>B.pv (V.bin .lss a c) λd=>B.cond d (B.pv (V.aM 6 b a) λe=>B.cR h e 6 λf=>B.call C (N 473) [i,f] h λj h=>B.pv (V.bin .add a (i6 1)) λg=>Y1 [g] h) (Q (.bI []) h)
@[simp] def om.l2(a b:a7):zG|[c],h,Y1=>om.k1 C N Q Y1 a b c h|_,_,_=>False
@[simp] def om.k3(a b:a7)(h:a9):=B.nilCheck a λg=>B.pv (V.fieldAddr 14 g) λi=>B.ld h i λj=>B.bL h (bN [(0,none,b)] (bG 1 [.aA])) λc h=>B.bO h 1 24 j (.sl c 0 0 1 1 1) λd h=>B.nilCheck a λe=>B.pv (V.fieldAddr 14 e) λf=>B.st h f d λh=>aB (om.l2 C N Q a b) [(i6 0)] h
def om.aD:=fk C (N 470) (om.k3 C N)
@[simp] def ub.k1(b e:a7)(h:a9):=B.pv (A.ey 6 e) λa=>B.al a (B.pv (V.aF 3 a) λf=>B.call C (N 475) [b,f] h λj h=>B.al a (B.pv (V.aF 4 a) λc=>B.call C (N 130) [b,c] h λg h=>B.al a (B.pv (V.aF 5 a) λd=>B.call C (N 207) [b,d] h λi h=>Q (.bI []) h)))
def ub.aD:=fk C (N 473) (ub.k1 C N)
@[simp] def ot.k1(Y1:zL)(i b a:a7)(h:a9):=B.pv (V.aE b) λc=>B.pv (V.bin .lss a c) λd=>B.cond d (B.pv (V.aM 4 b a) λe=>B.cR h e 4 λf=>B.call C (N 480) [i,f] h λj h=>B.pv (V.bin .add a (i6 1)) λg=>Y1 [g] h) (Q (.bI []) h)
@[simp] def ot.l2(a b:a7):zG|[c],h,Y1=>ot.k1 C N Q Y1 a b c h|_,_,_=>False
@[simp] def ot.k3(a b:a7)(h:a9):=B.nilCheck a λg=>B.pv (V.fieldAddr 10 g) λi=>B.ld h i λj=>B.bL h (bN [(0,none,b)] (bG 1 [.aA])) λc h=>B.bO h 1 24 j (.sl c 0 0 1 1 1) λd h=>B.nilCheck a λe=>B.pv (V.fieldAddr 10 e) λf=>B.st h f d λh=>aB (ot.l2 C N Q a b) [(i6 0)] h
def ot.aD:=fk C (N 475) (ot.k3 C N)
@[simp] def uf.k1(b d:a7)(h:a9):=B.pv (A.ey 4 d) λa=>B.al a (B.pv (V.aF 2 a) λe=>B.call C (N 481) [b,e] h λg h=>B.al a (B.pv (V.aF 3 a) λc=>B.call C (N 405) [b,c] h λf h=>Q (.bI []) h))
def uf.aD:=fk C (N 480) (uf.k1 C N)
@[simp] def tY.k1(C:aC)(N:zN)(Q:zQ)(a f:a7)(h:a9):=B.nilCheck a λg=>B.pv (V.fieldAddr 9 g) λi=>B.ld h i λj=>B.bL h (bN [(0,none,f)] (bG 1 [.aA])) λb h=>B.bO h 1 24 j (.sl b 0 0 1 1 1) λc h=>B.nilCheck a λd=>B.pv (V.fieldAddr 9 d) λe=>B.st h e c λh=>Q (.bI []) h
def tY.aD:=fk C (N 481) (tY.k1 C N)
end Go.Ab
namespace Go.Ab
open List
variable{C:aC}{N:zN}
@[irreducible] def mark(k i:Int):Int:=IntKind.i64.wrap (IntKind.i64.wrap (1000003*IntKind.i64.wrap (k+7))+i)
def lL.Spec(C:aC)(N:zN):Prop:=∀(k i:Int)(h:a9)(Q:zQ),Q (.int .i64 (mark k i)) h->C (N 20) [.int .i64 k,.int .i64 i] h Q
theorem lL.spec(i:lL.aD C N):lL.Spec C N:=by
 intro k j h Q a;apply i;simp +contextual -dsimp;unfold mark at a;exact aR a
structure LL where
 x:a7
 n:Nat
 xs:Nat->a7
 D:Nat->List (List a7)
 R:Nat->List (List a7)
 W:List (List a7)
def LL.gy(es:Nat)(t:LL):List Ob:=cS es t.n t.xs t.D t.R
structure LL.ok(t:LL)(h0:a9):Prop where
 is:aJ h0 1 t.x (fx t.n λj=>[t.xs j]) t.W
 nn:t.n <= 100000000
 nL:∀j,j<t.n->(t.D j).length <= 100000000
def jm(C:aC)(es g:Nat):Prop:=∀(t:LL)(h0 h:a9)(Q:zQ),t.ok h0->aG h0 h (t.gy es)->(∀h',h0.le h'->Q (.bool true) h')->C g [t.x] h Q
def cH(C:aC)(g:Nat):Prop:=∀(x:a7)(W:List (List a7))(h0 h:a9)(Q:zQ),aJ h0 1 x [] W->h0.le h->(∀h',h0.le h'->Q (.bool true) h')->C g [x] h Q
def xr(k i:Int):bZ:=⟨mark k i,[],0,0,0,false⟩
def nA.Spec(C:aC)(N:zN):Prop:=∀(k i:Int)(h:a9)(Q:zQ),Q (.agg (xr k i).cs) h->C (N 77) [.int .i64 k,.int .i64 i] h Q
theorem nA.spec(i:nA.aD C N)(s1:lL.Spec C N):nA.Spec C N:=by
 intro k j h Q a;apply i;simp +contextual -dsimp;refine s1 _ _ _ _ ?_;simp +contextual -dsimp;exact aR a
abbrev uv:List (List a7):=marks yS (xr 1) 12
def ow.Spec(C:aC)(N:zN):Prop:=∀(x y:a7)(L M:List bZ)(R S:List (List a7))(h:a9)(Q:zQ),aJ h 6 x (L.map bZ.cs) R->aJ h 6 y (M.map bZ.cs) S->L.length<4611686018427387904->Q (.bool (decide (L=M))) h->C (N 74) [x,y] h Q
theorem ow.spec(i:ow.aD C N):ow.Spec C N:=λx y L M R S h Q hx a hlen b=>i x y h Q (zO yS hx a hlen (aR b))
def ox.Spec(C:aC)(N:zN):Prop:=∀(x:a7)(L:List bZ)(R:List (List a7))(h:a9)(Q:zQ),aJ h 6 x (L.map bZ.cs) R->L.length <= 100000000->(∀a h',aG h h' [.sl 6 a (L.map bZ.cs) uv]->Q a h')->C (N 48) [x] h Q
theorem ox.spec(i:ox.aD C N)(s1:nA.Spec C N):ox.Spec C N:=λx L R h Q hx hlen b=>i x h Q (zT yS (z:=[.int .i64 0,.str [],.int .i64 0,.int .i64 0,.int .i64 0,.bool false]) (m:=1) (mk:=xr 1) rfl (by omega) (s1 1) hx hlen λa h' c=>aR (b a h' c))
def mq.Spec(C:aC)(N:zN):Prop:=∀(x y:a7)(L M:List bZ)(R:List (List a7))(h:a9)(Q:zQ),aJ h 6 x (L.map bZ.cs) uv->aJ h 6 y (M.map bZ.cs) R->L.length <= 100000000->Q (.bool (decide (L=M))) h->C (N 54) [x,y] h Q
theorem mq.spec(i:mq.aD C N)(s1:nA.Spec C N):mq.Spec C N:=λx y L M R h Q hx a hlen b=>i x y h Q (zV yS (m:=1) (mk:=xr 1) (s1 1) hx a hlen (aR b))
def pF.Spec(C:aC)(N:zN):Prop:=∀(h0 h:a9)(x:a7)(L R:List (List a7))(Q:zQ),aG h0 h [.sl 6 x L R]->R.length=12->L.length <= 100000000->(∀h',h0.le h'->Q (.bI []) h')->C (N 56) [x] h Q
theorem pF.spec(i:pF.aD C N)(s1:nA.Spec C N):pF.Spec C N:=λh0 h x L R Q a c hlen b=>i x h Q (ya (es:=6) (st:=λh p v K=>B.gp h p 6 v K) (by omega) (v:=λi=> .agg (xr 2 i).cs) (s1 2) (λ{_ _ _ _ _ _ k _} a hi d=>A1 (xs:=(xr 2 k).cs) rfl a hi d) a c hlen λh' hle=>aR (b h' hle))
def qJ.Spec(C:aC)(N:zN):Prop:=∀(x:a7)(L:List bZ)(R:List (List a7))(h:a9)(Q:zQ),aJ h 6 x (L.map bZ.cs) R->L.length <= 100000000->(∀a h',aG h h' [.sl 6 a (L.map bZ.cs) []]->Q a h')->C (N 229) [x] h Q
theorem qJ.spec(i:qJ.aD C N):qJ.Spec C N:=λx L R h Q hx hlen b=>i x h Q (Am (by omega) (by omega) hx (by simpa using hlen) λa h' c=>aR (b a h' c))
theorem fg.spec(i:fg.aD C N)(s1:nA.Spec C N):jm C 6 (N 86):=λt h0 h Q a c b=>i t.x h Q (vW (BG yS (bytes:=56) (z:=[.int .i64 0,.str [],.int .i64 0,.int .i64 0,.int .i64 0,.bool false]) rfl (by omega) s1) a.is c a.nn a.nL λh' hle=>aR (b h' hle))
def xq(k i:Int):fA:=⟨0,mark k i,0⟩
def n8.Spec(C:aC)(N:zN):Prop:=∀(k i:Int)(h:a9)(Q:zQ),Q (.agg (xq k i).cs) h->C (N 78) [.int .i64 k,.int .i64 i] h Q
theorem n8.spec(i:n8.aD C N)(s1:lL.Spec C N):n8.Spec C N:=by
 intro k j h Q a;apply i;simp +contextual -dsimp;refine s1 _ _ _ _ ?_;simp +contextual -dsimp;exact aR a
abbrev yi:List (List a7):=marks yP (xq 1) 12
def pE.Spec(C:aC)(N:zN):Prop:=∀(x y:a7)(L M:List fA)(R S:List (List a7))(h:a9)(Q:zQ),aJ h 3 x (L.map fA.cs) R->aJ h 3 y (M.map fA.cs) S->L.length<4611686018427387904->Q (.bool (decide (L=M))) h->C (N 75) [x,y] h Q
theorem pE.spec(i:pE.aD C N):pE.Spec C N:=λx y L M R S h Q hx a hlen b=>i x y h Q (zO yP hx a hlen (aR b))
def pG.Spec(C:aC)(N:zN):Prop:=∀(x:a7)(L:List fA)(R:List (List a7))(h:a9)(Q:zQ),aJ h 3 x (L.map fA.cs) R->L.length <= 100000000->(∀a h',aG h h' [.sl 3 a (L.map fA.cs) yi]->Q a h')->C (N 49) [x] h Q
theorem pG.spec(i:pG.aD C N)(s1:n8.Spec C N):pG.Spec C N:=λx L R h Q hx hlen b=>i x h Q (zT yP (z:=[.int .i64 0,.int .i64 0,.int .i64 0]) (m:=1) (mk:=xq 1) rfl (by omega) (s1 1) hx hlen λa h' c=>aR (b a h' c))
def nb.Spec(C:aC)(N:zN):Prop:=∀(x y:a7)(L M:List fA)(R:List (List a7))(h:a9)(Q:zQ),aJ h 3 x (L.map fA.cs) yi->aJ h 3 y (M.map fA.cs) R->L.length <= 100000000->Q (.bool (decide (L=M))) h->C (N 55) [x,y] h Q
theorem nb.spec(i:nb.aD C N)(s1:n8.Spec C N):nb.Spec C N:=λx y L M R h Q hx a hlen b=>i x y h Q (zV yP (m:=1) (mk:=xq 1) (s1 1) hx a hlen (aR b))
def qC.Spec(C:aC)(N:zN):Prop:=∀(h0 h:a9)(x:a7)(L R:List (List a7))(Q:zQ),aG h0 h [.sl 3 x L R]->R.length=12->L.length <= 100000000->(∀h',h0.le h'->Q (.bI []) h')->C (N 57) [x] h Q
theorem qC.spec(i:qC.aD C N)(s1:n8.Spec C N):qC.Spec C N:=λh0 h x L R Q a c hlen b=>i x h Q (ya (es:=3) (st:=λh p v K=>B.gp h p 3 v K) (by omega) (v:=λi=> .agg (xq 2 i).cs) (s1 2) (λ{_ _ _ _ _ _ k _} a hi d=>A1 (xs:=(xq 2 k).cs) rfl a hi d) a c hlen λh' hle=>aR (b h' hle))
theorem fe.spec(i:fe.aD C N)(s1:n8.Spec C N):jm C 3 (N 88):=λt h0 h Q a c b=>i t.x h Q (vW (BG yP (bytes:=24) (z:=[.int .i64 0,.int .i64 0,.int .i64 0]) rfl (by omega) s1) a.is c a.nn a.nL λh' hle=>aR (b h' hle))
def xi(k i:Int):Part:=⟨[],mark k i⟩
def nz.Spec(C:aC)(N:zN):Prop:=∀(k i:Int)(h:a9)(Q:zQ),Q (.agg (xi k i).cs) h->C (N 108) [.int .i64 k,.int .i64 i] h Q
theorem nz.spec(i:nz.aD C N)(s1:lL.Spec C N):nz.Spec C N:=by
 intro k j h Q a;apply i;simp +contextual -dsimp;refine s1 _ _ _ _ ?_;simp +contextual -dsimp;exact aR a
abbrev wa:List (List a7):=marks yI (xi 1) 12
def pt.Spec(C:aC)(N:zN):Prop:=∀(x y:a7)(L M:List Part)(R S:List (List a7))(h:a9)(Q:zQ),aJ h 2 x (L.map Part.cs) R->aJ h 2 y (M.map Part.cs) S->L.length<4611686018427387904->Q (.bool (decide (L=M))) h->C (N 132) [x,y] h Q
theorem pt.spec(i:pt.aD C N):pt.Spec C N:=λx y L M R S h Q hx a hlen b=>i x y h Q (zO yI hx a hlen (aR b))
def pB.Spec(C:aC)(N:zN):Prop:=∀(x:a7)(L:List Part)(R:List (List a7))(h:a9)(Q:zQ),aJ h 2 x (L.map Part.cs) R->L.length <= 100000000->(∀a h',aG h h' [.sl 2 a (L.map Part.cs) wa]->Q a h')->C (N 319) [x] h Q
theorem pB.spec(i:pB.aD C N)(s1:nz.Spec C N):pB.Spec C N:=λx L R h Q hx hlen b=>i x h Q (zT yI (z:=[.str [],.int .i64 0]) (m:=1) (mk:=xi 1) rfl (by omega) (s1 1) hx hlen λa h' c=>aR (b a h' c))
def mQ.Spec(C:aC)(N:zN):Prop:=∀(x y:a7)(L M:List Part)(R:List (List a7))(h:a9)(Q:zQ),aJ h 2 x (L.map Part.cs) wa->aJ h 2 y (M.map Part.cs) R->L.length <= 100000000->Q (.bool (decide (L=M))) h->C (N 324) [x,y] h Q
theorem mQ.spec(i:mQ.aD C N)(s1:nz.Spec C N):mQ.Spec C N:=λx y L M R h Q hx a hlen b=>i x y h Q (zV yI (m:=1) (mk:=xi 1) (s1 1) hx a hlen (aR b))
def qs.Spec(C:aC)(N:zN):Prop:=∀(h0 h:a9)(x:a7)(L R:List (List a7))(Q:zQ),aG h0 h [.sl 2 x L R]->R.length=12->L.length <= 100000000->(∀h',h0.le h'->Q (.bI []) h')->C (N 408) [x] h Q
theorem qs.spec(i:qs.aD C N)(s1:nz.Spec C N):qs.Spec C N:=λh0 h x L R Q a c hlen b=>i x h Q (ya (es:=2) (st:=λh p v K=>B.gp h p 2 v K) (by omega) (v:=λi=> .agg (xi 2 i).cs) (s1 2) (λ{_ _ _ _ _ _ k _} a hi d=>A1 (xs:=(xi 2 k).cs) rfl a hi d) a c hlen λh' hle=>aR (b h' hle))
def qz.Spec(C:aC)(N:zN):Prop:=∀(x:a7)(L:List Part)(R:List (List a7))(h:a9)(Q:zQ),aJ h 2 x (L.map Part.cs) R->L.length <= 100000000->(∀a h',aG h h' [.sl 2 a (L.map Part.cs) []]->Q a h')->C (N 368) [x] h Q
theorem qz.spec(i:qz.aD C N):qz.Spec C N:=λx L R h Q hx hlen b=>i x h Q (Am (by omega) (by omega) hx (by simpa using hlen) λa h' c=>aR (b a h' c))
theorem eX.spec(i:eX.aD C N)(s1:nz.Spec C N):jm C 2 (N 89):=λt h0 h Q a c b=>i t.x h Q (vW (BG yI (bytes:=24) (z:=[.str [],.int .i64 0]) rfl (by omega) s1) a.is c a.nn a.nL λh' hle=>aR (b h' hle))
def xj(k i:Int):dC:=⟨mark k i,[],0,0,0,0,0,[]⟩
def n5.Spec(C:aC)(N:zN):Prop:=∀(k i:Int)(h:a9)(Q:zQ),Q (.agg (xj k i).cs) h->C (N 111) [.int .i64 k,.int .i64 i] h Q
theorem n5.spec(i:n5.aD C N)(s1:lL.Spec C N):n5.Spec C N:=by
 intro k j h Q a;apply i;simp +contextual -dsimp;refine s1 _ _ _ _ ?_;simp +contextual -dsimp;exact aR a
abbrev xe:List (List a7):=marks yL (xj 1) 12
def py.Spec(C:aC)(N:zN):Prop:=∀(x y:a7)(L M:List dC)(R S:List (List a7))(h:a9)(Q:zQ),aJ h 8 x (L.map dC.cs) R->aJ h 8 y (M.map dC.cs) S->L.length<4611686018427387904->Q (.bool (decide (L=M))) h->C (N 135) [x,y] h Q
theorem py.spec(i:py.aD C N):py.Spec C N:=λx y L M R S h Q hx a hlen b=>i x y h Q (zO yL hx a hlen (aR b))
def pC.Spec(C:aC)(N:zN):Prop:=∀(x:a7)(L:List dC)(R:List (List a7))(h:a9)(Q:zQ),aJ h 8 x (L.map dC.cs) R->L.length <= 100000000->(∀a h',aG h h' [.sl 8 a (L.map dC.cs) xe]->Q a h')->C (N 186) [x] h Q
theorem pC.spec(i:pC.aD C N)(s1:n5.Spec C N):pC.Spec C N:=λx L R h Q hx hlen b=>i x h Q (zT yL (z:=[.int .i64 0,.str [],.int .i64 0,.int .i64 0,.int .i64 0,.int .u8 0,.int .i64 0,.str []]) (m:=1) (mk:=xj 1) rfl (by omega) (s1 1) hx hlen λa h' c=>aR (b a h' c))
def mR.Spec(C:aC)(N:zN):Prop:=∀(x y:a7)(L M:List dC)(R:List (List a7))(h:a9)(Q:zQ),aJ h 8 x (L.map dC.cs) xe->aJ h 8 y (M.map dC.cs) R->L.length <= 100000000->Q (.bool (decide (L=M))) h->C (N 189) [x,y] h Q
theorem mR.spec(i:mR.aD C N)(s1:n5.Spec C N):mR.Spec C N:=λx y L M R h Q hx a hlen b=>i x y h Q (zV yL (m:=1) (mk:=xj 1) (s1 1) hx a hlen (aR b))
def qt.Spec(C:aC)(N:zN):Prop:=∀(h0 h:a9)(x:a7)(L R:List (List a7))(Q:zQ),aG h0 h [.sl 8 x L R]->R.length=12->L.length <= 100000000->(∀h',h0.le h'->Q (.bI []) h')->C (N 190) [x] h Q
theorem qt.spec(i:qt.aD C N)(s1:n5.Spec C N):qt.Spec C N:=λh0 h x L R Q a c hlen b=>i x h Q (ya (es:=8) (st:=λh p v K=>B.gp h p 8 v K) (by omega) (v:=λi=> .agg (xj 2 i).cs) (s1 2) (λ{_ _ _ _ _ _ k _} a hi d=>A1 (xs:=(xj 2 k).cs) rfl a hi d) a c hlen λh' hle=>aR (b h' hle))
theorem eY.spec(i:eY.aD C N)(s1:n5.Spec C N):jm C 8 (N 91):=λt h0 h Q a c b=>i t.x h Q (vW (BG yL (bytes:=80) (z:=[.int .i64 0,.str [],.int .i64 0,.int .i64 0,.int .i64 0,.int .u8 0,.int .i64 0,.str []]) rfl (by omega) s1) a.is c a.nn a.nL λh' hle=>aR (b h' hle))
@[irreducible] def nF(k i:Int):UInt8:=dN ((IntKind.u64.wrap (IntKind.u64.wrap (mark k i)*11400714819323198485)).fdiv (2 ^ 56))
def na.Spec(C:aC)(N:zN):Prop:=∀(k i:Int)(h:a9)(Q:zQ),Q (.int .u8 ((nF k i).toNat:Int)) h->C (N 64) [.int .i64 k,.int .i64 i] h Q
theorem na.spec(i:na.aD C N)(s1:lL.Spec C N):na.Spec C N:=by
 intro k j h Q a;apply i;simp +contextual -dsimp;refine s1 _ _ _ _ ?_;unfold nF at a;simp +contextual -dsimp[wz (k:= .u64) (j:= .u64) (b:=56) (by omega) (by simp[IntKind.bits]),mz];exact aR a
abbrev GD:List (List a7):=jG bS (nF 1) 12
@[irreducible] def wi(k i:Int):List UInt8:=[35,dN k,dN (k.fdiv 256),dN (k.fdiv 65536),47,dN i,dN (i.fdiv 256),dN (i.fdiv 65536)]
def ny.Spec(C:aC)(N:zN):Prop:=∀(k i:Int)(h:a9)(Q:zQ),Q (.str (wi k i)) h->C (N 106) [.int .i64 k,.int .i64 i] h Q
theorem ny.spec(i:ny.aD C N):ny.Spec C N:=by
 intro k j h Q c;apply i;simp +contextual -dsimp[wz (k:= .i64) (j:= .u64) (b:=8) (by omega) (by simp[IntKind.bits]),wz (k:= .i64) (j:= .u64) (b:=16) (by omega) (by simp[IntKind.bits]),mz];intro id a;unfold wi at c;have hx:aJ (bQ h id (cG [.int .u8 35,.int .u8 ((dN k).toNat:Int),.int .u8 ((dN (k.fdiv 256)).toNat:Int),.int .u8 ((dN (k.fdiv 65536)).toNat:Int),.int .u8 47,.int .u8 ((dN j).toNat:Int),.int .u8 ((dN (j.fdiv 256)).toNat:Int),.int .u8 ((dN (j.fdiv 65536)).toNat:Int)])) 1 (.sl id 0 0 8 1 8) (([35,dN k,dN (k.fdiv 256),dN (k.fdiv 65536),47,dN j,dN (j.fdiv 256),dN (j.fdiv 65536)]:List UInt8).map bc) []:=
  aJ.lit (dR ..) (by simp) rfl (by simp) rfl
 rw[hF hx];exact ln (hU _ a) c
abbrev uX:List (List a7):=jG tS (wi 1) 12
def pr.Spec(C:aC)(N:zN):Prop:=∀(x y:a7)(L M:List (List UInt8))(R S:List (List a7))(h:a9)(Q:zQ),aJ h 1 x (L.map tc) R->aJ h 1 y (M.map tc) S->L.length<4611686018427387904->Q (.bool (decide (L=M))) h->C (N 133) [x,y] h Q
theorem pr.spec(i:pr.aD C N):pr.Spec C N:=λx y L M R S h Q hx a hlen b=>i x y h Q (FJ tS hx a hlen (aR b))
def pA.Spec(C:aC)(N:zN):Prop:=∀(x:a7)(L:List (List UInt8))(R:List (List a7))(h:a9)(Q:zQ),aJ h 1 x (L.map tc) R->L.length <= 100000000->(∀a h',aG h h' [.sl 1 a (L.map tc) uX]->Q a h')->C (N 406) [x] h Q
theorem pA.spec(i:pA.aD C N)(s1:ny.Spec C N):pA.Spec C N:=λx L R h Q hx hlen b=>i x h Q (M9 tS (z:= .str []) (m:=1) (mk:=wi 1) (by omega) (s1 1) hx hlen λa h' c=>aR (b a h' c))
def mP.Spec(C:aC)(N:zN):Prop:=∀(x y:a7)(L M:List (List UInt8))(R:List (List a7))(h:a9)(Q:zQ),aJ h 1 x (L.map tc) uX->aJ h 1 y (M.map tc) R->L.length <= 100000000->Q (.bool (decide (L=M))) h->C (N 407) [x,y] h Q
theorem mP.spec(i:mP.aD C N)(s1:ny.Spec C N):mP.Spec C N:=λx y L M R h Q hx a hlen b=>i x y h Q (MB tS (m:=1) (mk:=wi 1) (s1 1) hx a hlen (aR b))
def qp.Spec(C:aC)(N:zN):Prop:=∀(h0 h:a9)(x:a7)(L R:List (List a7))(Q:zQ),aG h0 h [.sl 1 x L R]->R.length=12->L.length <= 100000000->(∀h',h0.le h'->Q (.bI []) h')->C (N 409) [x] h Q
theorem qp.spec(i:qp.aD C N)(s1:ny.Spec C N):qp.Spec C N:=λh0 h x L R Q a c hlen b=>i x h Q (ya (es:=1) (st:=λh p v K=>B.st h p v K) (by omega) (v:=λi=> .str (wi 2 i)) (s1 2) (λa hi d=>GV rfl a hi d) a c hlen λh' hle=>aR (b h' hle))
def qx.Spec(C:aC)(N:zN):Prop:=∀(x:a7)(L:List (List UInt8))(R:List (List a7))(h:a9)(Q:zQ),aJ h 1 x (L.map tc) R->L.length <= 100000000->(∀a h',aG h h' [.sl 1 a (L.map tc) []]->Q a h')->C (N 369) [x] h Q
theorem qx.spec(i:qx.aD C N):qx.Spec C N:=λx L R h Q hx hlen b=>i x h Q (Am (by omega) (by omega) hx (by simpa using hlen) λa h' c=>aR (b a h' c))
theorem kg.spec(i:kg.aD C N)(s1:ny.Spec C N):jm C 1 (N 83):=λt h0 h Q a c b=>
 i t.x h Q (vW (Q3 (bytes:=16) (z:= .str []) (mv:=λk i=> .str (wi k i)) (λ_ _=>rfl) (λ_ _=>by rw[V.rB];simp) (by omega) s1) a.is c a.nn a.nL λh' hle=>aR (b h' hle))
abbrev LG:=List a7->a9->(zL)->Prop
@[simp] def z0(v0:a7)(X:a9->Prop):LG|[v],h,Y=>B.pv (V.aE v0) λn=>B.pv (V.bin .lss v n) λb=>B.cond b (False) (X h)|_,_,_=>False
def z5(Q:zQ)(v0 w:a7)(h:a9):Prop:=aB (z0 v0 λh=>Q (.bool true) h) [.int .i64 0] h
def z4(Q:zQ)(v0 w:a7)(h:a9):Prop:=aB (z0 v0 (z5 Q v0 w)) [.int .i64 0] h
def z3(Q:zQ)(v0 w:a7)(h:a9):Prop:=aB (z0 v0 (z4 Q v0 w)) [.int .i64 0] h
def z2(Q:zQ)(v0 w:a7)(h:a9):Prop:=aB (z0 v0 (z3 Q v0 w)) [.int .i64 0] h
def z1(Q:zQ)(v0:a7)(h:a9):Prop:=B.pv (V.aE v0) λn=>0<1 /\ B.eO h 24 (some [.aA]) n n λw h=>z2 Q v0 w h
def iR(v0:a7)(h:a9)(Q:zQ):Prop:=aB (z0 v0 (z1 Q v0)) [.int .i64 0] h
theorem y6{h0 h:a9}{x:a7}{W:List (List a7)}{X:a9->Prop}(hx:aJ h0 1 x [] W)(b:X h):aB (z0 x X) [.int .i64 0] h:=by
 refine aB.intro (λn vs a=>vs=[.int .i64 0] /\ a=h) 0 ?_ ⟨rfl,rfl⟩;rintro Y n vs a ⟨rfl,rfl⟩ c;have l:=hx.aE;simp -dsimp[l];exact b
theorem kn{C:aC}{g:Nat}(i:∀(v0:a7)(h:a9)(Q:zQ),iR v0 h (dn Q)->C g [v0] h Q):cH C g:=λx W h0 h Q hx hle d=>by
 refine i x h Q (y6 (hx.mono hle) ?_)
 have l:=(hx.mono hle).aE
 unfold z1
 rw[l]
 refine⟨by omega,?_⟩
 refine(aG.start h).eO (bytes:=24) (es:=1) (n:=0) (c:=0) (z:=[.aA]) rfl (by omega) (by omega) (by omega) (by omega) λy h1 b=>?_
 have a:=hx.mono (a9.le_trans hle b.le)
 exact y6 a (y6 a (y6 a (y6 a (aR (d _ (a9.le_trans hle b.le))))))
def tf.ej(C:aC)(N:zN):Prop:=∀(v0:a7)(h:a9)(Q:zQ),iR v0 h (dn Q)->C (N 80) [v0] h Q
theorem tf.gf{C:aC}{N:zN}(i:tf.ej C N):cH C (N 80):=kn i
def tq.ej(C:aC)(N:zN):Prop:=∀(v0:a7)(h:a9)(Q:zQ),iR v0 h (dn Q)->C (N 81) [v0] h Q
theorem tq.gf{C:aC}{N:zN}(i:tq.ej C N):cH C (N 81):=kn i
def tn.ej(C:aC)(N:zN):Prop:=∀(v0:a7)(h:a9)(Q:zQ),iR v0 h (dn Q)->C (N 82) [v0] h Q
theorem tn.gf{C:aC}{N:zN}(i:tn.ej C N):cH C (N 82):=kn i
def kg.ej(C:aC)(N:zN):Prop:=∀(v0:a7)(h:a9)(Q:zQ),iR v0 h (dn Q)->C (N 83) [v0] h Q
theorem kg.gf{C:aC}{N:zN}(i:kg.ej C N):cH C (N 83):=kn i
def kh.ej(C:aC)(N:zN):Prop:=∀(v0:a7)(h:a9)(Q:zQ),iR v0 h (dn Q)->C (N 84) [v0] h Q
theorem kh.gf{C:aC}{N:zN}(i:kh.ej C N):cH C (N 84):=kn i
def sX.ej(C:aC)(N:zN):Prop:=∀(v0:a7)(h:a9)(Q:zQ),iR v0 h (dn Q)->C (N 85) [v0] h Q
theorem sX.gf{C:aC}{N:zN}(i:sX.ej C N):cH C (N 85):=kn i
def fg.ej(C:aC)(N:zN):Prop:=∀(v0:a7)(h:a9)(Q:zQ),iR v0 h (dn Q)->C (N 86) [v0] h Q
theorem fg.gf{C:aC}{N:zN}(i:fg.ej C N):cH C (N 86):=kn i
def tg.ej(C:aC)(N:zN):Prop:=∀(v0:a7)(h:a9)(Q:zQ),iR v0 h (dn Q)->C (N 87) [v0] h Q
theorem tg.gf{C:aC}{N:zN}(i:tg.ej C N):cH C (N 87):=kn i
def fe.ej(C:aC)(N:zN):Prop:=∀(v0:a7)(h:a9)(Q:zQ),iR v0 h (dn Q)->C (N 88) [v0] h Q
theorem fe.gf{C:aC}{N:zN}(i:fe.ej C N):cH C (N 88):=kn i
def eX.ej(C:aC)(N:zN):Prop:=∀(v0:a7)(h:a9)(Q:zQ),iR v0 h (dn Q)->C (N 89) [v0] h Q
theorem eX.gf{C:aC}{N:zN}(i:eX.ej C N):cH C (N 89):=kn i
def fa.ej(C:aC)(N:zN):Prop:=∀(v0:a7)(h:a9)(Q:zQ),iR v0 h (dn Q)->C (N 90) [v0] h Q
theorem fa.gf{C:aC}{N:zN}(i:fa.ej C N):cH C (N 90):=kn i
def eY.ej(C:aC)(N:zN):Prop:=∀(v0:a7)(h:a9)(Q:zQ),iR v0 h (dn Q)->C (N 91) [v0] h Q
theorem eY.gf{C:aC}{N:zN}(i:eY.ej C N):cH C (N 91):=kn i
def tr.ej(C:aC)(N:zN):Prop:=∀(v0:a7)(h:a9)(Q:zQ),iR v0 h (dn Q)->C (N 92) [v0] h Q
theorem tr.gf{C:aC}{N:zN}(i:tr.ej C N):cH C (N 92):=kn i
def eV.ej(C:aC)(N:zN):Prop:=∀(v0:a7)(h:a9)(Q:zQ),iR v0 h (dn Q)->C (N 93) [v0] h Q
theorem eV.gf{C:aC}{N:zN}(i:eV.ej C N):cH C (N 93):=kn i
def eQ.ej(C:aC)(N:zN):Prop:=∀(v0:a7)(h:a9)(Q:zQ),iR v0 h (dn Q)->C (N 94) [v0] h Q
theorem eQ.gf{C:aC}{N:zN}(i:eQ.ej C N):cH C (N 94):=kn i
def ff.ej(C:aC)(N:zN):Prop:=∀(v0:a7)(h:a9)(Q:zQ),iR v0 h (dn Q)->C (N 95) [v0] h Q
theorem ff.gf{C:aC}{N:zN}(i:ff.ej C N):cH C (N 95):=kn i
def th.ej(C:aC)(N:zN):Prop:=∀(v0:a7)(h:a9)(Q:zQ),iR v0 h (dn Q)->C (N 96) [v0] h Q
theorem th.gf{C:aC}{N:zN}(i:th.ej C N):cH C (N 96):=kn i
def tp.ej(C:aC)(N:zN):Prop:=∀(v0:a7)(h:a9)(Q:zQ),iR v0 h (dn Q)->C (N 97) [v0] h Q
theorem tp.gf{C:aC}{N:zN}(i:tp.ej C N):cH C (N 97):=kn i
def td.ej(C:aC)(N:zN):Prop:=∀(v0:a7)(h:a9)(Q:zQ),iR v0 h (dn Q)->C (N 98) [v0] h Q
theorem td.gf{C:aC}{N:zN}(i:td.ej C N):cH C (N 98):=kn i
def tl.ej(C:aC)(N:zN):Prop:=∀(v0:a7)(h:a9)(Q:zQ),iR v0 h (dn Q)->C (N 99) [v0] h Q
theorem tl.gf{C:aC}{N:zN}(i:tl.ej C N):cH C (N 99):=kn i
def ta.ej(C:aC)(N:zN):Prop:=∀(v0:a7)(h:a9)(Q:zQ),iR v0 h (dn Q)->C (N 100) [v0] h Q
theorem ta.gf{C:aC}{N:zN}(i:ta.ej C N):cH C (N 100):=kn i
def tj.ej(C:aC)(N:zN):Prop:=∀(v0:a7)(h:a9)(Q:zQ),iR v0 h (dn Q)->C (N 101) [v0] h Q
theorem tj.gf{C:aC}{N:zN}(i:tj.ej C N):cH C (N 101):=kn i
def ti.ej(C:aC)(N:zN):Prop:=∀(v0:a7)(h:a9)(Q:zQ),iR v0 h (dn Q)->C (N 102) [v0] h Q
theorem ti.gf{C:aC}{N:zN}(i:ti.ej C N):cH C (N 102):=kn i
section
variable{P:Program}{C:aC}{I:Bx}
theorem eZ(a:gD C){c:Code}{Q:Ex->bB->a9->Prop}{s:bB}{h:a9}(dQ live:List Nat)(G:List a7->LG)(d:aB (G (dQ.map s)) (live.map s) h)(hG:∀(Y:zL)(s:bB)(h:a9),dM P C I (cA (cA (cA c))) (Ex.then (λ_ _=>False) (Ex.then (λs h=>Y (live.map s) h) (Ex.inBlock (cI c) Q))) s h=G (dQ.map s) (live.map s) h Y)(hk:xN c=true)(e:xM (cA c)=true)(hw:(dQ.all λk=> !dK (ma P I (cA (cA c))) k)=true)(b:lA (cA (cA c))=true):dM P C I c Q s h:=eK (eL a dQ live G d (λY s h g=>eS a (λ_ _=>False) ((hG Y s h).mpr g) (λ_ _ f=>f.elim) b) e hw) hk
theorem eU(a:gD C){c:Code}{Q:Ex->bB->a9->Prop}{s:bB}{h:a9}(dQ live:List Nat)(G:List a7->LG)(X:bB->a9->Prop)(b:aB (G (dQ.map s)) [.int .i64 0] h)(d:∀s h,X s h->dM P C I (cB c) Q s h)
  (h1:dM P C I (cA (cA c)) (Ex.then (λs h=>aB (G (dQ.map s)) (live.map s) h) (Ex.then X Q)) s h=aB (G (dQ.map s)) [.int .i64 0] h:=by kernel_rfl)
  (hG:∀(Y:zL)(s:bB)(h:a9),dM P C I (cA (cA (cA (cB (cA c))))) (Ex.then (λ_ _=>False) (Ex.then (λs h=>Y (live.map s) h) (Ex.inBlock (cI (cB (cA c))) (Ex.then X Q)))) s h=G (dQ.map s) (live.map s) h Y:=by intros;kernel_rfl)
  (hk:(lA c&&lA (cA c)&&xN (cB (cA c))&&xM (cA (cB (cA c)))&&lA (cA (cA (cB (cA c))))&&dQ.all λk=> !dK (ma P I (cA (cA (cB (cA c))))) k)=true:=by kernel_rfl):dM P C I c Q s h:=by
 simp only[Bool.and_eq_true]at hk;obtain⟨⟨⟨⟨⟨k1,k2⟩,k3⟩,k4⟩,k5⟩,k6⟩:=hk;exact eS a X (eS a (λs h=>aB (G (dQ.map s)) (live.map s) h) (h1.mpr b) (λs h e=>eZ a dQ live G e hG k3 k4 k6 k5) k2) d k1
abbrev F0(P:Program)(fn:Func)(I:Bx):Prop:=∀{C:aC}(a:gD C)(Q:zQ)(s:bB)(h:a9),iR (s 0) h Q->dM P C I (fn.body.getD .skip) (pb P I fn.results.toList Q) s h
abbrev g1(f:a7->LG):List a7->LG:=λc b h Y=>match c with|[a]=>f a b h Y|_=>False
abbrev g2(f:a7->a7->LG):List a7->LG:=λd c h Y=>match d with|[a,b]=>f a b c h Y|_=>False
structure Lp(P:Program)(C:aC)(I:Bx)(c:Code)(Q:Ex->bB->a9->Prop)(dQ:List Nat)(l:Nat)(G:List a7->LG)(X:bB->a9->Prop):Prop where
 h1:∀s h,dM P C I (cA (cA c)) (Ex.then (λs h=>aB (G (dQ.map s)) ([l].map s) h) (Ex.then X Q)) s h=aB (G (dQ.map s)) [.int .i64 0] h:=by intros;kernel_rfl
 hG:∀(Y:zL)(s:bB)(h:a9),dM P C I (cA (cA (cA (cB (cA c))))) (Ex.then (λ_ _=>False) (Ex.then (λs h=>Y ([l].map s) h) (Ex.inBlock (cI (cB (cA c))) (Ex.then X Q)))) s h=G (dQ.map s) ([l].map s) h Y:=by intros;kernel_rfl
 hk:(lA c&&lA (cA c)&&xN (cB (cA c))&&xM (cA (cB (cA c)))&&lA (cA (cA (cB (cA c))))&&dQ.all λk=> !dK (ma P I (cA (cA (cB (cA c))))) k)=true:=by kernel_rfl
theorem Lp.use{c:Code}{Q:Ex->bB->a9->Prop}{dQ:List Nat}{l:Nat}{G:List a7->LG}{X:bB->a9->Prop}(p:Lp P C I c Q dQ l G X)(d:gD C){s:bB}{h:a9}(a:aB (G (dQ.map s)) [.int .i64 0] h)(b:∀s h,X s h->dM P C I (cB c) Q s h):dM P C I c Q s h:=eU d dQ [l] G X a b (p.h1 s h) p.hG p.hk
theorem kD(i:gD C){c:Code}{R:Ex->bB->a9->Prop}{Q:zQ}{s:bB}{h:a9}(w a b d e f:Nat)(g:iR (s 0) h Q)
  (e0:∀s h,dM P C I (cA c) (Ex.then (λs h=>iR (s 0) h Q) R) s h=iR (s 0) h Q:=by intros;kernel_rfl)
  (n:Lp P C I (cB c) R [0] a (g1 λv=>z0 v (z1 Q v)) (λs h=>z1 Q (s 0) h):=by exact {})
  (p:∀s h,dM P C I (cA (cB (cB c))) (Ex.then (λs h=>z2 Q (s 0) (s w) h) R) s h=z1 Q (s 0) h:=by intros;kernel_rfl)
  (m:Lp P C I (cB (cB (cB c))) R [0,w] b (g2 λv w=>z0 v (z3 Q v w)) (λs h=>z3 Q (s 0) (s w) h):=by exact {})
  (l:Lp P C I (cB (cB (cB (cB c)))) R [0,w] d (g2 λv w=>z0 v (z4 Q v w)) (λs h=>z4 Q (s 0) (s w) h):=by exact {})
  (k:Lp P C I (cB (cB (cB (cB (cB c))))) R [0,w] e (g2 λv w=>z0 v (z5 Q v w)) (λs h=>z5 Q (s 0) (s w) h):=by exact {})
  (j:Lp P C I (cB (cB (cB (cB (cB (cB c)))))) R [0,w] f (g2 λv w=>z0 v λh=>Q (.bool true) h) (λs h=>Q (.bool true) h):=by exact {})
  (o:∀s h,dM P C I (cB (cB (cB (cB (cB (cB (cB c))))))) R s h=Q (.bool true) h:=by intros;kernel_rfl)
  (k1:lA c=true:=by kernel_rfl) (k2:lA (cB (cB c))=true:=by kernel_rfl):dM P C I c R s h:=
 eS i (λs h=>iR (s 0) h Q) ((e0 s h).mpr g) (λs h g=>n.use i g λs h g=>eS i (λs h=>z2 Q (s 0) (s w) h) ((p s h).mpr g) (λs h g=>m.use i g λs h g=>l.use i g λs h g=>k.use i g λs h g=>j.use i g λs h g=>(o s h).mpr g) k2) k1
end
@[simp] def nC.aY(C:aC)(N:zN)(a b:a7)(h:a9)(Q:zQ):Prop:=B.gk h a λc=>B.gk h b λd=>B.pv (V.bin .eql c d) λe=>Q e h
variable(C:aC)(N:Nat→Nat)(Q:zQ)
def nC.aD:=mi C (N 273) (nC.aY C N)
@[simp] def q8.aY(a b:a7)(h:a9)(Q:zQ):=B.call C (N 303) [a,b] h λc h=>Q c h
def q8.aD:=mi C (N 274) (q8.aY C N)
@[simp] def pJ.aY(C:aC)(N:zN)(a:a7)(h:a9)(Q:zQ):=B.pv (V.ry .eql a .aA) λb=>B.cond b (Q .aA h) (B.bO h 1 1 .sz a λc h=>Q c h)
def pJ.aD:=g9 C (N 428) (pJ.aY C N)
@[simp] def qk.k1(c b:a7)(h:a9):=B.pv (V.aE c) λl=>B.pv (V.aE b) λm=>B.pv (V.bin .geq l m) λa=>B.gd h a true (λK=>K c h) λd h=>B.gd h a true (λK=>K b h) λe h=>bD h a (V.aE e) λf h=>bD h a (V.dS 1 d none (some f)) λg h=>B.gd h a true (λK=>K b h) λi h=>dG C h a (N 273) [g,i] λj h=>B.pick a j (.bool false) λk=>Q k h
def qk.aD:=fk C (N 436) (qk.k1 C N)
variable(C:aC)(N:Nat→Nat)(Q:zQ)
@[simp] def nf.k1(a:a7)(h:a9):=B.pv (V.bin .neq a (.str [])) λb=>B.gd h b true (λK=>K a h) λg h=>dG C h b (N 53) [g] λi h=>bD h b (V.un .not i) λj h=>B.pick b j (.bool false) λk=>B.cond k (Q .aA h) (B.pv (V.lR a) λc=>B.pv (V.toInt .u8 c) λd=>B.oE h a λe h=>B.call C (N 79) [d,e] h λf h=>Q f h)
def nf.aD:=fy C (N 51) (nf.k1 C N)
@[simp] def iA.k1(C:aC)(N:zN)(Q:zQ)(b:a7)(h:a9):=B.pv (V.bin .neq b (.str [])) λa=>B.gd h a true (λK=>K b h) λc h=>bD h a (V.lR c) λd h=>bD h a (V.bin .leq d (i6 12)) λe h=>B.pick a e (.bool false) λf=>Q f h
@[simp] def iA.k2(Y1:zL)(t u:a7)(h:a9):Prop:=B.lM h u λf h=>B.pv (V.ext 0 f) λw=>B.cond w (B.pv (V.ext 1 f) λx=>B.pv (V.ext 2 f) λb=>B.pv (V.bin .geq b (.int .i32 65)) λc=>B.gd h c true (λK=>K b h) λg h=>bD h c (V.bin .leq g (.int .i32 90)) λi h=>B.pick c i (.bool false) λj=>B.cond j (Y1 [] h) (B.pv (V.bin .gtr x (i6 0)) λa=>B.gd h a true (λK=>K b h) λk h=>bD h a (V.bin .geq k (.int .i32 48)) λl h=>B.gd h a true (λK=>K l h) λd h=>B.gd h d true (λK=>K b h) λm h=>bD h d (V.bin .leq m (.int .i32 57)) λn h=>B.gd h a true (λK=>B.pick d n (.bool false) λv=>K v h) λo h=>B.gd h a true (λK=>K o h) λe h=>B.gd h e false (λK=>K b h) λp h=>bH h e (V.bin .eql p (.int .i32 45)) λq h=>B.gd h a true (λK=>B.pick e (.bool true) q λv=>K v h) λr h=>B.pick a r (.bool false) λs=>B.cond s (Y1 [] h) (Q (.bool false) h))) (iA.k1 C N Q t h)
@[simp] def iA.l3(a b:a7):zG|[],h,Y1=>iA.k2 C N Q Y1 a b h|_,_,_=>False
@[simp] def iA.aY(a:a7)(h:a9)(Q:zQ):Prop:=B.r9 h a λb h=>aB (iA.l3 C N Q a b) [] h
def iA.aD:=g9 C (N 53) (iA.aY C N)
@[simp] def qW.aY(C:aC)(N:zN)(a b:a7)(h:a9)(Q:zQ):Prop:=B.bL h (bN [(0,none,a)] (bG 1 [.int .u8 0])) λc h=>B.bO h 1 1 (.sl c 0 0 1 1 1) b λd h=>Q d h
def qW.aD:=mi C (N 79) (qW.aY C N)
@[simp] def pO.k1(d:a7)(h:a9):=B.pv (V.aE d) λv=>B.pv (V.bin .eql v (i6 0)) λa=>B.gd h a false (λK=>K d h) λe h=>bH h a (V.aE e) λf h=>B.gd h a false (λK=>K d h) λg h=>bH h a (V.aM 1 g (i6 0)) λi h=>jZ h a i λj h=>bH h a (V.toInt .i64 j) λk h=>bH h a (V.bin .add (i6 1) k) λl h=>bH h a (V.bin .lss f l) λm h=>B.pick a (.bool true) m λn=>B.cond n (Q (.bI [(.str []),(i6 0),(.bool false)]) h) (B.pv (V.aM 1 d (i6 0)) λo=>B.ld h o λp=>B.pv (V.toInt .i64 p) λq=>B.pv (V.bin .add (i6 1) q) λr=>B.pv (V.dS 1 d (some (i6 1)) (some r)) λs=>B.gk h s λb=>B.pv (V.bin .neq b (.str [])) λc=>B.gd h c true (λK=>K b h) λt h=>dG C h c (N 53) [t] λu h=>bD h c (V.un .not u) λw h=>B.pick c w (.bool false) λx=>B.cond x (Q (.bI [(.str []),(i6 0),(.bool false)]) h) (B.pv (V.lR b) λy=>B.pv (V.bin .add (i6 1) y) λz=>Q (.bI [b,z,(.bool true)]) h))
def pO.aD:=fy C (N 103) (pO.k1 C N)
variable(C:aC)(N:Nat→Nat)(Q:zQ)
@[simp] def nE.k1(a:a7)(h:a9):=B.pv (V.bin .neq a (.str [])) λb=>B.gd h b true (λK=>K a h) λg h=>dG C h b (N 61) [g] λi h=>bD h b (V.un .not i) λj h=>B.pick b j (.bool false) λk=>B.cond k (Q .aA h) (B.pv (V.lR a) λc=>B.pv (V.toInt .u8 c) λd=>B.bL h (bN [(0,none,d)] (bG 1 [.int .u8 0])) λe h=>B.B1 h 1 (.sl e 0 0 1 1 1) a λf h=>Q f h)
def nE.aD:=fy C (N 59) (nE.k1 C N)
@[simp] def iX.k1(C:aC)(N:zN)(Q:zQ)(Y1:zL)(f a:a7)(h:a9):=B.pv (V.lR f) λi=>B.pv (V.bin .lss a i) λj=>B.cond j (B.pv (V.lS f a) λk=>B.pv (V.bin .geq k (.int .u8 65)) λb=>B.gd h b true (λK=>K f h) λl h=>B.gd h b true (λK=>K a h) λm h=>bD h b (V.lS l m) λn h=>bD h b (V.bin .leq n (.int .u8 90)) λo h=>B.pick b o (.bool false) λp=>B.pv (V.lS f a) λq=>B.pv (V.bin .geq q (.int .u8 48)) λc=>B.gd h c true (λK=>K f h) λr h=>B.gd h c true (λK=>K a h) λs h=>bD h c (V.lS r s) λt h=>bD h c (V.bin .leq t (.int .u8 57)) λu h=>B.pick c u (.bool false) λd=>B.gd h d false (λK=>K f h) λw h=>B.gd h d false (λK=>K a h) λx h=>bH h d (V.lS w x) λy h=>bH h d (V.bin .eql y (.int .u8 45)) λz h=>B.pick d (.bool true) z λH=>B.pv (V.un .not p) λe=>B.gd h e true (λK=>K a h) λG h=>bD h e (V.bin .eql G (i6 0)) λac h=>B.gd h e true (λK=>K ac h) λg h=>B.gd h g false (λK=>K H h) λad h=>bH h g (V.un .not ad) λF h=>B.gd h e true (λK=>B.pick g (.bool true) F λv=>K v h) λE h=>B.pick e E (.bool false) λD=>B.cond D (Q (.bool false) h) (B.pv (V.bin .add a (i6 1)) λA=>Y1 [A] h)) (Q (.bool true) h)
@[simp] def iX.l2(a:a7):zG|[b],h,Y1=>iX.k1 C N Q Y1 a b h|_,_,_=>False
@[simp] def iX.k3(b:a7)(h:a9):=B.pv (V.lR b) λg=>B.pv (V.bin .lss g (i6 1)) λa=>B.gd h a false (λK=>K b h) λc h=>bH h a (V.lR c) λd h=>bH h a (V.bin .gtr d (i6 12)) λe h=>B.pick a (.bool true) e λf=>B.cond f (Q (.bool false) h) (aB (iX.l2 C N Q b) [(i6 0)] h)
def iX.aD:=fy C (N 61) (iX.k3 C N)
@[simp] def qU.k1(d:a7)(h:a9):=B.pv (V.aE d) λA=>B.pv (V.bin .eql A (i6 0)) λa=>B.gd h a false (λK=>K d h) λg h=>bH h a (V.aM 1 g (i6 0)) λi h=>jZ h a i λj h=>bH h a (V.toInt .i64 j) λk h=>B.gd h a false (λK=>K d h) λl h=>bH h a (V.aE l) λm h=>bH h a (V.bin .geq k m) λn h=>B.gd h a false (λK=>K n h) λb h=>B.gd h b true (λK=>K d h) λo h=>bD h b (V.aM 1 o (i6 0)) λp h=>gb h b p λq h=>bD h b (V.bin .gtr q (.int .u8 0)) λr h=>B.gd h a false (λK=>B.pick b r (.bool false) λv=>K v h) λs h=>B.pick a (.bool true) s λt=>B.cond t (Q (.bI [(.str []),(i6 0),(.bool false)]) h) (B.pv (V.aM 1 d (i6 0)) λu=>B.ld h u λw=>B.pv (V.toInt .i64 w) λx=>B.pv (V.bin .add (i6 1) x) λf=>B.pv (V.dS 1 d (some (i6 1)) (some f)) λy=>B.gk h y λe=>B.pv (V.bin .neq e (.str [])) λc=>B.gd h c true (λK=>K e h) λz h=>dG C h c (N 61) [z] λE h=>bD h c (V.un .not E) λD h=>B.pick c D (.bool false) λac=>B.cond ac (Q (.bI [(.str []),(i6 0),(.bool false)]) h) (Q (.bI [e,f,(.bool true)]) h))
def qU.aD:=fy C (N 104) (qU.k1 C N)
variable{C:aC}{N:zN}
theorem wA(b:UInt8):b.toNat<256:=b.toNat_lt
theorem M3{h:a9}{id:Nat}{b:fB}{s:List UInt8}{pos:Nat}{K:zQ}(hb:h id=some b)(a:b.obj=some (.iter s pos)):
  (B.lM h (.ptr id 0 0) K:Prop)=if pos<s.length then K (.bI [.bool true,.int .i64 pos,.int .i32 (A.rune s pos).1]) (bQ h id { b with obj:=some (.iter s (pos+(A.rune s pos).2)) }) else K (.bI [.bool false]) h:=by
 simp only[B.lM,A.lM,hb,a]
theorem Hf{s:List UInt8}{pos:Nat}{b:UInt8}(hb:s[pos]?=some b):((⟨s.toArray⟩:ByteArray).get! pos)=b:=by
 simp[ByteArray.get!,hb]
theorem Mo{s:List UInt8}{pos:Nat}{b:UInt8}(hb:s[pos]?=some b)(h:b.toNat<128):A.rune s pos=(b.toNat,1):=by
 unfold A.rune Utf8.decode;simp only[Nat.add_zero,Hf hb];rw[if_pos h]
theorem MR{s:List UInt8}{pos:Nat}{b:UInt8}(hb:s[pos]?=some b)(h:128 <= b.toNat):128 <= (A.rune s pos).1:=by
 unfold A.rune Utf8.decode;simp only[Nat.add_zero,Hf hb];rw[if_neg (by omega)];split
 ·split<;>simp_all [Utf8.runeError]
 ·split
  ·split<;>simp_all [Utf8.runeError];omega
  ·split
   ·split<;>simp_all [Utf8.runeError];omega
   ·simp[Utf8.runeError]
def sC(i:Nat)(b:UInt8):Bool:=(decide (65 <= b.toNat)&&decide (b.toNat <= 90))||(decide (0<i)&&((decide (48 <= b.toNat)&&decide (b.toNat <= 57))||decide (b.toNat=45)))
def rM(s:List UInt8):Nat->Bool|0=>true|n+1=>rM s n&&sC n (s.getD n 0)
def eu(s:List UInt8):Bool:= !s.isEmpty&&decide (s.length <= 12)&&rM s s.length
theorem Gi{s:List UInt8}{k:Nat}(h:rM s k=true){b:UInt8}(hb:s[k]?=some b)(a:sC k b=false):∀n,k<n->rM s n=false
 | 0,h=>by omega
 | n+1,c=>by
  by_cases e:n=k
  ·subst e;simp[rM,List.getD,hb,a]
  ·rw[rM,Gi h hb a n (by omega)];rfl
theorem F8{s:List UInt8}{k:Nat}(h:rM s k=true){b:UInt8}(hb:s[k]?=some b)(a:sC k b=true):rM s (k+1)=true:=by
 simp[rM,List.getD,hb,a,h]
theorem Cp{s:List UInt8}{k:Nat}(h:rM s k=true){b:UInt8}(hb:s[k]?=some b)(a:sC k b=false):eu s=false:=by
 have:=Gi h hb a s.length (List.getElem?_eq_some_iff.1 hb).1;simp[eu,this]
def iA.Spec(C:aC)(N:zN):Prop:=∀(s:List UInt8)(h:a9)(Q:zQ),Q (.bool (eu s)) h->C (N 53) [.str s] h Q
def xL(s:List UInt8)(k:Nat):fB:={ cells:=[],eE:=[],next:=1,own:=true,obj:=some (.iter s k) }
theorem iA.spec(i:iA.aD C N):iA.Spec C N:=by
 intro s h Q d;apply i;simp only[iA.aY];intro id c;refine aB.intro (λn vs l=>∃k,k+n=s.length /\ vs=[] /\ l=bQ h id (xL s k) /\ rM s k=true) s.length ?_ ⟨0,by simp,rfl,rfl,rfl⟩;rintro Y n vs l ⟨k,p,rfl,rfl,f⟩ m;simp only[iA.l3,iA.k2];rw[M3 (dR ..) rfl];have hle:h.le (bQ h id (xL s k)):=hU _ c;split
 ·rename_i hk
  obtain⟨b,hb⟩:=dI hk;by_cases g:b.toNat<128
  ·rw[Mo hb g,Ho]
   have next:sC k b=true->Y [] (bQ h id { cells:=(xL s k).cells,eE:=(xL s k).eE,next:=(xL s k).next,own:=(xL s k).own,obj:=some (.iter s (k+1)) }):=λj=>
    m (n-1) _ _ (by omega) ⟨k+1,by omega,rfl,rfl,F8 f hb j⟩
   simp +contextual -dsimp;refine B.bF (λh1=>?_) (λh1=>?_)
   ·exact next (by simp at h1;simp[sC];omega)
   ·simp +contextual -dsimp
    refine B.bF (λe=>?_) (λe=>?_)
    ·exact next (by simp at e;simp[sC];omega)
    ·have:=Cp f hb (by simp at h1 e;simp[sC];omega)
     rw[this]at d;exact ln (hU _ c) d
  ·have o:=MR hb (by omega)
   have:=Cp f hb (by simp[sC];omega);rw[this]at d;simp +contextual -dsimp;refine B.bF (λh1=>?_) (λh1=>?_)
   ·simp at h1;omega
   ·simp +contextual -dsimp
    refine B.bF (λe=>?_) (λe=>?_)
    ·simp at e;omega
    ·exact ln (hU _ c) d
 ·have hk:k=s.length:=by omega
  subst hk;have:eu s=(!decide (s=[])&&decide ((s.length:Int) <= 12)):=by
   unfold eu;rw[f,Bool.and_true];cases s with
   | nil=>rfl
   | cons a r=>simp;omega
  rw[this]at d;simp +contextual -dsimp;exact ln hle d
def iX.Spec(C:aC)(N:zN):Prop:=∀(s:List UInt8)(h:a9)(Q:zQ),Q (.bool (eu s)) h->C (N 61) [.str s] h Q
theorem Ai{s:List UInt8}{k:Nat}{b:UInt8}(hb:s[k]?=some b):V.lS (.str s) (.int .i64 (k:Int))=some (.int .u8 b.toNat):=by
 simp[V.lS,hb]
theorem iX.spec(i:iX.aD C N):iX.Spec C N:=by
 intro s h Q c;apply i;simp +contextual -dsimp;refine B.bF (λh1=>?_) (λh1=>?_)
 ·have:eu s=false:=by
   simp at h1;cases s with
   | nil=>rfl
   | cons a r=>simp[eu];simp at h1;omega
  rw[this]at c;exact aR c
 ·simp at h1
  refine aB.intro (λn vs g=>∃k:Nat,k+n=s.length /\ vs=[.int .i64 k] /\ g=h /\ rM s k=true) s.length ?_ ⟨0,by simp,by simp,rfl,rfl⟩;rintro Y n vs g ⟨k,l,rfl,rfl,e⟩ j;simp +contextual -dsimp;refine B.bF (λd=>?_) (λd=>?_)
  ·simp at d
   obtain⟨b,hb⟩:=dI d;simp +contextual -dsimp[Ai hb];refine B.bF (λf=>?_) (λf=>?_)
   ·have:=Cp e hb (by simp at f;simp[sC];omega)
    rw[this]at c;exact aR c
   ·simp +contextual -dsimp[fH (n:=k) (by omega)]
    exact j (n-1) _ _ (by omega) ⟨k+1,by omega,by simp,rfl,F8 e hb (by simp at f;simp[sC];omega)⟩
  ·have hk:k=s.length:=by simp at d;omega
   subst hk;have:eu s=true:=by
    unfold eu;rw[e];cases s with
    | nil=>simp at h1
    | cons a r=>simp;simp at h1;omega
   rw[this]at c;exact aR c
theorem AR(s:List UInt8):(s.map bc).flatten=s.map λb=>a7.int .u8 b.toNat:=by
 induction s with
 | nil=>rfl
 | cons a r c=>simp only[map_cons,flatten_cons,c];rfl
theorem Py(s:List UInt8):∀p∈s.map bc,p.length=1:=λp a=>by
 obtain⟨b,_,rfl⟩:=mem_map.1 a;rfl
theorem aG.B1{h0 h:a9}{l:List Ob}(b:aG h0 h l)(k:Nat){bytes:Nat}{x:a7}{L R:List (List a7)}{s:List UInt8}{K:zQ}(hk:l[k]?=some (.sl 1 x L R))(hb:(L.length+s.length)*bytes <= 140737488355328)(hm:L.length+s.length <= maxLen)
  (d:∀a h',aG h0 h' (l.set k (.sl 1 a (L++s.map bc) []))->iH x h h'->K a h'):B.B1 h bytes x (.str s) K:=by
 have:=(b.aP k hk).app (bytes:=bytes) (M:=s.map bc) (K:=K) (b.lg k hk) (by omega) (Py s) (by simpa using hb) (by simpa using hm) λa h' h1 f c e=>d a h' (b.jB k hk h1 f c e) c;rw[AR]at this;exact this
theorem aJ.kY{T:Type}{h:a9}{es:Nat}{x:a7}{f:T->List a7}{L:List T}{R:List (List a7)}(e:aJ h es x (L.map f) R)(d:0<es){lo hi:Nat}{a b:Option a7}(g:a=none /\ lo=0 \/ ∃k,a=some (.int k lo))(hb:b=none /\ hi=L.length \/ ∃k,b=some (.int k hi))(h1:lo <= hi)(i:hi <= L.length):
  ∃c R',V.dS es x a b=some c /\ aJ h es c (((L.take hi).drop lo).map f) R' /\ cC c=cC x:=by
 obtain⟨c,e1,j,e3⟩:=e.slice d g (by simpa using hb) h1 (by simp;omega);refine⟨c,(L.map f++R).drop hi,e1,?_,e3⟩
 rwa [take_append_of_le_length (by simpa using i),<-map_take,<-map_drop]at j
def fO(s:List UInt8):List UInt8:=if !s.isEmpty&& !eu s then [] else UInt8.ofNat s.length::s
theorem kl(s:List UInt8):(fO s).length <= 13:=by
 unfold fO;split
 ·simp
 ·rename_i h
  cases s with
  | nil=>simp
  | cons a r=>simp[eu]at h ⊢;omega
theorem Co{s:List UInt8}(h:eu s=true):s.length <= 12:=by
 simp only[eu,Bool.and_eq_true,decide_eq_true_eq]at h;omega
def qW.Spec(C:aC)(N:zN):Prop:=∀(a:UInt8)(y:a7)(M:List UInt8)(R:List (List a7))(h:a9)(Q:zQ),aJ h 1 y (M.map bc) R->M.length <= 100000000->(∀b h',aG h h' [.sl 1 b ((a::M).map bc) []]->Q b h')->C (N 79) [.int .u8 (a.toNat:Int),y] h Q
theorem qW.spec(i:qW.aD C N):qW.Spec C N:=by
 intro a y M R h Q f j g;apply i;simp -dsimp;intro id c;have d:=(aG.start h).gU (id:=id) (n:=1) (cp:=1) (es:=1) (cs:=[.int .u8 (a.toNat:Int)]) (L:=[bc a]) (R:=[]) c (by simp) rfl (by simp) rfl;exact d.bO 0 rfl (f.mono d.le) (by omega) (by simp;omega) (by simp[maxLen];omega) λe h' b _=>aR (g e h' b)
def nf.Spec(C:aC)(N:zN):Prop:=∀(s:List UInt8)(h:a9)(Q:zQ),(∀a h',aG h h' [.sl 1 a ((fO s).map bc) []]->Q a h')->C (N 51) [.str s] h Q
theorem F9{s:List UInt8}(h:(!decide (s=[])&& !eu s)=true):fO s=[]:=by
 unfold fO;rw[if_pos];cases s<;>simp_all
theorem Cu{s:List UInt8}(h:(!decide (s=[])&& !eu s)=false):fO s=UInt8.ofNat s.length::s /\ s.length <= 12:=by
 unfold fO;cases s with
 | nil=>simp
 | cons a r=>
  simp only[isEmpty_cons,Bool.not_false,Bool.true_and];have h:eu (a::r)=true:=by simpa using h
  rw[h];exact⟨rfl,Co h⟩
theorem nf.spec(i:nf.aD C N)(s1:iA.Spec C N)(s2:qW.Spec C N):nf.Spec C N:=by
 intro s h Q a;apply i;simp +contextual -dsimp;refine B.gG (λ_ _ a=>s1 _ _ _ a) ?_;simp +contextual -dsimp;refine B.bF (λhb=>?_) (λhb=>?_)
 ·rw[F9 hb]at a
  exact aR (a _ _ ((aG.start h).aA 1))
 ·obtain⟨e1,g⟩:=Cu hb
  rw[e1]at a;simp +contextual -dsimp;refine⟨by omega,λid d=>?_⟩;have e:=(aG.start h).gU (id:=id) (n:=s.length) (cp:=s.length) (es:=1) (cs:=s.map λb=> .int .u8 b.toNat) (L:=s.map bc) (R:=[]) d (by simp) (by simp) (by simp) (by rw[append_nil,AR]);rw[Au];refine s2 (UInt8.ofNat s.length) _ s [] _ _ (e.aP 0 rfl) (by omega) λf h' c=>?_;exact aR (a _ _ (c.back e.le))
def nE.Spec(C:aC)(N:zN):Prop:=∀(s:List UInt8)(h:a9)(Q:zQ),(∀a h',aG h h' [.sl 1 a ((fO s).map bc) []]->Q a h')->C (N 59) [.str s] h Q
theorem nE.spec(i:nE.aD C N)(s1:iX.Spec C N):nE.Spec C N:=by
 intro s h Q a;apply i;simp +contextual -dsimp;refine B.gG (λ_ _ a=>s1 _ _ _ a) ?_;simp +contextual -dsimp;refine B.bF (λhb=>?_) (λhb=>?_)
 ·rw[F9 hb]at a
  exact aR (a _ _ ((aG.start h).aA 1))
 ·obtain⟨e1,f⟩:=Cu hb
  rw[e1]at a;simp +contextual -dsimp;intro id c;rw[Au];have e:=(aG.start h).gU (id:=id) (n:=1) (cp:=1) (es:=1) (cs:=[.int .u8 ((UInt8.ofNat s.length).toNat:Int)]) (L:=[bc (UInt8.ofNat s.length)]) (R:=[]) c (by simp) rfl (by simp) rfl;exact e.B1 0 rfl (by simp;omega) (by simp[maxLen];omega) λd h' b _=>aR (a d h' b)
def ik:List UInt8->List UInt8×Nat×Bool|[]=>([],0,false)|c::r=>if r.length<c.toNat \/ (r.take c.toNat≠[] /\ eu (r.take c.toNat)=false) then ([],0,false) else (r.take c.toNat,1+c.toNat,true)
theorem ug(c:UInt8)(r:List UInt8):ik (c::r)=if r.length<c.toNat \/ (r.take c.toNat≠[] /\ eu (r.take c.toNat)=false) then ([],0,false) else (r.take c.toNat,1+c.toNat,true):=rfl
@[simp] def cg(x:List UInt8×Nat×Bool):a7:= .bI [.str x.1,.int .i64 x.2.1,.bool x.2.2]
def pO.Spec(C:aC)(N:zN):Prop:=∀(x:a7)(b:List UInt8)(R:List (List a7))(h:a9)(Q:zQ),aJ h 1 x (b.map bc) R->b.length<4611686018427387904->Q (cg (ik b)) h->C (N 103) [x] h Q
theorem pO.spec(i:pO.aD C N)(s1:iA.Spec C N):pO.Spec C N:=by
 intro x b R h Q hx n d;apply i;have f:=hx.aE;rw[length_map]at f;cases b with
 | nil=>
  simp +contextual -dsimp[f];exact aR d
 | cons c r=>
  have e0:=hx.dF (k:= .i64) (i:=0) (by simp);have e1:A.bX h (aV 1 x 0 0)=some (.int .u8 c.toNat):=hx.cell (by simp;rfl);have u:=wA c;have m:IntKind.i64.wrap (c.toNat:Int)=(c.toNat:Int):=wrap_i64 (by omega) (by omega);have e3:IntKind.i64.wrap (1+(c.toNat:Int))=1+(c.toNat:Int):=wrap_i64 (by omega) (by omega);have j:((1+c.toNat:Nat):Int)=1+(c.toNat:Int):=by omega
  simp only[Int.ofNat_eq_natCast,Int.natCast_zero]at e0;simp +contextual -dsimp[f,e0,e1,m,e3];simp only[length_cons]at n;refine B.bF (λhb=>?_) (λhb=>?_)<;>simp at hb
  ·have:ik (c::r)=([],0,false):=by rw[ug,if_pos];left;omega
   rw[this]at d;exact aR d
  ·obtain⟨t,R',e4,l,_⟩:=hx.kY (by omega) (lo:=1) (hi:=1+c.toNat) (a:=some (.int .i64 1)) (b:=some (.int .i64 ((1+c.toNat:Nat):Int))) (.inr ⟨_,rfl⟩) (.inr ⟨_,rfl⟩) (by omega) (by simp;omega)
   have s:((c::r).take (1+c.toNat)).drop 1=r.take c.toNat:=by rw[Nat.add_comm,take_succ_cons,drop_one,tail_cons]
   rw[s]at l;rw[j]at e4;simp +contextual -dsimp[e0,e1,m,e3,e4,hF l];refine B.gG (λ_ _ d=>s1 _ _ _ d) ?_;simp +contextual -dsimp;refine B.bF (λg=>?_) (λg=>?_)
   ·have:ik (c::r)=([],0,false):=by rw[ug,if_pos];right;simpa using g
    rw[this]at d;exact aR d
   ·have hlen:(r.take c.toNat).length=c.toNat:=by simp;omega
    have:ik (c::r)=(r.take c.toNat,1+c.toNat,true):=by
     rw[ug,if_neg];rintro(h1|⟨h1,q⟩)
     ·omega
     ·have p:c.toNat≠0:=λe=>h1 (by simp[e])
      have o:r≠[]:=λe=>h1 (by simp[e]);simp[q,p,o]at g
    rw[this]at d;simp only[cg,j]at d;simp +contextual -dsimp;rw[show ((min c.toNat r.length:Nat):Int)=(c.toNat:Int) by omega,e3];exact aR d
def qU.Spec(C:aC)(N:zN):Prop:=∀(x:a7)(b:List UInt8)(R:List (List a7))(h:a9)(Q:zQ),aJ h 1 x (b.map bc) R->b.length<4611686018427387904->Q (cg (ik b)) h->C (N 104) [x] h Q
theorem qU.spec(i:qU.aD C N)(s1:iX.Spec C N):qU.Spec C N:=by
 intro x b R h Q hx n d;apply i;have f:=hx.aE;rw[length_map]at f;cases b with
 | nil=>
  simp +contextual -dsimp[f];exact aR d
 | cons c r=>
  have e0:=hx.dF (k:= .i64) (i:=0) (by simp);have e1:A.bX h (aV 1 x 0 0)=some (.int .u8 c.toNat):=hx.cell (by simp;rfl);have u:=wA c;have m:IntKind.i64.wrap (c.toNat:Int)=(c.toNat:Int):=wrap_i64 (by omega) (by omega);have e3:IntKind.i64.wrap (1+(c.toNat:Int))=1+(c.toNat:Int):=wrap_i64 (by omega) (by omega);have j:((1+c.toNat:Nat):Int)=1+(c.toNat:Int):=by omega
  simp only[Int.ofNat_eq_natCast,Int.natCast_zero]at e0;simp +contextual -dsimp[f,e0,e1,m,e3];simp only[length_cons]at n;refine B.bF (λhb=>?_) (λhb=>?_)<;>simp at hb
  ·have:ik (c::r)=([],0,false):=by rw[ug,if_pos];left;omega
   rw[this]at d;exact aR d
  ·obtain⟨t,R',e4,l,_⟩:=hx.kY (by omega) (lo:=1) (hi:=1+c.toNat) (a:=some (.int .i64 1)) (b:=some (.int .i64 ((1+c.toNat:Nat):Int))) (.inr ⟨_,rfl⟩) (.inr ⟨_,rfl⟩) (by omega) (by simp;omega)
   have s:((c::r).take (1+c.toNat)).drop 1=r.take c.toNat:=by rw[Nat.add_comm,take_succ_cons,drop_one,tail_cons]
   rw[s]at l;rw[j]at e4;simp +contextual -dsimp[e0,e1,m,e3,e4,hF l];refine B.gG (λ_ _ d=>s1 _ _ _ d) ?_;simp +contextual -dsimp;refine B.bF (λg=>?_) (λg=>?_)
   ·have:ik (c::r)=([],0,false):=by rw[ug,if_pos];right;simpa using g
    rw[this]at d;exact aR d
   ·have:ik (c::r)=(r.take c.toNat,1+c.toNat,true):=by
     rw[ug,if_neg];rintro(h1|⟨h1,q⟩)
     ·omega
     ·have p:c.toNat≠0:=λe=>h1 (by simp[e])
      have o:r≠[]:=λe=>h1 (by simp[e]);simp[q,p,o]at g
    rw[this]at d;simp only[cg,j]at d;exact aR d
variable{P:Program}{w0:World}{ρ:bP}{h H:a9}{w:World}
theorem Lw(a:Addr)(i j:Nat)(b:a.spot=none):(a.add i).add j=a.add (i+j):=by
 rw[xU _ _ b,xU _ _ rfl,xU _ _ b,Nat.add_assoc]
theorem EX:∀(bs:List UInt8)(a:Addr)(acc:ByteArray),a.spot=none->(∀j (d:j<bs.length),w.cell? (a.add j)=some (.int .u8 (bs[j].toNat:Int)))->(Extern.Bytes.loadBytes a bs.length acc).run P w= .ok (bs.foldl (λx b=>x.push b) acc) w
 | [],a,acc,_,_=>rfl
 | b::bs,a,acc,c,h=>by
  have h0:=h 0 (by simp)
  have e0:a.add 0=a:=by rw[xU _ _ c];cases a;simp at c;subst c;rfl
  rw[e0]at h0
  have e:=EX bs (a.add 1) (acc.push b) (by rw[xU _ _ c]) λj d=>by
   rw[Lw _ _ _ c]
   have:=h (j+1) (by simpa using d)
   rw[show 1+j=j+1 by omega]
   simpa using this
  have f:(load a).run P w= .ok (.int .u8 (b.toNat:Int)) w:=by simp[h0]
  have hb:((b.toNat:Int).toNat).toUInt8=b:=by simp
  simp only[length_cons,Extern.Bytes.loadBytes,Sem.run_bind,foldl_cons,f,Result.andThen_ok]
  rw[hb]
  exact e
theorem F4:∀(bs:List UInt8)(acc:ByteArray),(bs.foldl (λx b=>x.push b) acc).data.toList=acc.data.toList++bs
 | [],acc=>by simp
 | b::bs,acc=>by rw[foldl_cons,F4 bs];simp[ByteArray.push]
theorem dJ.at:∀{b:List a7}{l:List Value},dJ ρ b l->∀{j:Nat}{a:a7},b[j]?=some a->∃u,l[j]?=some u /\ dB ρ a u
 | [],_,_,j,a,h=>by simp at h
 | x::b,_,⟨u,us,rfl,h1,c⟩,0,a,h=>by simp at h;subst h;exact⟨u,rfl,h1⟩
 | x::b,_,⟨u,us,rfl,h1,c⟩,j+1,a,h=>by
  obtain⟨v,e1,d⟩:=dJ.at c (j:=j) (by simpa using h)
  exact⟨v,by simpa using e1,d⟩
theorem Hl:∀bs:List UInt8,(bs.map bc).flatten=bs.map λb=>a7.int .u8 (b.toNat:Int)
 | []=>rfl
 | b::bs=>by rw[map_cons,flatten_cons,Hl bs];rfl
theorem FA(s:R w0 ρ H w)(hle:h.le H){x:a7}{bs:List UInt8}{S:List (List a7)}(o:aJ h 1 x (bs.map bc) S){v:Value}(d:dB ρ x v):
  ∃b:ByteArray,(Extern.Bytes.bytesOf v).run P w= .ok b w /\ b.data.toList=bs:=by
 have f:=o.rdv;rw[length_map]at f;obtain⟨l,h1,t,z,y,k⟩:=Af (P:=P) s hle f d;rcases o.at_ with⟨e1,p,rfl|rfl⟩|⟨id,g,off,cp,b,hi,rfl,k1,k2,k3,k4,k5,k6⟩
 ·have:bs=[]:=by simpa using e1
  subst this;cases d;exact⟨.empty,rfl,rfl⟩
 ·have:bs=[]:=by simpa using e1
  subst this;obtain⟨a,rfl⟩:=d;exact⟨.empty,rfl,rfl⟩
 ·obtain⟨a,c,rfl⟩:=tH d
  rw[length_map];rcases k with k|⟨ad,m,c',e,k⟩
  ·have:bs=[]:=eq_nil_of_length_eq_zero k
   subst this;exact⟨.empty,rfl,rfl⟩
  ·cases e
   by_cases i:bs=[]
   ·subst i;exact⟨.empty,rfl,rfl⟩
   have n:a.spot=none:=by
    obtain⟨L,_,_,r⟩:=d;rcases r with⟨cap,e,_⟩|⟨e,_,_,_⟩
    ·cases e;rfl
    ·rw[length_map]at e
     exact absurd (eq_nil_of_length_eq_zero e) i
   refine⟨_,EX bs a .empty n λj q=>?_,by rw[F4];rfl⟩;obtain⟨u,e1,p⟩:=t.at (j:=j) (a:= .int .u8 (bs[j].toNat:Int)) (by rw[Hl,getElem?_map,getElem?_eq_getElem q];rfl);rw[k j u e1,show u=_ from p]
theorem K2{f:FuncId}{fn:Func}(A:P.funcs[f]? =some fn)(j:(fn.name== "runtime.NumGoroutine")=false)(hb:fn.body.isNone=true)(t:Extern.findNext fn=none)(he:Extern.find fn=some Extern.BytealgCompare.compare)
  {x y:a7} {a b:List UInt8} {S T:List (List a7)} {h:a9} {Q:zQ} (hx:aJ h 1 x (a.map bc) S) (o:aJ h 1 y (b.map bc) T) (s:Q (.int .i64 (Lib.compareBytes a b)) h):AC P f [x,y] h Q:=by
 have i:zi [x,y]=false:=by
  rcases hx.at_ with⟨_,_,rfl|rfl⟩|⟨_,_,_,_,_,_,rfl,_⟩<;>rfl
 refine λw0 ρ H w va hle n m=>⟨λ_=>?_,λh=>by rw[i]at h;cases h⟩;obtain⟨u,us,rfl,hu,v,vs,rfl,r,rfl⟩:=m.resolve_right (λ⟨id,xs,us,L,e,_⟩=>by rw[e]at i;cases i);obtain⟨c,C,B⟩:=FA (P:=P) n hle hx hu;obtain⟨d,d1,d2⟩:=FA (P:=P) n hle o r;have k:∀{z:a7}{c:List UInt8}{T:List (List a7)}{u:Value},aJ h 1 z (c.map bc) T->dB ρ z u->∀l p q,u≠ .func (.yield l) p q:=λ{z c T u} g hu l p q e=>by
  subst e;rcases g.at_ with⟨_,_,rfl|rfl⟩|⟨_,_,_,_,_,_,rfl,_⟩
  ·cases hu
  ·obtain⟨_,e⟩:=hu;cases e
  ·obtain⟨_,_,_,⟨_,e,_⟩|⟨_,_,_,e⟩⟩:=hu<;>cases e
 refine .inr ⟨.int .i64 (Lib.compareBytes a b),w,?_,⟨_,rfl,⟨⟨.int .i64 (Lib.compareBytes a b),ρ,h,H,bP.le_refl ρ,rfl,s,hle,Fr.refl h H,n⟩⟩⟩,λz g=>?_⟩
 rotate_left
 ·rcases mem_cons.1 g with rfl|g
  ·exact k hx hu
  ·rcases mem_cons.1 g with rfl|g
   ·exact k o r
   ·cases g
 rw[run_callFunc_extern A j hb t he];have:(Extern.BytealgCompare.compare [u,v].toArray).run P w= .ok (.int .i64 (Lib.compareBytes a b)) w:=by
  change Sem.run P (do pure (goInt (Extern.BytealgCompare.cmp (<- Extern.Bytes.bytesOf u) (<- Extern.Bytes.bytesOf v)))) w=_;simp only[Sem.run_bind,C,d1,Result.andThen_ok,Sem.run_pure];rw[Lib.cmp_eq,B,d2];rfl
 rw[this];rfl
def zC.aD(C:aC)(N:zN):Prop:=∀(x y:a7)(a b:List UInt8)(S T:List (List a7))(h:a9)(Q:zQ),aJ h 1 x (a.map bc) S->aJ h 1 y (b.map bc) T->Q (.int .i64 (Lib.compareBytes a b)) h->C (N 303) [x,y] h Q
@[simp] def jP.k1(C:aC)(N:zN)(Q:zQ)(Y1:zL)(d c a:a7)(h:a9):=B.al a (B.pv (V.aF 3 a) λe=>B.pv (V.aE e) λf=>B.pv (V.bin .lss c f) λb=>B.gd h b true (λK=>K d h) λg h=>bD h b (V.bin .leq g (i6 2000)) λi h=>B.pick b i (.bool false) λj=>B.cond j (B.pv (V.bin .add d (i6 1)) λk=>B.al a (B.pv (V.aF 3 a) λl=>B.pv (V.aM 4 l c) λm=>B.pv (V.fieldAddr 2 m) λn=>B.ld h n λo=>B.pv (V.aE o) λp=>B.pv (V.bin .add k p) λq=>B.al a (B.pv (V.aF 3 a) λr=>B.pv (V.aM 4 r c) λs=>B.pv (V.fieldAddr 3 s) λt=>B.ld h t λu=>B.pv (V.aE u) λw=>B.pv (V.bin .add q w) λx=>B.pv (V.bin .add c (i6 1)) λy=>Y1 [x,y] h))) (B.pv (V.bin .gtr d (i6 2000)) λz=>Q z h))
variable(C:aC)(N:Nat→Nat)(Q:zQ)
@[simp] def jP.l2(a:a7):zG|[b,c],h,Y1=>jP.k1 C N Q Y1 b c a h|_,_,_=>False
@[simp] def jP.k3(a:a7)(h:a9):=B.al a (B.pv (V.aF 4 a) λd=>B.pv (V.aE d) λe=>B.al a (B.pv (V.aF 5 a) λf=>B.pv (V.aE f) λb=>B.pv (V.bin .add e b) λc=>aB (jP.l2 C N Q a) [c,(i6 0)] h))
@[simp] def jP.aY(a:a7)(h:a9)(Q:zQ):=B.pv (A.ey 6 a) λb=>jP.k3 C N Q b h
def jP.aD:=g9 C (N 416) (jP.aY C N)
@[simp] def jx.k1(C:aC)(N:zN)(Q:zQ)(f g:a7)(h:a9):=B.pv (V.bin .gtr g (i6 200000)) λa=>B.gd h a false (λK=>K f h) λb h=>bH h a (V.aE b) λc h=>bH h a (V.bin .gtr c (i6 2000)) λd h=>B.pick a (.bool true) d λe=>Q e h
@[simp] def jx.k2(Y1:zL)(a c b:a7)(h:a9):=B.pv (V.aE a) λu=>B.pv (V.bin .lss b u) λd=>B.gd h d true (λK=>K c h) λe h=>bD h d (V.bin .leq e (i6 200000)) λf h=>B.pick d f (.bool false) λg=>B.cond g (B.pv (V.bin .add c (i6 1)) λi=>B.pv (V.aM 2 a b) λj=>B.pv (V.fieldAddr 0 j) λk=>B.ld h k λl=>B.pv (V.aE l) λm=>B.pv (V.bin .add i m) λn=>B.pv (V.aM 2 a b) λo=>B.pv (V.fieldAddr 1 o) λp=>B.ld h p λq=>B.pv (V.aE q) λr=>B.pv (V.bin .add n r) λs=>B.pv (V.bin .add b (i6 1)) λt=>Y1 [s,t] h) (jx.k1 C N Q a c h)
@[simp] def jx.l3(a:a7):zG|[b,c],h,Y1=>jx.k2 C N Q Y1 a b c h|_,_,_=>False
@[simp] def jx.aY(a:a7)(h:a9)(Q:zQ):=aB (jx.l3 C N Q a) [(i6 0),(i6 0)] h
def jx.aD:=g9 C (N 417) (jx.aY C N)
@[simp] def kk.k1(h:a9):=B.call C (N 422) [] h λD h=>B.call C (N 412) [D] h λj h=>B.pv (V.aE j) λr=>B.pv (V.bin .neq r (i6 5)) λs=>B.cond s (Q (.bool false) h) (B.call C (N 413) [j] h λn h=>B.pv (V.ext 0 n) λt=>B.pv (V.ext 1 n) λu=>B.pv (V.bU 0 6 t (.agg [i6 0,i6 0,i6 0,.aA,.aA,.aA])) λw=>B.pv (A.cD [(0,none,(i6 5))] [i6 0,i6 0,i6 0,.str [],.int .u8 0,.aA,.aA]) λx=>B.call C (N 415) [(i6 1),(i6 7),x] h λo h=>B.pv (V.ext 0 o) λk=>B.pv (V.ext 1 o) λy=>B.call C (N 414) [(i6 1),(i6 7),k] h λp h=>B.pv (V.ext 0 p) λz=>B.pv (V.ext 1 p) λaa=>B.pv (V.bU 0 7 z (.agg [i6 0,i6 0,i6 0,.str [],.int .u8 0,.aA,.aA])) λv=>B.pv (V.aM 2 j (i6 0)) λac=>B.pv (V.fieldAddr 0 ac) λad=>B.ld h ad λae=>B.gk h ae λaf=>B.pv (V.bin .eql af (.str [42,100,97,121])) λa=>B.gd h a true (λK=>K j h) λag h=>bD h a (V.aM 2 ag (i6 4)) λah h=>bD h a (V.fieldAddr 0 ah) λai h=>gb h a ai λaj h=>B.gd h a true (λK=>B.bL h (bN [(0,none,(.int .u8 108)),(1,none,(.int .u8 0)),(2,none,(.int .u8 0)),(3,none,(.int .u8 0)),(4,none,(.int .u8 0)),(5,none,(.int .u8 0)),(6,none,(.int .u8 0)),(7,none,(.int .u8 0)),(8,none,(.int .u8 1))] (bG 9 [.int .u8 0])) λi h=>K (.sl i 0 0 9 1 9) h) λak h=>dG C h a (N 34) [aj,ak] λam h=>B.pick a am (.bool false) λb=>B.gd h b true (λK=>K j h) λan h=>bD h b (V.aM 2 an (i6 4)) λao h=>bD h b (V.fieldAddr 1 ao) λap h=>gb h b ap λaq h=>B.gd h b true (λK=>B.bL h (bN [(0,none,(.int .u8 1)),(1,none,(.int .u8 65)),(2,none,(.int .u8 0)),(3,none,(.int .u8 3)),(4,none,(.int .u8 0)),(5,none,(.int .u8 8)),(6,none,(.int .u8 0)),(7,none,(.int .u8 0)),(8,none,(.int .u8 0)),(9,none,(.int .u8 5)),(10,none,(.int .u8 1))] (bG 11 [.int .u8 0])) λi h=>K (.sl i 0 0 11 1 11) h) λar h=>dG C h b (N 34) [aq,ar] λau h=>B.pick b au (.bool false) λl=>B.gd h l true (λK=>K u h) λav h=>bD h l (V.bin .eql av (i6 0)) λZ h=>B.pick l Z (.bool false) λe=>bD h e (V.bM 0 6 w) λY h=>B.al w (dG C h e (N 422) [] λX h=>dG C h e (N 116) [Y,X] λW h=>B.pick e W (.bool false) λm=>B.gd h m true (λK=>K y h) λU h=>bD h m (V.bin .eql U (i6 0)) λT h=>B.pick m T (.bool false) λf=>B.gd h f true (λK=>K k h) λbc h=>bD h f (V.aE bc) λS h=>bD h f (V.bin .eql S (i6 1)) λbe h=>B.pick f be (.bool false) λc=>B.gd h c true (λK=>K k h) λR h=>bD h c (V.aM 2 R (i6 0)) λP h=>bD h c (V.fieldAddr 0 P) λO h=>gb h c O λbi h=>B.gd h c true (λK=>B.bL h (bN [(0,none,(.int .u8 97)),(1,none,(.int .u8 1)),(2,none,(.int .u8 0)),(3,none,(.int .u8 0)),(4,none,(.int .u8 0)),(5,none,(.int .u8 0)),(6,none,(.int .u8 0)),(7,none,(.int .u8 0)),(8,none,(.int .u8 0)),(9,none,(.int .u8 7)),(10,none,(.int .u8 0)),(11,none,(.int .u8 0))] (bG 12 [.int .u8 0])) λi h=>K (.sl i 0 0 12 1 12) h) λbj h=>dG C h c (N 34) [bi,bj] λM h=>B.pick c M (.bool false) λq=>B.gd h q true (λK=>K aa h) λL h=>B.pick q L (.bool false) λg=>B.al v (bV h g (V.aF 0 v) λJ h=>bD h g (V.bin .eql J (i6 5)) λI h=>B.pick g I (.bool false) λd=>bD h d (A.cD [] [i6 0,i6 0,i6 0,.aA,.aA,.aA]) λH h=>dG C h d (N 412) [H] λG h=>bD h d (V.aE G) λF h=>bD h d (V.bin .eql F (i6 0)) λE h=>B.pick d E (.bool false) λbs=>Q bs h)))
@[simp] def kk.aY(h:a9)(Q:zQ):Prop:=kk.k1 C N Q h
def kk.aD:=Ei C (N 418) (kk.aY C N)
@[simp] def pI.k1(C:aC)(N:zN)(Q:zQ)(h:a9):=B.pv (A.cD [(0,none,(.str [65])),(1,none,(i6 5))] [.str [],i6 0,.aA,.aA]) λa=>B.bL h (bN [(0,some 4,a)] (bG 1 [.str [],i6 0,.aA,.aA])) λb h=>B.pv (A.cD [(0,none,(i6 3)),(1,none,(i6 8))] [i6 0,i6 0]) λc=>B.pv (A.cD [(0,none,(i6 1)),(1,none,(.str [65])),(2,some 2,c),(4,none,(i6 5)),(5,none,(.bool true))] [i6 0,.str [],i6 0,i6 0,i6 0,.bool false]) λd=>B.bL h (bN [(0,some 6,d)] (bG 1 [i6 0,.str [],i6 0,i6 0,i6 0,.bool false])) λe h=>B.pv (A.cD [(0,none,(i6 3)),(1,none,(i6 2)),(2,none,(i6 1)),(3,none,(.sl b 0 0 1 4 1)),(4,none,(.sl e 0 0 1 6 1))] [i6 0,i6 0,i6 0,.aA,.aA,.aA]) λf=>B.pv (V.bU 0 6 f (.agg [i6 0,i6 0,i6 0,.aA,.aA,.aA])) λg=>B.pv (oneOf (cJ (V.bM 0 6 g) (some []))) λv=>Q v h
def pI.aD:=Q2 C (N 422) (pI.k1 C N)
@[simp] def qj.k1(v0:a7)(h:a9):=B.pv (A.ey 6 v0) λd=>B.pv (V.bM 0 6 d) λF=>B.call C (N 416) [F] h λE h=>B.cond E (B.call C (N 418) [] h λD h=>Q D h) (B.pv (V.bM 0 6 d) λk=>B.call C (N 446) [k] h λl h=>B.pv (V.bU 0 6 l (.agg [i6 0,i6 0,i6 0,.aA,.aA,.aA])) λc=>B.pv (V.bM 0 6 c) λm=>B.pv (V.bM 0 6 c) λn=>B.al c (B.call C (N 412) [m] h λe h=>B.call C (N 412) [n] h λf h=>B.pv (V.bM 0 6 c) λo=>B.pv (V.bM 0 6 d) λp=>B.call C (N 447) [o,p] h λq h=>B.pv (V.un .not q) λr=>B.cond r (Q (.bool false) h) (B.pv (V.bM 0 6 c) λs=>B.call C (N 448) [s] h λI h=>B.pv (V.bM 0 6 d) λt=>B.call C (N 449) [t] h λg h=>B.call C (N 263) [e,g] h λb h=>B.gd h b true (λK=>K f h) λu h=>B.gd h b true (λK=>K g h) λv h=>dG C h b (N 263) [u,v] λw h=>B.pick b w (.bool false) λa=>B.gd h a true (λK=>K e h) λx h=>B.gd h a true (λK=>K f h) λy h=>B.gd h a true (λK=>B.bL h (bN [(0,none,x),(1,none,y)] (bG 2 [.aA])) λi h=>K (.sl i 0 0 2 1 2) h) λz h=>dG C h a (N 307) [z] λH h=>B.pick a H (.bool false) λj=>dG C h j (N 418) [] λG h=>B.pick j G (.bool false) λac=>Q ac h)))
def qj.aD:=fy C (N 450) (qj.k1 C N)
@[simp] def kU.k1(e:a7)(h:a9):=B.call C (N 417) [e] h λl h=>B.cond l (B.call C (N 418) [] h λm h=>Q m h) (B.call C (N 254) [e] h λb h=>B.call C (N 413) [b] h λf h=>B.pv (V.ext 0 f) λn=>B.pv (V.ext 1 f) λo=>B.pv (V.bU 0 6 n (.agg [i6 0,i6 0,i6 0,.aA,.aA,.aA])) λp=>B.call C (N 413) [b] h λg h=>B.pv (V.ext 0 g) λq=>B.pv (V.ext 1 g) λM=>B.pv (V.bU 0 6 q (.agg [i6 0,i6 0,i6 0,.aA,.aA,.aA])) λr=>B.call C (N 258) [b,e] h λs h=>B.pv (V.un .not s) λt=>B.cond t (Q (.bool false) h) (B.call C (N 451) [b] h λap h=>B.call C (N 452) [e] h λj h=>B.pv (V.ext 0 j) λu=>B.pv (V.ext 1 j) λw=>B.pv (V.bU 0 6 u (.agg [i6 0,i6 0,i6 0,.aA,.aA,.aA])) λx=>B.pv (V.bM 0 6 p) λy=>B.pv (V.bM 0 6 x) λz=>B.call C (N 116) [y,z] h λc h=>bD h c (V.bM 0 6 r) λL h=>bD h c (V.bM 0 6 x) λJ h=>dG C h c (N 116) [L,J] λac h=>B.pick c ac (.bool false) λd=>B.gd h d true (λK=>K o h) λad h=>B.gd h d true (λK=>K w h) λI h=>bD h d (V.bin .eql ad I) λH h=>B.pick d H (.bool false) λa=>bD h a (V.bM 0 6 p) λG h=>B.gd h a true (λK=>B.bL h (bN [(0,some 6,G)] (bG 1 [i6 0,i6 0,i6 0,.aA,.aA,.aA])) λi h=>K (.sl i 0 0 1 6 1) h) λF h=>bD h a (V.bM 0 6 r) λE h=>B.gd h a true (λK=>B.bL h (bN [(0,some 6,E)] (bG 1 [i6 0,i6 0,i6 0,.aA,.aA,.aA])) λi h=>K (.sl i 0 0 1 6 1) h) λD h=>B.gd h a true (λK=>B.bL h (bN [(0,none,F),(1,none,D)] (bG 2 [.aA])) λi h=>K (.sl i 0 0 2 1 2) h) λA h=>dG C h a (N 453) [A] λal h=>B.pick a al (.bool false) λk=>dG C h k (N 418) [] λam h=>B.pick k am (.bool false) λv=>Q v h))
@[simp] def kU.aY(a:a7)(h:a9)(Q:zQ):Prop:=kU.k1 C N Q a h
def kU.aD:=g9 C (N 454) (kU.aY C N)
@[simp] def mn.k1(e f v2 E w:a7)(h:a9):=B.pv (A.ey 7 E) λg=>B.call C (N 417) [w] h λm h=>B.al g (eN h m (V.aF 5 g) λbs h=>bH h m (V.aE bs) λbt h=>bH h m (V.bin .gtr bt (i6 400)) λbu h=>B.pick m (.bool true) bu λn=>B.al g (eN h n (V.aF 6 g) λbv h=>bH h n (V.aE bv) λbw h=>bH h n (V.bin .gtr bw (i6 3000)) λbx h=>B.pick n (.bool true) bx λo=>B.al g (eN h o (V.aF 3 g) λbz h=>bH h o (V.lR bz) λZ h=>bH h o (V.bin .gtr Z (i6 1000)) λY h=>B.pick o (.bool true) Y λX=>B.cond X (B.call C (N 418) [] h λW h=>Q W h) (B.pv (V.bM 0 7 g) λce=>B.call C (N 27) [ce] h λU h=>B.call C (N 254) [w] h λq h=>B.pv (V.bU 0 7 U (.agg [i6 0,i6 0,i6 0,.str [],.int .u8 0,.aA,.aA])) λr=>B.pv (V.bM 0 7 r) λcg=>B.call C (N 415) [e,f,cg] h λx h=>B.pv (V.ext 0 x) λy=>B.pv (V.ext 1 x) λch=>B.pv (V.bM 0 7 r) λci=>B.call C (N 415) [e,f,ci] h λz h=>B.pv (V.ext 0 z) λT=>B.pv (V.ext 1 z) λdc=>B.call C (N 414) [e,f,q] h λD h=>B.pv (V.ext 0 D) λS=>B.pv (V.ext 1 D) λcl=>B.pv (V.bU 0 7 S (.agg [i6 0,i6 0,i6 0,.str [],.int .u8 0,.aA,.aA])) λv=>B.call C (N 414) [e,f,q] h λac h=>B.pv (V.ext 0 ac) λR=>B.pv (V.ext 1 ac) λdd=>B.pv (V.bU 0 7 R (.agg [i6 0,i6 0,i6 0,.str [],.int .u8 0,.aA,.aA])) λP=>B.call C (N 427) [e,f,v2] h λad h=>B.call C (N 427) [e,f,v2] h λco h=>B.pv (V.bM 0 7 r) λcp=>B.pv (V.bM 0 7 g) λO=>B.call C (N 30) [cp,O] h λM h=>B.pv (V.un .not M) λp=>B.gd h p false (λK=>K q h) λcs h=>B.gd h p false (λK=>K w h) λL h=>gE C h p (N 258) [cs,L] λJ h=>bH h p (V.un .not J) λI h=>B.pick p (.bool true) I λH=>B.cond H (Q (.bool false) h) (B.pv (V.bM 0 7 r) λG=>B.call C (N 31) [G] h λda h=>B.call C (N 451) [q] h λdb h=>B.pv (V.bM 0 7 g) λaf=>B.call C (N 455) [e,f,af] h λs h=>B.pv (V.ext 0 s) λag=>B.pv (V.ext 1 s) λah=>B.call C (N 456) [e,f,w] h λt h=>B.pv (V.ext 0 t) λai=>B.pv (V.ext 1 t) λaj=>B.pv (V.bU 0 7 ai (.agg [i6 0,i6 0,i6 0,.str [],.int .u8 0,.aA,.aA])) λF=>B.pv (V.bin .eql ch ah) λj=>B.gd h j true (λK=>K y h) λak h=>B.gd h j true (λK=>K ag h) λam h=>dG C h j (N 263) [ak,am] λan h=>B.pick j an (.bool false) λk=>B.gd h k true (λK=>K cl h) λao h=>B.gd h k true (λK=>K aj h) λap h=>bD h k (V.vC .eql ao ap) λaq h=>B.pick k aq (.bool false) λl=>bD h l (V.bM 0 7 v) λar h=>bD h l (V.bM 0 7 F) λau h=>dG C h l (N 42) [ar,au] λav h=>B.pick l av (.bool false) λa=>B.gd h a true (λK=>K ad h) λaw h=>B.gd h a true (λK=>K e h) λax h=>B.gd h a true (λK=>K f h) λay h=>B.gd h a true (λK=>K v2 h) λaz h=>dG C h a (N 457) [ax,ay,az] λba h=>dG C h a (N 34) [aw,ba] λbb h=>B.pick a bb (.bool false) λc=>B.gd h c true (λK=>K y h) λbc h=>B.gd h c true (λK=>K T h) λbd h=>B.gd h c true (λK=>B.bL h (bN [(0,none,bc),(1,none,bd)] (bG 2 [.aA])) λi h=>K (.sl i 0 0 2 1 2) h) λbe h=>dG C h c (N 307) [be] λbf h=>B.pick c bf (.bool false) λb=>bD h b (V.bM 0 7 v) λbg h=>B.gd h b true (λK=>B.bL h (bN [(0,some 7,bg)] (bG 1 [i6 0,i6 0,i6 0,.str [],.int .u8 0,.aA,.aA])) λi h=>K (.sl i 0 0 1 7 1) h) λbh h=>bD h b (V.bM 0 7 P) λbi h=>B.gd h b true (λK=>B.bL h (bN [(0,some 7,bi)] (bG 1 [i6 0,i6 0,i6 0,.str [],.int .u8 0,.aA,.aA])) λi h=>K (.sl i 0 0 1 7 1) h) λbj h=>B.gd h b true (λK=>B.bL h (bN [(0,none,bh),(1,none,bj)] (bG 2 [.aA])) λi h=>K (.sl i 0 0 2 1 2) h) λbk h=>dG C h b (N 43) [bk] λbl h=>B.pick b bl (.bool false) λd=>B.gd h d true (λK=>K ad h) λbm h=>B.gd h d true (λK=>K co h) λbn h=>B.gd h d true (λK=>B.bL h (bN [(0,none,bm),(1,none,bn)] (bG 2 [.aA])) λi h=>K (.sl i 0 0 2 1 2) h) λbo h=>dG C h d (N 35) [bo] λbp h=>B.pick d bp (.bool false) λu=>dG C h u (N 418) [] λbq h=>B.pick u bq (.bool false) λbr=>Q br h)))))
def mn.aD:=Q1 C (N 458) (mn.k1 C N)
@[simp] def gx.k1(m:a7)(h:a9):=B.pv (V.bM 0 7 m) λJ=>B.call C (N 415) [(i6 1),(i6 7),J] h λq h=>B.pv (V.ext 0 q) λb=>B.pv (V.ext 1 q) λI=>B.pv (V.bin .neq I (i6 0)) λl=>B.gd h l false (λK=>K b h) λH h=>bH h l (V.aE H) λG h=>bH h l (V.bin .neq G (i6 3)) λce h=>B.pick l (.bool true) ce λF=>B.cond F (Q (.bool false) h) (B.call C (N 306) [b] h λn h=>B.call C (N 306) [b] h λc h=>B.call C (N 427) [(i6 1),(i6 7),(i6 5)] h λcg h=>B.pv (V.aM 2 n (i6 2)) λch=>B.pv (V.fieldAddr 0 ch) λci=>B.st h ci cg λh=>B.pv (V.aM 2 c (i6 1)) λE=>B.pv (V.fieldAddr 1 E) λD=>B.ld h D λcl=>B.pv (V.aM 1 cl (i6 179)) λr=>B.ld h r λs=>B.pv (V.aM 2 c (i6 2)) λt=>B.pv (V.fieldAddr 1 t) λu=>B.ld h u λw=>B.bL h (bN [(0,none,s)] (bG 1 [.int .u8 0])) λx h=>B.bO h 1 1 (.sl x 0 0 1 1 1) w λy h=>B.pv (V.aM 2 c (i6 2)) λz=>B.pv (V.fieldAddr 1 z) λaa=>B.st h aa y λh=>B.pv (V.aM 2 c (i6 1)) λab=>B.pv (V.fieldAddr 1 ab) λac=>B.ld h ac λad=>B.pv (V.dS 1 ad none (some (i6 179))) λae=>B.pv (V.aM 2 c (i6 1)) λaf=>B.pv (V.fieldAddr 1 af) λag=>B.st h ag ae λh=>B.call C (N 306) [b] h λj h=>B.pv (V.aM 2 j (i6 2)) λah=>B.pv (V.fieldAddr 1 ah) λai=>B.ld h ai λaj=>B.bL h (bN [(0,none,(.int .u8 0))] (bG 1 [.int .u8 0])) λak h=>B.bO h 1 1 aj (.sl ak 0 0 1 1 1) λal h=>B.pv (V.aM 2 j (i6 2)) λam=>B.pv (V.fieldAddr 1 am) λan=>B.st h an al λh=>B.call C (N 306) [b] h λao h=>B.call C (N 427) [(i6 1),(i6 7),(i6 3)] h λap h=>B.pv (A.cD [(0,none,ap)] [.aA,.aA]) λaq=>B.bL h (bN [(0,some 2,aq)] (bG 1 [.aA,.aA])) λar h=>B.bO h 2 48 ao (.sl ar 0 0 1 2 1) λau h=>B.call C (N 414) [(i6 1),(i6 7),b] h λo h=>B.pv (V.ext 0 o) λav=>B.pv (V.ext 1 o) λk=>B.pv (V.bU 0 7 av (.agg [i6 0,i6 0,i6 0,.str [],.int .u8 0,.aA,.aA])) λcm=>B.call C (N 414) [(i6 1),(i6 7),n] h λp h=>B.pv (V.ext 0 p) λaw=>B.pv (V.ext 1 p) λax=>B.pv (V.bU 0 7 aw (.agg [i6 0,i6 0,i6 0,.str [],.int .u8 0,.aA,.aA])) λcn=>B.gd h k true (λK=>K ax h) λay h=>bD h k (V.un .not ay) λaz h=>B.pick k az (.bool false) λd=>bD h d (V.bM 0 7 m) λba h=>B.gd h d true (λK=>K n h) λbb h=>dG C h d (N 458) [(i6 1),(i6 7),(i6 0),ba,bb] λbc h=>B.pick d bc (.bool false) λe=>bD h e (V.bM 0 7 m) λbd h=>B.gd h e true (λK=>K c h) λbe h=>dG C h e (N 458) [(i6 1),(i6 7),(i6 0),bd,be] λbf h=>B.pick e bf (.bool false) λf=>bD h f (V.bM 0 7 m) λbg h=>B.gd h f true (λK=>K j h) λbh h=>dG C h f (N 458) [(i6 1),(i6 7),(i6 0),bg,bh] λbi h=>B.pick f bi (.bool false) λg=>bD h g (V.bM 0 7 m) λbj h=>B.gd h g true (λK=>K au h) λZ h=>dG C h g (N 458) [(i6 1),(i6 7),(i6 0),bj,Z] λY h=>B.pick g Y (.bool false) λa=>bD h a (V.bM 0 7 m) λX h=>B.gd h a true (λK=>K b h) λW h=>bD h a (V.aM 2 W (i6 0)) λU h=>B.gd h a true (λK=>B.cR h U 2 λv=>K v h) λT h=>B.gd h a true (λK=>K b h) λS h=>bD h a (V.aM 2 S (i6 2)) λR h=>B.gd h a true (λK=>B.cR h R 2 λv=>K v h) λbs h=>B.gd h a true (λK=>K b h) λP h=>bD h a (V.aM 2 P (i6 1)) λO h=>B.gd h a true (λK=>B.cR h O 2 λv=>K v h) λbv h=>B.gd h a true (λK=>B.bL h (bN [(0,some 2,T),(2,some 2,bs),(4,some 2,bv)] (bG 3 [.aA,.aA])) λi h=>K (.sl i 0 0 3 2 3) h) λM h=>dG C h a (N 458) [(i6 1),(i6 7),(i6 0),X,M] λbx h=>B.pick a bx (.bool false) λL=>Q L h)
@[simp] def gx.k2(Y1:zL)(b a:a7)(h:a9):=B.pv (V.bin .lss b (i6 20)) λc=>B.cond c (B.al a (B.pv (V.aF 6 a) λd=>B.pv (A.cD [(1,none,b),(2,none,(i6 1))] [i6 0,i6 0,i6 0]) λe=>B.bL h (bN [(0,some 3,e)] (bG 1 [i6 0,i6 0,i6 0])) λf h=>B.bO h 3 24 d (.sl f 0 0 1 3 1) λg h=>B.al a (B.pv (V.cL 6 g a) λa=>B.pv (V.bin .add b (i6 1)) λi=>Y1 [i,a] h))) (gx.k1 C N Q a h)
@[simp] def gx.l3:zG|[a,b],h,Y1=>gx.k2 C N Q Y1 a b h|_,_,_=>False
@[simp] def gx.k4(c v5 v6:a7)(h:a9):=B.pv (V.dS 2 c none (some (i6 3))) λd=>B.pv (V.dS 2 c (some (i6 3)) none) λe=>B.bO h 2 48 .sz d λf h=>B.bO h 2 48 f v5 λg h=>B.bO h 2 48 g e λj h=>B.call C (N 454) [j] h λk h=>B.pv (V.un .not k) λa=>B.gd h a false (λK=>K c h) λl h=>bH h a (V.dS 2 l none (some (i6 3))) λm h=>B.gd h a false (λK=>K v6 h) λn h=>B.gd h a false (λK=>K c h) λo h=>bH h a (V.dS 2 o (some (i6 3)) none) λp h=>B.gd h a false (λK=>K .sz h) λq h=>B.gd h a false (λK=>B.bO h 2 48 q m K) λr h=>B.gd h a false (λK=>B.bO h 2 48 r n K) λs h=>B.gd h a false (λK=>B.bO h 2 48 s p K) λt h=>gE C h a (N 454) [t] λu h=>bH h a (V.un .not u) λw h=>B.pick a (.bool true) w λb=>B.gd h b false (λK=>B.bL h (bN [(0,none,(.int .u8 1))] (bG 1 [.int .u8 0])) λi h=>K (.sl i 0 0 1 1 1) h) λx h=>bH h b (A.cD [(1,none,x)] [.aA,.aA]) λy h=>B.gd h b false (λK=>B.bL h (bN [(0,some 2,y)] (bG 1 [.aA,.aA])) λi h=>K (.sl i 0 0 1 2 1) h) λz h=>gE C h b (N 454) [z] λD h=>bH h b (V.un .not D) λv h=>B.pick b (.bool true) v λac=>B.cond ac (Q (.bool false) h) (aB (gx.l3 C N Q) [(i6 1),(.agg [i6 0,i6 0,i6 0,.str [],.int .u8 0,.aA,.aA])] h)
@[simp] def gx.k5(g a i:a7)(h:a9):=B.pv (V.aM 2 a (i6 0)) λb=>B.cR h b 2 λc=>B.pv (V.aM 2 a (i6 0)) λd=>B.cR h d 2 λe=>B.bL h (bN [(0,some 2,c),(2,some 2,e)] (bG 2 [.aA,.aA])) λf h=>gx.k4 C N Q g i (.sl f 0 0 2 2 2) h
@[simp] def gx.k6(g a:a7)(h:a9):=B.pv (V.aM 2 a (i6 1)) λb=>B.cR h b 2 λc=>B.pv (V.aM 2 a (i6 0)) λd=>B.cR h d 2 λe=>B.bL h (bN [(0,some 2,c),(2,some 2,e)] (bG 2 [.aA,.aA])) λf h=>gx.k5 C N Q g a (.sl f 0 0 2 2 2) h
@[simp] def gx.aY(a b:a7)(h:a9)(Q:zQ):Prop:=gx.k6 C N Q a b h
def gx.aD:=mi C (N 459) (gx.aY C N)
@[simp] def fD.Io(C:aC)(N:zN)(Q:zQ)(a c:a7)(h:a9):Prop:=B.pv (V.bM 0 6 c) λb=>B.pv (V.bU 0 6 b a) λa=>B.pv (oneOf (cJ (V.bM 0 6 a) (some []))) λv=>Q v h
@[simp] def fD.Ip(f a:a7)(h:a9):Prop:=B.pv (A.cD [(0,none,(i6 1)),(1,none,(.str [65])),(2,none,(i6 1)),(5,none,(.int .u8 1)),(6,none,(.int .i64 (-1)))] [i6 0,.str [],i6 0,i6 0,i6 0,.int .u8 0,i6 0,.str []]) λb=>B.pv (A.cD [(0,none,(i6 256)),(1,none,(.str [65])),(2,none,(i6 1073741824)),(3,none,(i6 4000)),(4,none,(i6 99)),(5,none,(.int .u8 2)),(6,none,(i6 4000)),(7,none,(.str [65,66,67,68,69,70,71,72,73,74,75,76]))] [i6 0,.str [],i6 0,i6 0,i6 0,.int .u8 0,i6 0,.str []]) λc=>B.pv (A.cD [(0,none,(i6 9223372036854775807)),(1,none,(.str [66])),(2,none,(i6 2)),(5,none,(.int .u8 3)),(6,none,(.int .i64 (-1)))] [i6 0,.str [],i6 0,i6 0,i6 0,.int .u8 0,i6 0,.str []]) λd=>B.bL h (bN [(0,some 8,b),(8,some 8,c),(16,some 8,d)] (bG 3 [i6 0,.str [],i6 0,i6 0,i6 0,.int .u8 0,i6 0,.str []])) λe h=>B.al a (B.pv (V.cL 5 (.sl e 0 0 3 8 3) a) λa=>fD.Io C N Q f a h)
@[simp] def fD.Iq(g a:a7)(h:a9):Prop:=B.pv (A.cD [(0,none,(i6 0)),(1,none,(i6 4001))] [i6 0,i6 0]) λb=>B.pv (A.cD [(0,none,(i6 1)),(1,none,(.str [65])),(2,some 2,b),(4,none,(i6 1073741824))] [i6 0,.str [],i6 0,i6 0,i6 0,.bool false]) λc=>B.pv (A.cD [(0,none,(i6 4000)),(1,none,(i6 4001))] [i6 0,i6 0]) λd=>B.pv (A.cD [(0,none,(i6 9223372036854775807)),(1,none,(.str [65,66,67,68,69,70,71,72,73,74,75,76])),(2,some 2,d),(4,none,(i6 1)),(5,none,(.bool true))] [i6 0,.str [],i6 0,i6 0,i6 0,.bool false]) λe=>B.bL h (bN [(0,some 6,c),(6,some 6,e)] (bG 2 [i6 0,.str [],i6 0,i6 0,i6 0,.bool false])) λf h=>B.al a (B.pv (V.cL 4 (.sl f 0 0 2 6 2) a) λa=>fD.Ip C N Q g a h)
@[simp] def fD.k1(g a i:a7)(h:a9):=B.pv (A.cD [(0,none,(.str [65])),(1,none,(i6 2000))] [.str [],i6 0,.aA,.aA]) λb=>B.pv (V.bM 0 4 i) λc=>B.bL h (bN [(0,none,(.str [90]))] (bG 1 [.str []])) λd h=>B.pv (A.cD [(0,none,(.str [66])),(1,none,(i6 1)),(3,none,(.sl d 0 0 1 1 1))] [.str [],i6 0,.aA,.aA]) λe=>B.bL h (bN [(0,some 4,b),(4,some 4,c),(8,some 4,e)] (bG 3 [.str [],i6 0,.aA,.aA])) λf h=>B.al a (B.pv (V.cL 3 (.sl f 0 0 3 4 3) a) λa=>fD.Iq C N Q g a h)
@[simp] def fD.k2(Y1:zL)(b n o a:a7)(h:a9):=B.pv (V.bin .lss b (i6 8)) λp=>B.cond p (B.al a (B.pv (V.aF 2 a) λc=>B.pv (V.bin .add (i6 48) b) λd=>B.pv (V.toInt .u8 d) λe=>B.bL h (bN [(0,none,e)] (bG 1 [.int .u8 0])) λf h=>B.gk h (.sl f 0 0 1 1 1) λg=>B.pv (V.bin .add (.str [65,66,67,68,69,70,71,72,73,74,75]) g) λi=>B.pv (A.cD [(0,none,i),(1,none,(i6 1073741824))] [.str [],i6 0]) λj=>B.bL h (bN [(0,some 2,j)] (bG 1 [.str [],i6 0])) λk h=>B.bO h 2 24 c (.sl k 0 0 1 2 1) λl h=>B.al a (B.pv (V.cL 2 l a) λa=>B.pv (V.bin .add b (i6 1)) λm=>Y1 [m,a] h))) (fD.k1 C N Q n o a h)
@[simp] def fD.l3(a b:a7):zG|[c,d],h,Y1=>fD.k2 C N Q Y1 c a b d h|_,_,_=>False
@[simp] def fD.k4(a b:a7)(h:a9):Prop:=B.bL h (bN [(0,none,(.str [66,66,66,66,66,66,66,66,66,66,66,66])),(1,none,(.str [67,67,67,67,67,67,67,67,67,67,67,67])),(2,none,(.str [68,68,68,68,68,68,68,68,68,68,68,68])),(3,none,(.str [69,69,69,69,69,69,69,69,69,69,69,69]))] (bG 4 [.str []])) λc h=>B.pv (A.cD [(0,none,(.str [65,66,67,68,69,70,71,72,73,74,75,57])),(3,none,(.sl c 0 0 4 1 4))] [.str [],i6 0,.aA,.aA]) λd=>B.pv (V.bU 0 4 d (.agg [.str [],i6 0,.aA,.aA])) λe=>aB (fD.l3 C N Q a b) [(i6 0),e] h
@[simp] def fD.k5(a:a7)(h:a9):=B.pv (A.cD [(0,none,(i6 4000)),(1,none,(i6 4611686018427387904)),(2,none,(i6 4611686018427387904))] [i6 0,i6 0,i6 0,.aA,.aA,.aA]) λb=>B.pv (V.bU 0 6 b (.agg [i6 0,i6 0,i6 0,.aA,.aA,.aA])) λc=>fD.k4 C N Q a c h
@[simp] def fD.aY(h:a9)(Q:zQ):Prop:=fD.k5 C N Q (.agg [i6 0,i6 0,i6 0,.aA,.aA,.aA]) h
def fD.aD:=Ei C (N 460) (fD.aY C N)
@[simp] def lI.k1(C:aC)(N:zN)(Q:zQ)(d a c:a7)(h:a9):=B.pv (V.bin .eql d (i6 0)) λD=>B.cond D (B.al a (B.pv (V.cL 0 (.int .i64 (-1)) a) λa=>B.pv (V.bM 0 6 a) λb=>B.pv (V.bU 0 6 b c) λc=>B.pv (oneOf (cJ (V.bM 0 6 c) (some []))) λv=>Q v h)) (B.pv (V.bin .eql d (i6 1)) λy=>B.cond y (B.al a (B.pv (V.cL 0 (i6 4001) a) λa=>B.pv (V.bM 0 6 a) λb=>B.pv (V.bU 0 6 b c) λc=>B.pv (oneOf (cJ (V.bM 0 6 c) (some []))) λv=>Q v h)) (B.pv (V.bin .eql d (i6 2)) λz=>B.cond z (B.al a (B.pv (V.cL 1 (i6 0) a) λa=>B.pv (V.bM 0 6 a) λb=>B.pv (V.bU 0 6 b c) λc=>B.pv (oneOf (cJ (V.bM 0 6 c) (some []))) λv=>Q v h)) (B.pv (V.bin .eql d (i6 3)) λaa=>B.cond aa (B.al a (B.pv (V.cL 2 (i6 4611686018427387905) a) λa=>B.pv (V.bM 0 6 a) λb=>B.pv (V.bU 0 6 b c) λc=>B.pv (oneOf (cJ (V.bM 0 6 c) (some []))) λv=>Q v h)) (B.pv (V.bin .eql d (i6 4)) λab=>B.cond ab (B.al a (B.pv (V.aF 3 a) λac=>B.al a (B.pv (V.aF 3 a) λad=>B.pv (V.aM 4 ad (i6 0)) λae=>B.cR h ae 4 λaf=>B.bL h (bN [(0,some 4,af)] (bG 1 [.str [],i6 0,.aA,.aA])) λag h=>B.bO h 4 72 ac (.sl ag 0 0 1 4 1) λah h=>B.al a (B.pv (V.cL 3 ah a) λa=>B.pv (V.bM 0 6 a) λb=>B.pv (V.bU 0 6 b c) λc=>B.pv (oneOf (cJ (V.bM 0 6 c) (some []))) λv=>Q v h)))) (B.pv (V.bin .eql d (i6 5)) λai=>B.cond ai (B.al a (B.pv (V.aF 3 a) λaj=>B.pv (V.aM 4 aj (i6 0)) λak=>B.pv (V.fieldAddr 1 ak) λam=>B.st h am (i6 2001) λh=>B.pv (V.bM 0 6 a) λb=>B.pv (V.bU 0 6 b c) λc=>B.pv (oneOf (cJ (V.bM 0 6 c) (some []))) λv=>Q v h)) (B.pv (V.bin .eql d (i6 6)) λan=>B.cond an (B.al a (B.pv (V.aF 3 a) λao=>B.pv (V.aM 4 ao (i6 0)) λap=>B.pv (V.fieldAddr 0 ap) λaq=>B.st h aq (.str [97]) λh=>B.pv (V.bM 0 6 a) λb=>B.pv (V.bU 0 6 b c) λc=>B.pv (oneOf (cJ (V.bM 0 6 c) (some []))) λv=>Q v h)) (B.pv (V.bin .eql d (i6 7)) λar=>B.cond ar (B.al a (B.pv (V.aF 3 a) λau=>B.al a (B.pv (V.aF 3 a) λav=>B.pv (V.aM 4 av (i6 0)) λaw=>B.pv (V.fieldAddr 0 aw) λax=>B.ld h ax λay=>B.bL h (bN [(0,none,ay)] (bG 1 [.str []])) λaz h=>B.pv (V.aM 4 au (i6 0)) λba=>B.pv (V.fieldAddr 3 ba) λbb=>B.st h bb (.sl az 0 0 1 1 1) λh=>B.pv (V.bM 0 6 a) λb=>B.pv (V.bU 0 6 b c) λc=>B.pv (oneOf (cJ (V.bM 0 6 c) (some []))) λv=>Q v h))) (B.pv (V.bin .eql d (i6 8)) λbc=>B.cond bc (B.al a (B.pv (V.aF 3 a) λbd=>B.pv (A.cD [(0,none,(.str [66])),(1,none,(i6 1))] [.str [],i6 0]) λbe=>B.bL h (bN [(0,some 2,be)] (bG 1 [.str [],i6 0])) λbf h=>B.pv (V.aM 4 bd (i6 0)) λZ=>B.pv (V.fieldAddr 2 Z) λY=>B.st h Y (.sl bf 0 0 1 2 1) λh=>B.pv (V.bM 0 6 a) λb=>B.pv (V.bU 0 6 b c) λc=>B.pv (oneOf (cJ (V.bM 0 6 c) (some []))) λv=>Q v h)) (B.pv (V.bin .eql d (i6 9)) λbi=>B.cond bi (B.al a (B.pv (V.aF 3 a) λbj=>B.pv (V.aM 4 bj (i6 0)) λX=>B.pv (V.fieldAddr 1 X) λW=>B.st h W (i6 0) λh=>B.al a (B.pv (V.aF 3 a) λU=>B.pv (A.cD [(0,none,(.str [66])),(1,none,(i6 1))] [.str [],i6 0]) λT=>B.pv (A.cD [(0,none,(.str [66])),(1,none,(i6 1))] [.str [],i6 0]) λS=>B.bL h (bN [(0,some 2,T),(2,some 2,S)] (bG 2 [.str [],i6 0])) λR h=>B.pv (V.aM 4 U (i6 0)) λP=>B.pv (V.fieldAddr 2 P) λO=>B.st h O (.sl R 0 0 2 2 2) λh=>B.pv (V.bM 0 6 a) λb=>B.pv (V.bU 0 6 b c) λc=>B.pv (oneOf (cJ (V.bM 0 6 c) (some []))) λv=>Q v h))) (B.pv (V.bin .eql d (i6 10)) λbs=>B.cond bs (B.al a (B.pv (V.aF 4 a) λM=>B.al a (B.pv (V.aF 4 a) λL=>B.pv (V.aM 6 L (i6 0)) λbv=>B.cR h bv 6 λK=>B.bL h (bN [(0,some 6,K)] (bG 1 [i6 0,.str [],i6 0,i6 0,i6 0,.bool false])) λbx h=>B.bO h 6 56 M (.sl bx 0 0 1 6 1) λJ h=>B.al a (B.pv (V.cL 4 J a) λa=>B.pv (V.bM 0 6 a) λb=>B.pv (V.bU 0 6 b c) λc=>B.pv (oneOf (cJ (V.bM 0 6 c) (some []))) λv=>Q v h)))) (B.pv (V.bin .eql d (i6 11)) λI=>B.cond I (B.al a (B.pv (V.aF 4 a) λH=>B.pv (V.aM 6 H (i6 0)) λG=>B.pv (V.fieldAddr 4 G) λF=>B.st h F (i6 0) λh=>B.pv (V.bM 0 6 a) λb=>B.pv (V.bU 0 6 b c) λc=>B.pv (oneOf (cJ (V.bM 0 6 c) (some []))) λv=>Q v h)) (B.pv (V.bin .eql d (i6 12)) λce=>B.cond ce (B.pv (A.cD [(0,none,(i6 9)),(1,none,(.str [65])),(2,none,(i6 1)),(5,none,(.int .u8 1)),(6,none,(i6 1))] [i6 0,.str [],i6 0,i6 0,i6 0,.int .u8 0,i6 0,.str []]) λE=>B.bL h (bN [(0,some 8,E)] (bG 1 [i6 0,.str [],i6 0,i6 0,i6 0,.int .u8 0,i6 0,.str []])) λcg h=>B.al a (B.pv (V.aF 5 a) λch=>B.bO h 8 80 (.sl cg 0 0 1 8 1) ch λci h=>B.al a (B.pv (V.cL 5 ci a) λa=>B.pv (V.bM 0 6 a) λb=>B.pv (V.bU 0 6 b c) λc=>B.pv (oneOf (cJ (V.bM 0 6 c) (some []))) λv=>Q v h))) (B.pv (V.bin .eql d (i6 13)) λe=>B.cond e (B.al a (B.pv (V.aF 3 a) λf=>B.bL h (bN [(0,none,(.str [66])),(1,none,(.str [67])),(2,none,(.str [68])),(3,none,(.str [69])),(4,none,(.str [70]))] (bG 5 [.str []])) λg h=>B.pv (V.aM 4 f (i6 0)) λi=>B.pv (V.fieldAddr 3 i) λj=>B.st h j (.sl g 0 0 5 1 5) λh=>B.pv (V.bM 0 6 a) λb=>B.pv (V.bU 0 6 b c) λc=>B.pv (oneOf (cJ (V.bM 0 6 c) (some []))) λv=>Q v h)) (B.pv (V.bin .eql d (i6 14)) λk=>B.cond k (B.al a (B.pv (V.cL 1 (.int .i64 (-1)) a) λa=>B.pv (V.bM 0 6 a) λb=>B.pv (V.bU 0 6 b c) λc=>B.pv (oneOf (cJ (V.bM 0 6 c) (some []))) λv=>Q v h)) (B.pv (V.bin .eql d (i6 15)) λl=>B.cond l (B.al a (B.pv (V.aF 4 a) λm=>B.pv (A.cD [(0,none,(i6 0)),(1,none,(i6 1))] [i6 0,i6 0]) λn=>B.pv (A.cD [(0,none,(i6 9223372036854775807)),(1,none,(.str [65])),(2,some 2,n),(4,none,(i6 1))] [i6 0,.str [],i6 0,i6 0,i6 0,.bool false]) λo=>B.bL h (bN [(0,some 6,o)] (bG 1 [i6 0,.str [],i6 0,i6 0,i6 0,.bool false])) λp h=>B.bO h 6 56 m (.sl p 0 0 1 6 1) λq h=>B.al a (B.pv (V.cL 4 q a) λa=>B.al a (B.pv (V.cL 5 .aA a) λa=>B.pv (V.bM 0 6 a) λb=>B.pv (V.bU 0 6 b c) λc=>B.pv (oneOf (cJ (V.bM 0 6 c) (some []))) λv=>Q v h)))) (B.pv (V.bin .eql d (i6 16)) λr=>B.cond r (B.al a (B.pv (V.aF 5 a) λs=>B.pv (A.cD [(0,none,(i6 9223372036854775807)),(1,none,(.str [65])),(2,none,(i6 1)),(5,none,(.int .u8 1)),(6,none,(.int .i64 (-1)))] [i6 0,.str [],i6 0,i6 0,i6 0,.int .u8 0,i6 0,.str []]) λt=>B.pv (A.cD [(0,none,(i6 9223372036854775807)),(1,none,(.str [65])),(2,none,(i6 2)),(5,none,(.int .u8 1)),(6,none,(.int .i64 (-1)))] [i6 0,.str [],i6 0,i6 0,i6 0,.int .u8 0,i6 0,.str []]) λu=>B.bL h (bN [(0,some 8,t),(8,some 8,u)] (bG 2 [i6 0,.str [],i6 0,i6 0,i6 0,.int .u8 0,i6 0,.str []])) λw h=>B.bO h 8 80 s (.sl w 0 0 2 8 2) λx h=>B.al a (B.pv (V.cL 5 x a) λa=>B.pv (V.bM 0 6 a) λb=>B.pv (V.bU 0 6 b c) λc=>B.pv (oneOf (cJ (V.bM 0 6 c) (some []))) λv=>Q v h))) (B.pv (V.bM 0 6 a) λb=>B.pv (V.bU 0 6 b c) λc=>B.pv (oneOf (cJ (V.bM 0 6 c) (some []))) λv=>Q v h)))))))))))))))))
@[simp] def lI.k2(b c:a7)(h:a9):=B.pv (A.ey 6 b) λa=>B.pv (V.bM 0 6 a) λd=>B.call C (N 420) [d] h λe h=>B.pv (V.bU 0 6 e a) λa=>lI.k1 C N Q c a (.agg [i6 0,i6 0,i6 0,.aA,.aA,.aA]) h
def lI.aD:=fk C (N 461) (lI.k2 C N)
@[simp] def cF.k1(Y1:zL)(Y2:zL)(u r s t b a:a7)(h:a9):=B.pv (V.bin .lss a (i6 5)) λc=>B.cond c (B.pv (V.aM 1 r b) λd=>B.ld h d λe=>B.pv (V.aM 1 s a) λf=>B.ld h f λg=>B.pv (V.bin .add b a) λi=>B.pv (V.bin .rem i (i6 4)) λj=>B.pv (V.aM 1 t j) λk=>B.ld h k λl=>B.pv (A.cD [(1,none,(i6 3))] [i6 0,i6 0,i6 0,.str [],.int .u8 0,.aA,.aA]) λm=>B.call C (N 458) [e,g,l,m,u] h λn h=>B.pv (V.un .not n) λo=>B.cond o (Q (.bool false) h) (B.pv (V.bin .add a (i6 1)) λp=>Y2 [p] h)) (B.pv (V.bin .add b (i6 1)) λq=>Y1 [q] h)
@[simp] def cF.l2(Y1:zL)(f a b c d:a7):zG|[e],h,Y2=>cF.k1 C N Q Y1 Y2 f a b c d e h|_,_,_=>False
@[simp] def cF.k3(Y1:zL)(g d e f a:a7)(h:a9):=B.pv (V.bin .lss a (i6 4)) λb=>B.cond b (aB (cF.l2 C N Q Y1 g d e f a) [(i6 0)] h) (B.call C (N 418) [] h λc h=>Q c h)
@[simp] def cF.l4(e a b c:a7):zG|[d],h,Y1=>cF.k3 C N Q Y1 e a b c d h|_,_,_=>False
@[simp] def cF.k5(d b c:a7)(h:a9):Prop:=B.bL h (bN [(0,none,(.int .i64 (-1))),(1,none,(i6 0)),(2,none,(i6 999)),(3,none,(i6 1000))] (bG 4 [i6 0])) λa h=>aB (cF.l4 C N Q d b c (.sl a 0 0 4 1 4)) [(i6 0)] h
@[simp] def cF.k6(c b:a7)(h:a9):Prop:=B.bL h (bN [(0,none,(.int .i64 (-1))),(1,none,(i6 0)),(2,none,(i6 1)),(3,none,(i6 4611686018427387904)),(4,none,(i6 4611686018427387905))] (bG 5 [i6 0])) λa h=>cF.k5 C N Q c b (.sl a 0 0 5 1 5) h
@[simp] def cF.k7(b:a7)(h:a9):Prop:=B.bL h (bN [(0,none,(.int .i64 (-1))),(1,none,(i6 0)),(2,none,(i6 3)),(3,none,(i6 4))] (bG 4 [i6 0])) λa h=>cF.k6 C N Q b (.sl a 0 0 4 1 4) h
@[simp] def cF.k8(f e D v:a7)(h:a9):=B.pv (V.bin .neq D (i6 0)) λd=>B.gd h d false (λK=>K e h) λg h=>bH h d (V.aE g) λi h=>bH h d (V.bin .neq i (i6 267)) λj h=>B.pick d (.bool true) j λb=>bH h b (V.bM 0 7 v) λk h=>B.gd h b false (λK=>K e h) λl h=>B.gd h b false (λK=>K f h) λm h=>B.al v (B.gd h b false (λK=>B.bO h 2 48 l m K) λn h=>gE C h b (N 458) [(i6 3),(i6 4611686018427387904),(i6 999),k,n] λo h=>bH h b (V.un .not o) λp h=>B.pick b (.bool true) p λa=>bH h a (A.cD [(0,none,(.int .i64 (-1)))] [i6 0,i6 0,i6 0,.str [],.int .u8 0,.aA,.aA]) λq h=>B.gd h a false (λK=>K e h) λr h=>bH h a (V.nX 2 r (i6 0) (i6 266) (i6 266)) λs h=>B.gd h a false (λK=>K f h) λt h=>B.gd h a false (λK=>B.bO h 2 48 s t K) λu h=>gE C h a (N 458) [(i6 3),(i6 4611686018427387904),(i6 0),q,u] λw h=>bH h a (V.un .not w) λx h=>B.pick a (.bool true) x λc=>bH h c (A.cD [] [i6 0,i6 0,i6 0,.str [],.int .u8 0,.aA,.aA]) λy h=>B.gd h c false (λK=>K e h) λz h=>bH h c (V.dS 2 z (some (i6 1)) none) λH h=>gE C h c (N 458) [(i6 3),(i6 4611686018427387904),(i6 0),y,H] λG h=>bH h c (V.un .not G) λac h=>B.pick c (.bool true) ac λad=>B.cond ad (Q (.bool false) h) (B.call C (N 459) [f,e] h λF h=>B.pv (V.un .not F) λE=>B.cond E (Q (.bool false) h) (cF.k7 C N Q e h)))
@[simp] def cF.k9(f e:a7)(h:a9):=B.pv (V.bM 0 7 e) λb=>B.call C (N 415) [(i6 3),(i6 4611686018427387904),b] h λa h=>B.pv (V.ext 0 a) λc=>B.pv (V.ext 1 a) λd=>cF.k8 C N Q f c d e h
@[simp] def cF.jL(Y3:zL)(j b a:a7)(h:a9):=B.pv (V.bin .leq b (i6 2000)) λc=>B.cond c (B.al a (B.pv (V.aF 6 a) λd=>B.pv (A.cD [(1,none,b),(2,none,(i6 1))] [i6 0,i6 0,i6 0]) λe=>B.bL h (bN [(0,some 3,e)] (bG 1 [i6 0,i6 0,i6 0])) λf h=>B.bO h 3 24 d (.sl f 0 0 1 3 1) λg h=>B.al a (B.pv (V.cL 6 g a) λa=>B.pv (V.bin .add b (i6 1)) λi=>Y3 [i,a] h))) (cF.k9 C N Q j a h)
@[simp] def cF.BD(a:a7):zG|[b,c],h,Y3=>cF.jL C N Q Y3 a b c h|_,_,_=>False
@[simp] def cF.mK(b:a7)(h:a9):=B.pv (A.cD [] [i6 0,i6 0,i6 0,.str [],.int .u8 0,.aA,.aA]) λa=>B.pv (V.bU 0 7 a (.agg [i6 0,i6 0,i6 0,.str [],.int .u8 0,.aA,.aA])) λc=>aB (cF.BD C N Q b) [(i6 1),c] h
@[simp] def cF.r5(v:zL)(Y5:zL)(w t u b:a7)(h:a9):=B.call C (N 454) [b] h λc h=>B.pv (V.un .not c) λd=>B.cond d (Q (.bool false) h) (B.pv (V.aM 2 w t) λe=>B.pv (V.fieldAddr 1 e) λf=>B.ld h f λg=>B.call C (N 45) [g] h λi h=>B.bL h (bN [(0,none,(.int .u8 0))] (bG 1 [.int .u8 0])) λj h=>B.bO h 1 1 i (.sl j 0 0 1 1 1) λk h=>B.pv (V.aM 2 b t) λl=>B.pv (V.fieldAddr 1 l) λm=>B.st h m k λh=>B.pv (V.bin .rem u (i6 20)) λn=>B.pv (V.bin .eql n (i6 0)) λa=>B.gd h a true (λK=>K b h) λo h=>dG C h a (N 454) [o] λp h=>bD h a (V.un .not p) λq h=>B.pick a q (.bool false) λr=>B.cond r (Q (.bool false) h) (B.pv (V.bin .add u (i6 1)) λs=>Y5 [s] h))
@[simp] def cF.wS(A:zL)(Y5:zL)(f a b g:a7)(h:a9):=B.pv (V.aM 2 f a) λi=>B.pv (V.fieldAddr 1 i) λj=>B.ld h j λk=>B.pv (V.aE k) λl=>B.pv (V.bin .lss b l) λm=>B.cond m (B.pv (V.aM 2 g a) λn=>B.pv (V.fieldAddr 1 n) λo=>B.ld h o λc=>B.pv (V.aM 1 c b) λp=>B.ld h p λq=>B.pv (V.bin .add q (.int .u8 1)) λr=>B.pv (V.aM 1 c b) λs=>B.st h s r λh=>cF.r5 C N Q A Y5 f a b g h) (B.pv (V.aM 2 g a) λt=>B.pv (V.fieldAddr 0 t) λu=>B.ld h u λd=>B.pv (V.aM 2 f a) λv=>B.pv (V.fieldAddr 1 v) λw=>B.ld h w λx=>B.pv (V.aE x) λy=>B.pv (V.bin .sub b y) λe=>B.pv (V.aM 1 d e) λz=>B.ld h z λE=>B.pv (V.bin .add E (.int .u8 1)) λD=>B.pv (V.aM 1 d e) λac=>B.st h ac D λh=>cF.r5 C N Q A Y5 f a b g h)
@[simp] def cF.zg(q:zL)(Y5:zL)(a b k:a7)(h:a9):=B.pv (V.aM 2 a b) λl=>B.pv (V.fieldAddr 1 l) λm=>B.ld h m λn=>B.pv (V.aE n) λo=>B.pv (V.aM 2 a b) λc=>B.pv (V.fieldAddr 0 c) λd=>B.ld h d λe=>B.pv (V.aE e) λf=>B.pv (V.bin .add o f) λg=>B.pv (V.bin .lss k g) λi=>B.cond i (B.call C (N 306) [a] h λj h=>cF.wS C N Q q Y5 a b k j h) (B.pv (V.bin .add b (i6 1)) λp=>q [p] h)
@[simp] def cF.wP(d:zL)(a b:a7):zG|[c],h,Y5=>cF.zg C N Q d Y5 a b c h|_,_,_=>False
@[simp] def cF.wR(v:zL)(b c:a7)(h:a9):=B.pv (V.dS 2 b none (some c)) λd=>B.pv (V.bin .add c (i6 1)) λe=>B.pv (V.dS 2 b (some e) none) λf=>B.bO h 2 48 .sz d λg h=>B.bO h 2 48 g f λi h=>B.call C (N 454) [i] h λj h=>B.pv (V.un .not j) λa=>B.gd h a false (λK=>K b h) λk h=>B.gd h a false (λK=>K c h) λl h=>bH h a (V.bin .add l (i6 1)) λm h=>bH h a (V.dS 2 k none (some m)) λn h=>B.gd h a false (λK=>K b h) λo h=>B.gd h a false (λK=>K c h) λp h=>bH h a (V.dS 2 o (some p) none) λq h=>B.gd h a false (λK=>K .sz h) λr h=>B.gd h a false (λK=>B.bO h 2 48 r n K) λs h=>B.gd h a false (λK=>B.bO h 2 48 s q K) λt h=>gE C h a (N 454) [t] λu h=>bH h a (V.un .not u) λw h=>B.pick a (.bool true) w λx=>B.cond x (Q (.bool false) h) (aB (cF.wP C N Q v b c) [(i6 0)] h)
@[simp] def cF.xK(e:zL)(a b:a7)(h:a9):=B.pv (V.aE a) λc=>B.pv (V.bin .lss b c) λd=>B.cond d (cF.wR C N Q e a b h) (cF.mK C N Q a h)
@[simp] def cF.sU(a:a7):zG|[b],h,c=>cF.xK C N Q c a b h|_,_,_=>False
@[simp] def cF.wQ(c:a7)(h:a9):=B.pv (V.aE c) λe=>B.pv (V.bin .neq e (i6 11)) λa=>B.gd h a false (λK=>K c h) λf h=>bH h a (V.aM 2 f (i6 4)) λg h=>bH h a (V.fieldAddr 0 g) λi h=>jZ h a i λj h=>bH h a (V.aE j) λk h=>B.gd h a false (λK=>K c h) λl h=>bH h a (V.aM 2 l (i6 4)) λm h=>bH h a (V.fieldAddr 1 m) λn h=>jZ h a n λo h=>bH h a (V.aE o) λp h=>bH h a (V.bin .add k p) λq h=>bH h a (V.bin .neq q (i6 205)) λr h=>B.pick a (.bool true) r λb=>B.gd h b false (λK=>K c h) λs h=>gE C h b (N 454) [s] λt h=>bH h b (V.un .not t) λu h=>B.pick b (.bool true) u λd=>gE C h d (N 454) [.aA] λw h=>bH h d (V.un .not w) λx h=>B.pick d (.bool true) x λy=>B.cond y (Q (.bool false) h) (aB (cF.sU C N Q c) [(i6 0)] h)
@[simp] def cF.zf(q:zL)(b:a7)(h:a9):=B.pv (V.bin .lss b (i6 17)) λc=>B.cond c (B.call C (N 460) [] h λd h=>B.call C (N 461) [d,b] h λe h=>B.call C (N 450) [e] h λf h=>B.pv (V.un .not f) λa=>gE C h a (N 422) [] λg h=>B.gd h a false (λK=>K b h) λi h=>gE C h a (N 461) [g,i] λj h=>gE C h a (N 450) [j] λk h=>bH h a (V.un .not k) λl h=>B.pick a (.bool true) l λm=>B.cond m (Q (.bool false) h) (B.pv (V.bin .add b (i6 1)) λn=>q [n] h)) (B.call C (N 460) [] h λo h=>B.call C (N 412) [o] h λp h=>cF.wQ C N Q p h)
@[simp] def cF.BC:zG|[a],h,b=>cF.zf C N Q b a h|_,_,_=>False
@[simp] def cF.aY(h:a9)(Q:zQ):=aB (cF.BC C N Q) [(i6 0)] h
def cF.aD:=Ei C (N 462) (cF.aY C N)
variable(C:aC)(N:Nat→Nat)(Q:zQ)
@[simp] def pL.k1(r:a7)(h:a9):=B.pv (A.ey 6 r) λa=>B.al a (B.pv (V.aF 0 a) λs=>B.pv (V.bin .gtr s (i6 0)) λf=>B.al a (bV h f (V.aF 1 a) λt h=>dG C h f (N 53) [t] λu h=>B.pick f u (.bool false) λc=>B.al a (bV h c (V.bM 2 2 a) λg h=>dG C h c (N 5) [g] λi h=>B.pick c i (.bool false) λb=>B.al a (B.gd h b true (λK=>K .undef h) λ_ h=>B.al a (bV h b (V.aF 2 a) λj h=>B.al a (B.gd h b true (λK=>K .undef h) λ_ h=>B.al a (bV h b (V.aF 3 a) λk h=>bD h b (V.bin .lss j k) λl h=>B.pick b l (.bool false) λd=>B.al a (bV h d (V.aF 4 a) λm h=>bD h d (V.bin .gtr m (i6 0)) λn h=>B.pick d n (.bool false) λe=>B.al a (bV h e (V.aF 4 a) λo h=>bD h e (V.bin .leq o (i6 1073741824)) λp h=>B.pick e p (.bool false) λq=>Q q h)))))))))
def pL.aD:=fy C (N 52) (pL.k1 C N)
variable(C:aC)(N:Nat→Nat)(Q:zQ)
@[simp] def qT.k1(v0:a7)(h:a9):=B.pv (A.ey 8 v0) λa=>B.al a (B.pv (V.aF 0 a) λv4=>B.pv (V.bin .lss v4 (i6 1)) λn=>B.al a (eN h n (V.aF 1 a) λD h=>gE C h n (N 53) [D] λv h=>bH h n (V.un .not v) λo h=>B.pick n (.bool true) o λb=>B.al a (eN h b (V.aF 2 a) λp h=>bH h b (V.bin .lss p (i6 1)) λq h=>B.pick b (.bool true) q λc=>B.al a (eN h c (V.aF 2 a) λr h=>bH h c (V.bin .gtr r (i6 1073741824)) λs h=>B.pick c (.bool true) s λd=>B.al a (eN h d (V.aF 3 a) λt h=>bH h d (V.bin .lss t (i6 0)) λu h=>B.pick d (.bool true) u λe=>B.al a (eN h e (V.aF 3 a) λw h=>bH h e (V.bin .gtr w (i6 4000)) λx h=>B.pick e (.bool true) x λf=>B.al a (eN h f (V.aF 4 a) λy h=>bH h f (V.bin .lss y (i6 0)) λz h=>B.pick f (.bool true) z λg=>B.al a (eN h g (V.aF 4 a) λX h=>bH h g (V.bin .gtr X (i6 99)) λW h=>B.pick g (.bool true) W λac=>B.cond ac (Q (.bool false) h) (B.al a (B.pv (V.aF 5 a) λad=>B.pv (V.bin .lss ad (.int .u8 1)) λi=>B.al a (eN h i (V.aF 5 a) λU h=>bH h i (V.bin .gtr U (.int .u8 3)) λT h=>B.pick i (.bool true) T λS=>B.cond S (Q (.bool false) h) (B.al a (B.pv (V.aF 6 a) λR=>B.pv (V.bin .eql R (.int .i64 (-1))) λP=>B.cond P (B.al a (B.pv (V.aF 7 a) λO=>B.pv (V.bin .eql O (.str [])) λj=>B.al a (bV h j (V.aF 5 a) λM h=>bD h j (V.bin .neq M (.int .u8 2)) λam h=>B.pick j am (.bool false) λL=>Q L h))) (B.al a (B.pv (V.aF 6 a) λK=>B.pv (V.bin .geq K (i6 0)) λk=>B.al a (bV h k (V.aF 6 a) λap h=>bD h k (V.bin .leq ap (i6 4000)) λJ h=>B.pick k J (.bool false) λl=>B.al a (bV h l (V.aF 7 a) λI h=>dG C h l (N 53) [I] λH h=>B.pick l H (.bool false) λm=>B.al a (bV h m (V.aF 5 a) λG h=>bD h m (V.bin .neq G (.int .u8 3)) λF h=>B.pick m F (.bool false) λE=>Q E h))))))))))))))))))
def qT.aD:=fy C (N 179) (qT.k1 C N)
variable(C:aC)(N:Nat→Nat)(Q:zQ)
@[simp] def pH.k1(u:a7)(h:a9):=B.pv (A.ey 6 u) λa=>B.al a (B.pv (V.aF 0 a) λw=>B.pv (V.bin .geq w (i6 1)) λg=>B.al a (bV h g (V.aF 1 a) λx h=>dG C h g (N 61) [x] λy h=>B.pick g y (.bool false) λc=>B.al a (B.gd h c true (λK=>K .undef h) λ_ h=>B.al a (bV h c (V.aF 2 a) λi h=>bD h c (V.bin .geq i (i6 0)) λj h=>B.pick c j (.bool false) λb=>B.al a (B.gd h b true (λK=>K .undef h) λ_ h=>B.al a (bV h b (V.aF 2 a) λk h=>B.al a (B.gd h b true (λK=>K .undef h) λ_ h=>B.al a (bV h b (V.aF 3 a) λl h=>bD h b (V.bin .lss k l) λm h=>B.pick b m (.bool false) λd=>B.al a (B.gd h d true (λK=>K .undef h) λ_ h=>B.al a (bV h d (V.aF 3 a) λn h=>bD h d (V.bin .leq n (i6 4001)) λo h=>B.pick d o (.bool false) λe=>B.al a (bV h e (V.aF 4 a) λp h=>bD h e (V.bin .geq p (i6 1)) λq h=>B.pick e q (.bool false) λf=>B.al a (bV h f (V.aF 4 a) λr h=>bD h f (V.bin .leq r (i6 1073741824)) λs h=>B.pick f s (.bool false) λt=>Q t h))))))))))))
def pH.aD:=fy C (N 60) (pH.k1 C N)
variable(C:aC)(N:Nat→Nat)(Q:zQ)
@[simp] def qN.k1(v0:a7)(h:a9):=B.pv (A.ey 8 v0) λa=>B.al a (B.pv (V.aF 0 a) λv6=>B.pv (V.bin .lss v6 (i6 1)) λl=>B.al a (eN h l (V.aF 1 a) λp h=>gE C h l (N 61) [p] λq h=>bH h l (V.un .not q) λr h=>B.pick l (.bool true) r λb=>B.al a (eN h b (V.aF 2 a) λs h=>bH h b (V.bin .lss s (i6 1)) λt h=>B.pick b (.bool true) t λc=>B.al a (eN h c (V.aF 2 a) λu h=>bH h c (V.bin .gtr u (i6 1073741824)) λw h=>B.pick c (.bool true) w λd=>B.al a (eN h d (V.aF 3 a) λx h=>bH h d (V.bin .lss x (i6 0)) λy h=>B.pick d (.bool true) y λe=>B.al a (eN h e (V.aF 3 a) λz h=>bH h e (V.bin .gtr z (i6 4000)) λT h=>B.pick e (.bool true) T λf=>B.al a (eN h f (V.aF 4 a) λS h=>bH h f (V.bin .lss S (i6 0)) λac h=>B.pick f (.bool true) ac λg=>B.al a (eN h g (V.aF 4 a) λad h=>bH h g (V.bin .gtr ad (i6 99)) λR h=>B.pick g (.bool true) R λP=>B.cond P (Q (.bool false) h) (B.al a (B.pv (V.aF 6 a) λO=>B.pv (V.bin .eql O (.int .i64 (-1))) λi=>B.al a (bV h i (V.aF 7 a) λM h=>bD h i (V.bin .eql M (.str [])) λL h=>B.pick i L (.bool false) λm=>B.al a (B.pv (V.aF 6 a) λJ=>B.pv (V.bin .geq J (i6 0)) λj=>B.al a (bV h j (V.aF 6 a) λI h=>bD h j (V.bin .leq I (i6 4000)) λam h=>B.pick j am (.bool false) λk=>B.al a (bV h k (V.aF 7 a) λH h=>dG C h k (N 61) [H] λG h=>B.pick k G (.bool false) λo=>B.al a (B.pv (V.aF 5 a) λn=>B.pv (V.bin .eql n (.int .u8 1)) λap=>B.cond ap (B.gd h m false (λK=>K o h) λF h=>B.pick m (.bool true) F λE=>Q E h) (B.pv (V.bin .eql n (.int .u8 2)) λD=>B.cond D (Q o h) (B.pv (V.bin .eql n (.int .u8 3)) λv=>B.cond v (Q m h) (Q (.bool false) h))))))))))))))))))
def qN.aD:=fy C (N 180) (qN.k1 C N)
@[simp] def iy.k1(C:aC)(N:zN)(Q:zQ)(a j k:a7)(h:a9):=B.nilCheck a λb=>B.pv (V.fieldAddr 1 b) λc=>B.ld h c λd=>B.pv (V.bin .add d j) λe=>B.nilCheck a λf=>B.pv (V.fieldAddr 1 f) λg=>B.st h g e λh=>B.pv (V.toInt .i64 k) λi=>Q i h
variable(C:aC)(N:Nat→Nat)(Q:zQ)
@[simp] def iy.k2(Y1:zL)(a c d b:a7)(h:a9):=B.pv (V.bin .lss b c) λe=>B.cond e (B.pv (V.bin .mul (.int .u64 256) d) λf=>B.nilCheck a λg=>B.pv (V.fieldAddr 0 g) λi=>B.ld h i λj=>B.nilCheck a λk=>B.pv (V.fieldAddr 1 k) λl=>B.ld h l λm=>B.pv (V.bin .add m b) λn=>B.pv (V.aM 1 j n) λo=>B.ld h o λp=>B.pv (V.toInt .u64 p) λq=>B.pv (V.bin .add f q) λr=>B.pv (V.bin .add b (i6 1)) λs=>Y1 [r,s] h) (iy.k1 C N Q a c d h)
@[simp] def iy.l3(a b:a7):zG|[c,d],h,Y1=>iy.k2 C N Q Y1 a b c d h|_,_,_=>False
@[simp] def iy.k4(b c:a7)(h:a9):=B.nilCheck b λt=>B.pv (V.fieldAddr 2 t) λu=>B.ld h u λa=>B.gd h a false (λK=>K c h) λd h=>B.gd h a false (λK=>K b h) λe h=>B.gd h a false (λK=>B.nilCheck e λv=>K v h) λf h=>bH h a (V.fieldAddr 0 f) λg h=>jZ h a g λi h=>bH h a (V.aE i) λj h=>B.gd h a false (λK=>K b h) λk h=>B.gd h a false (λK=>B.nilCheck k λv=>K v h) λl h=>bH h a (V.fieldAddr 1 l) λm h=>jZ h a m λn h=>bH h a (V.bin .sub j n) λo h=>bH h a (V.bin .gtr d o) λp h=>B.pick a (.bool true) p λq=>B.cond q (B.nilCheck b λr=>B.pv (V.fieldAddr 2 r) λs=>B.st h s (.bool true) λh=>Q (i6 0) h) (aB (iy.l3 C N Q b c) [(.int .u64 0),(i6 0)] h)
def iy.aD:=fk C (N 71) (iy.k4 C N)
@[simp] def nr.k1(a:a7)(h:a9):=B.nilCheck a λw=>B.pv (V.fieldAddr 2 w) λx=>B.ld h x λy=>B.cond y (Q (.str []) h) (B.nilCheck a λc=>B.pv (V.fieldAddr 0 c) λd=>B.ld h d λe=>B.nilCheck a λf=>B.pv (V.fieldAddr 1 f) λg=>B.ld h g λi=>B.pv (V.dS 1 e (some i) none) λj=>B.call C (N 104) [j] h λb h=>B.pv (V.ext 0 b) λk=>B.pv (V.ext 1 b) λl=>B.pv (V.ext 2 b) λm=>B.pv (V.un .not m) λn=>B.nilCheck a λo=>B.pv (V.fieldAddr 2 o) λp=>B.st h p n λh=>B.nilCheck a λq=>B.pv (V.fieldAddr 1 q) λr=>B.ld h r λs=>B.pv (V.bin .add s l) λt=>B.nilCheck a λu=>B.pv (V.fieldAddr 1 u) λv=>B.st h v t λh=>Q k h)
def nr.aD:=fy C (N 73) (nr.k1 C N)
@[simp] def qM.k1(v0:a7)(h:a9):=B.pv (A.ey 11 v0) λa=>B.al a (B.pv (V.aF 0 a) λM=>B.call C (N 476) [M] h λL h=>B.pv (V.ext 0 L) λb=>B.pv (V.ext 1 L) λcq=>B.pv (V.un .not cq) λJ=>B.al a (eN h J (V.aF 1 a) λcr h=>bH h J (V.bin .lss cr (i6 0)) λcs h=>B.pick J (.bool true) cs λac=>B.al a (eN h ac (V.aF 1 a) λct h=>bH h ac (V.bin .gtr ct (i6 4611686018427387904)) λcu h=>B.pick ac (.bool true) cu λcv=>B.cond cv (Q (.bool false) h) (B.al a (B.pv (V.aF 2 a) λcw=>B.pv (V.bin .neq cw (.str [])) λcx=>B.call C (N 477) [b,(.int .u8 105)] h λcy h=>B.pv (V.vC .neq cy cx) λn=>B.al a (eN h n (V.aF 2 a) λcz h=>bH h n (V.bin .neq cz (.str [])) λda h=>B.gd h n false (λK=>K da h) λD h=>B.al a (bV h D (V.aF 2 a) λdb h=>dG C h D (N 61) [db] λdc h=>bD h D (V.un .not dc) λdd h=>B.gd h n false (λK=>B.pick D dd (.bool false) λv=>K v h) λde h=>B.pick n (.bool true) de λdf=>B.cond df (Q (.bool false) h) (B.call C (N 477) [b,(.int .u8 113)] h λo h=>B.al a (bV h o (V.aF 3 a) λdg h=>bD h o (V.bin .lss dg (i6 1)) λdh h=>B.gd h o true (λK=>K dh h) λad h=>B.al a (eN h ad (V.aF 3 a) λdi h=>bH h ad (V.bin .gtr di (i6 1073741824)) λdj h=>B.gd h o true (λK=>B.pick ad (.bool true) dj λv=>K v h) λdk h=>B.pick o dk (.bool false) λp=>B.gd h p false (λK=>K b h) λdl h=>gE C h p (N 477) [dl,(.int .u8 113)] λdm h=>bH h p (V.un .not dm) λdn h=>B.gd h p false (λK=>K dn h) λI h=>B.al a (bV h I (V.aF 3 a) λdp h=>bD h I (V.bin .neq dp (i6 0)) λdq h=>B.gd h p false (λK=>B.pick I dq (.bool false) λv=>K v h) λdr h=>B.pick p (.bool true) dr λds=>B.cond ds (Q (.bool false) h) (B.al a (B.pv (V.aF 4 a) λdt=>B.pv (V.bin .lss dt (i6 0)) λH=>B.al a (eN h H (V.aF 4 a) λdu h=>bH h H (V.bin .gtr du (i6 4000)) λdv h=>B.pick H (.bool true) dv λq=>B.gd h q false (λK=>K b h) λdw h=>gE C h q (N 477) [dw,(.int .u8 100)] λdx h=>bH h q (V.un .not dx) λdy h=>B.gd h q false (λK=>K dy h) λG h=>B.al a (bV h G (V.aF 4 a) λdz h=>bD h G (V.bin .neq dz (i6 0)) λea h=>B.gd h q false (λK=>B.pick G ea (.bool false) λv=>K v h) λZ h=>B.pick q (.bool true) Z λY=>B.cond Y (Q (.bool false) h) (B.call C (N 477) [b,(.int .u8 108)] h λr h=>B.al a (bV h r (V.aF 5 a) λX h=>bD h r (V.bin .lss X (i6 1)) λW h=>B.gd h r true (λK=>K W h) λF h=>B.al a (eN h F (V.aF 5 a) λU h=>bH h F (V.bin .gtr U (i6 2000)) λT h=>B.gd h r true (λK=>B.pick F (.bool true) T λv=>K v h) λS h=>B.pick r S (.bool false) λs=>B.gd h s false (λK=>K b h) λR h=>gE C h s (N 477) [R,(.int .u8 108)] λP h=>bH h s (V.un .not P) λO h=>B.gd h s false (λK=>K O h) λE h=>B.al a (bV h E (V.aF 5 a) λel h=>bD h E (V.bin .neq el (i6 0)) λem h=>B.gd h s false (λK=>B.pick E em (.bool false) λv=>K v h) λaj h=>B.pick s (.bool true) aj λak=>B.cond ak (Q (.bool false) h) (B.al a (B.pv (V.aF 6 a) λam=>B.pv (V.bin .lss am (i6 0)) λt=>B.al a (eN h t (V.aF 6 a) λan h=>bH h t (V.bin .gtr an (i6 99)) λao h=>B.pick t (.bool true) ao λc=>B.gd h c false (λK=>K b h) λap h=>gE C h c (N 477) [ap,(.int .u8 114)] λaq h=>bH h c (V.un .not aq) λar h=>B.gd h c false (λK=>K ar h) λu h=>B.al a (bV h u (V.aF 6 a) λau h=>bD h u (V.bin .neq au (i6 0)) λav h=>B.gd h c false (λK=>B.pick u av (.bool false) λv=>K v h) λaw h=>B.pick c (.bool true) aw λax=>B.cond ax (Q (.bool false) h) (B.call C (N 477) [b,(.int .u8 116)] h λw h=>B.al a (bV h w (V.aF 7 a) λay h=>bD h w (V.bin .lss ay (i6 1)) λaz h=>B.pick w az (.bool false) λd=>B.gd h d false (λK=>K b h) λba h=>gE C h d (N 477) [ba,(.int .u8 116)] λbb h=>bH h d (V.un .not bb) λbc h=>B.gd h d false (λK=>K bc h) λx h=>B.al a (bV h x (V.aF 7 a) λbd h=>bD h x (V.bin .neq bd (i6 0)) λbe h=>B.gd h d false (λK=>B.pick x be (.bool false) λv=>K v h) λbf h=>B.pick d (.bool true) bf λj=>B.gd h j false (λK=>K b h) λbg h=>gE C h j (N 477) [bg,(.int .u8 110)] λbh h=>B.gd h j false (λK=>K bh h) λy h=>B.al a (bV h y (V.aF 8 a) λbi h=>bD h y (V.bin .lss bi (i6 1)) λbj h=>B.gd h j false (λK=>B.pick y bj (.bool false) λv=>K v h) λbk h=>B.pick j (.bool true) bk λe=>B.gd h e false (λK=>K b h) λbl h=>gE C h e (N 477) [bl,(.int .u8 110)] λbm h=>bH h e (V.un .not bm) λbn h=>B.gd h e false (λK=>K bn h) λz h=>B.al a (bV h z (V.aF 8 a) λbo h=>bD h z (V.bin .neq bo (i6 0)) λbp h=>B.gd h e false (λK=>B.pick z bp (.bool false) λv=>K v h) λbq h=>B.pick e (.bool true) bq λbr=>B.cond br (Q (.bool false) h) (B.call C (N 477) [b,(.int .u8 112)] h λk h=>B.al a (bV h k (V.aF 9 a) λbs h=>dG C h k (N 478) [bs] λbt h=>bD h k (V.un .not bt) λbu h=>B.pick k bu (.bool false) λf=>B.gd h f false (λK=>K b h) λbv h=>gE C h f (N 477) [bv,(.int .u8 112)] λbw h=>bH h f (V.un .not bw) λbx h=>B.gd h f false (λK=>K bx h) λl h=>B.al a (bV h l (V.aF 9 a) λbz h=>bD h l (V.aE bz) λca h=>bD h l (V.bin .gtr ca (i6 0)) λcb h=>B.gd h f false (λK=>B.pick l cb (.bool false) λv=>K v h) λcc h=>B.pick f (.bool true) cc λcd=>B.cond cd (Q (.bool false) h) (B.call C (N 477) [b,(.int .u8 111)] h λg h=>B.al a (bV h g (V.aF 10 a) λce h=>B.al a (bV h g (V.aF 2 a) λcf h=>dG C h g (N 479) [ce,cf] λcg h=>B.pick g cg (.bool false) λi=>B.gd h i false (λK=>K b h) λch h=>gE C h i (N 477) [ch,(.int .u8 111)] λci h=>bH h i (V.un .not ci) λcj h=>B.gd h i false (λK=>K cj h) λm h=>B.al a (bV h m (V.aF 10 a) λck h=>bD h m (V.aE ck) λcl h=>bD h m (V.bin .eql cl (i6 0)) λcm h=>B.gd h i false (λK=>B.pick m cm (.bool false) λv=>K v h) λcn h=>B.pick i (.bool true) cn λco=>Q co h)))))))))))))))))))))))))))))))))))
def qM.aD:=fy C (N 474) (qM.k1 C N)
@[simp] def gJ.k1(C:aC)(N:zN)(Q:zQ)(a b:a7)(h:a9):=B.cond b (Q (.bI [(.str [110]),(.bool true)]) h) (B.pv (V.bin .eql a (.int .u8 12)) λc=>B.cond c (Q (.bI [(.str []),(.bool true)]) h) (B.pv (V.bin .eql a (.int .u8 15)) λd=>B.cond d (Q (.bI [(.str [105]),(.bool true)]) h) (Q (.bI [(.str []),(.bool false)]) h)))
@[simp] def gJ.k2(a:a7)(h:a9):=B.pv (V.bin .eql a (.int .u8 10)) λb=>B.cond b (gJ.k1 C N Q a b h) (B.pv (V.bin .eql a (.int .u8 11)) λc=>B.cond c (gJ.k1 C N Q a c h) (B.pv (V.bin .eql a (.int .u8 14)) λd=>gJ.k1 C N Q a d h))
@[simp] def gJ.k3(a:a7)(h:a9):=B.pv (V.bin .eql a (.int .u8 7)) λc=>B.cond c (B.cond c (Q (.bI [(.str [116]),(.bool true)]) h) (B.pv (V.bin .eql a (.int .u8 9)) λb=>B.cond b (Q (.bI [(.str [105,113,100,114]),(.bool true)]) h) (gJ.k2 C N Q a h))) (B.pv (V.bin .eql a (.int .u8 8)) λd=>B.cond d (Q (.bI [(.str [116]),(.bool true)]) h) (B.pv (V.bin .eql a (.int .u8 9)) λb=>B.cond b (Q (.bI [(.str [105,113,100,114]),(.bool true)]) h) (gJ.k2 C N Q a h)))
@[simp] def gJ.k4(a:a7)(h:a9):=B.pv (V.bin .eql a (.int .u8 5)) λc=>B.cond c (B.cond c (Q (.bI [(.str [105,113,100]),(.bool true)]) h) (B.pv (V.bin .eql a (.int .u8 6)) λb=>B.cond b (Q (.bI [(.str [116,100]),(.bool true)]) h) (gJ.k3 C N Q a h))) (B.pv (V.bin .eql a (.int .u8 13)) λd=>B.cond d (Q (.bI [(.str [105,113,100]),(.bool true)]) h) (B.pv (V.bin .eql a (.int .u8 6)) λb=>B.cond b (Q (.bI [(.str [116,100]),(.bool true)]) h) (gJ.k3 C N Q a h)))
@[simp] def gJ.k5(a:a7)(h:a9):=B.pv (V.bin .eql a (.int .u8 3)) λb=>B.cond b (Q (.bI [(.str [105,111]),(.bool true)]) h) (B.pv (V.bin .eql a (.int .u8 4)) λc=>B.cond c (Q (.bI [(.str [105,113]),(.bool true)]) h) (gJ.k4 C N Q a h))
@[simp] def gJ.k6(a:a7)(h:a9):=B.pv (V.bin .eql a (.int .u8 1)) λb=>B.cond b (Q (.bI [(.str [105,108]),(.bool true)]) h) (B.pv (V.bin .eql a (.int .u8 2)) λc=>B.cond c (Q (.bI [(.str [105,112]),(.bool true)]) h) (gJ.k5 C N Q a h))
def gJ.aD:=fy C (N 476) (gJ.k6 C N)
@[simp] def kK.k1(C:aC)(N:zN)(Q:zQ)(Y1:zL)(b f a:a7)(h:a9):=B.pv (V.lR b) λg=>B.pv (V.bin .lss a g) λi=>B.cond i (B.pv (V.lS b a) λc=>B.pv (V.bin .eql c f) λd=>B.cond d (Q (.bool true) h) (B.pv (V.bin .add a (i6 1)) λe=>Y1 [e] h)) (Q (.bool false) h)
@[simp] def kK.l2(a b:a7):zG|[c],h,Y1=>kK.k1 C N Q Y1 a b c h|_,_,_=>False
@[simp] def kK.aY(a b:a7)(h:a9)(Q:zQ):=aB (kK.l2 C N Q a b) [(i6 0)] h
def kK.aD:=mi C (N 477) (kK.aY C N)
@[simp] def hE.k1(C:aC)(N:zN)(Q:zQ)(b:a7)(h:a9):=B.pv (V.aE b) λc=>B.pv (V.bin .geq c (i6 1)) λa=>B.gd h a true (λK=>K b h) λd h=>bD h a (V.aE d) λe h=>bD h a (V.bin .leq e (i6 8)) λf h=>B.pick a f (.bool false) λg=>Q g h
@[simp] def hE.k2(C:aC)(N:zN)(Q:zQ)(Y1:zL)(Y2:zL)(c a b:a7)(h:a9):=B.pv (V.bin .lss b a) λd=>B.cond d (B.pv (V.aM 2 c b) λe=>B.pv (V.fieldAddr 0 e) λf=>B.ld h f λg=>B.pv (V.aM 2 c a) λi=>B.pv (V.fieldAddr 0 i) λj=>B.ld h j λk=>B.pv (V.bin .eql g k) λl=>B.cond l (Q (.bool false) h) (B.pv (V.bin .add b (i6 1)) λm=>Y2 [m] h)) (B.pv (V.bin .add a (i6 1)) λn=>Y1 [n] h)
@[simp] def hE.l3(Y1:zL)(a b:a7):zG|[c],h,Y2=>hE.k2 C N Q Y1 Y2 a b c h|_,_,_=>False
@[simp] def hE.k4(Y1:zL)(c d:a7)(h:a9):=B.pv (V.aM 2 c d) λe=>B.pv (V.fieldAddr 0 e) λf=>B.ld h f λg=>B.call C (N 61) [g] h λi h=>B.pv (V.un .not i) λa=>B.gd h a false (λK=>K c h) λj h=>B.gd h a false (λK=>K d h) λk h=>bH h a (V.aM 2 j k) λl h=>bH h a (V.fieldAddr 1 l) λm h=>jZ h a m λn h=>bH h a (V.bin .lss n (i6 1)) λo h=>B.pick a (.bool true) o λb=>B.gd h b false (λK=>K c h) λp h=>B.gd h b false (λK=>K d h) λq h=>bH h b (V.aM 2 p q) λr h=>bH h b (V.fieldAddr 1 r) λs h=>jZ h b s λt h=>bH h b (V.bin .gtr t (i6 1073741824)) λu h=>B.pick b (.bool true) u λw=>B.cond w (Q (.bool false) h) (aB (hE.l3 C N Q Y1 c d) [(i6 0)] h)
@[simp] def hE.l5(a:a7):zG|[b],h,Y1=>B.pv (V.aE a) λc=>B.pv (V.bin .lss b c) λd=>B.cond d (hE.k4 C N Q Y1 a b h) (hE.k1 C N Q a h)|_,_,_=>False
@[simp] def hE.aY(a:a7)(h:a9)(Q:zQ):=aB (hE.l5 C N Q a) [(i6 0)] h
def hE.aD:=g9 C (N 478) (hE.aY C N)
@[simp] def gZ.k1(C:aC)(N:zN)(Q:zQ)(Y1:zL)(Y2:zL)(c m a b:a7)(h:a9):=B.pv (V.bin .lss b a) λd=>B.cond d (B.pv (V.aM 1 c b) λe=>B.ld h e λf=>B.pv (V.aM 1 c a) λg=>B.ld h g λi=>B.pv (V.bin .eql f i) λj=>B.cond j (Q (.bool false) h) (B.pv (V.bin .add b (i6 1)) λk=>Y2 [k] h)) (B.pv (V.bin .add a (i6 1)) λl=>Y1 [l] h)
@[simp] def gZ.l2(Y1:zL)(a b c:a7):zG|[d],h,Y2=>gZ.k1 C N Q Y1 Y2 a b c d h|_,_,_=>False
@[simp] def gZ.k3(Y1:zL)(b d c:a7)(h:a9):=B.pv (V.aM 1 b c) λe=>B.ld h e λf=>B.call C (N 61) [f] h λg h=>B.pv (V.un .not g) λa=>B.gd h a false (λK=>K b h) λi h=>B.gd h a false (λK=>K c h) λj h=>bH h a (V.aM 1 i j) λk h=>jZ h a k λl h=>B.gd h a false (λK=>K d h) λm h=>bH h a (V.bin .eql l m) λn h=>B.pick a (.bool true) n λo=>B.cond o (Q (.bool false) h) (aB (gZ.l2 C N Q Y1 b d c) [(i6 0)] h)
@[simp] def gZ.k4(Y1:zL)(a f b:a7)(h:a9):=B.pv (V.aE a) λg=>B.pv (V.bin .lss b g) λc=>B.cond c (gZ.k3 C N Q Y1 a f b h) (B.pv (V.aE a) λd=>B.pv (V.bin .leq d (i6 4)) λe=>Q e h)
@[simp] def gZ.l5(a b:a7):zG|[c],h,Y1=>gZ.k4 C N Q Y1 a b c h|_,_,_=>False
@[simp] def gZ.aY(a b:a7)(h:a9)(Q:zQ):=aB (gZ.l5 C N Q a b) [(i6 0)] h
def gZ.aD:=mi C (N 479) (gZ.aY C N)
variable(C:aC)(N:Nat→Nat)(Q:zQ)
@[simp] def fI.k1(Y1:zL)(y b a:a7)(h:a9):=B.al a (B.pv (V.aF 6 a) λz=>B.pv (V.aE z) λc=>B.pv (V.bin .lss b c) λd=>B.cond d (B.al a (B.pv (V.aF 6 a) λe=>B.pv (V.aM 3 e b) λf=>B.pv (V.fieldAddr 0 f) λg=>B.ld h g λi=>B.call C (N 58) [i,(i6 8)] h λj h=>B.bO h 1 1 y j λk h=>B.al a (B.pv (V.aF 6 a) λl=>B.pv (V.aM 3 l b) λm=>B.pv (V.fieldAddr 1 m) λn=>B.ld h n λo=>B.call C (N 58) [o,(i6 8)] h λp h=>B.bO h 1 1 k p λq h=>B.al a (B.pv (V.aF 6 a) λr=>B.pv (V.aM 3 r b) λs=>B.pv (V.fieldAddr 2 s) λt=>B.ld h t λu=>B.call C (N 58) [u,(i6 8)] h λv h=>B.bO h 1 1 q v λw h=>B.pv (V.bin .add b (i6 1)) λx=>Y1 [w,x] h)))) (Q (.bI [y,(i6 0)]) h))
@[simp] def fI.l2(a:a7):zG|[b,c],h,Y1=>fI.k1 C N Q Y1 b c a h|_,_,_=>False
@[simp] def fI.k3(f a:a7)(h:a9):=B.al a (B.pv (V.aF 6 a) λb=>B.pv (V.aE b) λc=>B.call C (N 58) [c,(i6 2)] h λd h=>B.bO h 1 1 f d λe h=>aB (fI.l2 C N Q a) [e,(i6 0)] h)
@[simp] def fI.k4(Y2:zL)(i f b:a7)(h:a9):=B.al b (B.pv (V.aF 5 b) λj=>B.pv (V.aE j) λk=>B.pv (V.bin .lss f k) λl=>B.cond l (B.al b (B.pv (V.aF 5 b) λm=>B.pv (V.aM 6 m f) λn=>B.cR h n 6 λo=>B.pv (V.bU 0 6 o (.agg [i6 0,.str [],i6 0,i6 0,i6 0,.bool false])) λa=>B.al a (B.pv (V.aF 0 a) λp=>B.call C (N 58) [p,(i6 8)] h λq h=>B.bO h 1 1 i q λr h=>B.al a (B.pv (V.aF 1 a) λs=>B.call C (N 59) [s] h λt h=>B.bO h 1 1 r t λu h=>B.al a (B.al a (B.pv (V.aF 2 a) λv=>B.call C (N 58) [v,(i6 2)] h λw h=>B.bO h 1 1 u w λx h=>B.al a (B.al a (B.pv (V.aF 3 a) λy=>B.call C (N 58) [y,(i6 2)] h λz h=>B.bO h 1 1 x z λD h=>B.al a (B.pv (V.aF 4 a) λA=>B.call C (N 58) [A,(i6 8)] h λac h=>B.bO h 1 1 D ac λg h=>B.al a (B.pv (V.aF 5 a) λad=>B.cond ad (B.bL h (bN [(0,none,(.int .u8 1))] (bG 1 [.int .u8 0])) λc h=>B.bO h 1 1 g (.sl c 0 0 1 1 1) λd h=>B.pv (V.bin .add f (i6 1)) λe=>Y2 [d,e] h) (B.bL h (bN [(0,none,(.int .u8 0))] (bG 1 [.int .u8 0])) λc h=>B.bO h 1 1 g (.sl c 0 0 1 1 1) λd h=>B.pv (V.bin .add f (i6 1)) λe=>Y2 [d,e] h))))))))))) (fI.k3 C N Q i b h))
@[simp] def fI.l5(a:a7):zG|[b,c],h,Y2=>fI.k4 C N Q Y2 b c a h|_,_,_=>False
@[simp] def fI.k6(f a:a7)(h:a9):=B.al a (B.pv (V.aF 5 a) λb=>B.pv (V.aE b) λc=>B.call C (N 58) [c,(i6 2)] h λd h=>B.bO h 1 1 f d λe h=>aB (fI.l5 C N Q a) [e,(i6 0)] h)
@[simp] def fI.k7(e a:a7)(h:a9):=B.al a (B.pv (V.aF 4 a) λb=>B.bL h (bN [(0,none,b)] (bG 1 [.int .u8 0])) λc h=>B.bO h 1 1 e (.sl c 0 0 1 1 1) λd h=>fI.k6 C N Q d a h)
@[simp] def fI.k8(j a:a7)(h:a9):=B.al a (B.pv (V.aF 2 a) λb=>B.pv (V.bin .add b (i6 1)) λc=>B.call C (N 58) [c,(i6 2)] h λd h=>B.bO h 1 1 j d λe h=>B.al a (B.pv (V.aF 3 a) λf=>B.call C (N 59) [f] h λg h=>B.bO h 1 1 e g λi h=>fI.k7 C N Q i a h))
@[simp] def fI.k9(e a:a7)(h:a9):=B.al a (B.pv (V.aF 1 a) λb=>B.call C (N 58) [b,(i6 8)] h λc h=>B.bO h 1 1 e c λd h=>fI.k8 C N Q d a h)
@[simp] def fI.jL(b a:a7)(h:a9):=B.al a (B.pv (V.aF 0 a) λc=>B.pv (V.bin .neq c (i6 0)) λd=>B.cond d (Q (.bI [b,(i6 0)]) h) (fI.k9 C N Q b a h))
@[simp] def fI.qe(a:a7)(h:a9):=B.pv (V.bM 0 7 a) λf=>B.call C (N 33) [f] h λb h=>B.pv (V.un .not b) λc=>B.cond c (Q (.bI [.aA,(i6 2)]) h) (B.al a (B.pv (V.aF 0 a) λd=>B.call C (N 58) [d,(i6 2)] h λe h=>fI.jL C N Q e a h))
@[simp] def fI.aY(a:a7)(h:a9)(Q:zQ):=B.pv (A.ey 7 a) λb=>fI.qe C N Q b h
def fI.aD:=g9 C (N 32) (fI.aY C N)
@[simp] def gP.k1(C:aC)(N:zN)(Q:zQ)(Y1:zL)(d c:a7)(h:a9):=B.al c (B.pv (V.aF 6 c) λe=>B.pv (V.aE e) λf=>B.pv (V.bin .lss d f) λg=>B.cond g (B.al c (B.pv (V.aF 6 c) λi=>B.pv (V.aM 3 i d) λj=>B.pv (V.fieldAddr 0 j) λk=>B.ld h k λl=>B.pv (V.bin .lss l (i6 0)) λa=>B.al c (eN h a (V.aF 6 c) λm h=>B.gd h a false (λK=>K d h) λn h=>bH h a (V.aM 3 m n) λo h=>bH h a (V.fieldAddr 1 o) λp h=>jZ h a p λq h=>bH h a (V.bin .lss q (i6 1)) λr h=>B.pick a (.bool true) r λb=>B.al c (eN h b (V.aF 6 c) λs h=>B.gd h b false (λK=>K d h) λt h=>bH h b (V.aM 3 s t) λu h=>bH h b (V.fieldAddr 2 u) λw h=>jZ h b w λx h=>bH h b (V.bin .lss x (i6 1)) λy h=>B.pick b (.bool true) y λz=>B.cond z (Q (.bool false) h) (B.pv (V.bin .add d (i6 1)) λv=>Y1 [v] h))))) (Q (.bool true) h))
@[simp] def gP.l2(a:a7):zG|[b],h,Y1=>gP.k1 C N Q Y1 b a h|_,_,_=>False
@[simp] def gP.k3(Y2:zL)(b a:a7)(h:a9):=B.al a (B.pv (V.aF 5 a) λc=>B.pv (V.aE c) λd=>B.pv (V.bin .lss b d) λe=>B.cond e (B.al a (B.pv (V.aF 5 a) λf=>B.pv (V.aM 6 f b) λg=>B.cR h g 6 λi=>B.call C (N 60) [i] h λj h=>B.pv (V.un .not j) λk=>B.cond k (Q (.bool false) h) (B.pv (V.bin .add b (i6 1)) λl=>Y2 [l] h))) (aB (gP.l2 C N Q a) [(i6 0)] h))
@[simp] def gP.l4(a:a7):zG|[b],h,Y2=>gP.k3 C N Q Y2 b a h|_,_,_=>False
@[simp] def gP.k5(a:a7)(h:a9):=B.al a (B.pv (V.aF 1 a) λj=>B.pv (V.bin .lss j (i6 0)) λf=>B.al a (eN h f (V.aF 2 a) λk h=>bH h f (V.bin .lss k (.int .i64 (-1))) λl h=>B.pick f (.bool true) l λg=>B.al a (eN h g (V.aF 2 a) λm h=>bH h g (V.bin .gtr m (i6 4000)) λn h=>B.pick g (.bool true) n λb=>B.al a (eN h b (V.aF 3 a) λo h=>bH h b (V.bin .neq o (.str [])) λp h=>B.gd h b false (λK=>K p h) λc h=>B.al a (bV h c (V.aF 3 a) λq h=>dG C h c (N 61) [q] λr h=>bD h c (V.un .not r) λs h=>B.gd h b false (λK=>B.pick c s (.bool false) λv=>K v h) λt h=>B.pick b (.bool true) t λi=>B.al a (eN h i (V.aF 4 a) λu h=>bH h i (V.bin .gtr u (.int .u8 3)) λw h=>B.pick i (.bool true) w λd=>B.al a (eN h d (V.aF 5 a) λx h=>bH h d (V.aE x) λy h=>bH h d (V.bin .gtr y (i6 300)) λz h=>B.pick d (.bool true) z λe=>B.al a (eN h e (V.aF 6 a) λD h=>bH h e (V.aE D) λA h=>bH h e (V.bin .gtr A (i6 2000)) λac h=>B.pick e (.bool true) ac λad=>B.cond ad (Q (.bool false) h) (aB (gP.l4 C N Q a) [(i6 0)] h)))))))))
@[simp] def gP.k6(a:a7)(h:a9):=B.al a (B.pv (V.aF 0 a) λf=>B.pv (V.bin .neq f (i6 0)) λg=>B.cond g (B.al a (B.pv (V.aF 1 a) λi=>B.pv (V.bin .eql i (i6 0)) λc=>B.al a (bV h c (V.aF 2 a) λj h=>bD h c (V.bin .eql j (i6 0)) λk h=>B.pick c k (.bool false) λd=>B.al a (bV h d (V.aF 3 a) λl h=>bD h d (V.bin .eql l (.str [])) λm h=>B.pick d m (.bool false) λe=>B.al a (bV h e (V.aF 4 a) λn h=>bD h e (V.bin .eql n (.int .u8 0)) λo h=>B.pick e o (.bool false) λb=>B.al a (bV h b (V.aF 5 a) λp h=>bD h b (V.aE p) λq h=>B.al a (bV h b (V.aF 6 a) λr h=>bD h b (V.aE r) λs h=>bD h b (V.bin .add q s) λt h=>bD h b (V.bin .eql t (i6 0)) λu h=>B.pick b u (.bool false) λw=>Q w h))))))) (gP.k5 C N Q a h))
@[simp] def gP.k7(a:a7)(h:a9):=B.al a (B.pv (V.aF 0 a) λf=>B.pv (V.bin .lss f (i6 0)) λb=>B.al a (eN h b (V.aF 0 a) λc h=>bH h b (V.bin .gtr c (i6 999)) λd h=>B.pick b (.bool true) d λe=>B.cond e (Q (.bool false) h) (gP.k6 C N Q a h)))
@[simp] def gP.aY(a:a7)(h:a9)(Q:zQ):=B.pv (A.ey 7 a) λb=>gP.k7 C N Q b h
def gP.aD:=g9 C (N 33) (gP.aY C N)
@[simp] def fj.k1(b d e:a7)(h:a9):=B.nilCheck d λf=>B.pv (V.fieldAddr 2 f) λg=>B.ld h g λa=>bH h a (V.bM 0 7 e) λi h=>gE C h a (N 33) [i] λj h=>bH h a (V.un .not j) λk h=>B.pick a (.bool true) k λl=>B.cond l (B.pv (A.cD [] [i6 0,i6 0,i6 0,.str [],.int .u8 0,.aA,.aA]) λm=>B.gp h b 7 m λh=>B.pv (oneOf (cJ (A.fF h b 7) (cJ (some (i6 0)) (cJ (some (i6 4)) (some []))))) λv=>Q v h) (B.pv (V.bM 0 7 e) λn=>B.nilCheck d λo=>B.pv (V.fieldAddr 1 o) λc=>B.ld h c λp=>(λK=>B.gp h b 7 n λh=>K .undef h) (B.jV h [(c,none)] (λ_ h=>B.pv (oneOf (cJ (A.fF h b 7) (cJ (some p) (cJ (some (i6 0)) (some []))))) λv=>Q v h)))
@[simp] def fj.k2(Y1:zL)(w d e b:a7)(h:a9):=B.pv (V.bin .gtr e (i6 0)) λa=>B.gd h a true (λK=>K d h) λf h=>B.gd h a true (λK=>B.nilCheck f λv=>K v h) λg h=>bD h a (V.fieldAddr 2 g) λi h=>gb h a i λj h=>bD h a (V.un .not j) λk h=>B.pick a k (.bool false) λl=>B.cond l (B.call C (N 71) [d,(i6 8)] h λm h=>B.pv (A.cD [(0,none,m)] [i6 0,i6 0,i6 0]) λn=>B.pv (V.bU 0 3 n (.agg [i6 0,i6 0,i6 0])) λc=>B.call C (N 71) [d,(i6 8)] h λo h=>B.al c (B.pv (V.cL 1 o c) λc=>B.call C (N 71) [d,(i6 8)] h λp h=>B.al c (B.pv (V.cL 2 p c) λc=>B.al b (B.pv (V.aF 6 b) λq=>B.pv (V.bM 0 3 c) λr=>B.bL h (bN [(0,some 3,r)] (bG 1 [i6 0,i6 0,i6 0])) λs h=>B.bO h 3 24 q (.sl s 0 0 1 3 1) λt h=>B.al b (B.pv (V.cL 6 t b) λb=>B.pv (V.bin .sub e (i6 1)) λu=>Y1 [u,b] h))))) (fj.k1 C N Q w d b h)
@[simp] def fj.l3(a b:a7):zG|[c,d],h,Y1=>fj.k2 C N Q Y1 a b c d h|_,_,_=>False
@[simp] def fj.k4(Y2:zL)(r c d b:a7)(h:a9):=B.pv (V.bin .gtr d (i6 0)) λa=>B.gd h a true (λK=>K c h) λe h=>B.gd h a true (λK=>B.nilCheck e λv=>K v h) λf h=>bD h a (V.fieldAddr 2 f) λg h=>gb h a g λi h=>bD h a (V.un .not i) λj h=>B.pick a j (.bool false) λk=>B.cond k (B.al b (B.pv (V.aF 5 b) λl=>B.call C (N 72) [c] h λm h=>B.bL h (bN [(0,some 6,m)] (bG 1 [i6 0,.str [],i6 0,i6 0,i6 0,.bool false])) λn h=>B.bO h 6 56 l (.sl n 0 0 1 6 1) λo h=>B.al b (B.pv (V.cL 5 o b) λb=>B.pv (V.bin .sub d (i6 1)) λp=>Y2 [p,b] h))) (B.call C (N 71) [c,(i6 2)] h λq h=>aB (fj.l3 C N Q r c) [q,b] h)
@[simp] def fj.l5(a b:a7):zG|[c,d],h,Y2=>fj.k4 C N Q Y2 a b c d h|_,_,_=>False
@[simp] def fj.k6(f b a:a7)(h:a9):=B.call C (N 71) [b,(i6 1)] h λc h=>B.pv (V.toInt .u8 c) λd=>B.al a (B.pv (V.cL 4 d a) λa=>B.call C (N 71) [b,(i6 2)] h λe h=>aB (fj.l5 C N Q f b) [e,a] h)
@[simp] def fj.k7(f b a:a7)(h:a9):=B.call C (N 71) [b,(i6 2)] h λc h=>B.pv (V.bin .sub c (i6 1)) λd=>B.al a (B.pv (V.cL 2 d a) λa=>B.call C (N 73) [b] h λe h=>B.al a (B.pv (V.cL 3 e a) λa=>fj.k6 C N Q f b a h))
@[simp] def fj.k8(c b a:a7)(h:a9):=B.al a (B.pv (V.aF 0 a) λd=>B.pv (V.bin .eql d (i6 0)) λe=>B.cond e (B.call C (N 71) [b,(i6 8)] h λf h=>B.al a (B.pv (V.cL 1 f a) λa=>fj.k7 C N Q c b a h)) (fj.k1 C N Q c b a h))
@[simp] def fj.k9(d a:a7)(h:a9):=B.call C (N 71) [a,(i6 2)] h λb h=>B.pv (A.cD [(0,none,b)] [i6 0,i6 0,i6 0,.str [],.int .u8 0,.aA,.aA]) λc=>B.pv (V.bU 0 7 c (.agg [i6 0,i6 0,i6 0,.str [],.int .u8 0,.aA,.aA])) λe=>fj.k8 C N Q d a e h
@[simp] def fj.jL(c:a7)(h:a9):Prop:=B.bL h (some [i6 0,i6 0,i6 0,.str [],.int .u8 0,.aA,.aA]) λd h=>B.pv (A.cD [(0,none,c)] [.aA,i6 0,.bool false]) λa=>B.bL h (A.kZ 3 a) λb h=>fj.k9 C N Q (.ptr d 0 0) (.ptr b 0 0) h
def fj.aD:=fy C (N 41) (fj.jL C N)
@[simp] def kV.k1(C:aC)(N:zN)(Q:zQ)(Y1:zL)(m b a:a7)(h:a9):=B.pv (V.bin .geq a (i6 0)) λc=>B.cond c (B.pv (V.toInt .u64 m) λd=>B.pv (V.bin .mul (i6 8) a) λe=>B.pv (V.toInt .u64 e) λf=>B.pv (V.bin .shr d f) λg=>B.pv (V.toInt .u8 g) λi=>B.bL h (bN [(0,none,i)] (bG 1 [.int .u8 0])) λj h=>B.bO h 1 1 b (.sl j 0 0 1 1 1) λk h=>B.pv (V.bin .sub a (i6 1)) λl=>Y1 [k,l] h) (Q b h)
@[simp] def kV.l2(a:a7):zG|[b,c],h,Y1=>kV.k1 C N Q Y1 a b c h|_,_,_=>False
@[simp] def kV.aY(a b:a7)(h:a9)(Q:zQ):=B.pv (V.bin .sub b (i6 1)) λc=>aB (kV.l2 C N Q a) [.aA,c] h
def kV.aD:=mi C (N 58) (kV.aY C N)
@[simp] def pK.k1(b:a7)(h:a9):=B.call C (N 71) [b,(i6 8)] h λr h=>B.pv (A.cD [(0,none,r)] [i6 0,.str [],i6 0,i6 0,i6 0,.bool false]) λs=>B.pv (V.bU 0 6 s (.agg [i6 0,.str [],i6 0,i6 0,i6 0,.bool false])) λa=>B.call C (N 73) [b] h λt h=>B.al a (B.pv (V.cL 1 t a) λa=>B.call C (N 71) [b,(i6 2)] h λe h=>B.al a (B.al a (B.pv (V.cL 2 e a) λa=>B.call C (N 71) [b,(i6 2)] h λf h=>B.al a (B.al a (B.pv (V.cL 3 f a) λa=>B.call C (N 71) [b,(i6 8)] h λg h=>B.al a (B.pv (V.cL 4 g a) λa=>B.call C (N 71) [b,(i6 1)] h λd h=>B.pv (V.bin .eql d (i6 1)) λi=>B.al a (B.pv (V.cL 5 i a) λa=>B.nilCheck b λj=>B.pv (V.fieldAddr 2 j) λk=>B.ld h k λc=>B.gd h c false (λK=>K d h) λl h=>bH h c (V.bin .gtr l (i6 1)) λm h=>B.pick c (.bool true) m λn=>B.nilCheck b λo=>B.pv (V.fieldAddr 2 o) λp=>B.st h p n λh=>B.pv (V.bM 0 6 a) λq=>B.pv (V.bU 0 6 q (.agg [i6 0,.str [],i6 0,i6 0,i6 0,.bool false])) λu=>B.pv (oneOf (cJ (V.bM 0 6 u) (some []))) λv=>Q v h)))))))
def pK.aD:=fy C (N 72) (pK.k1 C N)
variable(C:aC)(N:Nat→Nat)(Q:zQ)
@[simp] def gh.k1(Y1:zL)(c b a:a7)(h:a9):=B.al a (B.pv (V.aF 5 a) λd=>B.pv (V.aE d) λe=>B.pv (V.bin .lss b e) λf=>B.cond f (B.al a (B.pv (V.aF 5 a) λg=>B.pv (V.aM 8 g b) λi=>B.cR h i 8 λj=>B.call C (N 463) [j] h λk h=>B.bL h (bN [(0,some 2,k)] (bG 1 [.aA,.aA])) λl h=>B.bO h 2 48 c (.sl l 0 0 1 2 1) λm h=>B.pv (V.bin .add b (i6 1)) λn=>Y1 [m,n] h)) (Q c h))
@[simp] def gh.l2(a:a7):zG|[b,c],h,Y1=>gh.k1 C N Q Y1 b c a h|_,_,_=>False
@[simp] def gh.k3(Y2:zL)(c b a:a7)(h:a9):=B.al a (B.pv (V.aF 4 a) λd=>B.pv (V.aE d) λe=>B.pv (V.bin .lss b e) λf=>B.cond f (B.al a (B.pv (V.aF 4 a) λg=>B.pv (V.aM 6 g b) λi=>B.cR h i 6 λj=>B.call C (N 464) [j] h λk h=>B.bL h (bN [(0,some 2,k)] (bG 1 [.aA,.aA])) λl h=>B.bO h 2 48 c (.sl l 0 0 1 2 1) λm h=>B.pv (V.bin .add b (i6 1)) λn=>Y2 [m,n] h)) (aB (gh.l2 C N Q a) [c,(i6 0)] h))
@[simp] def gh.l4(a:a7):zG|[b,c],h,Y2=>gh.k3 C N Q Y2 b c a h|_,_,_=>False
@[simp] def gh.k5(Y3:zL)(c b a:a7)(h:a9):=B.al a (B.pv (V.aF 3 a) λd=>B.pv (V.aE d) λe=>B.pv (V.bin .lss b e) λf=>B.cond f (B.al a (B.pv (V.aF 3 a) λg=>B.pv (V.aM 4 g b) λi=>B.cR h i 4 λj=>B.call C (N 465) [j] h λk h=>B.bL h (bN [(0,some 2,k)] (bG 1 [.aA,.aA])) λl h=>B.bO h 2 48 c (.sl l 0 0 1 2 1) λm h=>B.pv (V.bin .add b (i6 1)) λn=>Y3 [m,n] h)) (aB (gh.l4 C N Q a) [c,(i6 0)] h))
@[simp] def gh.l6(a:a7):zG|[b,c],h,Y3=>gh.k5 C N Q Y3 b c a h|_,_,_=>False
@[simp] def gh.k7(a:a7)(h:a9):=B.al a (B.pv (V.aF 0 a) λb=>B.al a (B.pv (V.aF 2 a) λc=>B.al a (B.pv (V.aF 1 a) λd=>B.call C (N 466) [b,(i6 2)] h λe h=>B.call C (N 466) [c,(i6 8)] h λf h=>B.call C (N 466) [d,(i6 8)] h λg h=>B.bL h (bN [(0,none,(.int .u8 42)),(1,none,(.int .u8 100)),(2,none,(.int .u8 97)),(3,none,(.int .u8 121))] (bG 4 [.int .u8 0])) λi h=>B.conv h (.sl i 0 0 4 1 4) λj=>B.pv (A.cD [(0,none,j),(1,none,e)] [.aA,.aA]) λk=>B.bL h (bN [(0,none,(.int .u8 42)),(1,none,(.int .u8 108)),(2,none,(.int .u8 105)),(3,none,(.int .u8 110)),(4,none,(.int .u8 101))] (bG 5 [.int .u8 0])) λl h=>B.conv h (.sl l 0 0 5 1 5) λm=>B.pv (A.cD [(0,none,m),(1,none,f)] [.aA,.aA]) λn=>B.bL h (bN [(0,none,(.int .u8 42)),(1,none,(.int .u8 108)),(2,none,(.int .u8 111)),(3,none,(.int .u8 116))] (bG 4 [.int .u8 0])) λo h=>B.conv h (.sl o 0 0 4 1 4) λp=>B.pv (A.cD [(0,none,p),(1,none,g)] [.aA,.aA]) λq=>B.bL h (bN [(0,some 2,k),(2,some 2,n),(4,some 2,q)] (bG 3 [.aA,.aA])) λr h=>aB (gh.l6 C N Q a) [(.sl r 0 0 3 2 3),(i6 0)] h)))
@[simp] def gh.k8(a:a7)(h:a9):=B.pv (V.bM 0 6 a) λb=>B.call C (N 467) [b] h λc h=>B.pv (V.un .not c) λd=>B.cond d (Q .aA h) (gh.k7 C N Q a h)
@[simp] def gh.aY(a:a7)(h:a9)(Q:zQ):=B.pv (A.ey 6 a) λb=>gh.k8 C N Q b h
def gh.aD:=g9 C (N 449) (gh.aY C N)
@[simp] def fV.k1(C:aC)(N:zN)(Q:zQ)(c a:a7)(h:a9):Prop:=B.cR h c 6 λb=>B.pv (V.bU 0 6 b a) λa=>B.pv (oneOf (cJ (V.bM 0 6 a) (cJ (some (i6 0)) (some [])))) λv=>Q v h
@[simp] def fV.k2(Y1:zL)(v4 t d b c:a7)(h:a9):=B.pv (V.aE d) λu=>B.pv (V.bin .lss b u) λw=>B.cond w (B.pv (V.aM 2 d b) λx=>B.pv (V.fieldAddr 0 x) λy=>B.ld h y λz=>B.pv (V.aM 2 t b) λH=>B.pv (V.fieldAddr 0 H) λG=>B.ld h G λac=>B.gk h z λad=>B.gk h ac λF=>B.pv (V.bin .neq ad F) λa=>B.gd h a false (λK=>K d h) λE h=>B.gd h a false (λK=>K b h) λe h=>bH h a (V.aM 2 E e) λf h=>bH h a (V.fieldAddr 1 f) λg h=>jZ h a g λi h=>B.gd h a false (λK=>K t h) λj h=>B.gd h a false (λK=>K b h) λk h=>bH h a (V.aM 2 j k) λl h=>bH h a (V.fieldAddr 1 l) λm h=>jZ h a m λn h=>B.gd h a false (λK=>B.gk h i λv=>K v h) λo h=>B.gd h a false (λK=>B.gk h n λv=>K v h) λp h=>bH h a (V.bin .neq o p) λq h=>B.pick a (.bool true) q λr=>B.cond r (B.pv (A.cD [] [i6 0,i6 0,i6 0,.aA,.aA,.aA]) λs=>B.pv (V.bU 0 6 s c) λc=>B.pv (oneOf (cJ (V.bM 0 6 c) (cJ (some (i6 4)) (some [])))) λv=>Q v h) (B.pv (V.bin .add b (i6 1)) λD=>Y1 [D,c] h)) (fV.k1 C N Q v4 c h)
@[simp] def fV.l3(a b c:a7):zG|[d,e],h,Y1=>fV.k2 C N Q Y1 a b c d e h|_,_,_=>False
@[simp] def fV.k4(n d c b:a7)(h:a9):=B.pv (V.aE c) λe=>B.pv (V.bin .eql e (i6 0)) λa=>B.gd h a false (λK=>K c h) λf h=>bH h a (V.aE f) λg h=>B.gd h a false (λK=>K d h) λi h=>bH h a (V.aE i) λj h=>bH h a (V.bin .neq g j) λk h=>B.pick a (.bool true) k λl=>B.cond l (B.pv (A.cD [] [i6 0,i6 0,i6 0,.aA,.aA,.aA]) λm=>B.pv (V.bU 0 6 m b) λb=>B.pv (oneOf (cJ (V.bM 0 6 b) (cJ (some (i6 4)) (some [])))) λv=>Q v h) (aB (fV.l3 C N Q n d c) [(i6 0),b] h)
@[simp] def fV.k5(Y2:zL)(e g i c d:a7)(h:a9):=B.pv (V.aE e) λj=>B.pv (V.bin .lss c j) λk=>B.cond k (B.pv (V.bin .gtr c (i6 0)) λa=>B.gd h a true (λK=>K e h) λl h=>B.gd h a true (λK=>K c h) λm h=>bD h a (V.bin .sub m (i6 1)) λn h=>bD h a (V.aM 2 l n) λo h=>bD h a (V.fieldAddr 0 o) λp h=>gb h a p λq h=>B.gd h a true (λK=>K e h) λr h=>B.gd h a true (λK=>K c h) λs h=>bD h a (V.aM 2 r s) λt h=>bD h a (V.fieldAddr 0 t) λu h=>gb h a u λw h=>B.gd h a true (λK=>B.gk h q λv=>K v h) λx h=>B.gd h a true (λK=>B.gk h w λv=>K v h) λy h=>bD h a (V.bin .geq x y) λz h=>B.pick a z (.bool false) λaa=>B.cond aa (B.pv (A.cD [] [i6 0,i6 0,i6 0,.aA,.aA,.aA]) λab=>B.pv (V.bU 0 6 ab d) λd=>B.pv (oneOf (cJ (V.bM 0 6 d) (cJ (some (i6 4)) (some [])))) λv=>Q v h) (B.pv (V.aM 2 e c) λac=>B.pv (V.fieldAddr 0 ac) λad=>B.ld h ad λZ=>B.pv (V.aE Z) λY=>B.pv (V.bin .gtr Y (i6 0)) λb=>B.gd h b true (λK=>K e h) λX h=>B.gd h b true (λK=>K c h) λW h=>bD h b (V.aM 2 X W) λU h=>bD h b (V.fieldAddr 0 U) λT h=>gb h b T λS h=>bD h b (V.aM 1 S (i6 0)) λal h=>gb h b al λam h=>bD h b (V.bin .eql am (.int .u8 97)) λR h=>B.pick b R (.bool false) λP=>B.cond P (B.pv (V.bin .add c (i6 1)) λf=>Y2 [i,f,d] h) (B.pv (V.aM 2 e c) λap=>B.cR h ap 2 λO=>B.call C (N 469) [g,O] h λM h=>B.pv (V.un .not M) λL=>B.cond L (B.pv (A.cD [] [i6 0,i6 0,i6 0,.aA,.aA,.aA]) λJ=>B.pv (V.bU 0 6 J d) λd=>B.pv (oneOf (cJ (V.bM 0 6 d) (cJ (some (i6 4)) (some [])))) λv=>Q v h) (B.pv (V.aM 2 e c) λI=>B.cR h I 2 λH=>B.bL h (bN [(0,some 2,H)] (bG 1 [.aA,.aA])) λG h=>B.bO h 2 48 i (.sl G 0 0 1 2 1) λF h=>B.pv (V.bin .add c (i6 1)) λf=>Y2 [F,f,d] h)))) (B.cR h g 6 λE=>B.call C (N 449) [E] h λD h=>fV.k4 C N Q g i D d h)
@[simp] def fV.l6(a b:a7):zG|[c,d,e],h,Y2=>fV.k5 C N Q Y2 a b c d e h|_,_,_=>False
@[simp] def fV.k7(b c:a7)(h:a9):=B.pv (A.cD [] [i6 0,i6 0,i6 0,.aA,.aA,.aA]) λd=>B.bL h (some [i6 0,i6 0,i6 0,.aA,.aA,.aA]) λa h=>B.gp h (.ptr a 0 0) 6 d λh=>aB (fV.l6 C N Q b (.ptr a 0 0)) [.aA,(i6 0),c] h
@[simp] def fV.aY(a:a7)(h:a9)(Q:zQ):Prop:=fV.k7 C N Q a (.agg [i6 0,i6 0,i6 0,.aA,.aA,.aA]) h
def fV.aD:=g9 C (N 452) (fV.aY C N)
@[simp] def ij.k1(Y1:zL)(r s c b a:a7)(h:a9):=B.pv (V.aE c) λd=>B.pv (V.bin .lss a d) λe=>B.cond e (B.pv (V.aE b) λf=>B.pv (V.bin .add a (i6 180)) λg=>B.pv (V.aE c) λi=>B.pv (V.min2 g i) λj=>B.pv (V.dS 1 c (some a) (some j)) λk=>B.call C (N 457) [r,s,f] h λl h=>B.bO h 1 1 .sz k λm h=>B.pv (A.cD [(0,none,l),(1,none,m)] [.aA,.aA]) λn=>B.bL h (bN [(0,some 2,n)] (bG 1 [.aA,.aA])) λo h=>B.bO h 2 48 b (.sl o 0 0 1 2 1) λp h=>B.pv (V.bin .add a (i6 180)) λq=>Y1 [p,q] h) (Q (.bI [b,(i6 0)]) h)
@[simp] def ij.l2(c d e:a7):zG|[a,b],h,Y1=>ij.k1 C N Q Y1 c d e a b h|_,_,_=>False
@[simp] def ij.k3(b c j k:a7)(h:a9):=B.call C (N 457) [b,c,(i6 0)] h λd h=>B.pv (V.aE d) λe=>B.pv (V.bin .eql e (i6 0)) λa=>B.gd h a false (λK=>K k h) λf h=>bH h a (V.bin .neq f (i6 0)) λg h=>B.pick a (.bool true) g λi=>B.cond i (Q (.bI [.aA,(i6 2)]) h) (aB (ij.l2 C N Q b c j) [.aA,(i6 0)] h)
@[simp] def ij.k4(e f g:a7)(h:a9):=B.pv (V.bM 0 7 g) λb=>B.call C (N 32) [b] h λa h=>B.pv (V.ext 0 a) λc=>B.pv (V.ext 1 a) λd=>ij.k3 C N Q e f c d h
@[simp] def ij.aY(a b c:a7)(h:a9)(Q:zQ):=B.pv (A.ey 7 c) λd=>ij.k4 C N Q a b d h
def ij.aD:=zj C (N 455) (ij.aY C N)
@[simp] def ew.k1(C:aC)(N:zN)(Q:zQ)(a c:a7)(h:a9):=B.pv (V.bM 0 7 c) λb=>B.pv (V.bU 0 7 b a) λa=>B.pv (oneOf (cJ (V.bM 0 7 a) (cJ (some (.bool true)) (some [])))) λv=>Q v h
@[simp] def ew.k2(Y1:zL)(D c b d G:a7)(h:a9):=B.pv (V.aE c) λF=>B.pv (V.bin .lss b F) λE=>B.cond E (B.pv (V.aM 2 c b) λe=>B.pv (V.fieldAddr 0 e) λf=>B.ld h f λg=>B.pv (V.aM 2 D b) λi=>B.pv (V.fieldAddr 0 i) λj=>B.ld h j λk=>B.gk h g λl=>B.gk h k λm=>B.pv (V.bin .neq l m) λa=>B.gd h a false (λK=>K c h) λn h=>B.gd h a false (λK=>K b h) λo h=>bH h a (V.aM 2 n o) λp h=>bH h a (V.fieldAddr 1 p) λq h=>jZ h a q λr h=>B.gd h a false (λK=>K D h) λs h=>B.gd h a false (λK=>K b h) λt h=>bH h a (V.aM 2 s t) λu h=>bH h a (V.fieldAddr 1 u) λw h=>jZ h a w λx h=>B.gd h a false (λK=>B.gk h r λv=>K v h) λy h=>B.gd h a false (λK=>B.gk h x λv=>K v h) λz h=>bH h a (V.bin .neq y z) λI h=>B.pick a (.bool true) I λH=>B.cond H (B.pv (A.cD [] [i6 0,i6 0,i6 0,.str [],.int .u8 0,.aA,.aA]) λac=>B.pv (V.bU 0 7 ac d) λd=>B.pv (oneOf (cJ (V.bM 0 7 d) (cJ (some (.bool false)) (some [])))) λv=>Q v h) (B.pv (V.bin .add b (i6 1)) λad=>Y1 [ad,d] h)) (ew.k1 C N Q d G h)
@[simp] def ew.l3(d a b:a7):zG|[c,e],h,Y1=>ew.k2 C N Q Y1 d a c e b h|_,_,_=>False
@[simp] def ew.k4(c b a d:a7)(h:a9):=B.pv (V.aE b) λe=>B.pv (V.aE c) λf=>B.pv (V.bin .neq e f) λg=>B.cond g (B.pv (A.cD [] [i6 0,i6 0,i6 0,.str [],.int .u8 0,.aA,.aA]) λi=>B.pv (V.bU 0 7 i a) λa=>B.pv (oneOf (cJ (V.bM 0 7 a) (cJ (some (.bool false)) (some [])))) λv=>Q v h) (aB (ew.l3 C N Q c b d) [(i6 0),a] h)
@[simp] def ew.k5(e f g i a:a7)(h:a9):=B.pv (V.bM 0 7 a) λc=>B.call C (N 455) [e,f,c] h λb h=>B.pv (V.ext 0 b) λd=>B.pv (V.ext 1 b) λj=>ew.k4 C N Q g d i a h
@[simp] def ew.k6(n o p c d e b f:a7)(h:a9):=B.pv (V.bin .neq e (i6 0)) λa=>B.gd h a false (λK=>K d h) λg h=>B.gd h a false (λK=>K c h) λi h=>bH h a (V.aE i) λj h=>bH h a (V.bin .neq g j) λk h=>B.pick a (.bool true) k λl=>B.cond l (B.pv (A.cD [] [i6 0,i6 0,i6 0,.str [],.int .u8 0,.aA,.aA]) λm=>B.pv (V.bU 0 7 m b) λb=>B.pv (oneOf (cJ (V.bM 0 7 b) (cJ (some (.bool false)) (some [])))) λv=>Q v h) (ew.k5 C N Q n o p b f h)
@[simp] def ew.k7(g i j b k:a7)(h:a9):=B.call C (N 41) [b] h λa h=>B.pv (V.ext 0 a) λc=>B.pv (V.ext 1 a) λd=>B.pv (V.ext 2 a) λe=>B.pv (V.bU 0 7 c (.agg [i6 0,i6 0,i6 0,.str [],.int .u8 0,.aA,.aA])) λf=>ew.k6 C N Q g i j b d e k f h
@[simp] def ew.k8(Y2:zL)(v0 v1 c g f d b A:a7)(h:a9):=B.pv (V.aE c) λi=>B.pv (V.bin .lss b i) λj=>B.cond j (B.pv (V.aM 2 c b) λk=>B.pv (V.fieldAddr 0 k) λl=>B.ld h l λm=>B.pv (V.aE m) λn=>B.pv (V.aE g) λo=>B.pv (V.bin .eql n o) λa=>B.gd h a true (λK=>K c h) λp h=>B.gd h a true (λK=>K b h) λq h=>bD h a (V.aM 2 p q) λr h=>bD h a (V.fieldAddr 0 r) λs h=>gb h a s λt h=>bD h a (V.dS 1 t none (some (i6 10))) λu h=>B.gd h a true (λK=>K g h) λw h=>bD h a (V.dS 1 w none (some (i6 10))) λx h=>B.gd h a true (λK=>B.gk h u λv=>K v h) λy h=>B.gd h a true (λK=>B.gk h x λv=>K v h) λz h=>bD h a (V.bin .eql y z) λL h=>B.pick a L (.bool false) λJ=>B.cond J (B.pv (V.aM 2 c b) λac=>B.cR h ac 2 λad=>B.bL h (bN [(0,some 2,ad)] (bG 1 [.aA,.aA])) λI h=>B.bO h 2 48 f (.sl I 0 0 1 2 1) λH h=>B.pv (V.aM 2 c b) λG=>B.pv (V.fieldAddr 1 G) λF=>B.ld h F λE=>B.bO h 1 1 d E λD h=>B.pv (V.bin .add b (i6 1)) λe=>Y2 [H,D,e] h) (B.pv (V.bin .add b (i6 1)) λe=>Y2 [f,d,e] h)) (ew.k7 C N Q v0 v1 f d A h)
@[simp] def ew.l9(c d e f g:a7):zG|[i,a,b],h,Y2=>ew.k8 C N Q Y2 c d e f i a b g h|_,_,_=>False
@[simp] def ew.jL(f g i b a:a7)(h:a9):=B.pv (V.aE b) λc=>B.pv (V.bin .eql c (i6 0)) λd=>B.cond d (B.pv (A.cD [] [i6 0,i6 0,i6 0,.str [],.int .u8 0,.aA,.aA]) λe=>B.pv (V.bU 0 7 e a) λa=>B.pv (oneOf (cJ (V.bM 0 7 a) (cJ (some (.bool false)) (some [])))) λv=>Q v h) (aB (ew.l9 C N Q f g i b a) [.aA,.aA,(i6 0)] h)
@[simp] def ew.qe(a b d:a7)(h:a9):=B.call C (N 457) [a,b,(i6 0)] h λc h=>ew.jL C N Q a b d c (.agg [i6 0,i6 0,i6 0,.str [],.int .u8 0,.aA,.aA]) h
@[simp] def ew.aY(a b c:a7)(h:a9)(Q:zQ):Prop:=ew.qe C N Q a b c h
def ew.aD:=zj C (N 456) (ew.aY C N)
@[simp] def oA.k1(e f g:a7)(h:a9):=B.pv (V.bin .lss e (i6 0)) λi=>B.gd h i false (λK=>K e h) λj h=>bH h i (V.bin .geq j (i6 4)) λk h=>B.pick i (.bool true) k λa=>B.gd h a false (λK=>K f h) λl h=>bH h a (V.bin .lss l (i6 1)) λm h=>B.pick a (.bool true) m λb=>B.gd h b false (λK=>K f h) λn h=>bH h b (V.bin .gtr n (i6 4611686018427387904)) λo h=>B.pick b (.bool true) o λc=>B.gd h c false (λK=>K g h) λp h=>bH h c (V.bin .lss p (i6 0)) λq h=>B.pick c (.bool true) q λd=>B.gd h d false (λK=>K g h) λr h=>bH h d (V.bin .gtr r (i6 999)) λs h=>B.pick d (.bool true) s λt=>B.cond t (Q .aA h) (B.pv (V.toInt .u8 e) λu=>B.bL h (bN [(0,none,(.int .u8 97)),(1,none,u)] (bG 2 [.int .u8 0])) λw h=>B.call C (N 466) [f,(i6 8)] h λx h=>B.call C (N 466) [g,(i6 2)] h λy h=>B.bL h (bN [(0,none,(.sl w 0 0 2 1 2)),(1,none,x),(2,none,y)] (bG 3 [.aA])) λz h=>B.call C (N 471) [(.sl z 0 0 3 1 3)] h λv h=>Q v h)
def oA.aD:=zh C (N 457) (oA.k1 C N)
@[simp] def qA.k1(w:a7)(h:a9):=B.pv (A.ey 8 w) λa=>B.al a (B.pv (V.aF 1 a) λx=>B.al a (B.pv (V.aF 2 a) λy=>B.al a (B.pv (V.aF 3 a) λb=>B.al a (B.pv (V.aF 4 a) λc=>B.pv (V.toInt .u8 c) λd=>B.al a (B.pv (V.aF 5 a) λe=>B.al a (B.pv (V.aF 6 a) λf=>B.pv (V.bin .add f (i6 1)) λg=>B.al a (B.pv (V.aF 7 a) λi=>B.call C (N 59) [x] h λz h=>B.call C (N 466) [y,(i6 4)] h λD h=>B.call C (N 466) [b,(i6 2)] h λj h=>B.call C (N 466) [g,(i6 2)] h λk h=>B.call C (N 59) [i] h λl h=>B.bL h (bN [(0,none,d),(1,none,e)] (bG 2 [.int .u8 0])) λm h=>B.bL h (bN [(0,none,z),(1,none,D),(2,none,j),(3,none,(.sl m 0 0 2 1 2)),(4,none,k),(5,none,l)] (bG 6 [.aA])) λn h=>B.call C (N 471) [(.sl n 0 0 6 1 6)] h λo h=>B.bL h (bN [(0,none,(.int .u8 111))] (bG 1 [.int .u8 0])) λp h=>B.conv h (.sl p 0 0 1 1 1) λq=>B.al a (B.pv (V.aF 0 a) λr=>B.call C (N 466) [r,(i6 8)] h λs h=>B.bO h 1 1 q s λt h=>B.pv (A.cD [(0,none,t),(1,none,o)] [.aA,.aA]) λu=>B.pv (V.bU 0 2 u (.agg [.aA,.aA])) λE=>B.pv (oneOf (cJ (V.bM 0 2 E) (some []))) λv=>Q v h))))))))
def qA.aD:=fy C (N 463) (qA.k1 C N)
@[simp] def iI.k1(s a b:a7)(h:a9):=B.al a (B.pv (V.aF 1 a) λt=>B.al a (B.al a (B.pv (V.aF 2 a) λc=>B.al a (B.al a (B.pv (V.aF 3 a) λd=>B.al a (B.pv (V.aF 4 a) λe=>B.call C (N 59) [t] h λu h=>B.call C (N 466) [c,(i6 2)] h λf h=>B.call C (N 466) [d,(i6 2)] h λg h=>B.call C (N 466) [e,(i6 4)] h λi h=>B.bL h (bN [(0,none,s)] (bG 1 [.int .u8 0])) λj h=>B.bL h (bN [(0,none,u),(1,none,f),(2,none,g),(3,none,i),(4,none,(.sl j 0 0 1 1 1))] (bG 5 [.aA])) λk h=>B.call C (N 471) [(.sl k 0 0 5 1 5)] h λl h=>B.bL h (bN [(0,none,(.int .u8 108))] (bG 1 [.int .u8 0])) λm h=>B.conv h (.sl m 0 0 1 1 1) λn=>B.al a (B.pv (V.aF 0 a) λo=>B.call C (N 466) [o,(i6 8)] h λp h=>B.bO h 1 1 n p λq h=>B.pv (A.cD [(0,none,q),(1,none,l)] [.aA,.aA]) λr=>B.pv (V.bU 0 2 r b) λb=>B.pv (oneOf (cJ (V.bM 0 2 b) (some []))) λv=>Q v h)))))))
@[simp] def iI.k2(b:a7)(h:a9):=B.pv (A.ey 6 b) λa=>B.al a (B.pv (V.aF 5 a) λc=>B.cond c (iI.k1 C N Q (.int .u8 1) a (.agg [.aA,.aA]) h) (iI.k1 C N Q (.int .u8 0) a (.agg [.aA,.aA]) h))
@[simp] def iI.aY(a:a7)(h:a9)(Q:zQ):Prop:=iI.k2 C N Q a h
def iI.aD:=g9 C (N 464) (iI.aY C N)
@[simp] def gI.k1(C:aC)(N:zN)(Q:zQ)(g b a:a7)(h:a9):=B.al b (B.pv (V.aF 0 b) λc=>B.pv (V.bin .add (.str [105]) c) λd=>B.oE h d λe h=>B.pv (A.cD [(0,none,e),(1,none,g)] [.aA,.aA]) λf=>B.pv (V.bU 0 2 f a) λa=>B.pv (oneOf (cJ (V.bM 0 2 a) (some []))) λv=>Q v h)
@[simp] def gI.k2(Y1:zL)(c b a n:a7)(h:a9):=B.al a (B.pv (V.aF 3 a) λd=>B.pv (V.aE d) λe=>B.pv (V.bin .lss b e) λf=>B.cond f (B.al a (B.pv (V.aF 3 a) λg=>B.pv (V.aM 1 g b) λi=>B.ld h i λj=>B.call C (N 59) [j] h λk h=>B.bO h 1 1 c k λl h=>B.pv (V.bin .add b (i6 1)) λm=>Y1 [l,m] h)) (gI.k1 C N Q c a n h))
@[simp] def gI.l3(a b:a7):zG|[c,d],h,Y1=>gI.k2 C N Q Y1 c d a b h|_,_,_=>False
@[simp] def gI.k4(g a i:a7)(h:a9):=B.al a (B.pv (V.aF 3 a) λb=>B.pv (V.aE b) λc=>B.pv (V.toInt .u8 c) λd=>B.bL h (bN [(0,none,d)] (bG 1 [.int .u8 0])) λe h=>B.bO h 1 1 g (.sl e 0 0 1 1 1) λf h=>aB (gI.l3 C N Q a i) [f,(i6 0)] h)
@[simp] def gI.k5(Y2:zL)(c b a u:a7)(h:a9):=B.al a (B.pv (V.aF 2 a) λd=>B.pv (V.aE d) λe=>B.pv (V.bin .lss b e) λf=>B.cond f (B.al a (B.pv (V.aF 2 a) λg=>B.pv (V.aM 2 g b) λi=>B.pv (V.fieldAddr 0 i) λj=>B.ld h j λk=>B.call C (N 59) [k] h λl h=>B.bO h 1 1 c l λm h=>B.al a (B.pv (V.aF 2 a) λn=>B.pv (V.aM 2 n b) λo=>B.pv (V.fieldAddr 1 o) λp=>B.ld h p λq=>B.call C (N 466) [q,(i6 4)] h λr h=>B.bO h 1 1 m r λs h=>B.pv (V.bin .add b (i6 1)) λt=>Y2 [s,t] h))) (gI.k4 C N Q c a u h))
@[simp] def gI.l6(a b:a7):zG|[c,d],h,Y2=>gI.k5 C N Q Y2 c d a b h|_,_,_=>False
@[simp] def gI.k7(a g:a7)(h:a9):=B.al a (B.pv (V.aF 1 a) λi=>B.al a (B.pv (V.aF 2 a) λb=>B.pv (V.aE b) λc=>B.pv (V.toInt .u8 c) λd=>B.call C (N 466) [i,(i6 2)] h λj h=>B.bL h (bN [(0,none,d)] (bG 1 [.int .u8 0])) λe h=>B.bO h 1 1 j (.sl e 0 0 1 1 1) λf h=>aB (gI.l6 C N Q a g) [f,(i6 0)] h))
@[simp] def gI.aY(a:a7)(h:a9)(Q:zQ):=B.pv (A.ey 4 a) λb=>gI.k7 C N Q b (.agg [.aA,.aA]) h
def gI.aD:=g9 C (N 465) (gI.aY C N)
@[simp] def jw.k1(C:aC)(N:zN)(Q:zQ)(Y1:zL)(m b a:a7)(h:a9):=B.pv (V.bin .geq a (i6 0)) λc=>B.cond c (B.pv (V.toInt .u64 m) λd=>B.pv (V.bin .mul (i6 8) a) λe=>B.pv (V.toInt .u64 e) λf=>B.pv (V.bin .shr d f) λg=>B.pv (V.toInt .u8 g) λi=>B.bL h (bN [(0,none,i)] (bG 1 [.int .u8 0])) λj h=>B.bO h 1 1 b (.sl j 0 0 1 1 1) λk h=>B.pv (V.bin .sub a (i6 1)) λl=>Y1 [k,l] h) (Q b h)
@[simp] def jw.l2(a:a7):zG|[b,c],h,Y1=>jw.k1 C N Q Y1 a b c h|_,_,_=>False
@[simp] def jw.aY(a b:a7)(h:a9)(Q:zQ):=B.pv (V.bin .sub b (i6 1)) λc=>aB (jw.l2 C N Q a) [.aA,c] h
def jw.aD:=mi C (N 466) (jw.aY C N)
@[simp] def gA.k1(Y1:zL)(d c:a7)(h:a9):=B.al c (B.pv (V.aF 5 c) λe=>B.pv (V.aE e) λf=>B.pv (V.bin .lss d f) λg=>B.cond g (B.al c (B.pv (V.aF 5 c) λi=>B.pv (V.aM 8 i d) λj=>B.cR h j 8 λk=>B.call C (N 180) [k] h λl h=>B.pv (V.un .not l) λb=>B.gd h b false (λK=>K d h) λm h=>bH h b (V.bin .gtr m (i6 0)) λn h=>B.gd h b false (λK=>K n h) λa h=>B.al c (bV h a (V.aF 5 c) λo h=>B.gd h a true (λK=>K d h) λp h=>bD h a (V.bin .sub p (i6 1)) λq h=>bD h a (V.aM 8 o q) λr h=>bD h a (V.fieldAddr 0 r) λs h=>gb h a s λt h=>B.al c (bV h a (V.aF 5 c) λu h=>B.gd h a true (λK=>K d h) λw h=>bD h a (V.aM 8 u w) λx h=>bD h a (V.fieldAddr 0 x) λy h=>gb h a y λz h=>bD h a (V.bin .geq t z) λD h=>B.gd h b false (λK=>B.pick a D (.bool false) λv=>K v h) λA h=>B.pick b (.bool true) A λac=>B.cond ac (Q (.bool false) h) (B.pv (V.bin .add d (i6 1)) λad=>Y1 [ad] h))))) (Q (.bool true) h))
@[simp] def gA.l2(a:a7):zG|[b],h,Y1=>gA.k1 C N Q Y1 b a h|_,_,_=>False
@[simp] def gA.k3(Y2:zL)(d b:a7)(h:a9):=B.al b (B.pv (V.aF 4 b) λg=>B.pv (V.aE g) λi=>B.pv (V.bin .lss d i) λj=>B.cond j (B.al b (B.pv (V.aF 4 b) λk=>B.pv (V.aM 6 k d) λl=>B.cR h l 6 λm=>B.call C (N 60) [m] h λn h=>B.pv (V.un .not n) λc=>B.gd h c false (λK=>K d h) λo h=>bH h c (V.bin .gtr o (i6 0)) λp h=>B.gd h c false (λK=>K p h) λa h=>B.al b (bV h a (V.aF 4 b) λq h=>B.gd h a true (λK=>K d h) λr h=>bD h a (V.bin .sub r (i6 1)) λs h=>bD h a (V.aM 6 q s) λt h=>bD h a (V.fieldAddr 0 t) λu h=>gb h a u λw h=>B.al b (bV h a (V.aF 4 b) λx h=>B.gd h a true (λK=>K d h) λy h=>bD h a (V.aM 6 x y) λz h=>bD h a (V.fieldAddr 0 z) λD h=>gb h a D λA h=>bD h a (V.bin .geq w A) λac h=>B.gd h c false (λK=>B.pick a ac (.bool false) λv=>K v h) λe h=>B.pick c (.bool true) e λf=>B.cond f (Q (.bool false) h) (B.pv (V.bin .add d (i6 1)) λad=>Y2 [ad] h))))) (aB (gA.l2 C N Q b) [(i6 0)] h))
@[simp] def gA.l4(a:a7):zG|[b],h,Y2=>gA.k3 C N Q Y2 b a h|_,_,_=>False
@[simp] def gA.k5(Y3:zL)(d b:a7)(h:a9):=B.al b (B.pv (V.aF 3 b) λe=>B.pv (V.aE e) λf=>B.pv (V.bin .lss d f) λg=>B.cond g (B.al b (B.pv (V.aF 3 b) λi=>B.pv (V.aM 4 i d) λj=>B.cR h j 4 λk=>B.call C (N 472) [k] h λl h=>B.pv (V.un .not l) λc=>B.gd h c false (λK=>K d h) λm h=>bH h c (V.bin .gtr m (i6 0)) λn h=>B.gd h c false (λK=>K n h) λa h=>B.al b (bV h a (V.aF 3 b) λo h=>B.gd h a true (λK=>K d h) λp h=>bD h a (V.bin .sub p (i6 1)) λq h=>bD h a (V.aM 4 o q) λr h=>bD h a (V.fieldAddr 0 r) λs h=>gb h a s λt h=>B.al b (bV h a (V.aF 3 b) λu h=>B.gd h a true (λK=>K d h) λw h=>bD h a (V.aM 4 u w) λx h=>bD h a (V.fieldAddr 0 x) λy h=>gb h a y λz h=>bD h a (V.bin .geq t z) λD h=>B.gd h c false (λK=>B.pick a D (.bool false) λv=>K v h) λA h=>B.pick c (.bool true) A λac=>B.cond ac (Q (.bool false) h) (B.pv (V.bin .add d (i6 1)) λad=>Y3 [ad] h))))) (aB (gA.l4 C N Q b) [(i6 0)] h))
@[simp] def gA.l6(a:a7):zG|[b],h,Y3=>gA.k5 C N Q Y3 b a h|_,_,_=>False
@[simp] def gA.k7(a:a7)(h:a9):=B.al a (B.pv (V.aF 0 a) λs=>B.pv (V.bin .lss s (i6 0)) λf=>B.al a (eN h f (V.aF 0 a) λg h=>bH h f (V.bin .gtr g (i6 4000)) λi h=>B.pick f (.bool true) i λb=>B.al a (eN h b (V.aF 1 a) λj h=>bH h b (V.bin .lss j (i6 1)) λk h=>B.pick b (.bool true) k λc=>B.al a (eN h c (V.aF 1 a) λl h=>bH h c (V.bin .gtr l (i6 4611686018427387904)) λm h=>B.pick c (.bool true) m λd=>B.al a (eN h d (V.aF 2 a) λn h=>bH h d (V.bin .lss n (i6 1)) λo h=>B.pick d (.bool true) o λe=>B.al a (eN h e (V.aF 2 a) λp h=>bH h e (V.bin .gtr p (i6 4611686018427387904)) λq h=>B.pick e (.bool true) q λr=>B.cond r (Q (.bool false) h) (aB (gA.l6 C N Q a) [(i6 0)] h)))))))
@[simp] def gA.aY(a:a7)(h:a9)(Q:zQ):=B.pv (A.ey 6 a) λb=>gA.k7 C N Q b h
def gA.aD:=g9 C (N 467) (gA.aY C N)
@[simp] def eg.k1(j e:a7)(h:a9):=B.call C (N 71) [e,(i6 2)] h λf h=>B.nilCheck j λg=>B.pv (V.fieldAddr 0 g) λi=>B.st h i f λh=>B.nilCheck e λa=>B.pv (V.fieldAddr 2 a) λb=>B.ld h b λc=>B.pv (V.un .not c) λd=>Q d h
@[simp] def eg.k2(j e:a7)(h:a9):=B.call C (N 71) [e,(i6 8)] h λf h=>B.nilCheck j λg=>B.pv (V.fieldAddr 1 g) λi=>B.st h i f λh=>B.nilCheck e λa=>B.pv (V.fieldAddr 2 a) λb=>B.ld h b λc=>B.pv (V.un .not c) λd=>Q d h
@[simp] def eg.k3(j e:a7)(h:a9):=B.call C (N 71) [e,(i6 8)] h λf h=>B.nilCheck j λg=>B.pv (V.fieldAddr 2 g) λi=>B.st h i f λh=>B.nilCheck e λa=>B.pv (V.fieldAddr 2 a) λb=>B.ld h b λc=>B.pv (V.un .not c) λd=>Q d h
@[simp] def eg.k4(C:aC)(N:zN)(Q:zQ)(n o p:a7)(h:a9):=B.nilCheck n λa=>B.pv (V.fieldAddr 3 a) λb=>B.ld h b λc=>B.pv (V.bM 0 4 p) λd=>B.bL h (bN [(0,some 4,d)] (bG 1 [.str [],i6 0,.aA,.aA])) λe h=>B.bO h 4 72 c (.sl e 0 0 1 4 1) λf h=>B.nilCheck n λg=>B.pv (V.fieldAddr 3 g) λi=>B.st h i f λh=>B.nilCheck o λj=>B.pv (V.fieldAddr 2 j) λk=>B.ld h k λl=>B.pv (V.un .not l) λm=>Q m h
@[simp] def eg.k5(Y1:zL)(q d c b:a7)(h:a9):=B.pv (V.bin .gtr c (i6 0)) λa=>B.gd h a true (λK=>K d h) λi h=>B.gd h a true (λK=>B.nilCheck i λv=>K v h) λj h=>bD h a (V.fieldAddr 2 j) λk h=>gb h a k λl h=>bD h a (V.un .not l) λm h=>B.pick a m (.bool false) λn=>B.cond n (B.al b (B.pv (V.aF 3 b) λo=>B.call C (N 73) [d] h λe h=>B.bL h (bN [(0,none,e)] (bG 1 [.str []])) λf h=>B.bO h 1 16 o (.sl f 0 0 1 1 1) λg h=>B.al b (B.pv (V.cL 3 g b) λb=>B.pv (V.bin .sub c (i6 1)) λp=>Y1 [p,b] h))) (eg.k4 C N Q q d b h)
@[simp] def eg.l6(b c:a7):zG|[a,d],h,Y1=>eg.k5 C N Q Y1 b c a d h|_,_,_=>False
@[simp] def eg.k7(Y2:zL)(w c e b:a7)(h:a9):=B.pv (V.bin .gtr e (i6 0)) λa=>B.gd h a true (λK=>K c h) λf h=>B.gd h a true (λK=>B.nilCheck f λv=>K v h) λg h=>bD h a (V.fieldAddr 2 g) λi h=>gb h a i λj h=>bD h a (V.un .not j) λk h=>B.pick a k (.bool false) λl=>B.cond l (B.call C (N 73) [c] h λm h=>B.pv (A.cD [(0,none,m)] [.str [],i6 0]) λn=>B.pv (V.bU 0 2 n (.agg [.str [],i6 0])) λd=>B.call C (N 71) [c,(i6 4)] h λo h=>B.al d (B.pv (V.cL 1 o d) λd=>B.al b (B.pv (V.aF 2 b) λp=>B.pv (V.bM 0 2 d) λq=>B.bL h (bN [(0,some 2,q)] (bG 1 [.str [],i6 0])) λr h=>B.bO h 2 24 p (.sl r 0 0 1 2 1) λs h=>B.al b (B.pv (V.cL 2 s b) λb=>B.pv (V.bin .sub e (i6 1)) λt=>Y2 [t,b] h)))) (B.call C (N 71) [c,(i6 1)] h λu h=>aB (eg.l6 C N Q w c) [u,b] h)
@[simp] def eg.l8(a b:a7):zG|[c,d],h,Y2=>eg.k7 C N Q Y2 a b c d h|_,_,_=>False
@[simp] def eg.k9(f a g:a7)(h:a9):=B.pv (V.uD g (some (i6 1)) none) λb=>B.call C (N 71) [a,(i6 2)] h λc h=>B.pv (A.cD [(0,none,b),(1,none,c)] [.str [],i6 0,.aA,.aA]) λd=>B.pv (V.bU 0 4 d (.agg [.str [],i6 0,.aA,.aA])) λi=>B.call C (N 71) [a,(i6 1)] h λe h=>aB (eg.l8 C N Q f a) [e,i] h
@[simp] def eg.jL(k c l m:a7)(h:a9):=B.pv (V.lR l) λn=>B.pv (V.bin .eql n (i6 9)) λd=>B.gd h d true (λK=>K l h) λo h=>bD h d (V.lS o (i6 0)) λp h=>bD h d (V.bin .eql p (.int .u8 108)) λq h=>B.pick d q (.bool false) λr=>B.cond r (B.al m (B.pv (V.aF 0 m) λs=>B.pv (V.dS 1 s (some (i6 1)) none) λt=>B.pv (A.cD [(0,none,t)] [.aA,i6 0,.bool false]) λu=>B.bL h (A.kZ 3 u) λw h=>B.call C (N 71) [(.ptr w 0 0),(i6 8)] h λx h=>B.call C (N 73) [c] h λy h=>B.pv (A.cD [(0,none,x),(1,none,y)] [i6 0,.str [],i6 0,i6 0,i6 0,.bool false]) λz=>B.pv (V.bU 0 6 z (.agg [i6 0,.str [],i6 0,i6 0,i6 0,.bool false])) λb=>B.call C (N 71) [c,(i6 2)] h λaa h=>B.al b (B.al b (B.pv (V.cL 2 aa b) λb=>B.call C (N 71) [c,(i6 2)] h λab h=>B.al b (B.al b (B.pv (V.cL 3 ab b) λb=>B.call C (N 71) [c,(i6 4)] h λac h=>B.al b (B.pv (V.cL 4 ac b) λb=>B.call C (N 71) [c,(i6 1)] h λad h=>B.pv (V.bin .eql ad (i6 1)) λae=>B.al b (B.pv (V.cL 5 ae b) λb=>B.nilCheck k λaf=>B.pv (V.fieldAddr 4 af) λag=>B.ld h ag λah=>B.pv (V.bM 0 6 b) λai=>B.bL h (bN [(0,some 6,ai)] (bG 1 [i6 0,.str [],i6 0,i6 0,i6 0,.bool false])) λaj h=>B.bO h 6 56 ah (.sl aj 0 0 1 6 1) λak h=>B.nilCheck k λam=>B.pv (V.fieldAddr 4 am) λan=>B.st h an ak λh=>B.nilCheck c λf=>B.pv (V.fieldAddr 2 f) λg=>B.ld h g λi=>B.pv (V.un .not i) λj=>Q j h)))))))) (B.pv (V.lR l) λao=>B.pv (V.bin .eql ao (i6 9)) λe=>B.gd h e true (λK=>K l h) λap h=>bD h e (V.lS ap (i6 0)) λaq h=>bD h e (V.bin .eql aq (.int .u8 111)) λar h=>B.pick e ar (.bool false) λZ=>B.cond Z (B.al m (B.pv (V.aF 0 m) λY=>B.pv (V.dS 1 Y (some (i6 1)) none) λX=>B.pv (A.cD [(0,none,X)] [.aA,i6 0,.bool false]) λW=>B.bL h (A.kZ 3 W) λU h=>B.call C (N 71) [(.ptr U 0 0),(i6 8)] h λT h=>B.call C (N 73) [c] h λS h=>B.pv (A.cD [(0,none,T),(1,none,S)] [i6 0,.str [],i6 0,i6 0,i6 0,.int .u8 0,i6 0,.str []]) λR=>B.pv (V.bU 0 8 R (.agg [i6 0,.str [],i6 0,i6 0,i6 0,.int .u8 0,i6 0,.str []])) λa=>B.call C (N 71) [c,(i6 4)] h λbc h=>B.al a (B.pv (V.cL 2 bc a) λa=>B.call C (N 71) [c,(i6 2)] h λP h=>B.al a (B.pv (V.cL 3 P a) λa=>B.call C (N 71) [c,(i6 1)] h λbe h=>B.al a (B.pv (V.cL 4 be a) λa=>B.call C (N 71) [c,(i6 1)] h λO h=>B.pv (V.toInt .u8 O) λM=>B.al a (B.pv (V.cL 5 M a) λa=>B.call C (N 71) [c,(i6 2)] h λL h=>B.pv (V.bin .sub L (i6 1)) λbi=>B.al a (B.pv (V.cL 6 bi a) λa=>B.call C (N 73) [c] h λbj h=>B.al a (B.pv (V.cL 7 bj a) λa=>B.nilCheck k λJ=>B.pv (V.fieldAddr 5 J) λI=>B.ld h I λH=>B.pv (V.bM 0 8 a) λG=>B.bL h (bN [(0,some 8,G)] (bG 1 [i6 0,.str [],i6 0,i6 0,i6 0,.int .u8 0,i6 0,.str []])) λF h=>B.bO h 8 80 H (.sl F 0 0 1 8 1) λE h=>B.nilCheck k λD=>B.pv (V.fieldAddr 5 D) λv=>B.st h v E λh=>B.nilCheck c λf=>B.pv (V.fieldAddr 2 f) λg=>B.ld h g λi=>B.pv (V.un .not i) λj=>Q j h)))))))) (Q (.bool false) h))
@[simp] def eg.qe(c d b k:a7)(h:a9):=B.pv (V.lR b) λe=>B.pv (V.bin .gtr e (i6 0)) λa=>B.gd h a true (λK=>K b h) λf h=>bD h a (V.lS f (i6 0)) λg h=>bD h a (V.bin .eql g (.int .u8 105)) λi h=>B.pick a i (.bool false) λj=>B.cond j (eg.k9 C N Q c d b h) (eg.jL C N Q c d b k h)
@[simp] def eg.mK(a b c f:a7)(h:a9):=B.pv (V.bin .eql c (.str [42,108,111,116])) λd=>B.cond d (eg.k2 C N Q a b h) (B.pv (V.bin .eql c (.str [42,108,105,110,101])) λe=>B.cond e (eg.k3 C N Q a b h) (eg.qe C N Q a b c f h))
@[simp] def eg.r5(c d b:a7)(h:a9):=B.al b (B.pv (V.aF 0 b) λe=>B.gk h e λa=>B.pv (V.bin .eql a (.str [42,100,97,121])) λf=>B.cond f (eg.k1 C N Q c d h) (eg.mK C N Q c d a b h))
@[simp] def eg.wS(e a:a7)(h:a9):=B.al a (B.pv (V.aF 1 a) λb=>B.pv (A.cD [(0,none,b)] [.aA,i6 0,.bool false]) λc=>B.bL h (A.kZ 3 c) λd h=>eg.r5 C N Q e (.ptr d 0 0) a h)
@[simp] def eg.aY(a b:a7)(h:a9)(Q:zQ):=B.pv (A.ey 2 b) λc=>eg.wS C N Q a c h
def eg.aD:=mi C (N 469) (eg.aY C N)
@[simp] def jM.k1(C:aC)(N:zN)(Q:zQ)(Y1:zL)(b c a:a7)(h:a9):=B.pv (V.aE b) λi=>B.pv (V.bin .lss a i) λj=>B.cond j (B.pv (V.aM 1 b a) λd=>B.ld h d λe=>B.bO h 1 1 c e λf h=>B.pv (V.bin .add a (i6 1)) λg=>Y1 [f,g] h) (Q c h)
@[simp] def jM.l2(a:a7):zG|[b,c],h,Y1=>jM.k1 C N Q Y1 a b c h|_,_,_=>False
@[simp] def jM.aY(a:a7)(h:a9)(Q:zQ):=aB (jM.l2 C N Q a) [.aA,(i6 0)] h
def jM.aD:=g9 C (N 471) (jM.aY C N)
@[simp] def qS.k1(y:a7)(h:a9):=B.pv (A.ey 4 y) λa=>B.al a (B.pv (V.aF 0 a) λz=>B.call C (N 61) [z] h λv5 h=>B.pv (V.un .not v5) λc=>B.al a (eN h c (V.aF 0 a) λv h=>B.al a (eN h c (V.aF 3 a) λe h=>bH h c (A.cD [(0,none,(.int .u8 3)),(2,none,v),(10,none,e)] [.int .u8 0,i6 0,.str [],i6 0,i6 0,i6 0,i6 0,i6 0,i6 0,.aA,.aA]) λf h=>gE C h c (N 474) [f] λg h=>bH h c (V.un .not g) λi h=>B.pick c (.bool true) i λj=>B.cond j (Q (.bool false) h) (B.al a (B.pv (V.aF 2 a) λk=>B.pv (V.aE k) λl=>B.pv (V.bin .eql l (i6 0)) λm=>B.cond m (B.al a (B.pv (V.aF 1 a) λn=>B.pv (V.bin .geq n (i6 1)) λd=>B.al a (bV h d (V.aF 1 a) λo h=>bD h d (V.bin .leq o (i6 2000)) λp h=>B.pick d p (.bool false) λq=>Q q h))) (B.al a (B.pv (V.aF 1 a) λr=>B.pv (V.bin .eql r (i6 0)) λb=>B.al a (bV h b (V.aF 0 a) λs h=>B.al a (bV h b (V.aF 2 a) λt h=>bD h b (A.cD [(0,none,(.int .u8 2)),(2,none,s),(9,none,t)] [.int .u8 0,i6 0,.str [],i6 0,i6 0,i6 0,i6 0,i6 0,i6 0,.aA,.aA]) λu h=>dG C h b (N 474) [u] λw h=>B.pick b w (.bool false) λx=>Q x h)))))))))
def qS.aD:=fy C (N 472) (qS.k1 C N)
variable(C:aC)(N:Nat→Nat)(Q:zQ)
@[simp] def cM.k1(Y1:zL)(A v4 c d b:a7)(h:a9):=B.pv (V.bin .lss b d) λe=>B.cond e (B.pv (V.aM 8 c b) λf=>B.cR h f 8 λg=>B.pv (V.bU 0 8 g (.agg [i6 0,.str [],i6 0,i6 0,i6 0,.int .u8 0,i6 0,.str []])) λa=>B.al a (B.pv (V.aF 0 a) λi=>B.al a (B.pv (V.aF 1 a) λj=>B.al a (B.pv (V.aF 2 a) λk=>B.al a (B.pv (V.aF 3 a) λl=>B.al a (B.pv (V.aF 4 a) λm=>B.pv (V.toInt .u8 m) λn=>B.al a (B.pv (V.aF 5 a) λo=>B.al a (B.pv (V.aF 6 a) λp=>B.pv (V.bin .add p (i6 1)) λq=>B.al a (B.pv (V.aF 7 a) λr=>B.call C (N 423) [i,(i6 8)] h λs h=>B.bL h (bN [(0,none,(.int .u8 111))] (bG 1 [.int .u8 0])) λt h=>B.conv h (.sl t 0 0 1 1 1) λu=>B.bL h (bN [(0,none,u),(1,none,s)] (bG 2 [.aA])) λv h=>B.call C (N 424) [(.sl v 0 0 2 1 2)] h λw h=>B.call C (N 51) [j] h λx h=>B.call C (N 423) [k,(i6 4)] h λy h=>B.call C (N 423) [l,(i6 2)] h λz h=>B.call C (N 423) [q,(i6 2)] h λG h=>B.call C (N 51) [r] h λF h=>B.bL h (bN [(0,none,n),(1,none,o)] (bG 2 [.int .u8 0])) λac h=>B.bL h (bN [(0,none,x),(1,none,y),(2,none,z),(3,none,(.sl ac 0 0 2 1 2)),(4,none,G),(5,none,F)] (bG 6 [.aA])) λad h=>B.ks h C v4 [w,(.sl ad 0 0 6 1 6)] λH h=>B.pv (V.bin .add b (i6 1)) λE=>Y1 [E] h))))))))) (B.ld h A λD=>Q D h)
@[simp] def cM.l2(d e a b:a7):zG|[c],h,Y1=>cM.k1 C N Q Y1 d e a b c h|_,_,_=>False
@[simp] def cM.k3(C:aC)(N:zN)(Q:zQ)(Y2:zL)(y u t v w b z a:a7)(h:a9):=B.al a (B.pv (V.aF 0 a) λc=>B.al a (B.pv (V.aF 1 a) λd=>B.al a (B.al a (B.pv (V.aF 2 a) λe=>B.al a (B.al a (B.pv (V.aF 3 a) λf=>B.al a (B.pv (V.aF 4 a) λg=>B.call C (N 423) [c,(i6 8)] h λi h=>B.bL h (bN [(0,none,(.int .u8 108))] (bG 1 [.int .u8 0])) λj h=>B.conv h (.sl j 0 0 1 1 1) λk=>B.bL h (bN [(0,none,k),(1,none,i)] (bG 2 [.aA])) λl h=>B.call C (N 424) [(.sl l 0 0 2 1 2)] h λm h=>B.call C (N 51) [d] h λn h=>B.call C (N 423) [e,(i6 2)] h λo h=>B.call C (N 423) [f,(i6 2)] h λp h=>B.call C (N 423) [g,(i6 4)] h λq h=>B.bL h (bN [(0,none,n),(1,none,o),(2,none,p),(3,none,q),(4,none,t)] (bG 5 [.aA])) λr h=>B.ks h C u [m,(.sl r 0 0 5 1 5)] λx h=>B.pv (V.bin .add b (i6 1)) λs=>Y2 [s] h)))))))
@[simp] def cM.k4(Y2:zL)(i j b c d e k a:a7)(h:a9):=B.al a (B.pv (V.aF 5 a) λf=>B.cond f (B.pv (V.aM 1 b (i6 0)) λg=>B.st h g (.int .u8 1) λh=>cM.k3 C N Q Y2 i j b c d e k a h) (cM.k3 C N Q Y2 i j b c d e k a h))
@[simp] def cM.k5(Y2:zL)(i j a c b k:a7)(h:a9):=B.pv (V.aM 6 a b) λd=>B.cR h d 6 λe=>B.pv (V.bU 0 6 e (.agg [i6 0,.str [],i6 0,i6 0,i6 0,.bool false])) λg=>B.bL h (bN [(0,none,(.int .u8 0))] (bG 1 [.int .u8 0])) λf h=>cM.k4 C N Q Y2 i j (.sl f 0 0 1 1 1) a c b k g h
@[simp] def cM.k6(Y2:zL)(i j b c d e f:a7)(h:a9):=B.cond e (cM.k5 C N Q Y2 i j b c d f h) (B.al f (B.pv (V.aF 5 f) λa=>B.pv (V.aE a) λg=>aB (cM.l2 C N Q i j a g) [(i6 0)] h))
@[simp] def cM.l7(e f c a g:a7):zG|[b],h,Y2=>B.pv (V.bin .lss b a) λd=>cM.k6 C N Q Y2 e f c a b d g h|_,_,_=>False
@[simp] def cM.k8(C:aC)(N:zN)(Q:zQ)(Y3:zL)(m g i k l e n f:a7)(h:a9):=B.al f (B.pv (V.aF 0 f) λa=>B.pv (V.bin .add (.str [105]) a) λb=>B.oE h b λc h=>B.ks h C g [c,i] λj h=>B.pv (V.bin .add e (i6 1)) λd=>Y3 [d] h)
@[simp] def cM.k9(Y3:zL)(t:zL)(p q b c d e f g a r s:a7)(h:a9):=B.pv (V.bin .lss a g) λi=>B.cond i (B.pv (V.aM 1 f a) λj=>B.ld h j λk=>B.call C (N 51) [k] h λl h=>B.bL h (bN [(0,none,l)] (bG 1 [.aA])) λm h=>B.bO h 1 24 b (.sl m 0 0 1 1 1) λn h=>B.pv (V.bin .add a (i6 1)) λo=>t [n,o] h) (cM.k8 C N Q Y3 p q b c d e r s h)
@[simp] def cM.ze(Y3:zL)(g i a b c d e j k:a7):zG|[l,f],h,m=>cM.k9 C N Q Y3 m g i l a b c d e f j k h|_,_,_=>False
@[simp] def cM.qe(Y3:zL)(g i j c d e k b:a7)(h:a9):=B.al b (B.pv (V.aF 3 b) λa=>B.pv (V.aE a) λf=>aB (cM.ze C N Q Y3 g i c d e a f k b) [j,(i6 0)] h)
@[simp] def cM.mK(Y3:zL)(l m n b c d o a:a7)(h:a9):=B.al a (B.pv (V.aF 3 a) λe=>B.pv (V.aE e) λf=>B.pv (V.toInt .u8 f) λg=>B.bL h (bN [(0,none,g)] (bG 1 [.int .u8 0])) λi h=>B.bL h (bN [(0,none,(.sl i 0 0 1 1 1))] (bG 1 [.aA])) λj h=>B.bO h 1 24 n (.sl j 0 0 1 1 1) λk h=>cM.qe C N Q Y3 l m k b c d o a h)
@[simp] def cM.r5(Y3:zL)(Y5:zL)(t u c d e f g i a v w:a7)(h:a9):=B.pv (V.bin .lss a i) λj=>B.cond j (B.pv (V.aM 2 g a) λk=>B.cR h k 2 λl=>B.pv (V.bU 0 2 l (.agg [.str [],i6 0])) λb=>B.al b (B.pv (V.aF 0 b) λm=>B.al b (B.pv (V.aF 1 b) λn=>B.call C (N 51) [m] h λo h=>B.call C (N 423) [n,(i6 4)] h λp h=>B.bL h (bN [(0,none,o),(1,none,p)] (bG 2 [.aA])) λq h=>B.bO h 1 24 c (.sl q 0 0 2 1 2) λr h=>B.pv (V.bin .add a (i6 1)) λs=>Y5 [r,s] h))) (cM.mK C N Q Y3 t u c d e f v w h)
@[simp] def cM.zd(Y3:zL)(g i a b c d e j k:a7):zG|[l,f],h,Y5=>cM.r5 C N Q Y3 Y5 g i l a b c d e f j k h|_,_,_=>False
@[simp] def cM.zg(Y3:zL)(g i j c d e k b:a7)(h:a9):=B.al b (B.pv (V.aF 2 b) λa=>B.pv (V.aE a) λf=>aB (cM.zd C N Q Y3 g i c d e a f k b) [j,(i6 0)] h)
@[simp] def cM.Ir(Y3:zL)(m n b c d o a:a7)(h:a9):=B.al a (B.pv (V.aF 1 a) λe=>B.al a (B.pv (V.aF 2 a) λf=>B.pv (V.aE f) λg=>B.pv (V.toInt .u8 g) λi=>B.call C (N 423) [e,(i6 2)] h λj h=>B.bL h (bN [(0,none,i)] (bG 1 [.int .u8 0])) λk h=>B.bL h (bN [(0,none,j),(1,none,(.sl k 0 0 1 1 1))] (bG 2 [.aA])) λl h=>cM.zg C N Q Y3 m n (.sl l 0 0 2 1 2) b c d o a h))
@[simp] def cM.wR(Y3:zL)(f g a c b i:a7)(h:a9):=B.pv (V.aM 4 a b) λd=>B.cR h d 4 λe=>B.pv (V.bU 0 4 e (.agg [.str [],i6 0,.aA,.aA])) λj=>cM.Ir C N Q Y3 f g a c b i j h
@[simp] def cM.xK(Y3:zL)(d e f g i j b:a7)(h:a9):=B.cond j (cM.wR C N Q Y3 d e f g i b h) (B.al b (B.pv (V.aF 4 b) λa=>B.pv (V.aE a) λc=>aB (cM.l7 C N Q d e a c b) [(i6 0)] h))
@[simp] def cM.sU(e f c a g:a7):zG|[b],h,Y3=>B.pv (V.bin .lss b a) λd=>cM.xK C N Q Y3 e f c a b d g h|_,_,_=>False
@[simp] def cM.wQ(k c a:a7)(h:a9):Prop:=B.bL h (bN [(0,none,(.int .u8 42)),(1,none,(.int .u8 108)),(2,none,(.int .u8 111)),(3,none,(.int .u8 116))] (bG 4 [.int .u8 0])) λd h=>B.conv h (.sl d 0 0 4 1 4) λe=>B.al a (B.pv (V.aF 1 a) λf=>B.call C (N 423) [f,(i6 8)] h λg h=>B.bL h (bN [(0,none,g)] (bG 1 [.aA])) λi h=>B.ks h C c [e,(.sl i 0 0 1 1 1)] λl h=>B.al a (B.pv (V.aF 3 a) λb=>B.pv (V.aE b) λj=>aB (cM.sU C N Q k c b j a) [(i6 0)] h))
@[simp] def cM.zf(i b a:a7)(h:a9):Prop:=B.bL h (bN [(0,none,(.int .u8 42)),(1,none,(.int .u8 108)),(2,none,(.int .u8 105)),(3,none,(.int .u8 110)),(4,none,(.int .u8 101))] (bG 5 [.int .u8 0])) λc h=>B.conv h (.sl c 0 0 5 1 5) λd=>B.al a (B.pv (V.aF 2 a) λe=>B.call C (N 423) [e,(i6 8)] h λf h=>B.bL h (bN [(0,none,f)] (bG 1 [.aA])) λg h=>B.ks h C b [d,(.sl g 0 0 1 1 1)] λj h=>cM.wQ C N Q i b a h)
@[simp] def cM.og(i b a:a7)(h:a9):Prop:=B.bL h (bN [(0,none,(.int .u8 42)),(1,none,(.int .u8 100)),(2,none,(.int .u8 97)),(3,none,(.int .u8 121))] (bG 4 [.int .u8 0])) λc h=>B.conv h (.sl c 0 0 4 1 4) λd=>B.al a (B.pv (V.aF 0 a) λe=>B.call C (N 423) [e,(i6 2)] h λf h=>B.bL h (bN [(0,none,f)] (bG 1 [.aA])) λg h=>B.ks h C b [d,(.sl g 0 0 1 1 1)] λj h=>cM.zf C N Q i b a h)
@[simp] def cM.Im(a:a7)(h:a9):=B.pv (V.bM 0 6 a) λb=>B.call C (N 426) [b] h λc h=>B.pv (V.un .not c) λd=>B.cond d (Q .aA h) (B.bL h (some [.aA]) λe h=>cM.og C N Q (.ptr e 0 0) (.fn (N 425) [] [(.ptr e 0 0)]) a h)
@[simp] def cM.aY(a:a7)(h:a9)(Q:zQ):=B.pv (A.ey 6 a) λb=>cM.Im C N Q b h
def cM.aD:=g9 C (N 412) (cM.aY C N)
@[simp] def et.k1(m b n:a7)(h:a9):=B.pv (V.bM 0 6 n) λc=>B.call C (N 412) [c] h λd h=>B.call C (N 431) [d,m,(.fn (N 430) [] [])] h λe h=>B.pv (V.un .not e) λa=>B.gd h a false (λK=>K m h) λf h=>bH h a (V.aE f) λg h=>bH h a (V.bin .eql g (i6 0)) λi h=>B.pick a (.bool true) i λj=>B.cond j (B.pv (A.cD [] [i6 0,i6 0,i6 0,.aA,.aA,.aA]) λk=>B.pv (V.bU 0 6 k b) λb=>B.pv (oneOf (cJ (V.bM 0 6 b) (cJ (some (i6 4)) (some [])))) λv=>Q v h) (B.pv (V.bM 0 6 n) λl=>B.pv (V.bU 0 6 l b) λb=>B.pv (oneOf (cJ (V.bM 0 6 b) (cJ (some (i6 0)) (some [])))) λv=>Q v h)
@[simp] def et.k2(C:aC)(N:zN)(Q:zQ)(Y1:zL)(t n o p r s m b q:a7)(h:a9):=B.nilCheck o λc=>B.pv (V.fieldAddr 1 c) λd=>B.ld h d λa=>B.gd h a false (λK=>K p h) λe h=>B.gd h a false (λK=>B.nilCheck e λv=>K v h) λf h=>bH h a (V.fieldAddr 1 f) λg h=>jZ h a g λi h=>B.pick a (.bool true) i λj=>B.cond j (B.pv (A.cD [] [i6 0,i6 0,i6 0,.aA,.aA,.aA]) λk=>B.pv (V.bU 0 6 k b) λb=>B.pv (oneOf (cJ (V.bM 0 6 b) (cJ (some (i6 4)) (some [])))) λv=>Q v h) (B.pv (V.bin .add m (i6 1)) λl=>Y1 [n,l,b,q] h)
@[simp] def et.k3(Y1:zL)(i j b g c d e k a x:a7)(h:a9):=B.al x (B.pv (V.aF 0 x) λy=>B.gk h y λf=>B.pv (V.bin .eql f (.str [42,100,97,121])) λz=>B.cond z (B.call C (N 432) [b,(i6 2)] h λO h=>B.al a (B.pv (V.cL 0 O a) λa=>et.k2 C N Q Y1 i j b g c d e k a h)) (B.pv (V.bin .eql f (.str [42,108,111,116])) λM=>B.cond M (B.call C (N 432) [b,(i6 8)] h λac h=>B.al a (B.pv (V.cL 1 ac a) λa=>et.k2 C N Q Y1 i j b g c d e k a h)) (B.pv (V.bin .eql f (.str [42,108,105,110,101])) λad=>B.cond ad (B.call C (N 432) [b,(i6 8)] h λL h=>B.al a (B.pv (V.cL 2 L a) λa=>et.k2 C N Q Y1 i j b g c d e k a h)) (B.pv (V.lS f (i6 0)) λK=>B.pv (V.bin .eql K (.int .u8 105)) λJ=>B.cond J (B.al a (B.pv (V.aF 3 a) λI=>B.pv (V.uD f (some (i6 1)) none) λH=>B.call C (N 433) [b,H] h λG h=>B.bL h (bN [(0,some 4,G)] (bG 1 [.str [],i6 0,.aA,.aA])) λF h=>B.bO h 4 72 I (.sl F 0 0 1 4 1) λam h=>B.al a (B.pv (V.cL 3 am a) λa=>et.k2 C N Q Y1 i j b g c d e k a h))) (B.pv (V.lS f (i6 0)) λE=>B.pv (V.bin .eql E (.int .u8 108)) λD=>B.cond D (B.al a (B.pv (V.aF 4 a) λl=>B.call C (N 432) [g,(i6 8)] h λm h=>B.call C (N 434) [b,m] h λn h=>B.bL h (bN [(0,some 6,n)] (bG 1 [i6 0,.str [],i6 0,i6 0,i6 0,.bool false])) λo h=>B.bO h 6 56 l (.sl o 0 0 1 6 1) λp h=>B.al a (B.pv (V.cL 4 p a) λa=>et.k2 C N Q Y1 i j b g c d e k a h))) (B.pv (V.lS f (i6 0)) λq=>B.pv (V.bin .eql q (.int .u8 111)) λr=>B.cond r (B.al a (B.pv (V.aF 5 a) λs=>B.call C (N 432) [g,(i6 8)] h λt h=>B.call C (N 435) [b,t] h λu h=>B.bL h (bN [(0,some 8,u)] (bG 1 [i6 0,.str [],i6 0,i6 0,i6 0,.int .u8 0,i6 0,.str []])) λv h=>B.bO h 8 80 s (.sl v 0 0 1 8 1) λw h=>B.al a (B.pv (V.cL 5 w a) λa=>et.k2 C N Q Y1 i j b g c d e k a h))) (B.nilCheck b λap=>B.pv (V.fieldAddr 1 ap) λA=>B.st h A (.bool true) λh=>et.k2 C N Q Y1 i j b g c d e k a h)))))))
@[simp] def et.k4(Y1:zL)(m n b c d o p a:a7)(h:a9):=B.al a (B.pv (V.aF 1 a) λe=>B.pv (A.cD [(0,none,e)] [.aA,.bool false]) λf=>B.al a (B.pv (V.aF 0 a) λg=>B.pv (V.dS 1 g (some (i6 1)) none) λi=>B.pv (A.cD [(0,none,i)] [.aA,.bool false]) λj=>B.bL h (A.kZ 2 f) λk h=>B.bL h (A.kZ 2 j) λl h=>et.k3 C N Q Y1 m n (.ptr k 0 0) (.ptr l 0 0) b c d o p a h))
@[simp] def et.k5(Y1:zL)(i j a b c k l d:a7)(h:a9):=B.pv (V.bM 0 2 d) λe=>B.bL h (bN [(0,some 2,e)] (bG 1 [.aA,.aA])) λf h=>B.bO h 2 48 j (.sl f 0 0 1 2 1) λg h=>et.k4 C N Q Y1 i g a b c k l d h
@[simp] def et.k6(Y1:zL)(n d e f a g i b:a7)(h:a9):=B.al b (B.pv (V.aF 0 b) λj=>B.pv (V.aM 1 j (i6 0)) λk=>B.ld h k λl=>B.pv (V.bin .eql l (.int .u8 97)) λm=>B.cond m (B.pv (V.bin .add a (i6 1)) λc=>Y1 [d,c,g,i] h) (et.k5 C N Q Y1 n d e f a g i b h))
@[simp] def et.k7(Y1:zL)(e z f g i j d D c:a7)(h:a9):=B.pv (V.bin .gtr f (i6 0)) λa=>B.gd h a true (λK=>K e h) λk h=>B.gd h a true (λK=>K f h) λl h=>bD h a (V.bin .sub l (i6 1)) λm h=>bD h a (V.aM 2 k m) λn h=>bD h a (V.fieldAddr 0 n) λo h=>gb h a o λp h=>B.al c (bV h a (V.aF 0 c) λq h=>dG C h a (N 274) [p,q] λr h=>bD h a (V.bin .geq r (i6 0)) λs h=>B.pick a s (.bool false) λb=>B.al c (eN h b (V.aF 0 c) λt h=>bH h b (V.aE t) λu h=>bH h b (V.bin .eql u (i6 0)) λw h=>B.pick b (.bool true) w λx=>B.cond x (B.pv (A.cD [] [i6 0,i6 0,i6 0,.aA,.aA,.aA]) λy=>B.pv (V.bU 0 6 y d) λd=>B.pv (oneOf (cJ (V.bM 0 6 d) (cJ (some (i6 4)) (some [])))) λv=>Q v h) (et.k6 C N Q Y1 e z g i j d D c h)))
@[simp] def et.k8(Y1:zL)(f g b c a i j:a7)(h:a9):=B.pv (V.aM 2 b a) λd=>B.cR h d 2 λe=>B.pv (V.bU 0 2 e (.agg [.aA,.aA])) λk=>et.k7 C N Q Y1 f g a b c a i j k h
@[simp] def et.l9(i c a:a7):zG|[d,b,e,f],h,Y1=>B.pv (V.bin .lss b a) λg=>B.cond g (et.k8 C N Q Y1 i d c a b e f h) (et.k1 C N Q d e f h)|_,_,_=>False
@[simp] def et.jL(a c:a7)(h:a9):=B.pv (V.aE a) λb=>aB (et.l9 C N Q a a b) [.aA,(i6 0),c,(.agg [i6 0,i6 0,i6 0,.aA,.aA,.aA])] h
@[simp] def et.aY(a:a7)(h:a9)(Q:zQ):Prop:=et.jL C N Q a (.agg [i6 0,i6 0,i6 0,.aA,.aA,.aA]) h
def et.aD:=g9 C (N 413) (et.aY C N)
@[simp] def gF.k1(e f b:a7)(h:a9):=B.call C (N 38) [e] h λc h=>B.pv (V.ext 0 c) λg=>B.pv (V.ext 1 c) λi=>B.pv (V.ext 2 c) λj=>B.pv (V.bU 0 7 g (.agg [i6 0,i6 0,i6 0,.str [],.int .u8 0,.aA,.aA])) λk=>B.pv (V.un .not f) λd=>B.gd h d false (λK=>K j h) λl h=>bH h d (V.bin .neq l (i6 0)) λm h=>B.pick d (.bool true) m λa=>B.gd h a false (λK=>K i h) λn h=>B.gd h a false (λK=>K e h) λo h=>bH h a (V.aE o) λp h=>bH h a (V.bin .neq n p) λq h=>B.pick a (.bool true) q λr=>B.cond r (B.pv (A.cD [] [i6 0,i6 0,i6 0,.str [],.int .u8 0,.aA,.aA]) λs=>B.pv (V.bU 0 7 s b) λb=>B.pv (oneOf (cJ (V.bM 0 7 b) (cJ (some (.bool false)) (some [])))) λv=>Q v h) (B.pv (V.bM 0 7 k) λt=>B.pv (V.bU 0 7 t b) λb=>B.pv (oneOf (cJ (V.bM 0 7 b) (cJ (some (.bool true)) (some [])))) λv=>Q v h)
@[simp] def gF.k2(Y1:zL)(v0 v1 l k g b m n i v:a7)(h:a9):=B.pv (V.bin .lss i n) λo=>B.cond o (B.pv (V.aM 2 m i) λp=>B.cR h p 2 λq=>B.pv (V.bU 0 2 q (.agg [.aA,.aA])) λa=>B.al a (B.pv (V.aF 0 a) λr=>B.pv (V.aE r) λs=>B.pv (V.aE l) λt=>B.pv (V.bin .neq s t) λc=>B.al a (eN h c (V.aF 0 a) λu h=>B.gd h c false (λK=>K l h) λw h=>bH h c (V.dS 1 w none (some (i6 10))) λx h=>gE C h c (N 436) [u,x] λy h=>bH h c (V.un .not y) λz h=>B.pick c (.bool true) z λX=>B.cond X (B.pv (V.bin .add i (i6 1)) λj=>Y1 [k,g,b,j] h) (B.al a (bV h b (V.aF 0 a) λW h=>B.gd h b true (λK=>K v0 h) λac h=>B.gd h b true (λK=>K v1 h) λad h=>B.gd h b true (λK=>K g h) λU h=>dG C h b (N 427) [ac,ad,U] λT h=>dG C h b (N 273) [W,T] λS h=>B.pick b S (.bool false) λd=>B.gd h d true (λK=>K k h) λR h=>bD h d (V.aE R) λP h=>B.gd h d true (λK=>K g h) λO h=>bD h d (V.bin .mul O (i6 180)) λM h=>bD h d (V.bin .eql P M) λam h=>B.pick d am (.bool false) λe=>B.al a (bV h e (V.aF 1 a) λL h=>bD h e (V.aE L) λJ h=>bD h e (V.bin .gtr J (i6 0)) λap h=>B.pick e ap (.bool false) λf=>B.al a (bV h f (V.aF 1 a) λI h=>bD h f (V.aE I) λH h=>bD h f (V.bin .leq H (i6 180)) λG h=>B.pick f G (.bool false) λF=>B.al a (B.pv (V.aF 1 a) λE=>B.bO h 1 1 k E λD h=>B.pv (V.bin .add g (i6 1)) λA=>B.pv (V.bin .add i (i6 1)) λj=>Y1 [D,A,F,j] h)))))))) (gF.k1 C N Q k b v h)
@[simp] def gF.l3(f g i a b j:a7):zG|[k,c,d,e],h,Y1=>gF.k2 C N Q Y1 f g i k c d a b e j h|_,_,_=>False
@[simp] def gF.k4(g i b c a:a7)(h:a9):=B.pv (V.ry .eql c .aA) λd=>B.cond d (B.pv (A.cD [] [i6 0,i6 0,i6 0,.str [],.int .u8 0,.aA,.aA]) λe=>B.pv (V.bU 0 7 e a) λa=>B.pv (oneOf (cJ (V.bM 0 7 a) (cJ (some (.bool false)) (some [])))) λv=>Q v h) (B.pv (V.aE b) λf=>aB (gF.l3 C N Q g i c b f a) [.aA,(i6 0),(.bool true),(i6 0)] h)
@[simp] def gF.k5(a b d:a7)(h:a9):=B.call C (N 427) [a,b,(i6 0)] h λc h=>gF.k4 C N Q a b d c (.agg [i6 0,i6 0,i6 0,.str [],.int .u8 0,.aA,.aA]) h
@[simp] def gF.aY(a b c:a7)(h:a9)(Q:zQ):Prop:=gF.k5 C N Q a b c h
def gF.aD:=zj C (N 414) (gF.aY C N)
@[simp] def gM.k1(C:aC)(N:zN)(Q:zQ)(p:Nat->a9->Prop)(n o a b:a7)(h:a9):=B.ld h a λc=>B.ld h n λd=>B.ld h o λe=>B.ld h a λf=>B.pv (V.aE f) λg=>B.call C (N 427) [d,e,g] h (B.jV h [(a,none)] (λi h=>B.call C (N 428) [b] h (B.jV h [(a,none)] (λj h=>B.pv (A.cD [(0,none,i),(1,none,j)] [.aA,.aA]) λk=>B.bL h (bN [(0,some 2,k)] (bG 1 [.aA,.aA])) λl h=>B.bO h 2 48 c (.sl l 0 0 1 2 1) λm h=>B.st h a m λh=>p 0 h))))
@[simp] def gM.r2(c d a:a7)(b:a7)(h:a9)(e:Nat->a9->Prop):Prop:=gM.k1 C N Q e c d a b h
@[simp] def gM.k3(e f g a:a7)(h:a9):=B.call C (N 429) [g,(i6 180)] h λb h=>x5 C b (W1 λc h i=>gM.r2 C N Q e f a c h i) h (RK [(0,λh=>B.ld h a λd=>Q (.bI [d,(i6 0)]) h)])
@[simp] def gM.k4(b c k l:a7)(h:a9):=B.pv (V.bin .neq l (i6 0)) λa=>jZ h a b λd h=>jZ h a c λe h=>gE C h a (N 427) [d,e,(i6 0)] λf h=>bH h a (V.ry .eql f .aA) λg h=>B.pick a (.bool true) g λi=>B.cond i (Q (.bI [.aA,(i6 2)]) h) (B.bL h (some [.aA]) λj h=>gM.k3 C N Q b c k (.ptr j 0 0) h)
@[simp] def gM.k5(e f g:a7)(h:a9):=B.pv (V.bM 0 7 g) λb=>B.call C (N 28) [b] h λa h=>B.pv (V.ext 0 a) λc=>B.pv (V.ext 1 a) λd=>gM.k4 C N Q e f c d h
@[simp] def gM.k6(a b c:a7)(h:a9):Prop:=B.bL h (A.sD a) λd h=>B.bL h (A.sD b) λe h=>B.pv (A.ey 7 c) λf=>gM.k5 C N Q (.ptr d 0 0) (.ptr e 0 0) f h
def gM.aD:=zh C (N 415) (gM.k6 C N)
@[simp] def iY.k1(C:aC)(N:zN)(Q:zQ)(Y1:zL)(m n b c a:a7)(h:a9):=B.pv (V.bin .lss a c) λd=>B.cond d (B.pv (V.bin .sub n (i6 1)) λe=>B.pv (V.bin .sub e a) λf=>B.pv (V.bin .mul (i6 8) f) λg=>B.pv (V.bin .shr m g) λi=>B.pv (V.toInt .u8 i) λj=>B.pv (V.aM 1 b a) λk=>B.st h k j λh=>B.pv (V.bin .add a (i6 1)) λl=>Y1 [l] h) (Q b h)
@[simp] def iY.l2(c d e a:a7):zG|[b],h,Y1=>iY.k1 C N Q Y1 c d e a b h|_,_,_=>False
@[simp] def iY.aY(d a:a7)(h:a9)(Q:zQ):Prop:=0<1 /\ B.eO h 1 (some [.int .u8 0]) a a λb h=>B.pv (V.aE b) λc=>aB (iY.l2 C N Q d a b c) [(i6 0)] h
def iY.aD:=mi C (N 423) (iY.aY C N)
@[simp] def lZ.aY(a:a7)(h:a9)(Q:zQ):=B.call C (N 439) [a] h λb h=>Q b h
def lZ.aD:=g9 C (N 424) (lZ.aY C N)
@[simp] def nd.k1(d e a:a7)(h:a9):=B.ld h a λf=>B.call C (N 424) [e] h (B.jV h [(a,none)] (λg h=>B.pv (A.cD [(0,none,d),(1,none,g)] [.aA,.aA]) λi=>B.bL h (bN [(0,some 2,i)] (bG 1 [.aA,.aA])) λb h=>B.bO h 2 48 f (.sl b 0 0 1 2 1) λc h=>B.st h a c λh=>Q (.bI []) h))
def nd.aD:=zh C (N 425) (nd.k1 C N)
@[simp] def gB.k1(Y1:zL)(d D e b A:a7)(h:a9):=B.pv (V.bin .lss b e) λf=>B.cond f (B.pv (V.aM 8 D b) λg=>B.cR h g 8 λi=>B.pv (V.bU 0 8 i (.agg [i6 0,.str [],i6 0,i6 0,i6 0,.int .u8 0,i6 0,.str []])) λj=>bD h d (V.bM 0 8 j) λk h=>dG C h d (N 179) [k] λl h=>B.pick d l (.bool false) λc=>B.gd h c true (λK=>K b h) λm h=>bD h c (V.bin .eql m (i6 0)) λn h=>B.gd h c true (λK=>K n h) λa h=>B.al A (eN h a (V.aF 5 A) λo h=>B.gd h a false (λK=>K b h) λp h=>bH h a (V.bin .sub p (i6 1)) λq h=>bH h a (V.aM 8 o q) λr h=>bH h a (V.fieldAddr 0 r) λs h=>jZ h a s λt h=>B.al j (eN h a (V.aF 0 j) λu h=>bH h a (V.bin .lss t u) λw h=>B.gd h c true (λK=>B.pick a (.bool true) w λv=>K v h) λx h=>B.pick c x (.bool false) λy=>B.pv (V.bin .add b (i6 1)) λz=>Y1 [y,z] h))) (Q d h)
@[simp] def gB.l2(c a d:a7):zG|[e,b],h,Y1=>gB.k1 C N Q Y1 e c a b d h|_,_,_=>False
@[simp] def gB.k3(Y2:zL)(e j k b d:a7)(h:a9):=B.pv (V.bin .lss b k) λl=>B.cond l (B.pv (V.aM 6 j b) λm=>B.cR h m 6 λn=>B.pv (V.bU 0 6 n (.agg [i6 0,.str [],i6 0,i6 0,i6 0,.bool false])) λg=>bD h e (V.bM 0 6 g) λo h=>dG C h e (N 52) [o] λp h=>B.pick e p (.bool false) λc=>B.gd h c true (λK=>K b h) λq h=>bD h c (V.bin .eql q (i6 0)) λr h=>B.gd h c true (λK=>K r h) λa h=>B.al d (eN h a (V.aF 4 d) λs h=>B.gd h a false (λK=>K b h) λt h=>bH h a (V.bin .sub t (i6 1)) λu h=>bH h a (V.aM 6 s u) λw h=>bH h a (V.fieldAddr 0 w) λx h=>jZ h a x λy h=>B.al g (eN h a (V.aF 0 g) λz h=>bH h a (V.bin .lss y z) λD h=>B.gd h c true (λK=>B.pick a (.bool true) D λv=>K v h) λA h=>B.pick c A (.bool false) λac=>B.pv (V.bin .add b (i6 1)) λad=>Y2 [ac,ad] h))) (B.al d (B.pv (V.aF 5 d) λf=>B.pv (V.aE f) λi=>aB (gB.l2 C N Q f i d) [e,(i6 0)] h))
@[simp] def gB.l4(a b d:a7):zG|[e,c],h,Y2=>gB.k3 C N Q Y2 e a b c d h|_,_,_=>False
@[simp] def gB.k5(Y3:zL)(e i j b d:a7)(h:a9):=B.pv (V.bin .lss b j) λk=>B.cond k (B.pv (V.aM 4 i b) λl=>B.cR h l 4 λm=>B.pv (V.bU 0 4 m (.agg [.str [],i6 0,.aA,.aA])) λg=>bD h e (V.bM 0 4 g) λn h=>dG C h e (N 438) [n] λo h=>B.pick e o (.bool false) λc=>B.gd h c true (λK=>K b h) λp h=>bD h c (V.bin .eql p (i6 0)) λq h=>B.gd h c true (λK=>K q h) λa h=>B.al d (eN h a (V.aF 3 d) λr h=>B.gd h a false (λK=>K b h) λs h=>bH h a (V.bin .sub s (i6 1)) λt h=>bH h a (V.aM 4 r t) λu h=>bH h a (V.fieldAddr 0 u) λw h=>jZ h a w λx h=>B.al g (eN h a (V.aF 0 g) λy h=>bH h a (V.bin .lss x y) λz h=>B.gd h c true (λK=>B.pick a (.bool true) z λv=>K v h) λD h=>B.pick c D (.bool false) λA=>B.pv (V.bin .add b (i6 1)) λac=>Y3 [A,ac] h))) (B.al d (B.pv (V.aF 4 d) λf=>B.pv (V.aE f) λad=>aB (gB.l4 C N Q f ad d) [e,(i6 0)] h))
@[simp] def gB.l6(a b d:a7):zG|[e,c],h,Y3=>gB.k5 C N Q Y3 e a b c d h|_,_,_=>False
@[simp] def gB.k7(a:a7)(h:a9):=B.al a (B.pv (V.aF 0 a) λi=>B.pv (V.bin .geq i (i6 0)) λb=>B.al a (bV h b (V.aF 0 a) λj h=>bD h b (V.bin .leq j (i6 4000)) λk h=>B.pick b k (.bool false) λc=>B.al a (bV h c (V.aF 1 a) λl h=>bD h c (V.bin .gtr l (i6 0)) λm h=>B.pick c m (.bool false) λd=>B.al a (bV h d (V.aF 1 a) λn h=>bD h d (V.bin .leq n (i6 4611686018427387904)) λo h=>B.pick d o (.bool false) λe=>B.al a (bV h e (V.aF 2 a) λp h=>bD h e (V.bin .gtr p (i6 0)) λq h=>B.pick e q (.bool false) λf=>B.al a (bV h f (V.aF 2 a) λr h=>bD h f (V.bin .leq r (i6 4611686018427387904)) λs h=>B.pick f s (.bool false) λt=>B.al a (B.pv (V.aF 3 a) λg=>B.pv (V.aE g) λu=>aB (gB.l6 C N Q g u a) [t,(i6 0)] h)))))))
@[simp] def gB.aY(a:a7)(h:a9)(Q:zQ):=B.pv (A.ey 6 a) λb=>gB.k7 C N Q b h
def gB.aD:=g9 C (N 426) (gB.aY C N)
@[simp] def nh.k1(e f g:a7)(h:a9):=B.pv (V.bin .lss e (i6 0)) λi=>B.gd h i false (λK=>K e h) λj h=>bH h i (V.bin .geq j (i6 4)) λk h=>B.pick i (.bool true) k λa=>B.gd h a false (λK=>K f h) λl h=>bH h a (V.bin .lss l (i6 1)) λm h=>B.pick a (.bool true) m λb=>B.gd h b false (λK=>K f h) λn h=>bH h b (V.bin .gtr n (i6 4611686018427387904)) λo h=>B.pick b (.bool true) o λc=>B.gd h c false (λK=>K g h) λp h=>bH h c (V.bin .lss p (i6 0)) λq h=>B.pick c (.bool true) q λd=>B.gd h d false (λK=>K g h) λr h=>bH h d (V.bin .geq r (i6 1000)) λs h=>B.pick d (.bool true) s λt=>B.cond t (Q .aA h) (B.pv (V.toInt .u8 e) λu=>B.bL h (bN [(0,none,(.int .u8 97)),(1,none,u)] (bG 2 [.int .u8 0])) λw h=>B.call C (N 423) [f,(i6 8)] h λx h=>B.call C (N 423) [g,(i6 2)] h λy h=>B.bL h (bN [(0,none,(.sl w 0 0 2 1 2)),(1,none,x),(2,none,y)] (bG 3 [.aA])) λz h=>B.call C (N 424) [(.sl z 0 0 3 1 3)] h λv h=>Q v h)
def nh.aD:=zh C (N 427) (nh.k1 C N)
@[simp] def qL.k1(i j:a7)(h:a9):=B.pv (A.ey 2 i) λb=>B.pv (A.ey 2 j) λc=>B.al b (B.pv (V.aF 0 b) λk=>B.al c (B.pv (V.aF 0 c) λl=>B.call C (N 273) [k,l] h λa h=>B.al b (bV h a (V.aF 1 b) λd h=>B.al c (bV h a (V.aF 1 c) λe h=>dG C h a (N 273) [d,e] λf h=>B.pick a f (.bool false) λg=>Q g h))))
def qL.aD:=fk C (N 430) (qL.k1 C N)
@[simp] def iq.k1(C:aC)(N:zN)(Q:zQ)(a i j:a7)(h:a9):=B.nilCheck a λb=>B.pv (V.fieldAddr 0 b) λc=>B.ld h c λd=>B.pv (V.dS 1 d (some i) none) λe=>B.nilCheck a λf=>B.pv (V.fieldAddr 0 f) λg=>B.st h g e λh=>Q j h
@[simp] def iq.k2(Y1:zL)(m n b c d a:a7)(h:a9):=B.pv (V.bin .lss a d) λe=>B.cond e (B.pv (V.aM 1 c a) λf=>B.ld h f λg=>B.pv (V.bin .shl b (.int .u64 8)) λi=>B.pv (V.toInt .i64 g) λj=>B.pv (V.bin .or i j) λk=>B.pv (V.bin .add a (i6 1)) λl=>Y1 [k,l] h) (iq.k1 C N Q m n b h)
@[simp] def iq.l3(d e a b:a7):zG|[f,c],h,Y1=>iq.k2 C N Q Y1 d e f a b c h|_,_,_=>False
@[simp] def iq.k4(b c i:a7)(h:a9):=B.nilCheck b λd=>B.pv (V.fieldAddr 0 d) λe=>B.ld h e λf=>B.pv (V.dS 1 f none (some c)) λa=>B.pv (V.aE a) λg=>aB (iq.l3 C N Q b c a g) [i,(i6 0)] h
@[simp] def iq.k5(b c:a7)(h:a9):=B.nilCheck b λd=>B.pv (V.fieldAddr 1 d) λe=>B.ld h e λa=>B.gd h a false (λK=>K c h) λf h=>B.gd h a false (λK=>K b h) λg h=>B.gd h a false (λK=>B.nilCheck g λv=>K v h) λi h=>bH h a (V.fieldAddr 0 i) λj h=>jZ h a j λk h=>bH h a (V.aE k) λl h=>bH h a (V.bin .gtr f l) λm h=>B.pick a (.bool true) m λn=>B.nilCheck b λo=>B.pv (V.fieldAddr 1 o) λp=>B.st h p n λh=>B.nilCheck b λq=>B.pv (V.fieldAddr 1 q) λr=>B.ld h r λs=>B.cond s (Q (i6 0) h) (iq.k4 C N Q b c (i6 0) h)
def iq.aD:=fk C (N 432) (iq.k5 C N)
@[simp] def iz.k1(Y1:zL)(d e c b:a7)(h:a9):=B.pv (V.bin .gtr e (i6 0)) λa=>B.gd h a true (λK=>K d h) λf h=>B.gd h a true (λK=>B.nilCheck f λv=>K v h) λg h=>bD h a (V.fieldAddr 1 g) λi h=>gb h a i λj h=>bD h a (V.un .not j) λk h=>B.pick a k (.bool false) λl=>B.cond l (B.al b (B.pv (V.aF 3 b) λm=>B.call C (N 440) [d] h λn h=>B.bL h (bN [(0,none,n)] (bG 1 [.str []])) λo h=>B.bO h 1 16 m (.sl o 0 0 1 1 1) λp h=>B.al b (B.pv (V.cL 3 p b) λb=>B.pv (V.bin .sub e (i6 1)) λq=>Y1 [q,b] h))) (B.pv (V.bM 0 4 b) λr=>B.pv (V.bU 0 4 r c) λc=>B.pv (oneOf (cJ (V.bM 0 4 c) (some []))) λv=>Q v h)
@[simp] def iz.l2(a b:a7):zG|[c,d],h,Y1=>iz.k1 C N Q Y1 a c b d h|_,_,_=>False
@[simp] def iz.k3(Y2:zL)(c e w b:a7)(h:a9):=B.pv (V.bin .gtr e (i6 0)) λa=>B.gd h a true (λK=>K c h) λf h=>B.gd h a true (λK=>B.nilCheck f λv=>K v h) λg h=>bD h a (V.fieldAddr 1 g) λi h=>gb h a i λj h=>bD h a (V.un .not j) λk h=>B.pick a k (.bool false) λl=>B.cond l (B.call C (N 440) [c] h λm h=>B.pv (A.cD [(0,none,m)] [.str [],i6 0]) λn=>B.pv (V.bU 0 2 n (.agg [.str [],i6 0])) λd=>B.call C (N 432) [c,(i6 4)] h λo h=>B.al d (B.pv (V.cL 1 o d) λd=>B.al b (B.pv (V.aF 2 b) λp=>B.pv (V.bM 0 2 d) λq=>B.bL h (bN [(0,some 2,q)] (bG 1 [.str [],i6 0])) λr h=>B.bO h 2 24 p (.sl r 0 0 1 2 1) λs h=>B.al b (B.pv (V.cL 2 s b) λb=>B.pv (V.bin .sub e (i6 1)) λt=>Y2 [t,b] h)))) (B.call C (N 432) [c,(i6 1)] h λu h=>aB (iz.l2 C N Q c w) [u,b] h)
@[simp] def iz.l4(a b:a7):zG|[c,d],h,Y2=>iz.k3 C N Q Y2 a c b d h|_,_,_=>False
@[simp] def iz.k5(a e f:a7)(h:a9):=B.call C (N 432) [a,(i6 2)] h λb h=>B.pv (A.cD [(0,none,e),(1,none,b)] [.str [],i6 0,.aA,.aA]) λc=>B.pv (V.bU 0 4 c (.agg [.str [],i6 0,.aA,.aA])) λg=>B.call C (N 432) [a,(i6 1)] h λd h=>aB (iz.l4 C N Q a f) [d,g] h
@[simp] def iz.aY(a b:a7)(h:a9)(Q:zQ):Prop:=iz.k5 C N Q a b (.agg [.str [],i6 0,.aA,.aA]) h
def iz.aD:=mi C (N 433) (iz.aY C N)
@[simp] def ql.k1(b j:a7)(h:a9):=B.call C (N 440) [b] h λk h=>B.pv (A.cD [(0,none,j),(1,none,k)] [i6 0,.str [],i6 0,i6 0,i6 0,.bool false]) λl=>B.pv (V.bU 0 6 l (.agg [i6 0,.str [],i6 0,i6 0,i6 0,.bool false])) λa=>B.call C (N 432) [b,(i6 2)] h λc h=>B.call C (N 432) [b,(i6 2)] h λd h=>B.al a (B.al a (B.pv (V.cL 2 c a) λa=>B.al a (B.al a (B.pv (V.cL 3 d a) λa=>B.call C (N 432) [b,(i6 4)] h λe h=>B.al a (B.pv (V.cL 4 e a) λa=>B.call C (N 432) [b,(i6 1)] h λf h=>B.pv (V.bin .eql f (i6 1)) λg=>B.al a (B.pv (V.cL 5 g a) λa=>B.pv (V.bM 0 6 a) λi=>B.pv (V.bU 0 6 i (.agg [i6 0,.str [],i6 0,i6 0,i6 0,.bool false])) λm=>B.pv (oneOf (cJ (V.bM 0 6 m) (some []))) λv=>Q v h))))))
def ql.aD:=fk C (N 434) (ql.k1 C N)
@[simp] def qi.k1(b m:a7)(h:a9):=B.call C (N 440) [b] h λn h=>B.pv (A.cD [(0,none,m),(1,none,n)] [i6 0,.str [],i6 0,i6 0,i6 0,.int .u8 0,i6 0,.str []]) λo=>B.pv (V.bU 0 8 o (.agg [i6 0,.str [],i6 0,i6 0,i6 0,.int .u8 0,i6 0,.str []])) λa=>B.call C (N 432) [b,(i6 4)] h λc h=>B.al a (B.pv (V.cL 2 c a) λa=>B.call C (N 432) [b,(i6 2)] h λd h=>B.call C (N 432) [b,(i6 1)] h λe h=>B.al a (B.pv (V.cL 3 d a) λa=>B.al a (B.pv (V.cL 4 e a) λa=>B.call C (N 432) [b,(i6 1)] h λf h=>B.pv (V.toInt .u8 f) λg=>B.al a (B.pv (V.cL 5 g a) λa=>B.call C (N 432) [b,(i6 2)] h λi h=>B.pv (V.bin .sub i (i6 1)) λj=>B.al a (B.pv (V.cL 6 j a) λa=>B.call C (N 440) [b] h λk h=>B.al a (B.pv (V.cL 7 k a) λa=>B.pv (V.bM 0 8 a) λl=>B.pv (V.bU 0 8 l (.agg [i6 0,.str [],i6 0,i6 0,i6 0,.int .u8 0,i6 0,.str []])) λp=>B.pv (oneOf (cJ (V.bM 0 8 p) (some []))) λv=>Q v h))))))
def qi.aD:=fk C (N 435) (qi.k1 C N)
@[simp] def ir.k1(g b:a7)(h:a9):=B.al b (B.pv (V.aF 1 b) λc=>B.pv (V.bin .eql c (i6 0)) λa=>B.gd h a true (λK=>K g h) λd h=>dG C h a (N 441) [(i6 8),d] λe h=>B.pick a e (.bool false) λf=>Q f h)
@[simp] def ir.k2(Y1:zL)(d e f c s:a7)(h:a9):=B.pv (V.bin .lss c f) λg=>B.cond g (B.pv (V.aM 2 e c) λi=>B.cR h i 2 λj=>B.pv (V.bU 0 2 j (.agg [.str [],i6 0])) λb=>B.al b (B.pv (V.aF 1 b) λk=>B.pv (V.bin .lss k (i6 1)) λa=>B.al b (eN h a (V.aF 1 b) λl h=>bH h a (V.bin .gtr l (i6 1073741824)) λm h=>B.pick a (.bool true) m λn=>B.cond n (Q (.bool false) h) (B.al b (B.pv (V.aF 0 b) λo=>B.bL h (bN [(0,none,o)] (bG 1 [.str []])) λp h=>B.bO h 1 16 d (.sl p 0 0 1 1 1) λq h=>B.pv (V.bin .add c (i6 1)) λr=>Y1 [q,r] h))))) (ir.k1 C N Q d s h)
@[simp] def ir.l3(a b d:a7):zG|[e,c],h,Y1=>ir.k2 C N Q Y1 e a b c d h|_,_,_=>False
@[simp] def ir.k4(a:a7)(h:a9):=B.al a (B.pv (V.aF 2 a) λd=>B.pv (V.aE d) λe=>B.pv (V.bin .eql e (i6 0)) λf=>B.cond f (B.al a (B.pv (V.aF 1 a) λg=>B.pv (V.bin .gtr g (i6 0)) λb=>B.al a (bV h b (V.aF 1 a) λi h=>bD h b (V.bin .leq i (i6 2000)) λj h=>B.pick b j (.bool false) λk=>Q k h))) (B.al a (B.pv (V.aF 2 a) λc=>B.pv (V.aE c) λl=>aB (ir.l3 C N Q c l a) [.aA,(i6 0)] h)))
@[simp] def ir.k5(a:a7)(h:a9):=B.al a (B.pv (V.aF 0 a) λf=>B.bL h (bN [(0,none,f)] (bG 1 [.str []])) λg h=>B.al a (B.pv (V.aF 3 a) λb=>B.bO h 1 16 (.sl g 0 0 1 1 1) b λc h=>B.call C (N 441) [(i6 5),c] h λd h=>B.pv (V.un .not d) λe=>B.cond e (Q (.bool false) h) (ir.k4 C N Q a h)))
@[simp] def ir.aY(a:a7)(h:a9)(Q:zQ):=B.pv (A.ey 4 a) λb=>ir.k5 C N Q b h
def ir.aD:=g9 C (N 438) (ir.aY C N)
@[simp] def ou.k1(a:a7)(h:a9):=B.nilCheck a λs=>B.pv (V.fieldAddr 1 s) λt=>B.ld h t λu=>B.cond u (Q (.str []) h) (B.nilCheck a λc=>B.pv (V.fieldAddr 0 c) λd=>B.ld h d λe=>B.call C (N 103) [e] h λb h=>B.pv (V.ext 0 b) λf=>B.pv (V.ext 1 b) λg=>B.pv (V.ext 2 b) λi=>B.pv (V.un .not i) λj=>B.nilCheck a λk=>B.pv (V.fieldAddr 1 k) λl=>B.st h l j λh=>B.nilCheck a λm=>B.pv (V.fieldAddr 0 m) λn=>B.ld h n λo=>B.pv (V.dS 1 o (some g) none) λp=>B.nilCheck a λq=>B.pv (V.fieldAddr 0 q) λr=>B.st h r p λh=>Q f h)
def ou.aD:=fy C (N 440) (ou.k1 C N)
@[simp] def kJ.k1(Y1:zL)(r d s t b:a7)(h:a9):=B.pv (V.bin .lss b t) λe=>B.cond e (B.pv (V.aM 1 s b) λf=>B.ld h f λc=>B.call C (N 53) [c] h λg h=>B.pv (V.un .not g) λa=>B.gd h a false (λK=>K d h) λi h=>B.gd h a false (λK=>K b h) λj h=>bH h a (V.dS 1 i none (some j)) λk h=>B.gd h a false (λK=>K c h) λl h=>gE C h a (N 442) [k,l] λm h=>B.pick a (.bool true) m λn=>B.cond n (Q (.bool false) h) (B.pv (V.bin .add b (i6 1)) λo=>Y1 [o] h)) (B.pv (V.aE d) λp=>B.pv (V.bin .leq p r) λq=>Q q h)
@[simp] def kJ.l2(a b c d:a7):zG|[e],h,Y1=>kJ.k1 C N Q Y1 a b c d e h|_,_,_=>False
@[simp] def kJ.aY(b a:a7)(h:a9)(Q:zQ):=B.pv (V.aE a) λc=>aB (kJ.l2 C N Q b a a c) [(i6 0)] h
def kJ.aD:=mi C (N 441) (kJ.aY C N)
@[simp] def Cn.k1(C:aC)(E:fi)(f1:Nat)(Q:zQ)(b c:a7)(h:a9):Prop:=B.bL h (A.sD b) λd h=>B.bL h (A.sD c) λa h=>B.ld h (.ptr a 0 0) λe=>B.pv (V.bin .lss e (i6 1)) λf=>B.cond f (False) (Q (.fn f1 [] [(.ptr d 0 0),(.ptr a 0 0)]) h)
@[simp] def Cn.aY(C:aC)(E:fi)(f1:Nat)(a b:a7)(h:a9)(Q:zQ):Prop:=Cn.k1 C E f1 Q a b h
@[simp] def vR.k1(C:aC)(E:fi)(Q:zQ)(a m:a7)(h:a9):=B.pv (V.vI a) λc=>B.pv (V.aE a) λd=>B.pv (V.bin .sub c d) λe=>B.pv (V.bin .sub m e) λb=>B.pv (V.bin .gtr b (i6 0)) λf=>B.cond f (B.pv (V.vI a) λg=>B.pv (V.dS E.es a none (some g)) λi=>B.rz h E.es E.bytes E.z i b λj h=>B.pv (V.aE a) λk=>B.pv (V.dS E.es j none (some k)) λl=>Q l h) (Q a h)
@[simp] def vR.aY(C:aC)(E:fi)(b a:a7)(h:a9)(Q:zQ):=B.pv (V.bin .lss a (i6 0)) λc=>B.cond c (False) (vR.k1 C E Q b a h)
@[simp] def EJ.aY(C:aC)(E:fi)(f1:Nat)(a b:a7)(h:a9)(Q:zQ):=B.call C f1 [a,b] h λc h=>B.pv (V.bin .geq c (i6 0)) λd=>Q d h
@[simp] def te.k1(C:aC)(E:fi)(Q:zQ)(Y1:zL)(f g i a:a7)(h:a9):=B.pv (V.bin .lss a i) λj=>B.cond j (B.pv (V.aM E.es f a) λb=>E.ld h b λc=>B.pv (V.bin .eql g c) λd=>B.cond d (Q a h) (B.pv (V.bin .add a (i6 1)) λe=>Y1 [e] h)) (Q (.int .i64 (-1)) h)
@[simp] def te.l2(C:aC)(E:fi)(Q:zQ)(a b c:a7):zG|[d],h,Y1=>te.k1 C E Q Y1 a b c d h|_,_,_=>False
@[simp] def te.aY(C:aC)(E:fi)(a b:a7)(h:a9)(Q:zQ):=B.pv (V.aE a) λc=>aB (te.l2 C E Q a b c) [(i6 0)] h
variable(C:aC)(N:Nat→Nat)(Q:zQ)
def pn.aY(a b:a7)(h:a9)(Q:zQ):Prop:=Cn.aY C (dH 1 (.int .u8 0) 0) (N 443) a b h Q
def pn.aD:=mi C (N 429) (pn.aY C N)
@[simp] def kG.k1(C:aC)(N:zN)(Q:zQ)(Y1:zL)(o p b c a:a7)(h:a9):=B.pv (V.bin .lss a c) λd=>B.cond d (B.pv (V.aM 2 b a) λe=>B.cR h e 2 λf=>B.pv (V.bU 0 2 f (.agg [.aA,.aA])) λq=>B.pv (V.aM 2 o a) λg=>B.cR h g 2 λi=>B.pv (V.bU 0 2 i (.agg [.aA,.aA])) λr=>B.pv (V.bM 0 2 q) λj=>B.pv (V.bM 0 2 r) λk=>B.ks h C p [j,k] λl h=>B.pv (V.un .not l) λm=>B.cond m (Q (.bool false) h) (B.pv (V.bin .add a (i6 1)) λn=>Y1 [n] h)) (Q (.bool true) h)
@[simp] def kG.l2(d e a b:a7):zG|[c],h,Y1=>kG.k1 C N Q Y1 d e a b c h|_,_,_=>False
@[simp] def kG.k3(a b g:a7)(h:a9):=B.pv (V.aE a) λc=>B.pv (V.aE b) λd=>B.pv (V.bin .neq c d) λe=>B.cond e (Q (.bool false) h) (B.pv (V.aE a) λf=>aB (kG.l2 C N Q b g a f) [(i6 0)] h)
def kG.aD:=zh C (N 431) (kG.k3 C N)
@[simp] def ie.k1(C:aC)(N:zN)(Q:zQ)(Y1:zL)(b c d a:a7)(h:a9):=B.pv (V.bin .lss a d) λe=>B.cond e (B.pv (V.aM 1 c a) λf=>B.ld h f λg=>B.bO h 1 1 b g λi h=>B.pv (V.bin .add a (i6 1)) λj=>Y1 [i,j] h) (Q b h)
@[simp] def ie.l2(a b:a7):zG|[d,c],h,Y1=>ie.k1 C N Q Y1 d a b c h|_,_,_=>False
@[simp] def ie.k3(Y2:zL)(c d o e a:a7)(h:a9):=B.pv (V.bin .lss a e) λf=>B.cond f (B.pv (V.aM 1 o a) λg=>B.ld h g λi=>B.pv (V.aE i) λj=>B.pv (V.bin .add d j) λb=>B.pv (V.bin .lss b (i6 0)) λk=>B.cond k (False) (B.pv (V.bin .add a (i6 1)) λl=>Y2 [b,l] h)) (B.call C (N 444) [.aA,d] h λm h=>B.pv (V.aE c) λn=>aB (ie.l2 C N Q c n) [m,(i6 0)] h)
@[simp] def ie.l4(c d a:a7):zG|[e,b],h,Y2=>ie.k3 C N Q Y2 c e d a b h|_,_,_=>False
@[simp] def ie.aY(a:a7)(h:a9)(Q:zQ):=B.pv (V.aE a) λb=>aB (ie.l4 C N Q a a b) [(i6 0),(i6 0)] h
def ie.aD:=g9 C (N 439) (ie.aY C N)
def pj.aY(a b:a7)(h:a9)(Q:zQ):Prop:=EJ.aY C (dH 16 (.str []) 0) (N 445) a b h Q
def pj.aD:=mi C (N 442) (pj.aY C N)
@[simp] def ml.k1(C:aC)(N:zN)(Q:zQ)(Y1:zL)(r c d a:a7)(h:a9):=B.ld h c λs=>B.pv (V.aE s) λt=>B.pv (V.bin .lss a t) λu=>B.cond u (B.ld h d λe=>B.ld h c λf=>B.pv (V.dS 1 f (some a) none) λg=>B.pv (V.aE g) λi=>B.pv (V.min2 e i) λb=>B.ld h c λj=>B.pv (V.bin .add a b) λk=>B.pv (V.bin .add a b) λl=>B.pv (V.nX 1 j a k l) λm=>B.ks h C r [m] λn h=>B.pv (V.un .not n) λo=>B.cond o (Q (.bI []) h) (B.ld h d λp=>B.pv (V.bin .add a p) λq=>Y1 [q] h)) (Q (.bI []) h)
@[simp] def ml.l2(a b c:a7):zG|[d],h,Y1=>ml.k1 C N Q Y1 a b c d h|_,_,_=>False
@[simp] def ml.aY(a b c:a7)(h:a9)(Q:zQ):=aB (ml.l2 C N Q a b c) [(i6 0)] h
def ml.aD:=zj C (N 443) (ml.aY C N)
def po.aY(C:aC)(N:zN)(a b:a7)(h:a9)(Q:zQ):Prop:=vR.aY C (dH 1 (.int .u8 0) 0) a b h Q
def po.aD:=mi C (N 444) (po.aY C N)
def pk.aY(C:aC)(N:zN)(a b:a7)(h:a9)(Q:zQ):Prop:=te.aY C (dH 16 (.str []) 0) a b h Q
def pk.aD:=mi C (N 445) (pk.aY C N)
variable(C:aC)(N:Nat→Nat)(Q:zQ)
@[simp] def fW.k1(Y1:zL)(f g i b:a7)(h:a9):=B.pv (V.bin .lss b i) λj=>B.cond j (B.pv (V.aM 3 g b) λk=>B.cR h k 3 λl=>B.pv (V.bU 0 3 l (.agg [i6 0,i6 0,i6 0])) λa=>B.al a (B.pv (V.aF 0 a) λm=>B.call C (N 50) [f,m,(i6 8)] h λn h=>B.al a (B.pv (V.aF 1 a) λo=>B.call C (N 50) [n,o,(i6 8)] h λp h=>B.al a (B.pv (V.aF 2 a) λc=>B.call C (N 50) [p,c,(i6 8)] h λd h=>B.pv (V.bin .add b (i6 1)) λe=>Y1 [d,e] h)))) (Q (.bI [f,(i6 0)]) h)
@[simp] def fW.l2(a b:a7):zG|[d,c],h,Y1=>fW.k1 C N Q Y1 d a b c h|_,_,_=>False
@[simp] def fW.k3(g a:a7)(h:a9):=B.al a (B.pv (V.aF 6 a) λc=>B.pv (V.aE c) λd=>B.call C (N 50) [g,d,(i6 2)] h λe h=>B.al a (B.pv (V.aF 6 a) λb=>B.pv (V.aE b) λf=>aB (fW.l2 C N Q b f) [e,(i6 0)] h))
@[simp] def fW.k4(Y2:zL)(f g i b x:a7)(h:a9):=B.pv (V.bin .lss b i) λj=>B.cond j (B.pv (V.aM 6 g b) λk=>B.cR h k 6 λl=>B.pv (V.bU 0 6 l (.agg [i6 0,.str [],i6 0,i6 0,i6 0,.bool false])) λa=>B.al a (B.pv (V.aF 0 a) λm=>B.call C (N 50) [f,m,(i6 8)] h λn h=>B.al a (B.pv (V.aF 1 a) λo=>B.call C (N 51) [o] h λp h=>B.bO h 1 1 n p λq h=>B.al a (B.al a (B.pv (V.aF 2 a) λr=>B.call C (N 50) [q,r,(i6 2)] h λs h=>B.al a (B.al a (B.pv (V.aF 3 a) λt=>B.call C (N 50) [s,t,(i6 2)] h λu h=>B.al a (B.pv (V.aF 4 a) λv=>B.call C (N 50) [u,v,(i6 8)] h λe h=>B.al a (B.pv (V.aF 5 a) λw=>B.cond w (B.call C (N 50) [e,(i6 1),(i6 1)] h λc h=>B.pv (V.bin .add b (i6 1)) λd=>Y2 [c,d] h) (B.call C (N 50) [e,(i6 0),(i6 1)] h λc h=>B.pv (V.bin .add b (i6 1)) λd=>Y2 [c,d] h)))))))))) (fW.k3 C N Q f x h)
@[simp] def fW.l5(a b d:a7):zG|[e,c],h,Y2=>fW.k4 C N Q Y2 e a b c d h|_,_,_=>False
@[simp] def fW.k6(g a:a7)(h:a9):=B.al a (B.pv (V.aF 5 a) λc=>B.pv (V.aE c) λd=>B.call C (N 50) [g,d,(i6 2)] h λe h=>B.al a (B.pv (V.aF 5 a) λb=>B.pv (V.aE b) λf=>aB (fW.l5 C N Q b f a) [e,(i6 0)] h))
@[simp] def fW.k7(e a:a7)(h:a9):=B.al a (B.pv (V.aF 4 a) λb=>B.bL h (bN [(0,none,b)] (bG 1 [.int .u8 0])) λc h=>B.bO h 1 1 e (.sl c 0 0 1 1 1) λd h=>fW.k6 C N Q d a h)
@[simp] def fW.k8(i a:a7)(h:a9):=B.al a (B.pv (V.aF 2 a) λb=>B.pv (V.bin .add b (i6 1)) λc=>B.call C (N 50) [i,c,(i6 2)] h λd h=>B.al a (B.pv (V.aF 3 a) λe=>B.call C (N 51) [e] h λf h=>B.bO h 1 1 d f λg h=>fW.k7 C N Q g a h))
@[simp] def fW.k9(b a:a7)(h:a9):=B.al a (B.pv (V.aF 0 a) λc=>B.pv (V.bin .gtr c (i6 0)) λd=>B.cond d (Q (.bI [b,(i6 0)]) h) (B.al a (B.pv (V.aF 1 a) λe=>B.call C (N 50) [b,e,(i6 8)] h λf h=>fW.k8 C N Q f a h)))
@[simp] def fW.jL(a:a7)(h:a9):=B.pv (V.bM 0 7 a) λb=>B.call C (N 29) [b] h λc h=>B.pv (V.un .not c) λd=>B.cond d (Q (.bI [.aA,(i6 2)]) h) (B.al a (B.pv (V.aF 0 a) λe=>B.call C (N 50) [.aA,e,(i6 2)] h λf h=>fW.k9 C N Q f a h))
@[simp] def fW.aY(a:a7)(h:a9)(Q:zQ):=B.pv (A.ey 7 a) λb=>fW.jL C N Q b h
def fW.aD:=g9 C (N 28) (fW.aY C N)
@[simp] def hJ.k1(C:aC)(N:zN)(Q:zQ)(Y1:zL)(e f c:a7)(h:a9):=B.pv (V.bin .lss c f) λg=>B.cond g (B.pv (V.aM 3 e c) λi=>B.cR h i 3 λj=>B.pv (V.bU 0 3 j (.agg [i6 0,i6 0,i6 0])) λd=>B.al d (B.pv (V.aF 0 d) λk=>B.pv (V.bin .lss k (i6 0)) λa=>B.al d (eN h a (V.aF 1 d) λl h=>bH h a (V.bin .lss l (i6 1)) λm h=>B.pick a (.bool true) m λb=>B.al d (eN h b (V.aF 2 d) λn h=>bH h b (V.bin .lss n (i6 1)) λo h=>B.pick b (.bool true) o λp=>B.cond p (Q (.bool false) h) (B.pv (V.bin .add c (i6 1)) λq=>Y1 [q] h))))) (Q (.bool true) h)
@[simp] def hJ.l2(a b:a7):zG|[c],h,Y1=>hJ.k1 C N Q Y1 a b c h|_,_,_=>False
@[simp] def hJ.k3(Y2:zL)(g i a j:a7)(h:a9):=B.pv (V.bin .lss a i) λk=>B.cond k (B.pv (V.aM 6 g a) λl=>B.cR h l 6 λm=>B.pv (V.bU 0 6 m (.agg [i6 0,.str [],i6 0,i6 0,i6 0,.bool false])) λo=>B.pv (V.bM 0 6 o) λn=>B.call C (N 52) [n] h λc h=>B.pv (V.un .not c) λd=>B.cond d (Q (.bool false) h) (B.pv (V.bin .add a (i6 1)) λe=>Y2 [e] h)) (B.al j (B.pv (V.aF 6 j) λb=>B.pv (V.aE b) λf=>aB (hJ.l2 C N Q b f) [(i6 0)] h))
@[simp] def hJ.l4(a b d:a7):zG|[c],h,Y2=>hJ.k3 C N Q Y2 a b c d h|_,_,_=>False
@[simp] def hJ.k5(A a:a7)(h:a9):=B.al a (B.pv (V.aF 0 a) λl=>B.pv (V.bin .lss l (i6 0)) λf=>B.al a (eN h f (V.aF 0 a) λm h=>bH h f (V.bin .gtr m (i6 999)) λn h=>B.pick f (.bool true) n λo=>B.cond o (Q (.bool false) h) (B.al a (B.pv (V.aF 0 a) λp=>B.pv (V.bin .gtr p (i6 0)) λq=>B.cond q (Q A h) (B.al a (B.pv (V.aF 1 a) λr=>B.pv (V.bin .lss r (i6 0)) λg=>B.al a (eN h g (V.aF 2 a) λs h=>bH h g (V.bin .lss s (.int .i64 (-1))) λt h=>B.pick g (.bool true) t λi=>B.al a (eN h i (V.aF 2 a) λu h=>bH h i (V.bin .gtr u (i6 4000)) λw h=>B.pick i (.bool true) w λb=>B.al a (eN h b (V.aF 3 a) λx h=>bH h b (V.bin .neq x (.str [])) λy h=>B.gd h b false (λK=>K y h) λc h=>B.al a (bV h c (V.aF 3 a) λz h=>dG C h c (N 53) [z] λO h=>bD h c (V.un .not O) λM h=>B.gd h b false (λK=>B.pick c M (.bool false) λv=>K v h) λac h=>B.pick b (.bool true) ac λj=>B.al a (eN h j (V.aF 4 a) λad h=>bH h j (V.bin .gtr ad (.int .u8 3)) λL h=>B.pick j (.bool true) L λd=>B.al a (eN h d (V.aF 5 a) λJ h=>bH h d (V.aE J) λI h=>bH h d (V.bin .gtr I (i6 300)) λH h=>B.pick d (.bool true) H λe=>B.al a (eN h e (V.aF 6 a) λG h=>bH h e (V.aE G) λF h=>bH h e (V.bin .gtr F (i6 2000)) λE h=>B.pick e (.bool true) E λam=>B.cond am (Q (.bool false) h) (B.al a (B.pv (V.aF 5 a) λk=>B.pv (V.aE k) λD=>aB (hJ.l4 C N Q k D a) [(i6 0)] h)))))))))))))))
@[simp] def hJ.k6(b:a7)(h:a9):=B.al b (B.pv (V.aF 1 b) λt=>B.pv (V.bin .eql t (i6 0)) λc=>B.al b (bV h c (V.aF 2 b) λf h=>bD h c (V.bin .eql f (i6 0)) λg h=>B.pick c g (.bool false) λd=>B.al b (bV h d (V.aF 3 b) λi h=>bD h d (V.bin .eql i (.str [])) λj h=>B.pick d j (.bool false) λe=>B.al b (bV h e (V.aF 4 b) λk h=>bD h e (V.bin .eql k (.int .u8 0)) λl h=>B.pick e l (.bool false) λa=>B.al b (bV h a (V.aF 5 b) λm h=>bD h a (V.aE m) λn h=>B.al b (bV h a (V.aF 6 b) λo h=>bD h a (V.aE o) λp h=>bD h a (V.bin .add n p) λq h=>bD h a (V.bin .eql q (i6 0)) λr h=>B.pick a r (.bool false) λs=>hJ.k5 C N Q s b h))))))
@[simp] def hJ.aY(a:a7)(h:a9)(Q:zQ):=B.pv (A.ey 7 a) λb=>hJ.k6 C N Q b h
def hJ.aD:=g9 C (N 29) (hJ.aY C N)
@[simp] def iZ.k1(b d e:a7)(h:a9):=B.nilCheck d λf=>B.pv (V.fieldAddr 2 f) λg=>B.ld h g λa=>bH h a (V.bM 0 7 e) λi h=>gE C h a (N 29) [i] λj h=>bH h a (V.un .not j) λk h=>B.pick a (.bool true) k λl=>B.cond l (B.pv (A.cD [] [i6 0,i6 0,i6 0,.str [],.int .u8 0,.aA,.aA]) λm=>B.gp h b 7 m λh=>B.pv (oneOf (cJ (A.fF h b 7) (cJ (some (i6 0)) (cJ (some (i6 4)) (some []))))) λv=>Q v h) (B.pv (V.bM 0 7 e) λn=>B.nilCheck d λo=>B.pv (V.fieldAddr 1 o) λc=>B.ld h c λp=>(λK=>B.gp h b 7 n λh=>K .undef h) (B.jV h [(c,none)] (λ_ h=>B.pv (oneOf (cJ (A.fF h b 7) (cJ (some p) (cJ (some (i6 0)) (some []))))) λv=>Q v h)))
@[simp] def iZ.k2(c b a:a7)(h:a9):=B.al a (B.pv (V.aF 0 a) λd=>B.pv (V.bin .eql d (i6 0)) λe=>B.cond e (B.call C (N 65) [b,(i6 8)] h λf h=>B.al a (B.pv (V.cL 1 f a) λa=>B.call C (N 65) [b,(i6 2)] h λg h=>B.pv (V.bin .sub g (i6 1)) λi=>B.al a (B.pv (V.cL 2 i a) λa=>B.call C (N 66) [b] h λj h=>B.al a (B.pv (V.cL 3 j a) λa=>B.call C (N 65) [b,(i6 1)] h λk h=>B.pv (V.toInt .u8 k) λl=>B.al a (B.pv (V.cL 4 l a) λa=>B.call C (N 68) [b,(.fn (N 67) [b] [])] h λm h=>B.al a (B.pv (V.cL 5 m a) λa=>B.call C (N 70) [b,(.fn (N 69) [b] [])] h λn h=>B.al a (B.pv (V.cL 6 n a) λa=>iZ.k1 C N Q c b a h))))))) (iZ.k1 C N Q c b a h))
@[simp] def iZ.k3(d a:a7)(h:a9):=B.call C (N 65) [a,(i6 2)] h λb h=>B.pv (A.cD [(0,none,b)] [i6 0,i6 0,i6 0,.str [],.int .u8 0,.aA,.aA]) λc=>B.pv (V.bU 0 7 c (.agg [i6 0,i6 0,i6 0,.str [],.int .u8 0,.aA,.aA])) λe=>iZ.k2 C N Q d a e h
@[simp] def iZ.k4(a:a7)(h:a9):Prop:=B.bL h (some [i6 0,i6 0,i6 0,.str [],.int .u8 0,.aA,.aA]) λb h=>B.pv (A.cD [(0,none,a)] [.aA,i6 0,.bool false]) λc=>B.bL h (A.kZ 3 c) λd h=>iZ.k3 C N Q (.ptr b 0 0) (.ptr d 0 0) h
def iZ.aD:=fy C (N 38) (iZ.k4 C N)
@[simp] def lY.k1(C:aC)(N:zN)(Q:zQ)(Y1:zL)(b k a:a7)(h:a9):=B.pv (V.bin .geq a (i6 0)) λc=>B.cond c (B.pv (V.bin .mul (i6 8) a) λd=>B.pv (V.bin .shr k d) λe=>B.pv (V.toInt .u8 e) λf=>B.bL h (bN [(0,none,f)] (bG 1 [.int .u8 0])) λg h=>B.bO h 1 1 b (.sl g 0 0 1 1 1) λi h=>B.pv (V.bin .sub a (i6 1)) λj=>Y1 [i,j] h) (Q b h)
@[simp] def lY.l2(a:a7):zG|[b,c],h,Y1=>lY.k1 C N Q Y1 b a c h|_,_,_=>False
@[simp] def lY.aY(a b c:a7)(h:a9)(Q:zQ):=B.pv (V.bin .sub c (i6 1)) λd=>aB (lY.l2 C N Q b) [a,d] h
def lY.aD:=zj C (N 50) (lY.aY C N)
@[simp] def ig.k1(C:aC)(N:zN)(Q:zQ)(a i j:a7)(h:a9):=B.nilCheck a λb=>B.pv (V.fieldAddr 1 b) λc=>B.ld h c λd=>B.pv (V.bin .add d i) λe=>B.nilCheck a λf=>B.pv (V.fieldAddr 1 f) λg=>B.st h g e λh=>Q j h
@[simp] def ig.k2(Y1:zL)(m n b c d a:a7)(h:a9):=B.pv (V.bin .lss a d) λe=>B.cond e (B.pv (V.aM 1 c a) λf=>B.ld h f λg=>B.pv (V.bin .shl b (.int .u64 8)) λi=>B.pv (V.toInt .i64 g) λj=>B.pv (V.bin .or i j) λk=>B.pv (V.bin .add a (i6 1)) λl=>Y1 [k,l] h) (ig.k1 C N Q m n b h)
@[simp] def ig.l3(d e a b:a7):zG|[f,c],h,Y1=>ig.k2 C N Q Y1 d e f a b c h|_,_,_=>False
@[simp] def ig.k4(a c p:a7)(h:a9):=B.nilCheck a λd=>B.pv (V.fieldAddr 0 d) λe=>B.ld h e λf=>B.nilCheck a λg=>B.pv (V.fieldAddr 1 g) λi=>B.ld h i λj=>B.nilCheck a λk=>B.pv (V.fieldAddr 1 k) λl=>B.ld h l λm=>B.pv (V.bin .add m c) λn=>B.pv (V.dS 1 f (some j) (some n)) λb=>B.pv (V.aE b) λo=>aB (ig.l3 C N Q a c b o) [p,(i6 0)] h
@[simp] def ig.k5(b c:a7)(h:a9):=B.nilCheck b λd=>B.pv (V.fieldAddr 2 d) λe=>B.ld h e λa=>B.gd h a false (λK=>K c h) λf h=>B.gd h a false (λK=>K b h) λg h=>B.gd h a false (λK=>B.nilCheck g λv=>K v h) λi h=>bH h a (V.fieldAddr 0 i) λj h=>jZ h a j λk h=>bH h a (V.aE k) λl h=>B.gd h a false (λK=>K b h) λm h=>B.gd h a false (λK=>B.nilCheck m λv=>K v h) λn h=>bH h a (V.fieldAddr 1 n) λo h=>jZ h a o λp h=>bH h a (V.bin .sub l p) λq h=>bH h a (V.bin .gtr f q) λr h=>B.pick a (.bool true) r λs=>B.nilCheck b λt=>B.pv (V.fieldAddr 2 t) λu=>B.st h u s λh=>B.nilCheck b λw=>B.pv (V.fieldAddr 2 w) λx=>B.ld h x λy=>B.cond y (Q (i6 0) h) (ig.k4 C N Q b c (i6 0) h)
def ig.aD:=fk C (N 65) (ig.k5 C N)
@[simp] def pq.k1(a:a7)(h:a9):=B.nilCheck a λw=>B.pv (V.fieldAddr 2 w) λx=>B.ld h x λy=>B.cond y (Q (.str []) h) (B.nilCheck a λc=>B.pv (V.fieldAddr 0 c) λd=>B.ld h d λe=>B.nilCheck a λf=>B.pv (V.fieldAddr 1 f) λg=>B.ld h g λi=>B.pv (V.dS 1 e (some i) none) λj=>B.call C (N 103) [j] h λb h=>B.pv (V.ext 0 b) λk=>B.pv (V.ext 1 b) λl=>B.pv (V.ext 2 b) λm=>B.pv (V.un .not m) λn=>B.nilCheck a λo=>B.pv (V.fieldAddr 2 o) λp=>B.st h p n λh=>B.nilCheck a λq=>B.pv (V.fieldAddr 1 q) λr=>B.ld h r λs=>B.pv (V.bin .add s l) λt=>B.nilCheck a λu=>B.pv (V.fieldAddr 1 u) λv=>B.st h v t λh=>Q k h)
def pq.aD:=fy C (N 66) (pq.k1 C N)
@[simp] def qh.k1(b:a7)(h:a9):=B.call C (N 65) [b,(i6 8)] h λr h=>B.call C (N 66) [b] h λs h=>B.pv (A.cD [(0,none,r),(1,none,s)] [i6 0,.str [],i6 0,i6 0,i6 0,.bool false]) λt=>B.pv (V.bU 0 6 t (.agg [i6 0,.str [],i6 0,i6 0,i6 0,.bool false])) λa=>B.call C (N 65) [b,(i6 2)] h λe h=>B.call C (N 65) [b,(i6 2)] h λf h=>B.al a (B.al a (B.pv (V.cL 2 e a) λa=>B.al a (B.al a (B.pv (V.cL 3 f a) λa=>B.call C (N 65) [b,(i6 8)] h λg h=>B.al a (B.pv (V.cL 4 g a) λa=>B.call C (N 65) [b,(i6 1)] h λd h=>B.pv (V.bin .eql d (i6 1)) λi=>B.al a (B.pv (V.cL 5 i a) λa=>B.nilCheck b λj=>B.pv (V.fieldAddr 2 j) λk=>B.ld h k λc=>B.gd h c false (λK=>K d h) λl h=>bH h c (V.bin .gtr l (i6 1)) λm h=>B.pick c (.bool true) m λn=>B.nilCheck b λo=>B.pv (V.fieldAddr 2 o) λp=>B.st h p n λh=>B.pv (V.bM 0 6 a) λq=>B.pv (V.bU 0 6 q (.agg [i6 0,.str [],i6 0,i6 0,i6 0,.bool false])) λu=>B.pv (oneOf (cJ (V.bM 0 6 u) (some []))) λv=>Q v h))))))
def qh.aD:=fy C (N 67) (qh.k1 C N)
@[simp] def lE.k1(C:aC)(N:zN)(Q:zQ)(Y1:zL)(o p b c:a7)(h:a9):=B.pv (V.bin .gtr c (i6 0)) λa=>B.gd h a true (λK=>K o h) λd h=>B.gd h a true (λK=>B.nilCheck d λv=>K v h) λe h=>bD h a (V.fieldAddr 2 e) λf h=>gb h a f λg h=>bD h a (V.un .not g) λi h=>B.pick a i (.bool false) λj=>B.cond j (B.ks h C p [] λk h=>B.bL h (bN [(0,some 6,k)] (bG 1 [i6 0,.str [],i6 0,i6 0,i6 0,.bool false])) λl h=>B.bO h 6 56 b (.sl l 0 0 1 6 1) λm h=>B.pv (V.bin .sub c (i6 1)) λn=>Y1 [m,n] h) (Q b h)
@[simp] def lE.l2(a b:a7):zG|[c,d],h,Y1=>lE.k1 C N Q Y1 a b c d h|_,_,_=>False
@[simp] def lE.aY(a b:a7)(h:a9)(Q:zQ):=B.call C (N 65) [a,(i6 2)] h λc h=>aB (lE.l2 C N Q a b) [.aA,c] h
def lE.aD:=mi C (N 68) (lE.aY C N)
@[simp] def qg.k1(a:a7)(h:a9):=B.call C (N 65) [a,(i6 8)] h λb h=>B.call C (N 65) [a,(i6 8)] h λc h=>B.call C (N 65) [a,(i6 8)] h λd h=>B.pv (A.cD [(0,none,b),(1,none,c),(2,none,d)] [i6 0,i6 0,i6 0]) λe=>B.pv (V.bU 0 3 e (.agg [i6 0,i6 0,i6 0])) λf=>B.pv (oneOf (cJ (V.bM 0 3 f) (some []))) λv=>Q v h
def qg.aD:=fy C (N 69) (qg.k1 C N)
@[simp] def lD.k1(C:aC)(N:zN)(Q:zQ)(Y1:zL)(o p b c:a7)(h:a9):=B.pv (V.bin .gtr c (i6 0)) λa=>B.gd h a true (λK=>K o h) λd h=>B.gd h a true (λK=>B.nilCheck d λv=>K v h) λe h=>bD h a (V.fieldAddr 2 e) λf h=>gb h a f λg h=>bD h a (V.un .not g) λi h=>B.pick a i (.bool false) λj=>B.cond j (B.ks h C p [] λk h=>B.bL h (bN [(0,some 3,k)] (bG 1 [i6 0,i6 0,i6 0])) λl h=>B.bO h 3 24 b (.sl l 0 0 1 3 1) λm h=>B.pv (V.bin .sub c (i6 1)) λn=>Y1 [m,n] h) (Q b h)
@[simp] def lD.l2(a b:a7):zG|[c,d],h,Y1=>lD.k1 C N Q Y1 a b c d h|_,_,_=>False
@[simp] def lD.aY(a b:a7)(h:a9)(Q:zQ):=B.call C (N 65) [a,(i6 2)] h λc h=>aB (lD.l2 C N Q a b) [.aA,c] h
def lD.aD:=mi C (N 70) (lD.aY C N)
@[simp] def q9.k1(C:aC)(N:zN)(Q:zQ)(j:a7)(h:a9):=B.pv (A.ey 2 j) λa=>B.al a (B.pv (V.aF 0 a) λk=>B.pv (V.bin .leq (i6 0) k) λc=>B.al a (bV h c (V.aF 0 a) λl h=>B.al a (bV h c (V.aF 1 a) λd h=>bD h c (V.bin .leq l d) λe h=>B.pick c e (.bool false) λb=>B.al a (bV h b (V.aF 1 a) λf h=>bD h b (V.bin .leq f (i6 4001)) λg h=>B.pick b g (.bool false) λi=>Q i h))))
variable(C:aC)(N:Nat→Nat)(Q:zQ)
def q9.aD:=fy C (N 5) (q9.k1 C N)
end Go.Ab
