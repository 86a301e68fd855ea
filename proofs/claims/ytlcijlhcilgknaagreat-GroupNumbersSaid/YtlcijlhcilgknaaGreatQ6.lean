/- What is proved: a part of the way to the statement: AcJ. No conditions. -/
import Derived.Test.YtlcijlhcilgknaaGreatQ3
import Derived.Test.YtlcijlhcilgknaaGreatQ5
import Derived.Test.YtlcijlhcilgknaaGreatQ2
set_option linter.unusedVariables false
set_option linter.unusedSimpArgs false
set_option maxRecDepth 100000
namespace Go.Ab
open List
structure Lot where
 Id:Int
 Item:List UInt8
 From:Int
 Until:Int
 Qty:Int
 Arrived:Bool
 deriving DecidableEq
@[simp] def Lot.cs(l:Lot):List za:=[.int .i64 l.Id,.str l.Item,.int .i64 l.From,.int .i64 l.Until,.int .i64 l.Qty,.bool l.Arrived]
def lotF:Flat Lot where
 cs:=Lot.cs
 es:=6
 sh:=[.i .i64,.s,.i .i64,.i .i64,.i .i64,.b]
 len _:=rfl
 pos:=by omega
 eq a b:=by
  cases a;cases b;simp
structure Part where
 Item:List UInt8
 Qty:Int
 deriving DecidableEq
@[simp] def Part.cs(u:Part):List za:=[.str u.Item,.int .i64 u.Qty]
def partF:Flat Part where
 cs:=Part.cs
 es:=2
 sh:=[.s,.i .i64]
 len _:=rfl
 pos:=by omega
 eq a b:=by
  cases a;cases b;simp
theorem u8_eq(a b:UInt8):decide ((a.toNat:Int)=b.toNat)=decide (a=b):=by
 rw[decide_eq_decide];constructor
 ·intro h;exact UInt8.toNat_inj.1 (by omega)
 ·intro h;rw[h]
structure znh where
 Id:Int
 Item:List UInt8
 Qty:Int
 Asked:Int
 Rank:Int
 State:UInt8
 Day:Int
 Code:List UInt8
 deriving DecidableEq
@[simp] def znh.cs(u:znh):List za:=[.int .i64 u.Id,.str u.Item,.int .i64 u.Qty,.int .i64 u.Asked,.int .i64 u.Rank,.int .u8 (u.State.toNat:Int),.int .i64 u.Day,.str u.Code]
def lineF:Flat znh where
 cs:=znh.cs
 es:=8
 sh:=[.i .i64,.s,.i .i64,.i .i64,.i .i64,.i .u8,.i .i64,.s]
 len _:=rfl
 pos:=by omega
 eq a b:=by
  cases a;cases b;simp[u8_eq]
def bS:Scal UInt8 where
 c b:= .int .u8 b.toNat
 cell _:=rfl
 eql a b:=by rw[V.zhh,u8_eq]
 neq a b:=by rw[V.bin_neq,u8_eq]
abbrev bc:UInt8->List za:=bS.cs
def tS:Scal (List UInt8) where
 c b:= .str b
 cell _:=rfl
 eql a b:=by rw[V.zrz]
 neq a b:=by rw[V.bin_sneq]
abbrev tc:List UInt8->List za:=tS.cs
theorem wrap_u8(n:Int):IntKind.u8.wrap n=n % 256:=by
 simp[IntKind.wrap,IntKind.bits,IntKind.signed]
theorem u8_wrapN(n:Nat):IntKind.u8.wrap (n:Int)=((UInt8.ofNat n).toNat:Int):=by
 rw[wrap_u8];simp
def byt(m:Int):UInt8:=UInt8.ofNat (m % 256).toNat
theorem byt_nat(m:Int):((byt m).toNat:Int)=m % 256:=by
 have h1:=Int.emod_nonneg m (show (256:Int)≠0 by omega);have h2:=Int.emod_lt_of_pos m (show (0:Int)<256 by omega);simp[byt];omega
theorem u8_byt(m:Int):IntKind.u8.wrap m=((byt m).toNat:Int):=by rw[wrap_u8,byt_nat]
theorem bin_shr{k j:IntKind}{a b:Int}(h0:0 <= b)(h1:b<k.bits):V.bin .shr (.int k a) (.int j b)=some (.int k (a.fdiv (2 ^ b.toNat))):=by
 simp only[V.bin,V.shift];rw[if_neg (by omega),Nat.min_eq_left (by omega)]
theorem wrap_u64(n:Int):IntKind.u64.wrap n=n % 18446744073709551616:=by
 simp[IntKind.wrap,IntKind.bits,IntKind.signed]
theorem zzl:∀s:List UInt8,V.zov (s.map bc).flatten=some s
 | []=>rfl
 | a::r=>by
  have:=zzl r
  simp only[map_cons,flatten_cons,cons_append,nil_append]at this ⊢
  simp only[V.zov,this]
  simp[V.byteOf?,bS]
theorem zyb{h:zb}{x:za}{s:List UInt8}{R:List (List za)}(hx:SlX h 1 x (s.map bc) R)(K:za->Prop):(B.zhc h x K:Prop)=K (.str s):=by
 have h1:=hx.zjv;have h2:=hx.rdv;rw[length_map]at h1 h2;simp only[B.zhc,A.zhc,h1,h2,zzl]
@[simp] def zhl.cps(C:zh)(N:zN)(a b:za)(h:zb)(Q:zQ):Prop:=B.pv (V.bin .add a (.int .i64 7)) λc=>B.pv (V.bin .mul (.int .i64 1000003) c) λd=>B.pv (V.bin .add d b) λe=>Q e h
variable(C:zh)(N:Nat→Nat)
def zhl.Imp:Prop:=im2 C (N 20) (zhl.cps C N)
@[simp] def zfz.k3(Q:zQ)(a:za)(h:zb):Prop:=B.pv (V.zbi a) λc=>B.pv (V.bin .add c (.int .i64 12)) λd=>0<6 /\ B.mks h 56 (some [.int .i64 0,.str [],.int .i64 0,.int .i64 0,.int .i64 0,.bool false]) (.int .i64 0) d λe h=>B.zif h 6 56 e a λb h=>zd (zo2.l4 C 6 56 (N 77) [.int .i64 0,.str [],.int .i64 0,.int .i64 0,.int .i64 0,.bool false] 1 Q a) [b,(.int .i64 0)] h
def zfz.cps(a:za)(h:zb)(Q:zQ):Prop:=zfz.k3 C N Q a h
def zfz.Imp:Prop:=im1 C (N 48) (zfz.cps C N)
@[simp] def zez.k3(Q:zQ)(f a:za)(h:zb):Prop:=B.pv (V.zbi a) λc=>B.pv (V.bin .add c (.int .i64 12)) λd=>B.pv (V.zhj 6 f none (some d)) λe=>zd (zqu.l4 C 6 (N 77) [.i .i64,.s,.i .i64,.i .i64,.i .i64,.b] 1 Q a e) [(.int .i64 0)] h
@[simp] def zez.k4(Q:zQ)(a b:za)(h:zb):Prop:=B.pv (V.zbi a) λe=>B.pv (V.zbi b) λc=>B.pv (V.bin .neq e c) λd=>B.cond d (Q (.bool false) h) (zez.k3 C N Q a b h)
def zez.cps(a b:za)(h:zb)(Q:zQ):Prop:=zez.k4 C N Q a b h
def zez.Imp:Prop:=im2 C (N 54) (zez.cps C N)
@[simp] def zf6.k3(Q:zQ)(a:za)(h:zb):Prop:=B.pv (V.zbi a) λb=>B.pv (V.bin .add b (.int .i64 12)) λc=>B.pv (V.zhj 6 a none (some c)) λd=>zd (zn0.l3 C 6 (N 77) (λh p v K=>B.stn h p 6 v K) 2 Q d) [(.int .i64 0)] h
def zf6.cps(a:za)(h:zb)(Q:zQ):Prop:=zf6.k3 C N Q a h
def zf6.Imp:Prop:=im1 C (N 56) (zf6.cps C N)
@[simp] def ze0.k1(Q:zQ)(a:za)(h:zb):Prop:=B.nilCheck a λv4=>B.pv (V.fieldAddr 0 v4) λv5=>B.ld h v5 λv6=>B.call C (N 80) [v6] h λy h=>B.gd h y true (λK=>K a h) λv9 h=>B.gd h y true (λK=>B.nilCheck v9 λv=>K v h) λbv h=>B.gd h y true (λK=>B.pv (V.fieldAddr 1 bv) λv=>K v h) λbw h=>B.gd h y true (λK=>B.ld h bw λv=>K v h) λbx h=>B.gd h y true (λK=>B.call C (N 81) [bx] h K) λbz h=>B.pick y bz (.bool false) λk=>B.gd h k true (λK=>K a h) λca h=>B.gd h k true (λK=>B.nilCheck ca λv=>K v h) λcb h=>B.gd h k true (λK=>B.pv (V.fieldAddr 2 cb) λv=>K v h) λcc h=>B.gd h k true (λK=>B.ld h cc λv=>K v h) λcd h=>B.gd h k true (λK=>B.call C (N 82) [cd] h K) λce h=>B.pick k ce (.bool false) λl=>B.gd h l true (λK=>K a h) λcf h=>B.gd h l true (λK=>B.nilCheck cf λv=>K v h) λcg h=>B.gd h l true (λK=>B.pv (V.fieldAddr 3 cg) λv=>K v h) λch h=>B.gd h l true (λK=>B.ld h ch λv=>K v h) λci h=>B.gd h l true (λK=>B.call C (N 83) [ci] h K) λcj h=>B.pick l cj (.bool false) λm=>B.gd h m true (λK=>K a h) λck h=>B.gd h m true (λK=>B.nilCheck ck λv=>K v h) λcl h=>B.gd h m true (λK=>B.pv (V.fieldAddr 4 cl) λv=>K v h) λcm h=>B.gd h m true (λK=>B.ld h cm λv=>K v h) λcn h=>B.gd h m true (λK=>B.call C (N 84) [cn] h K) λco h=>B.pick m co (.bool false) λn=>B.gd h n true (λK=>K a h) λcp h=>B.gd h n true (λK=>B.nilCheck cp λv=>K v h) λcq h=>B.gd h n true (λK=>B.pv (V.fieldAddr 5 cq) λv=>K v h) λcr h=>B.gd h n true (λK=>B.ld h cr λv=>K v h) λcs h=>B.gd h n true (λK=>B.call C (N 85) [cs] h K) λct h=>B.pick n ct (.bool false) λo=>B.gd h o true (λK=>K a h) λcu h=>B.gd h o true (λK=>B.nilCheck cu λv=>K v h) λcv h=>B.gd h o true (λK=>B.pv (V.fieldAddr 6 cv) λv=>K v h) λcw h=>B.gd h o true (λK=>B.ld h cw λv=>K v h) λcx h=>B.gd h o true (λK=>B.call C (N 86) [cx] h K) λcy h=>B.pick o cy (.bool false) λp=>B.gd h p true (λK=>K a h) λcz h=>B.gd h p true (λK=>B.nilCheck cz λv=>K v h) λda h=>B.gd h p true (λK=>B.pv (V.fieldAddr 7 da) λv=>K v h) λdb h=>B.gd h p true (λK=>B.ld h db λv=>K v h) λdc h=>B.gd h p true (λK=>B.call C (N 87) [dc] h K) λdd h=>B.pick p dd (.bool false) λq=>B.gd h q true (λK=>K a h) λde h=>B.gd h q true (λK=>B.nilCheck de λv=>K v h) λdf h=>B.gd h q true (λK=>B.pv (V.fieldAddr 8 df) λv=>K v h) λdg h=>B.gd h q true (λK=>B.ld h dg λv=>K v h) λdh h=>B.gd h q true (λK=>B.call C (N 88) [dh] h K) λdi h=>B.pick q di (.bool false) λr=>B.gd h r true (λK=>K a h) λdj h=>B.gd h r true (λK=>B.nilCheck dj λv=>K v h) λdk h=>B.gd h r true (λK=>B.pv (V.fieldAddr 9 dk) λv=>K v h) λdl h=>B.gd h r true (λK=>B.ld h dl λv=>K v h) λdm h=>B.gd h r true (λK=>B.call C (N 89) [dm] h K) λdn h=>B.pick r dn (.bool false) λs=>B.gd h s true (λK=>K a h) λdp h=>B.gd h s true (λK=>B.nilCheck dp λv=>K v h) λdq h=>B.gd h s true (λK=>B.pv (V.fieldAddr 10 dq) λv=>K v h) λdr h=>B.gd h s true (λK=>B.ld h dr λv=>K v h) λds h=>B.gd h s true (λK=>B.call C (N 90) [ds] h K) λdt h=>B.pick s dt (.bool false) λt=>B.gd h t true (λK=>K a h) λdu h=>B.gd h t true (λK=>B.nilCheck du λv=>K v h) λdv h=>B.gd h t true (λK=>B.pv (V.fieldAddr 11 dv) λv=>K v h) λdw h=>B.gd h t true (λK=>B.ld h dw λv=>K v h) λdx h=>B.gd h t true (λK=>B.call C (N 91) [dx] h K) λdy h=>B.pick t dy (.bool false) λu=>B.gd h u true (λK=>K a h) λdz h=>B.gd h u true (λK=>B.nilCheck dz λv=>K v h) λea h=>B.gd h u true (λK=>B.pv (V.fieldAddr 12 ea) λv=>K v h) λeb h=>B.gd h u true (λK=>B.ld h eb λv=>K v h) λec h=>B.gd h u true (λK=>B.call C (N 92) [ec] h K) λed h=>B.pick u ed (.bool false) λw=>B.gd h w true (λK=>K a h) λee h=>B.gd h w true (λK=>B.nilCheck ee λv=>K v h) λef h=>B.gd h w true (λK=>B.pv (V.fieldAddr 13 ef) λv=>K v h) λeg h=>B.gd h w true (λK=>B.ld h eg λv=>K v h) λeh h=>B.gd h w true (λK=>B.call C (N 93) [eh] h K) λei h=>B.pick w ei (.bool false) λx=>B.gd h x true (λK=>K a h) λz h=>B.gd h x true (λK=>B.nilCheck z λv=>K v h) λaa h=>B.gd h x true (λK=>B.pv (V.fieldAddr 14 aa) λv=>K v h) λab h=>B.gd h x true (λK=>B.ld h ab λv=>K v h) λac h=>B.gd h x true (λK=>B.call C (N 94) [ac] h K) λad h=>B.pick x ad (.bool false) λb=>B.gd h b true (λK=>K a h) λae h=>B.gd h b true (λK=>B.nilCheck ae λv=>K v h) λaf h=>B.gd h b true (λK=>B.pv (V.fieldAddr 15 af) λv=>K v h) λag h=>B.gd h b true (λK=>B.ld h ag λv=>K v h) λah h=>B.gd h b true (λK=>B.call C (N 95) [ah] h K) λai h=>B.pick b ai (.bool false) λc=>B.gd h c true (λK=>K a h) λaj h=>B.gd h c true (λK=>B.nilCheck aj λv=>K v h) λak h=>B.gd h c true (λK=>B.pv (V.fieldAddr 16 ak) λv=>K v h) λal h=>B.gd h c true (λK=>B.ld h al λv=>K v h) λam h=>B.gd h c true (λK=>B.call C (N 96) [am] h K) λan h=>B.pick c an (.bool false) λd=>B.gd h d true (λK=>K a h) λao h=>B.gd h d true (λK=>B.nilCheck ao λv=>K v h) λap h=>B.gd h d true (λK=>B.pv (V.fieldAddr 17 ap) λv=>K v h) λaq h=>B.gd h d true (λK=>B.ld h aq λv=>K v h) λar h=>B.gd h d true (λK=>B.call C (N 97) [ar] h K) λau h=>B.pick d au (.bool false) λe=>B.gd h e true (λK=>K a h) λav h=>B.gd h e true (λK=>B.nilCheck av λv=>K v h) λaw h=>B.gd h e true (λK=>B.pv (V.fieldAddr 18 aw) λv=>K v h) λax h=>B.gd h e true (λK=>B.ld h ax λv=>K v h) λay h=>B.gd h e true (λK=>B.call C (N 98) [ay] h K) λaz h=>B.pick e az (.bool false) λf=>B.gd h f true (λK=>K a h) λba h=>B.gd h f true (λK=>B.nilCheck ba λv=>K v h) λbb h=>B.gd h f true (λK=>B.pv (V.fieldAddr 19 bb) λv=>K v h) λbc h=>B.gd h f true (λK=>B.ld h bc λv=>K v h) λbd h=>B.gd h f true (λK=>B.call C (N 99) [bd] h K) λbe h=>B.pick f be (.bool false) λg=>B.gd h g true (λK=>K a h) λbf h=>B.gd h g true (λK=>B.nilCheck bf λv=>K v h) λbg h=>B.gd h g true (λK=>B.pv (V.fieldAddr 20 bg) λv=>K v h) λbh h=>B.gd h g true (λK=>B.ld h bh λv=>K v h) λbi h=>B.gd h g true (λK=>B.call C (N 100) [bi] h K) λbj h=>B.pick g bj (.bool false) λi=>B.gd h i true (λK=>K a h) λbk h=>B.gd h i true (λK=>B.nilCheck bk λv=>K v h) λbl h=>B.gd h i true (λK=>B.pv (V.fieldAddr 21 bl) λv=>K v h) λbm h=>B.gd h i true (λK=>B.ld h bm λv=>K v h) λbn h=>B.gd h i true (λK=>B.call C (N 101) [bn] h K) λbo h=>B.pick i bo (.bool false) λj=>B.gd h j true (λK=>K a h) λbp h=>B.gd h j true (λK=>B.nilCheck bp λv=>K v h) λbq h=>B.gd h j true (λK=>B.pv (V.fieldAddr 22 bq) λv=>K v h) λbr h=>B.gd h j true (λK=>B.ld h br λv=>K v h) λbs h=>B.gd h j true (λK=>B.call C (N 102) [bs] h K) λbt h=>B.pick j bt (.bool false) λbu=>Q bu h
@[simp] def ze0.cps(a:za)(h:zb)(Q:zQ):Prop:=ze0.k1 C N Q a h
def ze0.Imp:Prop:=im1 C (N 62) (ze0.cps C N)
@[simp] def zfy.k3(C:zh)(N:zN)(Q:zQ)(a c:za)(h:zb):Prop:=B.pv (V.zbi a) λe=>B.pv (V.zbi c) λf=>B.pv (V.bin .neq e f) λd=>B.cond d (Q (.bool false) h) (zd (zql.l4 6 [.i .i64,.s,.i .i64,.i .i64,.i .i64,.b] Q a c) [(.int .i64 0)] h)
def zfy.cps(a b:za)(h:zb)(Q:zQ):Prop:=zfy.k3 C N Q a b h
def zfy.Imp:Prop:=im2 C (N 74) (zfy.cps C N)
@[simp] def zf4.k1(Q:zQ)(a b:za)(h:zb):Prop:=B.call C (N 20) [a,b] h λc h=>B.pv (A.bld [(0,none,c)] [.int .i64 0,.str [],.int .i64 0,.int .i64 0,.int .i64 0,.bool false]) λd=>B.pv (V.zqf 0 6 d (.agg [.int .i64 0,.str [],.int .i64 0,.int .i64 0,.int .i64 0,.bool false])) λe=>B.pv (oneOf (znl (V.ze5 0 6 e) (some []))) λv=>Q v h
@[simp] def zf4.cps(a b:za)(h:zb)(Q:zQ):Prop:=zf4.k1 C N Q a b h
def zf4.Imp:Prop:=im2 C (N 77) (zf4.cps C N)
def zgx.cps(a:za)(h:zb)(Q:zQ):Prop:=zd (zy.zph (zc7 16 (.str []) (N 106)) C Q a) [(.int .i64 0)] h
def zgx.Imp:Prop:=im1 C (N 83) (zgx.cps C N)
def zeu.cps(a:za)(h:zb)(Q:zQ):Prop:=zd (zy.zph (zc7 1 (.int .u8 0) (N 64)) C Q a) [(.int .i64 0)] h
def zeu.Imp:Prop:=im1 C (N 84) (zeu.cps C N)
def zbb.cps(a:za)(h:zb)(Q:zQ):Prop:=zd (zy.zph (ztv 2 16 [.int .i64 0,.int .i64 0] (N 18) [.i .i64,.i .i64]) C Q a) [(.int .i64 0)] h
def zbb.Imp:Prop:=im1 C (N 85) (zbb.cps C N)
def zb8.cps(a:za)(h:zb)(Q:zQ):Prop:=zd (zy.zph (ztv 6 56 [.int .i64 0,.str [],.int .i64 0,.int .i64 0,.int .i64 0,.bool false] (N 77) [.i .i64,.s,.i .i64,.i .i64,.i .i64,.b]) C Q a) [(.int .i64 0)] h
def zb8.Imp:Prop:=im1 C (N 86) (zb8.cps C N)
def zbl.cps(a:za)(h:zb)(Q:zQ):Prop:=zd (zy.zph (ztv 3 32 [.str [],.int .i64 0,.int .i64 0] (N 107) [.s,.i .i64,.i .i64]) C Q a) [(.int .i64 0)] h
def zbl.Imp:Prop:=im1 C (N 87) (zbl.cps C N)
def zbs.cps(a:za)(h:zb)(Q:zQ):Prop:=zd (zy.zph (ztv 3 24 [.int .i64 0,.int .i64 0,.int .i64 0] (N 78) [.i .i64,.i .i64,.i .i64]) C Q a) [(.int .i64 0)] h
def zbs.Imp:Prop:=im1 C (N 88) (zbs.cps C N)
def zbt.cps(a:za)(h:zb)(Q:zQ):Prop:=zd (zy.zph (ztv 2 24 [.str [],.int .i64 0] (N 108) [.s,.i .i64]) C Q a) [(.int .i64 0)] h
def zbt.Imp:Prop:=im1 C (N 89) (zbt.cps C N)
def zbk.cps(a:za)(h:zb)(Q:zQ):Prop:=zd (zy.zph (opsD C 4 72 [.str [],.int .i64 0,.zbj,.zbj] (N 109) (N 110)) C Q a) [(.int .i64 0)] h
def zbk.Imp:Prop:=im1 C (N 90) (zbk.cps C N)
def zbu.cps(a:za)(h:zb)(Q:zQ):Prop:=zd (zy.zph (ztv 8 80 [.int .i64 0,.str [],.int .i64 0,.int .i64 0,.int .i64 0,.int .u8 0,.int .i64 0,.str []] (N 111) [.i .i64,.s,.i .i64,.i .i64,.i .i64,.i .u8,.i .i64,.s]) C Q a) [(.int .i64 0)] h
def zbu.Imp:Prop:=im1 C (N 91) (zbu.cps C N)
def zbc.cps(a:za)(h:zb)(Q:zQ):Prop:=zd (zy.zph (opsD C 6 96 [.int .i64 0,.int .i64 0,.int .i64 0,.zbj,.zbj,.zbj] (N 115) (N 116)) C Q a) [(.int .i64 0)] h
def zbc.Imp:Prop:=im1 C (N 94) (zbc.cps C N)
@[simp] def zfc.k1(C:zh)(N:zN)(Q:zQ)(a b:za)(h:zb):Prop:=B.pv (V.toInt .u8 a) λm=>B.pv (V.bin .shr a (.int .u64 8)) λn=>B.pv (V.toInt .u8 n) λo=>B.pv (V.bin .shr a (.int .u64 16)) λc=>B.pv (V.toInt .u8 c) λd=>B.pv (V.toInt .u8 b) λe=>B.pv (V.bin .shr b (.int .u64 8)) λf=>B.pv (V.toInt .u8 f) λg=>B.pv (V.bin .shr b (.int .u64 16)) λi=>B.pv (V.toInt .u8 i) λj=>B.zg1 h (zed [(0,none,(.int .u8 35)),(1,none,m),(2,none,o),(3,none,d),(4,none,(.int .u8 47)),(5,none,e),(6,none,g),(7,none,j)] (zfs 8 [.int .u8 0])) λk h=>B.zhc h (.sl k 0 0 8 1 8) λl=>Q l h
@[simp] def zfc.cps(a b:za)(h:zb)(Q:zQ):Prop:=zfc.k1 C N Q a b h
def zfc.Imp:Prop:=im2 C (N 106) (zfc.cps C N)
@[simp] def zfd.k1(Q:zQ)(a b:za)(h:zb):Prop:=B.call C (N 20) [a,b] h λc h=>B.pv (A.bld [(1,none,c)] [.str [],.int .i64 0]) λd=>B.pv (V.zqf 0 2 d (.agg [.str [],.int .i64 0])) λe=>B.pv (oneOf (znl (V.ze5 0 2 e) (some []))) λv=>Q v h
@[simp] def zfd.cps(a b:za)(h:zb)(Q:zQ):Prop:=zfd.k1 C N Q a b h
def zfd.Imp:Prop:=im2 C (N 108) (zfd.cps C N)
@[simp] def zff.k1(Q:zQ)(a b:za)(h:zb):Prop:=B.call C (N 20) [a,b] h λc h=>B.pv (A.bld [(1,none,c)] [.str [],.int .i64 0,.zbj,.zbj]) λd=>B.pv (V.zqf 0 4 d (.agg [.str [],.int .i64 0,.zbj,.zbj])) λe=>B.pv (oneOf (znl (V.ze5 0 4 e) (some []))) λv=>Q v h
@[simp] def zff.cps(a b:za)(h:zb)(Q:zQ):Prop:=zff.k1 C N Q a b h
def zff.Imp:Prop:=im2 C (N 109) (zff.cps C N)
@[simp] def zfg.k1(Q:zQ)(q r:za)(h:zb):Prop:=B.pv (A.zs2 4 q) λc=>B.pv (A.zs2 4 r) λd=>B.al c (B.pv (V.zcc 0 c) λs=>B.al d (B.pv (V.zcc 0 d) λt=>B.pv (V.bin .eql s t) λe=>B.al c (B.gd h e true (λK=>K .undef h) λ_ h=>B.gd h e true (λK=>B.pv (V.zcc 1 c) λv=>K v h) λf h=>B.al d (B.gd h e true (λK=>K .undef h) λ_ h=>B.gd h e true (λK=>B.pv (V.zcc 1 d) λv=>K v h) λg h=>B.gd h e true (λK=>B.pv (V.bin .eql f g) λv=>K v h) λi h=>B.pick e i (.bool false) λa=>B.al c (B.gd h a true (λK=>K .undef h) λ_ h=>B.gd h a true (λK=>B.pv (V.zcc 2 c) λv=>K v h) λj h=>B.al d (B.gd h a true (λK=>K .undef h) λ_ h=>B.gd h a true (λK=>B.pv (V.zcc 2 d) λv=>K v h) λk h=>B.gd h a true (λK=>B.call C (N 132) [j,k] h K) λl h=>B.pick a l (.bool false) λb=>B.al c (B.gd h b true (λK=>K .undef h) λ_ h=>B.gd h b true (λK=>B.pv (V.zcc 3 c) λv=>K v h) λm h=>B.al d (B.gd h b true (λK=>K .undef h) λ_ h=>B.gd h b true (λK=>B.pv (V.zcc 3 d) λv=>K v h) λn h=>B.gd h b true (λK=>B.call C (N 133) [m,n] h K) λo h=>B.pick b o (.bool false) λp=>Q p h))))))))
@[simp] def zfg.cps(a b:za)(h:zb)(Q:zQ):Prop:=zfg.k1 C N Q a b h
def zfg.Imp:Prop:=im2 C (N 110) (zfg.cps C N)
@[simp] def zfe.k1(Q:zQ)(a b:za)(h:zb):Prop:=B.call C (N 20) [a,b] h λc h=>B.pv (A.bld [(0,none,c)] [.int .i64 0,.str [],.int .i64 0,.int .i64 0,.int .i64 0,.int .u8 0,.int .i64 0,.str []]) λd=>B.pv (V.zqf 0 8 d (.agg [.int .i64 0,.str [],.int .i64 0,.int .i64 0,.int .i64 0,.int .u8 0,.int .i64 0,.str []])) λe=>B.pv (oneOf (znl (V.ze5 0 8 e) (some []))) λv=>Q v h
@[simp] def zfe.cps(a b:za)(h:zb)(Q:zQ):Prop:=zfe.k1 C N Q a b h
def zfe.Imp:Prop:=im2 C (N 111) (zfe.cps C N)
@[simp] def zfj.k1(Q:zQ)(a b:za)(h:zb):Prop:=B.call C (N 20) [a,b] h λc h=>B.pv (A.bld [(0,none,c)] [.int .i64 0,.int .i64 0,.int .i64 0,.zbj,.zbj,.zbj]) λd=>B.pv (V.zqf 0 6 d (.agg [.int .i64 0,.int .i64 0,.int .i64 0,.zbj,.zbj,.zbj])) λe=>B.pv (oneOf (znl (V.ze5 0 6 e) (some []))) λv=>Q v h
@[simp] def zfj.cps(a b:za)(h:zb)(Q:zQ):Prop:=zfj.k1 C N Q a b h
def zfj.Imp:Prop:=im2 C (N 115) (zfj.cps C N)
@[simp] def zev.k1(Q:zQ)(z v1:za)(h:zb):Prop:=B.pv (A.zs2 6 z) λa=>B.pv (A.zs2 6 v1) λb=>B.al a (B.pv (V.zcc 0 a) λv6=>B.al b (B.pv (V.zcc 0 b) λv8=>B.pv (V.bin .eql v6 v8) λg=>B.al a (B.gd h g true (λK=>K .undef h) λ_ h=>B.gd h g true (λK=>B.pv (V.zcc 1 a) λv=>K v h) λi h=>B.al b (B.gd h g true (λK=>K .undef h) λ_ h=>B.gd h g true (λK=>B.pv (V.zcc 1 b) λv=>K v h) λj h=>B.gd h g true (λK=>B.pv (V.bin .eql i j) λv=>K v h) λk h=>B.pick g k (.bool false) λc=>B.al a (B.gd h c true (λK=>K .undef h) λ_ h=>B.gd h c true (λK=>B.pv (V.zcc 2 a) λv=>K v h) λl h=>B.al b (B.gd h c true (λK=>K .undef h) λ_ h=>B.gd h c true (λK=>B.pv (V.zcc 2 b) λv=>K v h) λm h=>B.gd h c true (λK=>B.pv (V.bin .eql l m) λv=>K v h) λn h=>B.pick c n (.bool false) λd=>B.al a (B.gd h d true (λK=>K .undef h) λ_ h=>B.gd h d true (λK=>B.pv (V.zcc 3 a) λv=>K v h) λo h=>B.al b (B.gd h d true (λK=>K .undef h) λ_ h=>B.gd h d true (λK=>B.pv (V.zcc 3 b) λv=>K v h) λp h=>B.gd h d true (λK=>B.call C (N 134) [o,p] h K) λq h=>B.pick d q (.bool false) λe=>B.al a (B.gd h e true (λK=>K .undef h) λ_ h=>B.gd h e true (λK=>B.pv (V.zcc 4 a) λv=>K v h) λr h=>B.al b (B.gd h e true (λK=>K .undef h) λ_ h=>B.gd h e true (λK=>B.pv (V.zcc 4 b) λv=>K v h) λs h=>B.gd h e true (λK=>B.call C (N 74) [r,s] h K) λt h=>B.pick e t (.bool false) λf=>B.al a (B.gd h f true (λK=>K .undef h) λ_ h=>B.gd h f true (λK=>B.pv (V.zcc 5 a) λv=>K v h) λu h=>B.al b (B.gd h f true (λK=>K .undef h) λ_ h=>B.gd h f true (λK=>B.pv (V.zcc 5 b) λv=>K v h) λw h=>B.gd h f true (λK=>B.call C (N 135) [u,w] h K) λx h=>B.pick f x (.bool false) λy=>Q y h))))))))))))
@[simp] def zev.cps(a b:za)(h:zb)(Q:zQ):Prop:=zev.k1 C N Q a b h
def zev.Imp:Prop:=im2 C (N 116) (zev.cps C N)
@[simp] def zfu.k1(C:zh)(N:zN)(Q:zQ)(a f:za)(h:zb):Prop:=B.nilCheck a λg=>B.pv (V.fieldAddr 6 g) λi=>B.ld h i λj=>B.zg1 h (zed [(0,none,f)] (zfs 1 [.zbj])) λb h=>B.zif h 1 24 j (.sl b 0 0 1 1 1) λc h=>B.nilCheck a λd=>B.pv (V.fieldAddr 6 d) λe=>B.st h e c λh=>Q (.tup []) h
@[simp] def zfu.cps(a b:za)(h:zb)(Q:zQ):Prop:=zfu.k1 C N Q a b h
def zfu.Imp:Prop:=im2 C (N 130) (zfu.cps C N)
@[simp] def ze1.k3(C:zh)(N:zN)(Q:zQ)(a b:za)(h:zb):Prop:=B.pv (V.zbi a) λd=>B.pv (V.zbi b) λe=>B.pv (V.bin .neq d e) λc=>B.cond c (Q (.bool false) h) (zd (zql.l4 2 [.s,.i .i64] Q a b) [(.int .i64 0)] h)
def ze1.cps(a b:za)(h:zb)(Q:zQ):Prop:=ze1.k3 C N Q a b h
def ze1.Imp:Prop:=im2 C (N 132) (ze1.cps C N)
@[simp] def zef.k3(C:zh)(N:zN)(Q:zQ)(a b:za)(h:zb):Prop:=B.pv (V.zbi a) λd=>B.pv (V.zbi b) λe=>B.pv (V.bin .neq d e) λc=>B.cond c (Q (.bool false) h) (zd (zyh.l4  Q a b) [(.int .i64 0)] h)
def zef.cps(a b:za)(h:zb)(Q:zQ):Prop:=zef.k3 C N Q a b h
def zef.Imp:Prop:=im2 C (N 133) (zef.cps C N)
@[simp] def zd4.k1(Q:zQ)(Y1:zL)(b m a:za)(h:zb):Prop:=B.pv (V.zbi b) λc=>B.pv (V.bin .lss a c) λd=>B.cond d (B.pv (V.zb3 4 b a) λe=>B.ldn h e 4 λf=>B.pv (V.zb3 4 m a) λg=>B.ldn h g 4 λi=>B.call C (N 110) [f,i] h λj h=>B.pv (V.un .not j) λk=>B.cond k (Q (.bool false) h) (B.pv (V.bin .add a (.int .i64 1)) λl=>Y1 [l] h)) (Q (.bool true) h)
@[simp] def zd4.l2(Q:zQ)(a b:za):zG|[c],h,Y1=>zd4.k1 C N Q Y1 a b c h|_,_,_=>False
@[simp] def zd4.k3(Q:zQ)(a b:za)(h:zb):Prop:=B.pv (V.zbi a) λd=>B.pv (V.zbi b) λe=>B.pv (V.bin .neq d e) λc=>B.cond c (Q (.bool false) h) (zd (zd4.l2 C N Q a b) [(.int .i64 0)] h)
@[simp] def zd4.cps(a b:za)(h:zb)(Q:zQ):Prop:=zd4.k3 C N Q a b h
def zd4.Imp:Prop:=im2 C (N 134) (zd4.cps C N)
@[simp] def ze2.k3(C:zh)(N:zN)(Q:zQ)(a b:za)(h:zb):Prop:=B.pv (V.zbi a) λd=>B.pv (V.zbi b) λe=>B.pv (V.bin .neq d e) λc=>B.cond c (Q (.bool false) h) (zd (zql.l4 8 [.i .i64,.s,.i .i64,.i .i64,.i .i64,.i .u8,.i .i64,.s] Q a b) [(.int .i64 0)] h)
def ze2.cps(a b:za)(h:zb)(Q:zQ):Prop:=ze2.k3 C N Q a b h
def ze2.Imp:Prop:=im2 C (N 135) (ze2.cps C N)
@[simp] def ze4.k3(Q:zQ)(a:za)(h:zb):Prop:=B.pv (V.zbi a) λc=>B.pv (V.bin .add c (.int .i64 12)) λd=>0<8 /\ B.mks h 80 (some [.int .i64 0,.str [],.int .i64 0,.int .i64 0,.int .i64 0,.int .u8 0,.int .i64 0,.str []]) (.int .i64 0) d λe h=>B.zif h 8 80 e a λb h=>zd (zo2.l4 C 8 80 (N 111) [.int .i64 0,.str [],.int .i64 0,.int .i64 0,.int .i64 0,.int .u8 0,.int .i64 0,.str []] 1 Q a) [b,(.int .i64 0)] h
def ze4.cps(a:za)(h:zb)(Q:zQ):Prop:=ze4.k3 C N Q a h
def ze4.Imp:Prop:=im1 C (N 186) (ze4.cps C N)
@[simp] def zem.k3(Q:zQ)(e a:za)(h:zb):Prop:=B.pv (V.zbi a) λb=>B.pv (V.bin .add b (.int .i64 12)) λc=>B.pv (V.zhj 8 e none (some c)) λd=>zd (zqu.l4 C 8 (N 111) [.i .i64,.s,.i .i64,.i .i64,.i .i64,.i .u8,.i .i64,.s] 1 Q a d) [(.int .i64 0)] h
@[simp] def zem.k4(Q:zQ)(a b:za)(h:zb):Prop:=B.pv (V.zbi a) λe=>B.pv (V.zbi b) λc=>B.pv (V.bin .neq e c) λd=>B.cond d (Q (.bool false) h) (zem.k3 C N Q a b h)
def zem.cps(a b:za)(h:zb)(Q:zQ):Prop:=zem.k4 C N Q a b h
def zem.Imp:Prop:=im2 C (N 189) (zem.cps C N)
@[simp] def zfm.k3(Q:zQ)(a:za)(h:zb):Prop:=B.pv (V.zbi a) λb=>B.pv (V.bin .add b (.int .i64 12)) λc=>B.pv (V.zhj 8 a none (some c)) λd=>zd (zn0.l3 C 8 (N 111) (λh p v K=>B.stn h p 8 v K) 2 Q d) [(.int .i64 0)] h
def zfm.cps(a:za)(h:zb)(Q:zQ):Prop:=zfm.k3 C N Q a h
def zfm.Imp:Prop:=im1 C (N 190) (zfm.cps C N)
@[simp] def zfa.k1(C:zh)(N:zN)(Q:zQ)(a f:za)(h:zb):Prop:=B.nilCheck a λg=>B.pv (V.fieldAddr 11 g) λi=>B.ld h i λj=>B.zg1 h (zed [(0,none,f)] (zfs 1 [.zbj])) λb h=>B.zif h 1 24 j (.sl b 0 0 1 1 1) λc h=>B.nilCheck a λd=>B.pv (V.fieldAddr 11 d) λe=>B.st h e c λh=>Q (.tup []) h
@[simp] def zfa.cps(a b:za)(h:zb)(Q:zQ):Prop:=zfa.k1 C N Q a b h
def zfa.Imp:Prop:=im2 C (N 207) (zfa.cps C N)
@[simp] def ze3.k3(Q:zQ)(a:za)(h:zb):Prop:=B.pv (V.zbi a) λc=>B.pv (V.bin .add c (.int .i64 12)) λd=>0<2 /\ B.mks h 24 (some [.str [],.int .i64 0]) (.int .i64 0) d λe h=>B.zif h 2 24 e a λb h=>zd (zo2.l4 C 2 24 (N 108) [.str [],.int .i64 0] 1 Q a) [b,(.int .i64 0)] h
def ze3.cps(a:za)(h:zb)(Q:zQ):Prop:=ze3.k3 C N Q a h
def ze3.Imp:Prop:=im1 C (N 319) (ze3.cps C N)
@[simp] def zel.k3(Q:zQ)(e a:za)(h:zb):Prop:=B.pv (V.zbi a) λb=>B.pv (V.bin .add b (.int .i64 12)) λc=>B.pv (V.zhj 2 e none (some c)) λd=>zd (zqu.l4 C 2 (N 108) [.s,.i .i64] 1 Q a d) [(.int .i64 0)] h
@[simp] def zel.k4(Q:zQ)(a b:za)(h:zb):Prop:=B.pv (V.zbi a) λe=>B.pv (V.zbi b) λc=>B.pv (V.bin .neq e c) λd=>B.cond d (Q (.bool false) h) (zel.k3 C N Q a b h)
def zel.cps(a b:za)(h:zb)(Q:zQ):Prop:=zel.k4 C N Q a b h
def zel.Imp:Prop:=im2 C (N 324) (zel.cps C N)
@[simp] def zc0.k1(Q:zQ)(Y1:zL)(k b a:za)(h:zb):Prop:=B.pv (V.bin .lss a (.int .i64 12)) λc=>B.cond c (B.call C (N 109) [(.int .i64 1),a] h λd h=>B.zg1 h (zed [(0,some 4,d)] (zfs 1 [.str [],.int .i64 0,.zbj,.zbj])) λe h=>B.zif h 4 72 b (.sl e 0 0 1 4 1) λf h=>B.pv (V.bin .add a (.int .i64 1)) λg=>Y1 [f,g] h) (B.pv (V.zbi k) λi=>B.pv (V.zhj 4 b none (some i)) λj=>Q j h)
@[simp] def zc0.l2(Q:zQ)(a:za):zG|[b,c],h,Y1=>zc0.k1 C N Q Y1 a b c h|_,_,_=>False
@[simp] def zc0.k3(Q:zQ)(Y2:zL)(a c b:za)(h:zb):Prop:=B.pv (V.zbi a) λd=>B.pv (V.bin .lss b d) λe=>B.cond e (B.pv (V.zb3 4 a b) λf=>B.ldn h f 4 λg=>B.call C (N 399) [g] h λi h=>B.pv (V.zqf 0 4 i (.agg [.str [],.int .i64 0,.zbj,.zbj])) λn=>B.pv (V.ze5 0 4 n) λj=>B.zg1 h (zed [(0,some 4,j)] (zfs 1 [.str [],.int .i64 0,.zbj,.zbj])) λk h=>B.zif h 4 72 c (.sl k 0 0 1 4 1) λl h=>B.pv (V.bin .add b (.int .i64 1)) λm=>Y2 [l,m] h) (zd (zc0.l2 C N Q a) [c,(.int .i64 0)] h)
@[simp] def zc0.l4(Q:zQ)(a:za):zG|[b,c],h,Y2=>zc0.k3 C N Q Y2 a b c h|_,_,_=>False
@[simp] def zc0.k5(Q:zQ)(a:za)(h:zb):Prop:=B.pv (V.zbi a) λc=>B.pv (V.bin .add c (.int .i64 12)) λd=>0<4 /\ B.mks h 72 (some [.str [],.int .i64 0,.zbj,.zbj]) (.int .i64 0) d λb h=>zd (zc0.l4 C N Q a) [b,(.int .i64 0)] h
@[simp] def zc0.cps(a:za)(h:zb)(Q:zQ):Prop:=zc0.k5 C N Q a h
def zc0.Imp:Prop:=im1 C (N 391) (zc0.cps C N)
@[simp] def zdg.k1(Q:zQ)(Y1:zL)(e g d:za)(h:zb):Prop:=B.pv (V.zbi g) λi=>B.pv (V.bin .lss d i) λj=>B.cond j (B.pv (V.zbi e) λk=>B.pv (V.bin .lss d k) λb=>B.gd h b true (λK=>K g h) λl h=>B.gd h b true (λK=>K d h) λm h=>B.gd h b true (λK=>B.pv (V.zb3 4 l m) λv=>K v h) λn h=>B.gd h b true (λK=>B.ldn h n 4 λv=>K v h) λo h=>B.gd h b true (λK=>K e h) λp h=>B.gd h b true (λK=>K d h) λq h=>B.gd h b true (λK=>B.pv (V.zb3 4 p q) λv=>K v h) λr h=>B.gd h b true (λK=>B.ldn h r 4 λv=>K v h) λs h=>B.gd h b true (λK=>B.call C (N 400) [o,s] h K) λt h=>B.gd h b true (λK=>B.pv (V.un .not t) λv=>K v h) λu h=>B.pick b u (.bool false) λc=>B.gd h c false (λK=>K d h) λw h=>B.gd h c false (λK=>K e h) λx h=>B.gd h c false (λK=>B.pv (V.zbi x) λv=>K v h) λy h=>B.gd h c false (λK=>B.pv (V.bin .geq w y) λv=>K v h) λz h=>B.gd h c false (λK=>K z h) λa h=>B.gd h a true (λK=>K g h) λaa h=>B.gd h a true (λK=>K d h) λab h=>B.gd h a true (λK=>B.pv (V.zb3 4 aa ab) λv=>K v h) λf h=>B.gd h a true (λK=>B.ldn h f 4 λv=>K v h) λac h=>B.gd h a true (λK=>K d h) λad h=>B.gd h a true (λK=>K e h) λae h=>B.gd h a true (λK=>B.pv (V.zbi ae) λv=>K v h) λaf h=>B.gd h a true (λK=>B.pv (V.bin .sub ad af) λv=>K v h) λag h=>B.gd h a true (λK=>B.call C (N 109) [(.int .i64 1),ag] h (B.zpl h [(f,some 4)] K)) λah h=>B.gd h a true (λK=>B.call C (N 110) [ac,ah] h K) λai h=>B.gd h a true (λK=>B.pv (V.un .not ai) λv=>K v h) λaj h=>B.gd h c false (λK=>B.pick a aj (.bool false) λv=>K v h) λak h=>B.pick c (.bool true) ak λal=>B.cond al (Q (.bool false) h) (B.pv (V.bin .add d (.int .i64 1)) λam=>Y1 [am] h)) (Q (.bool true) h)
@[simp] def zdg.l2(Q:zQ)(a b:za):zG|[c],h,Y1=>zdg.k1 C N Q Y1 a b c h|_,_,_=>False
@[simp] def zdg.k3(Q:zQ)(e a:za)(h:zb):Prop:=B.pv (V.zbi a) λb=>B.pv (V.bin .add b (.int .i64 12)) λc=>B.pv (V.zhj 4 e none (some c)) λd=>zd (zdg.l2 C N Q a d) [(.int .i64 0)] h
@[simp] def zdg.k4(Q:zQ)(a b:za)(h:zb):Prop:=B.pv (V.zbi a) λe=>B.pv (V.zbi b) λc=>B.pv (V.bin .neq e c) λd=>B.cond d (Q (.bool false) h) (zdg.k3 C N Q a b h)
@[simp] def zdg.cps(a b:za)(h:zb)(Q:zQ):Prop:=zdg.k4 C N Q a b h
def zdg.Imp:Prop:=im2 C (N 392) (zdg.cps C N)
@[simp] def zc3.k1(Q:zQ)(Y1:zL)(b a:za)(h:zb):Prop:=B.pv (V.zbi b) λc=>B.pv (V.bin .lss a c) λd=>B.cond d (B.call C (N 109) [(.int .i64 2),a] h λe h=>B.pv (V.zb3 4 b a) λf=>B.stn h f 4 e λh=>B.pv (V.bin .add a (.int .i64 1)) λg=>Y1 [g] h) (Q (.tup []) h)
@[simp] def zc3.l2(Q:zQ)(a:za):zG|[b],h,Y1=>zc3.k1 C N Q Y1 a b h|_,_,_=>False
@[simp] def zc3.k3(Q:zQ)(a:za)(h:zb):Prop:=B.pv (V.zbi a) λb=>B.pv (V.bin .add b (.int .i64 12)) λc=>B.pv (V.zhj 4 a none (some c)) λd=>zd (zc3.l2 C N Q d) [(.int .i64 0)] h
@[simp] def zc3.k4(Q:zQ)(Y2:zL)(a b:za)(h:zb):Prop:=B.pv (V.zbi a) λf=>B.pv (V.bin .lss b f) λg=>B.cond g (B.pv (V.zb3 4 a b) λc=>B.ldn h c 4 λd=>B.call C (N 401) [d] h λi h=>B.pv (V.bin .add b (.int .i64 1)) λe=>Y2 [e] h) (zc3.k3 C N Q a h)
@[simp] def zc3.l5(Q:zQ)(a:za):zG|[b],h,Y2=>zc3.k4 C N Q Y2 a b h|_,_,_=>False
@[simp] def zc3.cps(a:za)(h:zb)(Q:zQ):Prop:=zd (zc3.l5 C N Q a) [(.int .i64 0)] h
def zc3.Imp:Prop:=im1 C (N 393) (zc3.cps C N)
@[simp] def zd7.k1(Q:zQ)(Y1:zL)(b c a:za)(h:zb):Prop:=B.pv (V.zbi b) λj=>B.pv (V.bin .lss a j) λd=>B.cond d (B.pv (V.zb3 1 b a) λe=>B.ld h e λf=>B.call C (N 405) [c,f] h λk h=>B.pv (V.bin .add a (.int .i64 1)) λg=>Y1 [g] h) (B.call C (N 62) [c] h λi h=>Q i h)
@[simp] def zd7.l2(Q:zQ)(a b:za):zG|[c],h,Y1=>zd7.k1 C N Q Y1 a b c h|_,_,_=>False
@[simp] def zd7.k3(Q:zQ)(a:za)(h:zb):Prop:=B.pv (A.bld [] [.zbj,.zbj,.zbj,.zbj,.zbj,.zbj,.zbj,.zbj,.zbj,.zbj,.zbj,.zbj,.zbj,.zbj,.zbj,.zbj,.zbj,.zbj,.zbj,.zbj,.zbj,.zbj,.zbj]) λb=>B.zg1 h (A.zpp 23 b) λc h=>zd (zd7.l2 C N Q a (.ptr c 0 0)) [(.int .i64 0)] h
@[simp] def zd7.cps(a:za)(h:zb)(Q:zQ):Prop:=zd7.k3 C N Q a h
def zd7.Imp:Prop:=im1 C (N 396) (zd7.cps C N)
@[simp] def zf8.k1(Q:zQ)(c:za)(h:zb):Prop:=B.pv (A.zs2 4 c) λa=>B.al a (B.pv (V.zcc 2 a) λd=>B.call C (N 319) [d] h λe h=>B.al a (B.pv (V.zye 2 e a) λa=>B.al a (B.pv (V.zcc 3 a) λf=>B.call C (N 406) [f] h λg h=>B.al a (B.pv (V.zye 3 g a) λa=>B.pv (V.ze5 0 4 a) λb=>B.pv (V.zqf 0 4 b (.agg [.str [],.int .i64 0,.zbj,.zbj])) λi=>B.pv (oneOf (znl (V.ze5 0 4 i) (some []))) λv=>Q v h))))
@[simp] def zf8.cps(a:za)(h:zb)(Q:zQ):Prop:=zf8.k1 C N Q a h
def zf8.Imp:Prop:=im1 C (N 399) (zf8.cps C N)
@[simp] def zf9.k1(Q:zQ)(m n:za)(h:zb):Prop:=B.pv (A.zs2 4 m) λc=>B.pv (A.zs2 4 n) λd=>B.pv (V.ze5 0 4 c) λo=>B.pv (V.ze5 0 4 d) λp=>B.call C (N 110) [o,p] h λb h=>B.al c (B.gd h b true (λK=>K .undef h) λ_ h=>B.gd h b true (λK=>B.pv (V.zcc 2 c) λv=>K v h) λe h=>B.al d (B.gd h b true (λK=>K .undef h) λ_ h=>B.gd h b true (λK=>B.pv (V.zcc 2 d) λv=>K v h) λf h=>B.gd h b true (λK=>B.call C (N 324) [e,f] h K) λg h=>B.pick b g (.bool false) λa=>B.al c (B.gd h a true (λK=>K .undef h) λ_ h=>B.gd h a true (λK=>B.pv (V.zcc 3 c) λv=>K v h) λi h=>B.al d (B.gd h a true (λK=>K .undef h) λ_ h=>B.gd h a true (λK=>B.pv (V.zcc 3 d) λv=>K v h) λj h=>B.gd h a true (λK=>B.call C (N 407) [i,j] h K) λk h=>B.pick a k (.bool false) λl=>Q l h))))
@[simp] def zf9.cps(a b:za)(h:zb)(Q:zQ):Prop:=zf9.k1 C N Q a b h
def zf9.Imp:Prop:=im2 C (N 400) (zf9.cps C N)
@[simp] def zf7.k1(Q:zQ)(b:za)(h:zb):Prop:=B.pv (A.zs2 4 b) λa=>B.al a (B.pv (V.zcc 2 a) λc=>B.call C (N 408) [c] h λe h=>B.al a (B.pv (V.zcc 3 a) λd=>B.call C (N 409) [d] h λf h=>Q (.tup []) h))
@[simp] def zf7.cps(a:za)(h:zb)(Q:zQ):Prop:=zf7.k1 C N Q a h
def zf7.Imp:Prop:=im1 C (N 401) (zf7.cps C N)
@[simp] def ze8.k1(C:zh)(N:zN)(Q:zQ)(a f:za)(h:zb):Prop:=B.nilCheck a λg=>B.pv (V.fieldAddr 3 g) λi=>B.ld h i λj=>B.zg1 h (zed [(0,none,f)] (zfs 1 [.zbj])) λb h=>B.zif h 1 24 j (.sl b 0 0 1 1 1) λc h=>B.nilCheck a λd=>B.pv (V.fieldAddr 3 d) λe=>B.st h e c λh=>Q (.tup []) h
@[simp] def ze8.cps(a b:za)(h:zb)(Q:zQ):Prop:=ze8.k1 C N Q a b h
def ze8.Imp:Prop:=im2 C (N 405) (ze8.cps C N)
@[simp] def zeq.k3(Q:zQ)(a:za)(h:zb):Prop:=B.pv (V.zbi a) λc=>B.pv (V.bin .add c (.int .i64 12)) λd=>0<1 /\ B.mks h 16 (some [.str []]) (.int .i64 0) d λe h=>B.zif h 1 16 e a λb h=>zd (zwc.l4 C 16 (N 106) (.str []) 1 Q a) [b,(.int .i64 0)] h
def zeq.cps(a:za)(h:zb)(Q:zQ):Prop:=zeq.k3 C N Q a h
def zeq.Imp:Prop:=im1 C (N 406) (zeq.cps C N)
@[simp] def zec.k3(Q:zQ)(e a:za)(h:zb):Prop:=B.pv (V.zbi a) λb=>B.pv (V.bin .add b (.int .i64 12)) λc=>B.pv (V.zhj 1 e none (some c)) λd=>zd (zxz.l4 C (N 106) 1 Q a d) [(.int .i64 0)] h
@[simp] def zec.k4(Q:zQ)(a b:za)(h:zb):Prop:=B.pv (V.zbi a) λe=>B.pv (V.zbi b) λc=>B.pv (V.bin .neq e c) λd=>B.cond d (Q (.bool false) h) (zec.k3 C N Q a b h)
def zec.cps(a b:za)(h:zb)(Q:zQ):Prop:=zec.k4 C N Q a b h
def zec.Imp:Prop:=im2 C (N 407) (zec.cps C N)
@[simp] def zfl.k3(Q:zQ)(a:za)(h:zb):Prop:=B.pv (V.zbi a) λb=>B.pv (V.bin .add b (.int .i64 12)) λc=>B.pv (V.zhj 2 a none (some c)) λd=>zd (zn0.l3 C 2 (N 108) (λh p v K=>B.stn h p 2 v K) 2 Q d) [(.int .i64 0)] h
def zfl.cps(a:za)(h:zb)(Q:zQ):Prop:=zfl.k3 C N Q a h
def zfl.Imp:Prop:=im1 C (N 408) (zfl.cps C N)
@[simp] def zew.k3(Q:zQ)(a:za)(h:zb):Prop:=B.pv (V.zbi a) λb=>B.pv (V.bin .add b (.int .i64 12)) λc=>B.pv (V.zhj 1 a none (some c)) λd=>zd (zn0.l3 C 1 (N 106) (λh p v K=>B.st h p v K) 2 Q d) [(.int .i64 0)] h
def zew.cps(a:za)(h:zb)(Q:zQ):Prop:=zew.k3 C N Q a h
def zew.Imp:Prop:=im1 C (N 409) (zew.cps C N)
@[simp] def zfn.k1(Q:zQ)(e:za)(h:zb):Prop:=B.pv (A.zs2 6 e) λa=>B.al a (B.pv (V.zcc 3 a) λf=>B.call C (N 391) [f] h λg h=>B.al a (B.pv (V.zye 3 g a) λa=>B.al a (B.pv (V.zcc 4 a) λi=>B.call C (N 48) [i] h λj h=>B.al a (B.pv (V.zye 4 j a) λa=>B.al a (B.pv (V.zcc 5 a) λb=>B.call C (N 186) [b] h λc h=>B.al a (B.pv (V.zye 5 c a) λa=>B.pv (V.ze5 0 6 a) λd=>B.pv (V.zqf 0 6 d (.agg [.int .i64 0,.int .i64 0,.int .i64 0,.zbj,.zbj,.zbj])) λk=>B.pv (oneOf (znl (V.ze5 0 6 k) (some []))) λv=>Q v h))))))
@[simp] def zfn.cps(a:za)(h:zb)(Q:zQ):Prop:=zfn.k1 C N Q a h
def zfn.Imp:Prop:=im1 C (N 446) (zfn.cps C N)
@[simp] def zfo.k1(Q:zQ)(q r:za)(h:zb):Prop:=B.pv (A.zs2 6 q) λc=>B.pv (A.zs2 6 r) λd=>B.pv (V.ze5 0 6 c) λs=>B.pv (V.ze5 0 6 d) λt=>B.call C (N 116) [s,t] h λe h=>B.al c (B.gd h e true (λK=>K .undef h) λ_ h=>B.gd h e true (λK=>B.pv (V.zcc 3 c) λv=>K v h) λf h=>B.al d (B.gd h e true (λK=>K .undef h) λ_ h=>B.gd h e true (λK=>B.pv (V.zcc 3 d) λv=>K v h) λg h=>B.gd h e true (λK=>B.call C (N 392) [f,g] h K) λi h=>B.pick e i (.bool false) λa=>B.al c (B.gd h a true (λK=>K .undef h) λ_ h=>B.gd h a true (λK=>B.pv (V.zcc 4 c) λv=>K v h) λj h=>B.al d (B.gd h a true (λK=>K .undef h) λ_ h=>B.gd h a true (λK=>B.pv (V.zcc 4 d) λv=>K v h) λk h=>B.gd h a true (λK=>B.call C (N 54) [j,k] h K) λl h=>B.pick a l (.bool false) λb=>B.al c (B.gd h b true (λK=>K .undef h) λ_ h=>B.gd h b true (λK=>B.pv (V.zcc 5 c) λv=>K v h) λm h=>B.al d (B.gd h b true (λK=>K .undef h) λ_ h=>B.gd h b true (λK=>B.pv (V.zcc 5 d) λv=>K v h) λn h=>B.gd h b true (λK=>B.call C (N 189) [m,n] h K) λo h=>B.pick b o (.bool false) λp=>Q p h))))))
@[simp] def zfo.cps(a b:za)(h:zb)(Q:zQ):Prop:=zfo.k1 C N Q a b h
def zfo.Imp:Prop:=im2 C (N 447) (zfo.cps C N)
@[simp] def zfk.k1(Q:zQ)(b:za)(h:zb):Prop:=B.pv (A.zs2 6 b) λa=>B.al a (B.pv (V.zcc 3 a) λc=>B.call C (N 393) [c] h λg h=>B.al a (B.pv (V.zcc 4 a) λd=>B.call C (N 56) [d] h λi h=>B.al a (B.pv (V.zcc 5 a) λe=>B.call C (N 190) [e] h λf h=>Q (.tup []) h)))
@[simp] def zfk.cps(a:za)(h:zb)(Q:zQ):Prop:=zfk.k1 C N Q a h
def zfk.Imp:Prop:=im1 C (N 448) (zfk.cps C N)
@[simp] def zd1.k1(Q:zQ)(Y1:zL)(b c a:za)(h:zb):Prop:=B.pv (V.zbi b) λj=>B.pv (V.bin .lss a j) λd=>B.cond d (B.pv (V.zb3 1 b a) λe=>B.ld h e λf=>B.call C (N 470) [c,f] h λk h=>B.pv (V.bin .add a (.int .i64 1)) λg=>Y1 [g] h) (B.call C (N 62) [c] h λi h=>Q i h)
@[simp] def zd1.l2(Q:zQ)(a b:za):zG|[c],h,Y1=>zd1.k1 C N Q Y1 a b c h|_,_,_=>False
@[simp] def zd1.k3(Q:zQ)(a:za)(h:zb):Prop:=B.pv (A.bld [] [.zbj,.zbj,.zbj,.zbj,.zbj,.zbj,.zbj,.zbj,.zbj,.zbj,.zbj,.zbj,.zbj,.zbj,.zbj,.zbj,.zbj,.zbj,.zbj,.zbj,.zbj,.zbj,.zbj]) λb=>B.zg1 h (A.zpp 23 b) λc h=>zd (zd1.l2 C N Q a (.ptr c 0 0)) [(.int .i64 0)] h
@[simp] def zd1.cps(a:za)(h:zb)(Q:zQ):Prop:=zd1.k3 C N Q a h
def zd1.Imp:Prop:=im1 C (N 453) (zd1.cps C N)
@[simp] def zdf.k1(Q:zQ)(Y1:zL)(i b a:za)(h:zb):Prop:=B.pv (V.zbi b) λc=>B.pv (V.bin .lss a c) λd=>B.cond d (B.pv (V.zb3 6 b a) λe=>B.ldn h e 6 λf=>B.call C (N 473) [i,f] h λj h=>B.pv (V.bin .add a (.int .i64 1)) λg=>Y1 [g] h) (Q (.tup []) h)
@[simp] def zdf.l2(Q:zQ)(a b:za):zG|[c],h,Y1=>zdf.k1 C N Q Y1 a b c h|_,_,_=>False
@[simp] def zdf.k3(Q:zQ)(a b:za)(h:zb):Prop:=B.nilCheck a λg=>B.pv (V.fieldAddr 14 g) λi=>B.ld h i λj=>B.zg1 h (zed [(0,none,b)] (zfs 1 [.zbj])) λc h=>B.zif h 1 24 j (.sl c 0 0 1 1 1) λd h=>B.nilCheck a λe=>B.pv (V.fieldAddr 14 e) λf=>B.st h f d λh=>zd (zdf.l2 C N Q a b) [(.int .i64 0)] h
@[simp] def zdf.cps(a b:za)(h:zb)(Q:zQ):Prop:=zdf.k3 C N Q a b h
def zdf.Imp:Prop:=im2 C (N 470) (zdf.cps C N)
@[simp] def zfb.k1(Q:zQ)(b e:za)(h:zb):Prop:=B.pv (A.zs2 6 e) λa=>B.al a (B.pv (V.zcc 3 a) λf=>B.call C (N 475) [b,f] h λj h=>B.al a (B.pv (V.zcc 4 a) λc=>B.call C (N 130) [b,c] h λg h=>B.al a (B.pv (V.zcc 5 a) λd=>B.call C (N 207) [b,d] h λi h=>Q (.tup []) h)))
@[simp] def zfb.cps(a b:za)(h:zb)(Q:zQ):Prop:=zfb.k1 C N Q a b h
def zfb.Imp:Prop:=im2 C (N 473) (zfb.cps C N)
@[simp] def zdt.k1(Q:zQ)(Y1:zL)(i b a:za)(h:zb):Prop:=B.pv (V.zbi b) λc=>B.pv (V.bin .lss a c) λd=>B.cond d (B.pv (V.zb3 4 b a) λe=>B.ldn h e 4 λf=>B.call C (N 480) [i,f] h λj h=>B.pv (V.bin .add a (.int .i64 1)) λg=>Y1 [g] h) (Q (.tup []) h)
@[simp] def zdt.l2(Q:zQ)(a b:za):zG|[c],h,Y1=>zdt.k1 C N Q Y1 a b c h|_,_,_=>False
@[simp] def zdt.k3(Q:zQ)(a b:za)(h:zb):Prop:=B.nilCheck a λg=>B.pv (V.fieldAddr 10 g) λi=>B.ld h i λj=>B.zg1 h (zed [(0,none,b)] (zfs 1 [.zbj])) λc h=>B.zif h 1 24 j (.sl c 0 0 1 1 1) λd h=>B.nilCheck a λe=>B.pv (V.fieldAddr 10 e) λf=>B.st h f d λh=>zd (zdt.l2 C N Q a b) [(.int .i64 0)] h
@[simp] def zdt.cps(a b:za)(h:zb)(Q:zQ):Prop:=zdt.k3 C N Q a b h
def zdt.Imp:Prop:=im2 C (N 475) (zdt.cps C N)
@[simp] def zfv.k1(Q:zQ)(b d:za)(h:zb):Prop:=B.pv (A.zs2 4 d) λa=>B.al a (B.pv (V.zcc 2 a) λe=>B.call C (N 481) [b,e] h λg h=>B.al a (B.pv (V.zcc 3 a) λc=>B.call C (N 405) [b,c] h λf h=>Q (.tup []) h))
@[simp] def zfv.cps(a b:za)(h:zb)(Q:zQ):Prop:=zfv.k1 C N Q a b h
def zfv.Imp:Prop:=im2 C (N 480) (zfv.cps C N)
@[simp] def ze9.k1(C:zh)(N:zN)(Q:zQ)(a f:za)(h:zb):Prop:=B.nilCheck a λg=>B.pv (V.fieldAddr 9 g) λi=>B.ld h i λj=>B.zg1 h (zed [(0,none,f)] (zfs 1 [.zbj])) λb h=>B.zif h 1 24 j (.sl b 0 0 1 1 1) λc h=>B.nilCheck a λd=>B.pv (V.fieldAddr 9 d) λe=>B.st h e c λh=>Q (.tup []) h
@[simp] def ze9.cps(a b:za)(h:zb)(Q:zQ):Prop:=ze9.k1 C N Q a b h
def ze9.Imp:Prop:=im2 C (N 481) (ze9.cps C N)
end Go.Ab
namespace Go.Ab
open List
variable{C:zh}{N:zN}
@[irreducible] def mark(k i:Int):Int:=IntKind.i64.wrap (IntKind.i64.wrap (1000003*IntKind.i64.wrap (k+7))+i)
def zhl.Spec(C:zh)(N:zN):Prop:=∀(k i:Int)(h:zb)(Q:zQ),Q (.int .i64 (mark k i)) h->C (N 20) [.int .i64 k,.int .i64 i] h Q
theorem zhl.spec(i:zhl.Imp C N):zhl.Spec C N:=by
 intro k j h Q hq;apply i;simp +contextual -dsimp;unfold mark at hq;exact zba hq
structure LL where
 x:za
 n:Nat
 xs:Nat->za
 D:Nat->List (List za)
 R:Nat->List (List za)
 W:List (List za)
def LL.obs(es:Nat)(t:LL):List Ob:=zid es t.n t.xs t.D t.R
structure LL.ok(t:LL)(h0:zb):Prop where
 is:SlX h0 1 t.x (zhu t.n λj=>[t.xs j]) t.W
 n_le:t.n <= 100000000
 zoq:∀j,j<t.n->(t.D j).length <= 100000000
def zhd(C:zh)(es g:Nat):Prop:=∀(t:LL)(h0 h:zb)(Q:zQ),t.ok h0->zcw h0 h (t.obs es)->(∀h',h0.le h'->Q (.bool true) h')->C g [t.x] h Q
def zdn(C:zh)(g:Nat):Prop:=∀(x:za)(W:List (List za))(h0 h:zb)(Q:zQ),SlX h0 1 x [] W->h0.le h->(∀h',h0.le h'->Q (.bool true) h')->C g [x] h Q
theorem zd.once{F:zG}{vs:List za}{h:zb}(hF:∀Y,F vs h Y):zd F vs h:=λY hY=>hY vs h (hF Y)
theorem flatG_nil{E:z8}{x:za}{W:List (List za)}{h0 h:zb}{Q:zQ}(hx:SlX h0 1 x [] W)(hle:h0.le h)(hq:∀h',h0.le h'->Q (.bool true) h'):zy E C x h Q:=by
 have hl:=(hx.mono hle).zbi;refine zd.once λY1=>?_;simp -dsimp[hl];refine(zcw.start h).mks (bytes:=24) (es:=1) (n:=0) (c:=0) (z:=[.zbj]) rfl (by omega) (by omega) (by omega) (by omega) λy h1 ho=>?_;have hl1:=(hx.mono (zb.le_trans hle ho.le)).zbi;refine zd.once λY2=>?_;simp -dsimp[hl1];refine zd.once λY3=>?_;simp -dsimp[hl1];refine zd.once λY4=>?_;simp -dsimp[hl1];refine zd.once λY5=>?_;simp -dsimp[hl1];exact hq _ (zb.le_trans hle ho.le)
def zvd(k i:Int):Lot:=⟨mark k i,[],0,0,0,false⟩
def zf4.Spec(C:zh)(N:zN):Prop:=∀(k i:Int)(h:zb)(Q:zQ),Q (.agg (zvd k i).cs) h->C (N 77) [.int .i64 k,.int .i64 i] h Q
theorem zf4.spec(i:zf4.Imp C N)(s1:zhl.Spec C N):zf4.Spec C N:=by
 intro k j h Q hq;apply i;simp +contextual -dsimp;refine s1 _ _ _ _ ?_;simp +contextual -dsimp;exact zba hq
abbrev zrm:List (List za):=marks lotF (zvd 1) 12
def zfy.Spec(C:zh)(N:zN):Prop:=∀(x y:za)(L M:List Lot)(R S:List (List za))(h:zb)(Q:zQ),SlX h 6 x (L.map Lot.cs) R->SlX h 6 y (M.map Lot.cs) S->L.length<4611686018427387904->Q (.bool (decide (L=M))) h->C (N 74) [x,y] h Q
theorem zfy.spec(i:zfy.Imp C N):zfy.Spec C N:=λx y L M R S h Q hx hy hlen hq=>i x y h Q (zu2 lotF hx hy hlen (zba hq))
def zfz.Spec(C:zh)(N:zN):Prop:=∀(x:za)(L:List Lot)(R:List (List za))(h:zb)(Q:zQ),SlX h 6 x (L.map Lot.cs) R->L.length <= 100000000->(∀x' h',zcw h h' [.sl 6 x' (L.map Lot.cs) zrm]->Q x' h')->C (N 48) [x] h Q
theorem zfz.spec(i:zfz.Imp C N)(s1:zf4.Spec C N):zfz.Spec C N:=λx L R h Q hx hlen hq=>i x h Q (zvf lotF (z:=[.int .i64 0,.str [],.int .i64 0,.int .i64 0,.int .i64 0,.bool false]) (m:=1) (mk:=zvd 1) rfl (by omega) (s1 1) hx hlen λx' h' ho=>zba (hq x' h' ho))
def zez.Spec(C:zh)(N:zN):Prop:=∀(x y:za)(L M:List Lot)(R:List (List za))(h:zb)(Q:zQ),SlX h 6 x (L.map Lot.cs) zrm->SlX h 6 y (M.map Lot.cs) R->L.length <= 100000000->Q (.bool (decide (L=M))) h->C (N 54) [x,y] h Q
theorem zez.spec(i:zez.Imp C N)(s1:zf4.Spec C N):zez.Spec C N:=λx y L M R h Q hx hy hlen hq=>i x y h Q (zvg lotF (m:=1) (mk:=zvd 1) (s1 1) hx hy hlen (zba hq))
def zf6.Spec(C:zh)(N:zN):Prop:=∀(h0 h:zb)(x:za)(L R:List (List za))(Q:zQ),zcw h0 h [.sl 6 x L R]->R.length=12->L.length <= 100000000->(∀h',h0.le h'->Q (.tup []) h')->C (N 56) [x] h Q
theorem zf6.spec(i:zf6.Imp C N)(s1:zf4.Spec C N):zf6.Spec C N:=λh0 h x L R Q ho hR hlen hq=>i x h Q (zrk (es:=6) (st:=λh p v K=>B.stn h p 6 v K) (by omega) (v:=λi=> .agg (zvd 2 i).cs) (s1 2) (λ{_ _ _ _ _ _ k _} ho hi hK=>over_stN (xs:=(zvd 2 k).cs) rfl ho hi hK) ho hR hlen λh' hle=>zba (hq h' hle))
theorem zb8.spec(i:zb8.Imp C N)(s1:zf4.Spec C N):zhd C 6 (N 86):=λt h0 h Q ht ho hq=>i t.x h Q (zpn (elF lotF (bytes:=56) (z:=[.int .i64 0,.str [],.int .i64 0,.int .i64 0,.int .i64 0,.bool false]) rfl (by omega) s1) ht.is ho ht.n_le ht.zoq λh' hle=>zba (hq h' hle))
def zrn(k i:Int):Part:=⟨[],mark k i⟩
def zfd.Spec(C:zh)(N:zN):Prop:=∀(k i:Int)(h:zb)(Q:zQ),Q (.agg (zrn k i).cs) h->C (N 108) [.int .i64 k,.int .i64 i] h Q
theorem zfd.spec(i:zfd.Imp C N)(s1:zhl.Spec C N):zfd.Spec C N:=by
 intro k j h Q hq;apply i;simp +contextual -dsimp;refine s1 _ _ _ _ ?_;simp +contextual -dsimp;exact zba hq
abbrev zn2:List (List za):=marks partF (zrn 1) 12
def ze1.Spec(C:zh)(N:zN):Prop:=∀(x y:za)(L M:List Part)(R S:List (List za))(h:zb)(Q:zQ),SlX h 2 x (L.map Part.cs) R->SlX h 2 y (M.map Part.cs) S->L.length<4611686018427387904->Q (.bool (decide (L=M))) h->C (N 132) [x,y] h Q
theorem ze1.spec(i:ze1.Imp C N):ze1.Spec C N:=λx y L M R S h Q hx hy hlen hq=>i x y h Q (zu2 partF hx hy hlen (zba hq))
def ze3.Spec(C:zh)(N:zN):Prop:=∀(x:za)(L:List Part)(R:List (List za))(h:zb)(Q:zQ),SlX h 2 x (L.map Part.cs) R->L.length <= 100000000->(∀x' h',zcw h h' [.sl 2 x' (L.map Part.cs) zn2]->Q x' h')->C (N 319) [x] h Q
theorem ze3.spec(i:ze3.Imp C N)(s1:zfd.Spec C N):ze3.Spec C N:=λx L R h Q hx hlen hq=>i x h Q (zvf partF (z:=[.str [],.int .i64 0]) (m:=1) (mk:=zrn 1) rfl (by omega) (s1 1) hx hlen λx' h' ho=>zba (hq x' h' ho))
def zel.Spec(C:zh)(N:zN):Prop:=∀(x y:za)(L M:List Part)(R:List (List za))(h:zb)(Q:zQ),SlX h 2 x (L.map Part.cs) zn2->SlX h 2 y (M.map Part.cs) R->L.length <= 100000000->Q (.bool (decide (L=M))) h->C (N 324) [x,y] h Q
theorem zel.spec(i:zel.Imp C N)(s1:zfd.Spec C N):zel.Spec C N:=λx y L M R h Q hx hy hlen hq=>i x y h Q (zvg partF (m:=1) (mk:=zrn 1) (s1 1) hx hy hlen (zba hq))
def zfl.Spec(C:zh)(N:zN):Prop:=∀(h0 h:zb)(x:za)(L R:List (List za))(Q:zQ),zcw h0 h [.sl 2 x L R]->R.length=12->L.length <= 100000000->(∀h',h0.le h'->Q (.tup []) h')->C (N 408) [x] h Q
theorem zfl.spec(i:zfl.Imp C N)(s1:zfd.Spec C N):zfl.Spec C N:=λh0 h x L R Q ho hR hlen hq=>i x h Q (zrk (es:=2) (st:=λh p v K=>B.stn h p 2 v K) (by omega) (v:=λi=> .agg (zrn 2 i).cs) (s1 2) (λ{_ _ _ _ _ _ k _} ho hi hK=>over_stN (xs:=(zrn 2 k).cs) rfl ho hi hK) ho hR hlen λh' hle=>zba (hq h' hle))
theorem zbt.spec(i:zbt.Imp C N)(s1:zfd.Spec C N):zhd C 2 (N 89):=λt h0 h Q ht ho hq=>i t.x h Q (zpn (elF partF (bytes:=24) (z:=[.str [],.int .i64 0]) rfl (by omega) s1) ht.is ho ht.n_le ht.zoq λh' hle=>zba (hq h' hle))
def zro(k i:Int):znh:=⟨mark k i,[],0,0,0,0,0,[]⟩
def zfe.Spec(C:zh)(N:zN):Prop:=∀(k i:Int)(h:zb)(Q:zQ),Q (.agg (zro k i).cs) h->C (N 111) [.int .i64 k,.int .i64 i] h Q
theorem zfe.spec(i:zfe.Imp C N)(s1:zhl.Spec C N):zfe.Spec C N:=by
 intro k j h Q hq;apply i;simp +contextual -dsimp;refine s1 _ _ _ _ ?_;simp +contextual -dsimp;exact zba hq
abbrev zpe:List (List za):=marks lineF (zro 1) 12
def ze2.Spec(C:zh)(N:zN):Prop:=∀(x y:za)(L M:List znh)(R S:List (List za))(h:zb)(Q:zQ),SlX h 8 x (L.map znh.cs) R->SlX h 8 y (M.map znh.cs) S->L.length<4611686018427387904->Q (.bool (decide (L=M))) h->C (N 135) [x,y] h Q
theorem ze2.spec(i:ze2.Imp C N):ze2.Spec C N:=λx y L M R S h Q hx hy hlen hq=>i x y h Q (zu2 lineF hx hy hlen (zba hq))
def ze4.Spec(C:zh)(N:zN):Prop:=∀(x:za)(L:List znh)(R:List (List za))(h:zb)(Q:zQ),SlX h 8 x (L.map znh.cs) R->L.length <= 100000000->(∀x' h',zcw h h' [.sl 8 x' (L.map znh.cs) zpe]->Q x' h')->C (N 186) [x] h Q
theorem ze4.spec(i:ze4.Imp C N)(s1:zfe.Spec C N):ze4.Spec C N:=λx L R h Q hx hlen hq=>i x h Q (zvf lineF (z:=[.int .i64 0,.str [],.int .i64 0,.int .i64 0,.int .i64 0,.int .u8 0,.int .i64 0,.str []]) (m:=1) (mk:=zro 1) rfl (by omega) (s1 1) hx hlen λx' h' ho=>zba (hq x' h' ho))
def zem.Spec(C:zh)(N:zN):Prop:=∀(x y:za)(L M:List znh)(R:List (List za))(h:zb)(Q:zQ),SlX h 8 x (L.map znh.cs) zpe->SlX h 8 y (M.map znh.cs) R->L.length <= 100000000->Q (.bool (decide (L=M))) h->C (N 189) [x,y] h Q
theorem zem.spec(i:zem.Imp C N)(s1:zfe.Spec C N):zem.Spec C N:=λx y L M R h Q hx hy hlen hq=>i x y h Q (zvg lineF (m:=1) (mk:=zro 1) (s1 1) hx hy hlen (zba hq))
def zfm.Spec(C:zh)(N:zN):Prop:=∀(h0 h:zb)(x:za)(L R:List (List za))(Q:zQ),zcw h0 h [.sl 8 x L R]->R.length=12->L.length <= 100000000->(∀h',h0.le h'->Q (.tup []) h')->C (N 190) [x] h Q
theorem zfm.spec(i:zfm.Imp C N)(s1:zfe.Spec C N):zfm.Spec C N:=λh0 h x L R Q ho hR hlen hq=>i x h Q (zrk (es:=8) (st:=λh p v K=>B.stn h p 8 v K) (by omega) (v:=λi=> .agg (zro 2 i).cs) (s1 2) (λ{_ _ _ _ _ _ k _} ho hi hK=>over_stN (xs:=(zro 2 k).cs) rfl ho hi hK) ho hR hlen λh' hle=>zba (hq h' hle))
theorem zbu.spec(i:zbu.Imp C N)(s1:zfe.Spec C N):zhd C 8 (N 91):=λt h0 h Q ht ho hq=>i t.x h Q (zpn (elF lineF (bytes:=80) (z:=[.int .i64 0,.str [],.int .i64 0,.int .i64 0,.int .i64 0,.int .u8 0,.int .i64 0,.str []]) rfl (by omega) s1) ht.is ho ht.n_le ht.zoq λh' hle=>zba (hq h' hle))
@[irreducible] def zp0(k i:Int):List UInt8:=[35,byt k,byt (k.fdiv 256),byt (k.fdiv 65536),47,byt i,byt (i.fdiv 256),byt (i.fdiv 65536)]
def zfc.Spec(C:zh)(N:zN):Prop:=∀(k i:Int)(h:zb)(Q:zQ),Q (.str (zp0 k i)) h->C (N 106) [.int .i64 k,.int .i64 i] h Q
theorem zfc.spec(i:zfc.Imp C N):zfc.Spec C N:=by
 intro k j h Q hq;apply i;simp +contextual -dsimp[bin_shr (k:= .i64) (j:= .u64) (b:=8) (by omega) (by simp[IntKind.bits]),bin_shr (k:= .i64) (j:= .u64) (b:=16) (by omega) (by simp[IntKind.bits]),u8_byt];intro id hid;unfold zp0 at hq;have hx:SlX (upd h id (zgl [.int .u8 35,.int .u8 ((byt k).toNat:Int),.int .u8 ((byt (k.fdiv 256)).toNat:Int),.int .u8 ((byt (k.fdiv 65536)).toNat:Int),.int .u8 47,.int .u8 ((byt j).toNat:Int),.int .u8 ((byt (j.fdiv 256)).toNat:Int),.int .u8 ((byt (j.fdiv 65536)).toNat:Int)])) 1 (.sl id 0 0 8 1 8) (([35,byt k,byt (k.fdiv 256),byt (k.fdiv 65536),47,byt j,byt (j.fdiv 256),byt (j.fdiv 65536)]:List UInt8).map bc) []:=
  SlX.lit (zck ..) (by simp) rfl (by simp) rfl
 rw[zyb hx];exact dn_le (zl6 _ hid) hq
abbrev zh2:List (List za):=zjq tS (zp0 1) 12
def zef.Spec(C:zh)(N:zN):Prop:=∀(x y:za)(L M:List (List UInt8))(R S:List (List za))(h:zb)(Q:zQ),SlX h 1 x (L.map tc) R->SlX h 1 y (M.map tc) S->L.length<4611686018427387904->Q (.bool (decide (L=M))) h->C (N 133) [x,y] h Q
theorem zef.spec(i:zef.Imp C N):zef.Spec C N:=λx y L M R S h Q hx hy hlen hq=>i x y h Q (sameS_spec tS hx hy hlen (zba hq))
def zeq.Spec(C:zh)(N:zN):Prop:=∀(x:za)(L:List (List UInt8))(R:List (List za))(h:zb)(Q:zQ),SlX h 1 x (L.map tc) R->L.length <= 100000000->(∀x' h',zcw h h' [.sl 1 x' (L.map tc) zh2]->Q x' h')->C (N 406) [x] h Q
theorem zeq.spec(i:zeq.Imp C N)(s1:zfc.Spec C N):zeq.Spec C N:=λx L R h Q hx hlen hq=>i x h Q (lentS_spec tS (z:= .str []) (m:=1) (mk:=zp0 1) (by omega) (s1 1) hx hlen λx' h' ho=>zba (hq x' h' ho))
def zec.Spec(C:zh)(N:zN):Prop:=∀(x y:za)(L M:List (List UInt8))(R:List (List za))(h:zb)(Q:zQ),SlX h 1 x (L.map tc) zh2->SlX h 1 y (M.map tc) R->L.length <= 100000000->Q (.bool (decide (L=M))) h->C (N 407) [x,y] h Q
theorem zec.spec(i:zec.Imp C N)(s1:zfc.Spec C N):zec.Spec C N:=λx y L M R h Q hx hy hlen hq=>i x y h Q (keptS_spec tS (m:=1) (mk:=zp0 1) (s1 1) hx hy hlen (zba hq))
def zew.Spec(C:zh)(N:zN):Prop:=∀(h0 h:zb)(x:za)(L R:List (List za))(Q:zQ),zcw h0 h [.sl 1 x L R]->R.length=12->L.length <= 100000000->(∀h',h0.le h'->Q (.tup []) h')->C (N 409) [x] h Q
theorem zew.spec(i:zew.Imp C N)(s1:zfc.Spec C N):zew.Spec C N:=λh0 h x L R Q ho hR hlen hq=>i x h Q (zrk (es:=1) (st:=λh p v K=>B.st h p v K) (by omega) (v:=λi=> .str (zp0 2 i)) (s1 2) (λho hi hK=>over_stS rfl ho hi hK) ho hR hlen λh' hle=>zba (hq h' hle))
theorem zgx.spec(i:zgx.Imp C N)(s1:zfc.Spec C N):zhd C 1 (N 83):=λt h0 h Q ht ho hq=>
 i t.x h Q (zpn (elS (bytes:=16) (z:= .str []) (mv:=λk i=> .str (zp0 k i)) (λ_ _=>rfl) (λ_ _=>by rw[V.zrz];simp) (by omega) s1) ht.is ho ht.n_le ht.zoq λh' hle=>zba (hq h' hle))
abbrev LG:=List za->zb->(zL)->Prop
@[simp] def z0(v0:za)(X:zb->Prop):LG|[v],h,Y=>B.pv (V.zbi v0) λn=>B.pv (V.bin .lss v n) λb=>B.cond b (False) (X h)|_,_,_=>False
def z5(Q:zQ)(v0 w:za)(h:zb):Prop:=zd (z0 v0 λh=>Q (.bool true) h) [.int .i64 0] h
def z4(Q:zQ)(v0 w:za)(h:zb):Prop:=zd (z0 v0 (z5 Q v0 w)) [.int .i64 0] h
def z3(Q:zQ)(v0 w:za)(h:zb):Prop:=zd (z0 v0 (z4 Q v0 w)) [.int .i64 0] h
def z2(Q:zQ)(v0 w:za)(h:zb):Prop:=zd (z0 v0 (z3 Q v0 w)) [.int .i64 0] h
def z1(Q:zQ)(v0:za)(h:zb):Prop:=B.pv (V.zbi v0) λn=>0<1 /\ B.mks h 24 (some [.zbj]) n n λw h=>z2 Q v0 w h
def zmv(v0:za)(h:zb)(Q:zQ):Prop:=zd (z0 v0 (z1 Q v0)) [.int .i64 0] h
theorem z0_nil{h0 h:zb}{x:za}{W:List (List za)}{X:zb->Prop}(hx:SlX h0 1 x [] W)(hX:X h):zd (z0 x X) [.int .i64 0] h:=by
 refine zd.intro (λn vs hh=>vs=[.int .i64 0] /\ hh=h) 0 ?_ ⟨rfl,rfl⟩;rintro Y n vs hh ⟨rfl,rfl⟩ hY;have l:=hx.zbi;simp -dsimp[l];exact hX
theorem zhb{C:zh}{g:Nat}(i:∀(v0:za)(h:zb)(Q:zQ),zmv v0 h (dn Q)->C g [v0] h Q):zdn C g:=λx W h0 h Q hx hle hq=>by
 refine i x h Q (z0_nil (hx.mono hle) ?_)
 have l:=(hx.mono hle).zbi
 unfold z1
 rw[l]
 refine⟨by omega,?_⟩
 refine(zcw.start h).mks (bytes:=24) (es:=1) (n:=0) (c:=0) (z:=[.zbj]) rfl (by omega) (by omega) (by omega) (by omega) λy h1 ho=>?_
 have h1x:=hx.mono (zb.le_trans hle ho.le)
 exact z0_nil h1x (z0_nil h1x (z0_nil h1x (z0_nil h1x (zba (hq _ (zb.le_trans hle ho.le))))))
def zhm.zl7(C:zh)(N:zN):Prop:=∀(v0:za)(h:zb)(Q:zQ),zmv v0 h (dn Q)->C (N 80) [v0] h Q
theorem zhm.zqt{C:zh}{N:zN}(i:zhm.zl7 C N):zdn C (N 80):=zhb i
def zh6.zl7(C:zh)(N:zN):Prop:=∀(v0:za)(h:zb)(Q:zQ),zmv v0 h (dn Q)->C (N 81) [v0] h Q
theorem zh6.zqt{C:zh}{N:zN}(i:zh6.zl7 C N):zdn C (N 81):=zhb i
def zhs.zl7(C:zh)(N:zN):Prop:=∀(v0:za)(h:zb)(Q:zQ),zmv v0 h (dn Q)->C (N 82) [v0] h Q
theorem zhs.zqt{C:zh}{N:zN}(i:zhs.zl7 C N):zdn C (N 82):=zhb i
def zeu.zl7(C:zh)(N:zN):Prop:=∀(v0:za)(h:zb)(Q:zQ),zmv v0 h (dn Q)->C (N 84) [v0] h Q
theorem zeu.zqt{C:zh}{N:zN}(i:zeu.zl7 C N):zdn C (N 84):=zhb i
def zbb.zl7(C:zh)(N:zN):Prop:=∀(v0:za)(h:zb)(Q:zQ),zmv v0 h (dn Q)->C (N 85) [v0] h Q
theorem zbb.zqt{C:zh}{N:zN}(i:zbb.zl7 C N):zdn C (N 85):=zhb i
def zbl.zl7(C:zh)(N:zN):Prop:=∀(v0:za)(h:zb)(Q:zQ),zmv v0 h (dn Q)->C (N 87) [v0] h Q
theorem zbl.zqt{C:zh}{N:zN}(i:zbl.zl7 C N):zdn C (N 87):=zhb i
def zbs.zl7(C:zh)(N:zN):Prop:=∀(v0:za)(h:zb)(Q:zQ),zmv v0 h (dn Q)->C (N 88) [v0] h Q
theorem zbs.zqt{C:zh}{N:zN}(i:zbs.zl7 C N):zdn C (N 88):=zhb i
def zbk.zl7(C:zh)(N:zN):Prop:=∀(v0:za)(h:zb)(Q:zQ),zmv v0 h (dn Q)->C (N 90) [v0] h Q
theorem zbk.zqt{C:zh}{N:zN}(i:zbk.zl7 C N):zdn C (N 90):=zhb i
def zh7.zl7(C:zh)(N:zN):Prop:=∀(v0:za)(h:zb)(Q:zQ),zmv v0 h (dn Q)->C (N 92) [v0] h Q
theorem zh7.zqt{C:zh}{N:zN}(i:zh7.zl7 C N):zdn C (N 92):=zhb i
def zho.zl7(C:zh)(N:zN):Prop:=∀(v0:za)(h:zb)(Q:zQ),zmv v0 h (dn Q)->C (N 93) [v0] h Q
theorem zho.zqt{C:zh}{N:zN}(i:zho.zl7 C N):zdn C (N 93):=zhb i
def zbc.zl7(C:zh)(N:zN):Prop:=∀(v0:za)(h:zb)(Q:zQ),zmv v0 h (dn Q)->C (N 94) [v0] h Q
theorem zbc.zqt{C:zh}{N:zN}(i:zbc.zl7 C N):zdn C (N 94):=zhb i
def zh5.zl7(C:zh)(N:zN):Prop:=∀(v0:za)(h:zb)(Q:zQ),zmv v0 h (dn Q)->C (N 95) [v0] h Q
theorem zh5.zqt{C:zh}{N:zN}(i:zh5.zl7 C N):zdn C (N 95):=zhb i
def zhn.zl7(C:zh)(N:zN):Prop:=∀(v0:za)(h:zb)(Q:zQ),zmv v0 h (dn Q)->C (N 96) [v0] h Q
theorem zhn.zqt{C:zh}{N:zN}(i:zhn.zl7 C N):zdn C (N 96):=zhb i
def zht.zl7(C:zh)(N:zN):Prop:=∀(v0:za)(h:zb)(Q:zQ),zmv v0 h (dn Q)->C (N 97) [v0] h Q
theorem zht.zqt{C:zh}{N:zN}(i:zht.zl7 C N):zdn C (N 97):=zhb i
def zg3.zl7(C:zh)(N:zN):Prop:=∀(v0:za)(h:zb)(Q:zQ),zmv v0 h (dn Q)->C (N 98) [v0] h Q
theorem zg3.zqt{C:zh}{N:zN}(i:zg3.zl7 C N):zdn C (N 98):=zhb i
def zhr.zl7(C:zh)(N:zN):Prop:=∀(v0:za)(h:zb)(Q:zQ),zmv v0 h (dn Q)->C (N 99) [v0] h Q
theorem zhr.zqt{C:zh}{N:zN}(i:zhr.zl7 C N):zdn C (N 99):=zhb i
def zg2.zl7(C:zh)(N:zN):Prop:=∀(v0:za)(h:zb)(Q:zQ),zmv v0 h (dn Q)->C (N 100) [v0] h Q
theorem zg2.zqt{C:zh}{N:zN}(i:zg2.zl7 C N):zdn C (N 100):=zhb i
def zhq.zl7(C:zh)(N:zN):Prop:=∀(v0:za)(h:zb)(Q:zQ),zmv v0 h (dn Q)->C (N 101) [v0] h Q
theorem zhq.zqt{C:zh}{N:zN}(i:zhq.zl7 C N):zdn C (N 101):=zhb i
def zhp.zl7(C:zh)(N:zN):Prop:=∀(v0:za)(h:zb)(Q:zQ),zmv v0 h (dn Q)->C (N 102) [v0] h Q
theorem zhp.zqt{C:zh}{N:zN}(i:zhp.zl7 C N):zdn C (N 102):=zhb i
section
variable{P:Program}{C:zh}{I:Bx}
theorem eZ(hC:zo5 C){c:Code}{Q:Ex->zcj->zb->Prop}{s:zcj}{h:zb}(zms live:List Nat)(G:List za->LG)(hr:zd (G (zms.map s)) (live.map s) h)(hG:∀(Y:zL)(s:zcj)(h:zb),bwp P C I (cA (cA (cA c))) (Ex.then (λ_ _=>False) (Ex.then (λs h=>Y (live.map s) h) (Ex.inBlock (cI c) Q))) s h=G (zms.map s) (live.map s) h Y)(hk:isK c=true)(hl:isL (cA c)=true)(hw:(zms.all λk=> !zl5 (zjs P I (cA (cA c))) k)=true)(hs:isS (cA (cA c))=true):bwp P C I c Q s h:=eK (eL hC zms live G hr (λY s h hR=>eS hC (λ_ _=>False) ((hG Y s h).mpr hR) (λ_ _ f=>f.elim) hs) hl hw) hk
theorem eU(hC:zo5 C){c:Code}{Q:Ex->zcj->zb->Prop}{s:zcj}{h:zb}(zms live:List Nat)(G:List za->LG)(X:zcj->zb->Prop)(hr:zd (G (zms.map s)) [.int .i64 0] h)(hX:∀s h,X s h->bwp P C I (cB c) Q s h)
  (h1:bwp P C I (cA (cA c)) (Ex.then (λs h=>zd (G (zms.map s)) (live.map s) h) (Ex.then X Q)) s h=zd (G (zms.map s)) [.int .i64 0] h:=by kernel_rfl)
  (hG:∀(Y:zL)(s:zcj)(h:zb),bwp P C I (cA (cA (cA (cB (cA c))))) (Ex.then (λ_ _=>False) (Ex.then (λs h=>Y (live.map s) h) (Ex.inBlock (cI (cB (cA c))) (Ex.then X Q)))) s h=G (zms.map s) (live.map s) h Y:=by intros;kernel_rfl)
  (hk:(isS c&&isS (cA c)&&isK (cB (cA c))&&isL (cA (cB (cA c)))&&isS (cA (cA (cB (cA c))))&&zms.all λk=> !zl5 (zjs P I (cA (cA (cB (cA c))))) k)=true:=by kernel_rfl):bwp P C I c Q s h:=by
 simp only[Bool.and_eq_true]at hk;obtain⟨⟨⟨⟨⟨k1,k2⟩,k3⟩,k4⟩,k5⟩,k6⟩:=hk;exact eS hC X (eS hC (λs h=>zd (G (zms.map s)) (live.map s) h) (h1.mpr hr) (λs h hR=>eZ hC zms live G hR hG k3 k4 k6 k5) k2) hX k1
abbrev F0(P:Program)(fn:Func)(I:Bx):Prop:=∀{C:zh}(hC:zo5 C)(Q:zQ)(s:zcj)(h:zb),zmv (s 0) h Q->bwp P C I (fn.body.getD .skip) (retB P I fn.results.toList Q) s h
abbrev g1(f:za->LG):List za->LG:=λkv lv h Y=>match kv with|[a]=>f a lv h Y|_=>False
abbrev g2(f:za->za->LG):List za->LG:=λkv lv h Y=>match kv with|[a,b]=>f a b lv h Y|_=>False
structure Lp(P:Program)(C:zh)(I:Bx)(c:Code)(Q:Ex->zcj->zb->Prop)(zms:List Nat)(l:Nat)(G:List za->LG)(X:zcj->zb->Prop):Prop where
 h1:∀s h,bwp P C I (cA (cA c)) (Ex.then (λs h=>zd (G (zms.map s)) ([l].map s) h) (Ex.then X Q)) s h=zd (G (zms.map s)) [.int .i64 0] h:=by intros;kernel_rfl
 hG:∀(Y:zL)(s:zcj)(h:zb),bwp P C I (cA (cA (cA (cB (cA c))))) (Ex.then (λ_ _=>False) (Ex.then (λs h=>Y ([l].map s) h) (Ex.inBlock (cI (cB (cA c))) (Ex.then X Q)))) s h=G (zms.map s) ([l].map s) h Y:=by intros;kernel_rfl
 hk:(isS c&&isS (cA c)&&isK (cB (cA c))&&isL (cA (cB (cA c)))&&isS (cA (cA (cB (cA c))))&&zms.all λk=> !zl5 (zjs P I (cA (cA (cB (cA c))))) k)=true:=by kernel_rfl
theorem Lp.use{c:Code}{Q:Ex->zcj->zb->Prop}{zms:List Nat}{l:Nat}{G:List za->LG}{X:zcj->zb->Prop}(p:Lp P C I c Q zms l G X)(hC:zo5 C){s:zcj}{h:zb}(hr:zd (G (zms.map s)) [.int .i64 0] h)(hX:∀s h,X s h->bwp P C I (cB c) Q s h):bwp P C I c Q s h:=eU hC zms [l] G X hr hX (p.h1 s h) p.hG p.hk
theorem eF0(hC:zo5 C){c:Code}{R:Ex->zcj->zb->Prop}{Q:zQ}{s:zcj}{h:zb}(w a b d e f:Nat)(hR:zmv (s 0) h Q)
  (e0:∀s h,bwp P C I (cA c) (Ex.then (λs h=>zmv (s 0) h Q) R) s h=zmv (s 0) h Q:=by intros;kernel_rfl)
  (p1:Lp P C I (cB c) R [0] a (g1 λv=>z0 v (z1 Q v)) (λs h=>z1 Q (s 0) h):=by exact {})
  (e2:∀s h,bwp P C I (cA (cB (cB c))) (Ex.then (λs h=>z2 Q (s 0) (s w) h) R) s h=z1 Q (s 0) h:=by intros;kernel_rfl)
  (p2:Lp P C I (cB (cB (cB c))) R [0,w] b (g2 λv w=>z0 v (z3 Q v w)) (λs h=>z3 Q (s 0) (s w) h):=by exact {})
  (p3:Lp P C I (cB (cB (cB (cB c)))) R [0,w] d (g2 λv w=>z0 v (z4 Q v w)) (λs h=>z4 Q (s 0) (s w) h):=by exact {})
  (p4:Lp P C I (cB (cB (cB (cB (cB c))))) R [0,w] e (g2 λv w=>z0 v (z5 Q v w)) (λs h=>z5 Q (s 0) (s w) h):=by exact {})
  (p5:Lp P C I (cB (cB (cB (cB (cB (cB c)))))) R [0,w] f (g2 λv w=>z0 v λh=>Q (.bool true) h) (λs h=>Q (.bool true) h):=by exact {})
  (e6:∀s h,bwp P C I (cB (cB (cB (cB (cB (cB (cB c))))))) R s h=Q (.bool true) h:=by intros;kernel_rfl)
  (k1:isS c=true:=by kernel_rfl) (k2:isS (cB (cB c))=true:=by kernel_rfl):bwp P C I c R s h:=
 eS hC (λs h=>zmv (s 0) h Q) ((e0 s h).mpr hR) (λs h hR=>p1.use hC hR λs h hR=>eS hC (λs h=>z2 Q (s 0) (s w) h) ((e2 s h).mpr hR) (λs h hR=>p2.use hC hR λs h hR=>p3.use hC hR λs h hR=>p4.use hC hR λs h hR=>p5.use hC hR λs h hR=>(e6 s h).mpr hR) k2) k1
end
variable(C:zh)(N:Nat→Nat)
@[simp] def zen.k1(Q:zQ)(c d:za)(h:zb):Prop:=B.call C (N 389) [c] h λb h=>B.gd h b true (λK=>K d h) λk h=>B.gd h b true (λK=>B.call C (N 389) [k] h K) λl h=>B.gd h b true (λK=>B.pv (V.un .not l) λv=>K v h) λe h=>B.pick b e (.bool false) λa=>B.gd h a false (λK=>K c h) λf h=>B.gd h a false (λK=>K d h) λg h=>B.gd h a false (λK=>B.pv (V.bin .lss f g) λv=>K v h) λi h=>B.pick a (.bool true) i λj=>Q j h
@[simp] def zen.cps(a b:za)(h:zb)(Q:zQ):Prop:=zen.k1 C N Q a b h
def zen.Imp:Prop:=im2 C (N 377) (zen.cps C N)
@[simp] def zei.cps(C:zh)(N:zN)(a:za)(h:zb)(Q:zQ):Prop:=B.pv (V.bin .neq a a) λb=>Q b h
def zei.Imp:Prop:=im1 C (N 389) (zei.cps C N)
@[simp] def zda.k1(Q:zQ)(b c:za)(h:zb):Prop:=B.call C (N 389) [b] h λf h=>B.call C (N 389) [c] h λa h=>B.cond f (B.cond a (Q (.int .i64 0) h) (Q (.int .i64 (-1)) h)) (B.cond a (Q (.int .i64 1) h) (B.pv (V.bin .lss b c) λd=>B.cond d (Q (.int .i64 (-1)) h) (B.pv (V.bin .gtr b c) λe=>B.cond e (Q (.int .i64 1) h) (Q (.int .i64 0) h))))
@[simp] def zda.cps(a b:za)(h:zb)(Q:zQ):Prop:=zda.k1 C N Q a b h
def zda.Imp:Prop:=im2 C (N 580) (zda.cps C N)
variable(C:zh)(N:Nat→Nat)
@[simp] def zdo.k1(Q:zQ)(Y1:zL)(o p a b:za)(h:zb):Prop:=B.zh3 h b λd h=>B.pv (V.ext 0 d) λe=>B.cond e (B.pv (A.zkf h b) λf=>B.pv (V.ext 0 f) λc=>B.zi0 h C o [c] λg h=>B.pv (A.lkp h (some .s) (some (.int .i64 0)) false p g) λi=>B.pv (V.bin .gtr i (.int .i64 0)) λj=>B.cond j (B.zg1 h (zed [(0,none,c)] (zfs 1 [.str []])) λk h=>B.zif h 1 16 a (.sl k 0 0 1 1 1) λl h=>Y1 [l] h) (Y1 [a] h)) (B.call C (N 364) [a] h λq h=>B.call C (N 365) [a] h λm h=>B.call C (N 567) [m] h λn h=>Q n h)
@[simp] def zdo.l2(Q:zQ)(b c a:za):zG|[d],h,Y1=>zdo.k1 C N Q Y1 b c d a h|_,_,_=>False
@[simp] def zdo.k3(Q:zQ)(Y2:zL)(i j f g k l a:za)(h:zb):Prop:=B.pv (V.bin .lss a l) λm=>B.cond m (B.pv (V.zb3 1 k a) λn=>B.ld h n λb=>B.pv (A.lkp h (some .s) (some (.str [])) true i b) λd=>B.pv (V.ext 0 d) λv=>B.pv (V.ext 1 d) λo=>B.cond o (B.zi0 h C j [b] λe h=>B.pv (A.lkp h (some .s) (some (.int .i64 0)) false f e) λp=>B.pv (V.bin .add p (.int .i64 1)) λq=>B.mset h .s f e q λh=>B.pv (V.bin .add a (.int .i64 1)) λc=>Y2 [g,c] h) (B.zg1 h (zed [(0,none,b)] (zfs 1 [.str []])) λr h=>B.zif h 1 16 g (.sl r 0 0 1 1 1) λt h=>B.pv (V.bin .add a (.int .i64 1)) λc=>Y2 [t,c] h)) (B.rangeMap h i λu h=>zd (zdo.l2 C N Q j f u) [g] h)
@[simp] def zdo.l4(Q:zQ)(d e f a b:za):zG|[g,c],h,Y2=>zdo.k3 C N Q Y2 d e f g a b c h|_,_,_=>False
@[simp] def zdo.k5(Q:zQ)(g b:za)(h:zb):Prop:=B.call C (N 568) [g] h λa h=>B.pv (V.ext 0 a) λc=>B.pv (V.ext 1 a) λd=>B.zsw h λe h=>B.pv (V.zbi b) λf=>zd (zdo.l4 C N Q c d e b f) [.zbj,(.int .i64 0)] h
@[simp] def zdo.cps(a b:za)(h:zb)(Q:zQ):Prop:=zdo.k5 C N Q a b h
def zdo.Imp:Prop:=im2 C (N 553) (zdo.cps C N)
@[simp] def zer.k1(Q:zQ)(Y1:zL)(c a:za)(h:zb):Prop:=B.zh3 h a λd h=>B.pv (V.ext 0 d) λe=>B.cond e (B.pv (A.zkf h a) λf=>B.pv (V.ext 1 f) λb=>B.call C (N 364) [b] h λk h=>B.call C (N 567) [b] h λg h=>B.zg1 h (zed [(0,none,g)] (zfs 1 [.zbj])) λi h=>B.zif h 1 24 c (.sl i 0 0 1 1 1) λj h=>Y1 [j] h) (B.call C (N 566) [c,(.fn (N 565) [] [])] h λl h=>Q c h)
@[simp] def zer.l2(Q:zQ)(a:za):zG|[b],h,Y1=>zer.k1 C N Q Y1 b a h|_,_,_=>False
@[simp] def zer.k3(Q:zQ)(Y2:zL)(d c b:za)(h:zb):Prop:=B.zh3 h b λe h=>B.pv (V.ext 0 e) λf=>B.cond f (B.pv (A.zkf h b) λg=>B.pv (V.ext 0 g) λa=>B.zi0 h C d [a] λi h=>B.zi0 h C d [a] λj h=>B.pv (A.lkp h (some .s) (some (.zbj)) false c j) λk=>B.zg1 h (zed [(0,none,a)] (zfs 1 [.str []])) λl h=>B.zif h 1 16 k (.sl l 0 0 1 1 1) λm h=>B.mset h .s c i m λh=>Y2 [] h) (B.rangeMap h c λn h=>zd (zer.l2 C N Q n) [.zbj] h)
@[simp] def zer.l4(Q:zQ)(b c a:za):zG|[],h,Y2=>zer.k3 C N Q Y2 b c a h|_,_,_=>False
@[simp] def zer.k5(Q:zQ)(f:za)(h:zb):Prop:=B.call C (N 568) [f] h λa h=>B.pv (V.ext 0 a) λb=>B.pv (V.ext 1 a) λc=>B.zsw h λd h=>B.rangeMap h b λe h=>zd (zer.l4 C N Q c d e) [] h
@[simp] def zer.cps(a:za)(h:zb)(Q:zQ):Prop:=zer.k5 C N Q a h
def zer.Imp:Prop:=im1 C (N 554) (zer.cps C N)
@[simp] def zcl.k1(Q:zQ)(Y1:zL)(s f g b e a:za)(h:zb):Prop:=B.pv (V.bin .lss b g) λi=>B.cond i (B.pv (V.zb3 8 f b) λj=>B.ldn h j 8 λk=>B.pv (V.zqf 0 8 k (.agg [.int .i64 0,.str [],.int .i64 0,.int .i64 0,.int .i64 0,.int .u8 0,.int .i64 0,.str []])) λc=>B.al c (B.pv (V.zcc 1 c) λl=>B.call C (N 442) [s,l] h λm h=>B.cond m (B.al a (B.pv (V.zcc 5 a) λn=>B.pv (V.ze5 0 8 c) λo=>B.zg1 h (zed [(0,some 8,o)] (zfs 1 [.int .i64 0,.str [],.int .i64 0,.int .i64 0,.int .i64 0,.int .u8 0,.int .i64 0,.str []])) λp h=>B.zif h 8 80 n (.sl p 0 0 1 8 1) λq h=>B.al a (B.pv (V.zye 5 q a) λa=>B.pv (V.bin .add b (.int .i64 1)) λd=>Y1 [d,a] h))) (B.pv (V.bin .add b (.int .i64 1)) λd=>Y1 [d,a] h))) (B.pv (V.ze5 0 6 a) λr=>B.pv (V.zqf 0 6 r e) λe=>B.pv (oneOf (znl (V.ze5 0 6 e) (some []))) λv=>Q v h)
@[simp] def zcl.l2(Q:zQ)(d a b e:za):zG|[c,f],h,Y1=>zcl.k1 C N Q Y1 d a b c e f h|_,_,_=>False
@[simp] def zcl.k3(Q:zQ)(Y2:zL)(f g i b j u a:za)(h:zb):Prop:=B.pv (V.bin .lss b i) λk=>B.cond k (B.pv (V.zb3 6 g b) λl=>B.ldn h l 6 λm=>B.pv (V.zqf 0 6 m (.agg [.int .i64 0,.str [],.int .i64 0,.int .i64 0,.int .i64 0,.bool false])) λe=>B.al e (B.pv (V.zcc 1 e) λn=>B.call C (N 442) [f,n] h λo h=>B.cond o (B.al a (B.pv (V.zcc 4 a) λp=>B.pv (V.ze5 0 6 e) λq=>B.zg1 h (zed [(0,some 6,q)] (zfs 1 [.int .i64 0,.str [],.int .i64 0,.int .i64 0,.int .i64 0,.bool false])) λr h=>B.zif h 6 56 p (.sl r 0 0 1 6 1) λs h=>B.al a (B.pv (V.zye 4 s a) λa=>B.pv (V.bin .add b (.int .i64 1)) λc=>Y2 [c,a] h))) (B.pv (V.bin .add b (.int .i64 1)) λc=>Y2 [c,a] h))) (B.al j (B.pv (V.zcc 5 j) λd=>B.pv (V.zbi d) λt=>zd (zcl.l2 C N Q f d t u) [(.int .i64 0),a] h))
@[simp] def zcl.l4(Q:zQ)(d a b e f:za):zG|[c,g],h,Y2=>zcl.k3 C N Q Y2 d a b c e f g h|_,_,_=>False
@[simp] def zcl.k5(Q:zQ)(Y3:zL)(g i j c f y b:za)(h:zb):Prop:=B.pv (V.bin .lss c j) λk=>B.cond k (B.pv (V.zb3 4 i c) λl=>B.ldn h l 4 λm=>B.pv (V.zqf 0 4 m (.agg [.str [],.int .i64 0,.zbj,.zbj])) λa=>B.al a (B.pv (V.zcc 0 a) λn=>B.call C (N 442) [g,n] h λo h=>B.cond o (B.al a (B.pv (V.zcc 2 a) λp=>B.al a (B.pv (V.zcc 3 a) λq=>B.call C (N 569) [p] h λr h=>B.al a (B.call C (N 567) [q] h λs h=>B.pv (V.zye 2 r a) λa=>B.al a (B.pv (V.zye 3 s a) λa=>B.al b (B.pv (V.zcc 3 b) λt=>B.pv (V.ze5 0 4 a) λu=>B.zg1 h (zed [(0,some 4,u)] (zfs 1 [.str [],.int .i64 0,.zbj,.zbj])) λv h=>B.zif h 4 72 t (.sl v 0 0 1 4 1) λw h=>B.al b (B.pv (V.zye 3 w b) λb=>B.pv (V.bin .add c (.int .i64 1)) λd=>Y3 [d,b] h))))))) (B.pv (V.bin .add c (.int .i64 1)) λd=>Y3 [d,b] h))) (B.al f (B.pv (V.zcc 4 f) λe=>B.pv (V.zbi e) λx=>zd (zcl.l4 C N Q g e x f y) [(.int .i64 0),b] h))
@[simp] def zcl.l6(Q:zQ)(d a b e f:za):zG|[c,g],h,Y3=>zcl.k5 C N Q Y3 d a b c e f g h|_,_,_=>False
@[simp] def zcl.k7(Q:zQ)(i a j:za)(h:zb):Prop:=B.al a (B.pv (V.zcc 0 a) λc=>B.al a (B.pv (V.zcc 1 a) λd=>B.al a (B.pv (V.zcc 2 a) λe=>B.pv (A.bld [(0,none,c),(1,none,d),(2,none,e)] [.int .i64 0,.int .i64 0,.int .i64 0,.zbj,.zbj,.zbj]) λf=>B.pv (V.zqf 0 6 f (.agg [.int .i64 0,.int .i64 0,.int .i64 0,.zbj,.zbj,.zbj])) λk=>B.al a (B.pv (V.zcc 3 a) λb=>B.pv (V.zbi b) λg=>zd (zcl.l6 C N Q i b g a j) [(.int .i64 0),k] h))))
@[simp] def zcl.cps(a b:za)(h:zb)(Q:zQ):Prop:=B.pv (A.zs2 6 a) λc=>zcl.k7 C N Q b c (.agg [.int .i64 0,.int .i64 0,.int .i64 0,.zbj,.zbj,.zbj]) h
def zcl.Imp:Prop:=im2 C (N 558) (zcl.cps C N)
@[simp] def zt.k1(C:zh)(N:zN)(Q:zQ)(b:za)(h:zb):Prop:=B.pv (V.fieldAddr 0 b) λc=>B.ld h c λd=>B.pv (V.bin .lss d (.int .u8 1)) λa=>B.gd h a false (λK=>B.pv (V.fieldAddr 0 b) λv=>K v h) λe h=>B.gd h a false (λK=>B.ld h e λv=>K v h) λf h=>B.gd h a false (λK=>B.pv (V.bin .gtr f (.int .u8 15)) λv=>K v h) λg h=>B.pick a (.bool true) g λi=>B.cond i (Q .zbj h) (B.zg1 h (zed [(0,none,(.str [42]))] (zfs 1 [.str []])) λj h=>Q (.sl j 0 0 1 1 1) h)
@[simp] def zt.k2(Q:zQ)(a k b:za)(h:zb):Prop:=B.cond k (B.al b (B.pv (V.zcc 3 b) λc=>B.pv (V.fieldAddr 2 a) λd=>B.ld h d λe=>B.zg1 h (zed [(0,none,e)] (zfs 1 [.str []])) λf h=>B.call C (N 553) [c,(.sl f 0 0 1 1 1)] h λg h=>B.zg1 h (zed [(0,none,(.str [35,108,111,116]))] (zfs 1 [.str []])) λi h=>B.call C (N 570) [g,(.sl i 0 0 1 1 1)] h λj h=>Q j h)) (zt.k1 C N Q a h)
@[simp] def zt.k3(Q:zQ)(a k b:za)(h:zb):Prop:=B.cond k (B.al b (B.pv (V.zcc 3 b) λc=>B.pv (V.fieldAddr 2 a) λd=>B.ld h d λe=>B.zg1 h (zed [(0,none,e)] (zfs 1 [.str []])) λf h=>B.call C (N 553) [c,(.sl f 0 0 1 1 1)] h λg h=>B.zg1 h (zed [(0,none,(.str [35,108,105,110,101]))] (zfs 1 [.str []])) λi h=>B.call C (N 570) [g,(.sl i 0 0 1 1 1)] h λj h=>Q j h)) (zt.k1 C N Q a h)
@[simp] def zt.k4(Q:zQ)(a i b:za)(h:zb):Prop:=B.cond i (B.al b (B.pv (V.zcc 3 b) λc=>B.pv (V.fieldAddr 2 a) λd=>B.ld h d λe=>B.zg1 h (zed [(0,none,e)] (zfs 1 [.str []])) λf h=>B.call C (N 553) [c,(.sl f 0 0 1 1 1)] h λg h=>Q g h)) (zt.k1 C N Q a h)
@[simp] def zt.k5(Q:zQ)(c a:za)(h:zb):Prop:=B.al a (B.pv (V.zcc 4 a) λd=>B.call C (N 572) [d,(.fn (N 571) [] [c])] h λb h=>B.pv (V.bin .geq b (.int .i64 0)) λe=>B.cond e (B.al a (B.pv (V.zcc 3 a) λf=>B.al a (B.pv (V.zcc 4 a) λg=>B.pv (V.zb3 6 g b) λi=>B.pv (V.fieldAddr 1 i) λj=>B.ld h j λk=>B.zg1 h (zed [(0,none,k)] (zfs 1 [.str []])) λl h=>B.call C (N 553) [f,(.sl l 0 0 1 1 1)] h λm h=>Q m h))) (zt.k1 C N Q c h))
@[simp] def zt.k6(Q:zQ)(c d a:za)(h:zb):Prop:=B.cond d (B.al a (B.pv (V.zcc 5 a) λe=>B.call C (N 206) [e,(.fn (N 573) [] [c])] h λb h=>B.pv (V.bin .geq b (.int .i64 0)) λf=>B.cond f (B.al a (B.pv (V.zcc 3 a) λg=>B.al a (B.pv (V.zcc 5 a) λi=>B.pv (V.zb3 8 i b) λj=>B.pv (V.fieldAddr 1 j) λk=>B.ld h k λl=>B.zg1 h (zed [(0,none,l)] (zfs 1 [.str []])) λm h=>B.call C (N 553) [g,(.sl m 0 0 1 1 1)] h λn h=>Q n h))) (zt.k1 C N Q c h))) (zt.k1 C N Q c h)
@[simp] def zt.k7(Q:zQ)(d a e:za)(h:zb):Prop:=B.pv (V.bin .eql a (.int .u8 10)) λb=>B.cond b (zt.k6 C N Q d b e h) (B.pv (V.bin .eql a (.int .u8 11)) λc=>B.cond c (zt.k6 C N Q d c e h) (B.pv (V.bin .eql a (.int .u8 14)) λf=>zt.k6 C N Q d f e h))
@[simp] def zt.k8(Q:zQ)(b a c:za)(h:zb):Prop:=B.pv (V.bin .eql a (.int .u8 6)) λd=>B.cond d (B.cond d (zt.k5 C N Q b c h) (zt.k7 C N Q b a c h)) (B.pv (V.bin .eql a (.int .u8 7)) λe=>B.cond e (B.cond e (zt.k5 C N Q b c h) (zt.k7 C N Q b a c h)) (B.pv (V.bin .eql a (.int .u8 8)) λf=>B.cond f (zt.k5 C N Q b c h) (zt.k7 C N Q b a c h)))
@[simp] def zt.k9(Q:zQ)(b e a c:za)(h:zb):Prop:=B.pv (V.bin .eql a (.int .u8 13)) λd=>B.cond d (B.cond d (zt.k4 C N Q b e c h) (zt.k8 C N Q b a c h)) (B.pv (V.bin .eql a (.int .u8 15)) λf=>B.cond f (zt.k4 C N Q b e c h) (zt.k8 C N Q b a c h))
@[simp] def zt.k10(Q:zQ)(b c a d:za)(h:zb):Prop:=B.pv (V.bin .eql a (.int .u8 4)) λf=>B.cond f (B.cond f (zt.k2 C N Q b c d h) (B.pv (V.bin .eql a (.int .u8 9)) λe=>B.cond e (zt.k3 C N Q b c d h) (zt.k9 C N Q b c a d h))) (B.pv (V.bin .eql a (.int .u8 5)) λg=>B.cond g (zt.k2 C N Q b c d h) (B.pv (V.bin .eql a (.int .u8 9)) λe=>B.cond e (zt.k3 C N Q b c d h) (zt.k9 C N Q b c a d h)))
@[simp] def zt.k11(Q:zQ)(a b:za)(h:zb):Prop:=B.al b (B.pv (V.zcc 3 b) λf=>B.call C (N 575) [f,(.fn (N 574) [] [a])] h λc h=>B.pv (V.fieldAddr 0 a) λd=>B.ld h d λe=>zt.k10 C N Q a c e b h)
@[simp] def zt.cps(a b:za)(h:zb)(Q:zQ):Prop:=B.pv (A.zs2 6 a) λc=>B.zg1 h (A.zpp 11 b) λd h=>zt.k11 C N Q (.ptr d 0 0) c h
def zt.Imp:Prop:=im2 C (N 559) (zt.cps C N)
@[simp] def zg0.cps(a b:za)(h:zb)(Q:zQ):Prop:=B.call C (N 578) [a,b] h λc h=>Q c h
def zg0.Imp:Prop:=im2 C (N 565) (zg0.cps C N)
@[simp] def zz.k1(C:zh)(N:zN)(Q:zQ)(Y1:zL)(Y2:zL)(q r m n o c d e a b:za)(h:zb):Prop:=B.pv (V.bin .lss a e) λf=>B.cond f (B.pv (V.zb3 1 d a) λg=>B.ld h g λi=>B.al b (B.pv (V.zcc 0 b) λj=>B.zi0 h C m [j,i] λp h=>B.pv (V.bin .add a (.int .i64 1)) λk=>Y2 [k] h)) (B.pv (V.bin .add c (.int .i64 1)) λl=>Y1 [l] h)
@[simp] def zz.l2(Q:zQ)(Y1:zL)(i j k a b c d e f:za):zG|[g],h,Y2=>zz.k1 C N Q Y1 Y2 i j k a b c d e g f h|_,_,_=>False
@[simp] def zz.k3(Q:zQ)(Y1:zL)(g i j c d e a:za)(h:zb):Prop:=B.al a (B.pv (V.zcc 3 a) λb=>B.pv (V.zbi b) λf=>zd (zz.l2 C N Q Y1 g i j c d e b f a) [(.int .i64 0)] h)
@[simp] def zz.k4(Q:zQ)(Y1:zL)(Y3:zL)(q r d e f g i j a b:za)(h:zb):Prop:=B.pv (V.bin .lss a j) λk=>B.cond k (B.pv (V.zb3 2 i a) λl=>B.ldn h l 2 λm=>B.pv (V.zqf 0 2 m (.agg [.str [],.int .i64 0])) λc=>B.al b (B.pv (V.zcc 0 b) λn=>B.al c (B.pv (V.zcc 0 c) λo=>B.zi0 h C d [n,o] λs h=>B.pv (V.bin .add a (.int .i64 1)) λp=>Y3 [p] h))) (zz.k3 C N Q Y1 q r d e f g b h)
@[simp] def zz.l5(Q:zQ)(Y1:zL)(i j k a b c d e f:za):zG|[g],h,Y3=>zz.k4 C N Q Y1 Y3 i j k a b c d e g f h|_,_,_=>False
@[simp] def zz.k6(Q:zQ)(Y1:zL)(g i j c d e a:za)(h:zb):Prop:=B.al a (B.pv (V.zcc 2 a) λb=>B.pv (V.zbi b) λf=>zd (zz.l5 C N Q Y1 g i j c d e b f a) [(.int .i64 0)] h)
@[simp] def zz.k7(Q:zQ)(Y1:zL)(g i j a c b:za)(h:zb):Prop:=B.pv (V.zb3 4 a b) λd=>B.ldn h d 4 λe=>B.pv (V.zqf 0 4 e (.agg [.str [],.int .i64 0,.zbj,.zbj])) λf=>zz.k6 C N Q Y1 g i j a c b f h
@[simp] def zz.k8(Q:zQ)(Y1:zL)(c d j e a b:za)(h:zb):Prop:=B.pv (V.bin .lss b a) λf=>B.cond f (zz.k7 C N Q Y1 c d j e a b h) (B.ld h c λg=>B.ld h d λi=>Q (.tup [g,i]) h)
@[simp] def zz.l9(Q:zQ)(d e f a b:za):zG|[c],h,Y1=>zz.k8 C N Q Y1 d e f a b c h|_,_,_=>False
@[simp] def zz.k10(Q:zQ)(c a:za)(h:zb):Prop:=B.zg1 h (some [.nilf]) λb h=>B.st h (.ptr b 0 0) (.fn (N 577) [] [a]) λh=>B.pv (V.zbi c) λd=>zd (zz.l9 C N Q a (.ptr b 0 0) (.fn (N 576) [] [a,(.ptr b 0 0)]) c d) [(.int .i64 0)] h
@[simp] def zz.k11(Q:zQ)(Y4:zL)(n c d e a:za)(h:zb):Prop:=B.pv (V.bin .lss a e) λf=>B.cond f (B.pv (V.zb3 4 d a) λg=>B.ldn h g 4 λi=>B.pv (V.zqf 0 4 i (.agg [.str [],.int .i64 0,.zbj,.zbj])) λb=>B.ld h c λj=>B.al b (B.pv (V.zcc 0 b) λk=>B.al b (B.pv (V.zcc 0 b) λl=>B.mset h .s j k l λh=>B.pv (V.bin .add a (.int .i64 1)) λm=>Y4 [m] h))) (zz.k10 C N Q n c h)
@[simp] def zz.l12(Q:zQ)(d e a b:za):zG|[c],h,Y4=>zz.k11 C N Q Y4 d e a b c h|_,_,_=>False
@[simp] def zz.k13(Q:zQ)(a:za)(h:zb):Prop:=B.zsw h λb h=>B.zg1 h (some [.nilm]) λc h=>B.st h (.ptr c 0 0) b λh=>B.pv (V.zbi a) λd=>zd (zz.l12 C N Q a (.ptr c 0 0) a d) [(.int .i64 0)] h
@[simp] def zz.cps(a:za)(h:zb)(Q:zQ):Prop:=zz.k13 C N Q a h
def zz.Imp:Prop:=im1 C (N 568) (zz.cps C N)
@[simp] def zga.k1(Q:zQ)(d e:za)(h:zb):Prop:=B.zg1 h (zed [(0,none,d),(1,none,e)] (zfs 2 [.zbj])) λf h=>B.call C (N 373) [(.sl f 0 0 2 1 2)] h λa h=>B.call C (N 364) [a] h λg h=>B.call C (N 365) [a] h λb h=>B.call C (N 567) [b] h λc h=>Q c h
@[simp] def zga.cps(a b:za)(h:zb)(Q:zQ):Prop:=zga.k1 C N Q a b h
def zga.Imp:Prop:=im2 C (N 570) (zga.cps C N)
@[simp] def zfq.k1(C:zh)(N:zN)(Q:zQ)(b c:za)(h:zb):Prop:=B.pv (A.zs2 6 b) λa=>B.al a (B.pv (V.zcc 0 a) λd=>B.pv (V.fieldAddr 7 c) λe=>B.ld h e λf=>B.pv (V.bin .eql d f) λg=>Q g h)
@[simp] def zfq.cps(a b:za)(h:zb)(Q:zQ):Prop:=zfq.k1 C N Q a b h
def zfq.Imp:Prop:=im2 C (N 571) (zfq.cps C N)
@[simp] def zfp.k1(C:zh)(N:zN)(Q:zQ)(b c:za)(h:zb):Prop:=B.pv (A.zs2 8 b) λa=>B.al a (B.pv (V.zcc 0 a) λd=>B.pv (V.fieldAddr 8 c) λe=>B.ld h e λf=>B.pv (V.bin .eql d f) λg=>Q g h)
@[simp] def zfp.cps(a b:za)(h:zb)(Q:zQ):Prop:=zfp.k1 C N Q a b h
def zfp.Imp:Prop:=im2 C (N 573) (zfp.cps C N)
@[simp] def zfr.k1(C:zh)(N:zN)(Q:zQ)(b c:za)(h:zb):Prop:=B.pv (A.zs2 4 b) λa=>B.al a (B.pv (V.zcc 0 a) λd=>B.pv (V.fieldAddr 2 c) λe=>B.ld h e λf=>B.pv (V.bin .eql d f) λg=>Q g h)
@[simp] def zfr.cps(a b:za)(h:zb)(Q:zQ):Prop:=zfr.k1 C N Q a b h
def zfr.Imp:Prop:=im2 C (N 574) (zfr.cps C N)
@[simp] def zd8.k1(C:zh)(N:zN)(Q:zQ)(l d a c:za)(h:zb):Prop:=B.ld h a λm=>B.pv (A.lkp h (some .s) (some (.str [])) true m d) λb=>B.pv (V.ext 0 b) λn=>B.pv (V.ext 1 b) λe=>B.cond e (B.ld h a λf=>B.ld h c λg=>B.ld h c λi=>B.zi0 h C g [l] (B.zpl h [(a,none),(c,none)] (λj h=>B.zi0 h C i [d] (B.zpl h [(a,none)] (λk h=>B.mset h .s f j k λh=>Q (.tup []) h))))) (Q (.tup []) h)
@[simp] def zd8.cps(a b c d:za)(h:zb)(Q:zQ):Prop:=zd8.k1 C N Q a b c d h
def zd8.Imp:Prop:=im4 C (N 576) (zd8.cps C N)
@[simp] def zc6.k1(C:zh)(N:zN)(Q:zQ)(Y1:zL)(a b:za)(h:zb):Prop:=B.ld h b λd=>B.pv (A.lkp h (some .s) (some (.str [])) false d a) λe=>B.pv (V.bin .neq e a) λf=>B.cond f (B.ld h b λg=>B.pv (A.lkp h (some .s) (some (.str [])) false g a) λc=>Y1 [c] h) (Q a h)
@[simp] def zc6.l2(Q:zQ)(a:za):zG|[b],h,Y1=>zc6.k1 C N Q Y1 b a h|_,_,_=>False
@[simp] def zc6.cps(a b:za)(h:zb)(Q:zQ):Prop:=zd (zc6.l2 C N Q b) [a] h
def zc6.Imp:Prop:=im2 C (N 577) (zc6.cps C N)
variable(C:zh)(N:Nat→Nat)
@[simp] def zdu.k1(Q:zQ)(c l:za)(h:zb):Prop:=B.call C (N 564) [c] h λd h=>B.pv (V.bin .gtr d (.int .i64 300)) λa=>B.gd h a false (λK=>K c h) λe h=>B.gd h a false (λK=>B.pv (V.zbi e) λv=>K v h) λf h=>B.gd h a false (λK=>B.pv (V.bin .gtr f (.int .i64 70)) λv=>K v h) λg h=>B.pick a (.bool true) g λb=>B.gd h b false (λK=>K l h) λi h=>B.gd h b false (λK=>B.pv (V.bin .gtr i (.int .i64 200)) λv=>K v h) λj h=>B.pick b (.bool true) j λk=>Q k h
@[simp] def zdu.k2(Q:zQ)(Y1:zL)(p d b c:za)(h:zb):Prop:=B.pv (V.zbi d) λq=>B.pv (V.bin .lss c q) λa=>B.gd h a true (λK=>K b h) λe h=>B.gd h a true (λK=>B.pv (V.bin .leq e (.int .i64 200)) λv=>K v h) λf h=>B.pick a f (.bool false) λg=>B.cond g (B.pv (V.bin .add b (.int .i64 1)) λi=>B.pv (V.zb3 1 d c) λj=>B.ld h j λk=>B.pv (V.zkp k) λl=>B.pv (V.bin .quo l (.int .i64 20)) λm=>B.pv (V.bin .add i m) λn=>B.pv (V.bin .add c (.int .i64 1)) λo=>Y1 [n,o] h) (zdu.k1 C N Q p b h)
@[simp] def zdu.l3(Q:zQ)(a b:za):zG|[c,d],h,Y1=>zdu.k2 C N Q Y1 a b c d h|_,_,_=>False
@[simp] def zdu.cps(a b:za)(h:zb)(Q:zQ):Prop:=zd (zdu.l3 C N Q a b) [(.int .i64 0),(.int .i64 0)] h
def zdu.Imp:Prop:=im2 C (N 555) (zdu.cps C N)
@[simp] def ze7.k1(Q:zQ)(h:zb):Prop:=B.call C (N 562) [] h λv2 h=>B.pv (A.bld [(0,none,(.int .i64 3)),(1,none,(.str [68]))] [.int .i64 0,.str [],.int .i64 0,.int .i64 0,.int .i64 0,.bool false]) λv3=>B.zg1 h (zed [(0,some 6,v3)] (zfs 1 [.int .i64 0,.str [],.int .i64 0,.int .i64 0,.int .i64 0,.bool false])) λi4 h=>B.pv (A.bld [(3,none,v2),(4,none,(.sl i4 0 0 1 6 1))] [.int .i64 0,.int .i64 0,.int .i64 0,.zbj,.zbj,.zbj]) λv5=>B.pv (V.zqf 0 6 v5 (.agg [.int .i64 0,.int .i64 0,.int .i64 0,.zbj,.zbj,.zbj])) λf=>B.call C (N 562) [] h λv6 h=>B.call C (N 554) [v6] h λv7 h=>B.zg1 h (zed [(0,none,(.str [65])),(1,none,(.str [75]))] (zfs 2 [.str []])) λi8 h=>B.zg1 h (zed [(0,none,(.str [66])),(1,none,(.str [67]))] (zfs 2 [.str []])) λi9 h=>B.zg1 h (zed [(0,none,(.str [68]))] (zfs 1 [.str []])) λg h=>B.zg1 h (zed [(0,none,(.sl i8 0 0 2 1 2)),(1,none,(.sl i9 0 0 2 1 2)),(2,none,(.sl g 0 0 1 1 1))] (zfs 3 [.zbj])) λj h=>B.call C (N 563) [v7,(.sl j 0 0 3 1 3)] h λb h=>B.gd h b true (λK=>B.call C (N 562) [] h K) λk h=>B.gd h b true (λK=>B.zg1 h (zed [(0,none,(.str [75])),(1,none,(.str [90]))] (zfs 2 [.str []])) λi h=>K (.sl i 0 0 2 1 2) h) λl h=>B.gd h b true (λK=>B.call C (N 553) [k,l] h K) λm h=>B.gd h b true (λK=>B.zg1 h (zed [(0,none,(.str [65])),(1,none,(.str [75])),(2,none,(.str [90]))] (zfs 3 [.str []])) λi h=>K (.sl i 0 0 3 1 3) h) λn h=>B.gd h b true (λK=>B.call C (N 133) [m,n] h K) λo h=>B.pick b o (.bool false) λc=>B.gd h c true (λK=>B.pv (V.ze5 0 6 f) λv=>K v h) λp h=>B.gd h c true (λK=>B.pv (A.bld [(0,none,(.int .u8 4)),(2,none,(.str [67]))] [.int .u8 0,.int .i64 0,.str [],.int .i64 0,.int .i64 0,.int .i64 0,.int .i64 0,.int .i64 0,.int .i64 0,.zbj,.zbj]) λv=>K v h) λq h=>B.gd h c true (λK=>B.call C (N 559) [p,q] h K) λr h=>B.gd h c true (λK=>B.zg1 h (zed [(0,none,(.str [35,108,111,116])),(1,none,(.str [66])),(2,none,(.str [67]))] (zfs 3 [.str []])) λi h=>K (.sl i 0 0 3 1 3) h) λs h=>B.gd h c true (λK=>B.call C (N 133) [r,s] h K) λt h=>B.pick c t (.bool false) λd=>B.gd h d true (λK=>B.pv (V.ze5 0 6 f) λv=>K v h) λu h=>B.gd h d true (λK=>B.pv (A.bld [(0,none,(.int .u8 11)),(8,none,(.int .i64 3))] [.int .u8 0,.int .i64 0,.str [],.int .i64 0,.int .i64 0,.int .i64 0,.int .i64 0,.int .i64 0,.int .i64 0,.zbj,.zbj]) λv=>K v h) λw h=>B.gd h d true (λK=>B.call C (N 559) [u,w] h K) λx h=>B.gd h d true (λK=>B.zg1 h (zed [(0,none,(.str [42]))] (zfs 1 [.str []])) λi h=>K (.sl i 0 0 1 1 1) h) λy h=>B.gd h d true (λK=>B.call C (N 133) [x,y] h K) λz h=>B.pick d z (.bool false) λe=>B.gd h e true (λK=>B.pv (V.ze5 0 6 f) λv=>K v h) λaa h=>B.gd h e true (λK=>B.pv (A.bld [(0,none,(.int .u8 12))] [.int .u8 0,.int .i64 0,.str [],.int .i64 0,.int .i64 0,.int .i64 0,.int .i64 0,.int .i64 0,.int .i64 0,.zbj,.zbj]) λv=>K v h) λab h=>B.gd h e true (λK=>B.call C (N 559) [aa,ab] h K) λac h=>B.gd h e true (λK=>B.zg1 h (zed [(0,none,(.str [42]))] (zfs 1 [.str []])) λi h=>K (.sl i 0 0 1 1 1) h) λad h=>B.gd h e true (λK=>B.call C (N 133) [ac,ad] h K) λae h=>B.pick e ae (.bool false) λa=>B.gd h a true (λK=>B.pv (V.ze5 0 6 f) λv=>K v h) λaf h=>B.gd h a true (λK=>B.zg1 h (zed [(0,none,(.str [68]))] (zfs 1 [.str []])) λi h=>K (.sl i 0 0 1 1 1) h) λag h=>B.gd h a true (λK=>B.call C (N 558) [af,ag] h K) λah h=>B.gd h a true (λK=>B.pv (V.zcc 4 ah) λv=>K v h) λai h=>B.gd h a true (λK=>B.pv (V.zbi ai) λv=>K v h) λaj h=>B.gd h a true (λK=>B.pv (V.bin .eql aj (.int .i64 1)) λv=>K v h) λak h=>B.pick a ak (.bool false) λal=>Q al h
@[simp] def ze7.cps(h:zb)(Q:zQ):Prop:=ze7.k1 C N Q h
def ze7.Imp:Prop:=im0 C (N 556) (ze7.cps C N)
@[simp] def zdc.k1(Q:zQ)(f b:za)(h:zb):Prop:=B.pv (V.bin .gtr f (.int .i64 2000)) λa=>B.al b (B.gd h a false (λK=>K .undef h) λ_ h=>B.gd h a false (λK=>B.pv (V.zcc 3 b) λv=>K v h) λc h=>B.gd h a false (λK=>B.call C (N 555) [c,.zbj] h K) λd h=>B.pick a (.bool true) d λe=>Q e h)
@[simp] def zdc.k2(Q:zQ)(Y1:zL)(d c a:za)(h:zb):Prop:=B.al a (B.pv (V.zcc 5 a) λe=>B.pv (V.zbi e) λf=>B.pv (V.bin .lss c f) λb=>B.gd h b true (λK=>K d h) λg h=>B.gd h b true (λK=>B.pv (V.bin .leq g (.int .i64 2000)) λv=>K v h) λi h=>B.pick b i (.bool false) λj=>B.cond j (B.pv (V.bin .add d (.int .i64 1)) λk=>B.al a (B.pv (V.zcc 5 a) λl=>B.pv (V.zb3 8 l c) λm=>B.pv (V.fieldAddr 1 m) λn=>B.ld h n λo=>B.pv (V.zkp o) λp=>B.pv (V.bin .quo p (.int .i64 20)) λq=>B.pv (V.bin .add k q) λr=>B.al a (B.pv (V.zcc 5 a) λs=>B.pv (V.zb3 8 s c) λt=>B.pv (V.fieldAddr 7 t) λu=>B.ld h u λw=>B.pv (V.zkp w) λx=>B.pv (V.bin .quo x (.int .i64 20)) λy=>B.pv (V.bin .add r y) λz=>B.pv (V.bin .add c (.int .i64 1)) λaa=>Y1 [z,aa] h))) (zdc.k1 C N Q d a h))
@[simp] def zdc.l3(Q:zQ)(a:za):zG|[b,c],h,Y1=>zdc.k2 C N Q Y1 b c a h|_,_,_=>False
@[simp] def zdc.k4(Q:zQ)(Y2:zL)(c d a:za)(h:zb):Prop:=B.al a (B.pv (V.zcc 4 a) λr=>B.pv (V.zbi r) λs=>B.pv (V.bin .lss d s) λb=>B.gd h b true (λK=>K c h) λe h=>B.gd h b true (λK=>B.pv (V.bin .leq e (.int .i64 2000)) λv=>K v h) λf h=>B.pick b f (.bool false) λg=>B.cond g (B.pv (V.bin .add c (.int .i64 1)) λi=>B.al a (B.pv (V.zcc 4 a) λj=>B.pv (V.zb3 6 j d) λk=>B.pv (V.fieldAddr 1 k) λl=>B.ld h l λm=>B.pv (V.zkp m) λn=>B.pv (V.bin .quo n (.int .i64 20)) λo=>B.pv (V.bin .add i o) λp=>B.pv (V.bin .add d (.int .i64 1)) λq=>Y2 [p,q] h)) (zd (zdc.l3 C N Q a) [c,(.int .i64 0)] h))
@[simp] def zdc.l5(Q:zQ)(a:za):zG|[b,c],h,Y2=>zdc.k4 C N Q Y2 b c a h|_,_,_=>False
@[simp] def zdc.cps(a:za)(h:zb)(Q:zQ):Prop:=B.pv (A.zs2 6 a) λb=>zd (zdc.l5 C N Q b) [(.int .i64 0),(.int .i64 0)] h
def zdc.Imp:Prop:=im1 C (N 560) (zdc.cps C N)
@[simp] def zge.k1(C:zh)(N:zN)(Q:zQ)(h:zb):Prop:=B.pv (A.bld [(0,none,(.str [65])),(1,none,(.int .i64 1))] [.str [],.int .i64 0,.zbj,.zbj]) λa=>B.zg1 h (zed [(0,none,(.str [67]))] (zfs 1 [.str []])) λb h=>B.pv (A.bld [(0,none,(.str [66])),(1,none,(.int .i64 1)),(3,none,(.sl b 0 0 1 1 1))] [.str [],.int .i64 0,.zbj,.zbj]) λc=>B.pv (A.bld [(0,none,(.str [67])),(1,none,(.int .i64 1))] [.str [],.int .i64 0,.zbj,.zbj]) λd=>B.pv (A.bld [(0,none,(.str [68])),(1,none,(.int .i64 1))] [.str [],.int .i64 0,.zbj,.zbj]) λe=>B.pv (A.bld [(0,none,(.str [65])),(1,none,(.int .i64 2))] [.str [],.int .i64 0]) λf=>B.zg1 h (zed [(0,some 2,f)] (zfs 1 [.str [],.int .i64 0])) λg h=>B.pv (A.bld [(0,none,(.str [75])),(2,none,(.sl g 0 0 1 2 1))] [.str [],.int .i64 0,.zbj,.zbj]) λi=>B.zg1 h (zed [(0,some 4,a),(4,some 4,c),(8,some 4,d),(12,some 4,e),(16,some 4,i)] (zfs 5 [.str [],.int .i64 0,.zbj,.zbj])) λj h=>Q (.sl j 0 0 5 4 5) h
@[simp] def zge.cps(h:zb)(Q:zQ):Prop:=zge.k1 C N Q h
def zge.Imp:Prop:=im0 C (N 562) (zge.cps C N)
@[simp] def zes.k1(Q:zQ)(Y1:zL)(b m a:za)(h:zb):Prop:=B.pv (V.zbi b) λc=>B.pv (V.bin .lss a c) λd=>B.cond d (B.pv (V.zb3 1 b a) λe=>B.ld h e λf=>B.pv (V.zb3 1 m a) λg=>B.ld h g λi=>B.call C (N 133) [f,i] h λj h=>B.pv (V.un .not j) λk=>B.cond k (Q (.bool false) h) (B.pv (V.bin .add a (.int .i64 1)) λl=>Y1 [l] h)) (Q (.bool true) h)
@[simp] def zes.l2(Q:zQ)(a b:za):zG|[c],h,Y1=>zes.k1 C N Q Y1 a b c h|_,_,_=>False
@[simp] def zes.k3(Q:zQ)(a b:za)(h:zb):Prop:=B.pv (V.zbi a) λd=>B.pv (V.zbi b) λe=>B.pv (V.bin .neq d e) λc=>B.cond c (Q (.bool false) h) (zd (zes.l2 C N Q a b) [(.int .i64 0)] h)
@[simp] def zes.cps(a b:za)(h:zb)(Q:zQ):Prop:=zes.k3 C N Q a b h
def zes.Imp:Prop:=im2 C (N 563) (zes.cps C N)
@[simp] def zcg.k1(C:zh)(N:zN)(Q:zQ)(Y1:zL)(Y2:zL)(e b c d:za)(h:zb):Prop:=B.pv (V.zb3 4 e c) λf=>B.pv (V.fieldAddr 3 f) λg=>B.ld h g λi=>B.pv (V.zbi i) λj=>B.pv (V.bin .lss d j) λa=>B.gd h a true (λK=>K b h) λk h=>B.gd h a true (λK=>B.pv (V.bin .leq k (.int .i64 2000)) λv=>K v h) λl h=>B.pick a l (.bool false) λm=>B.cond m (B.pv (V.zb3 4 e c) λn=>B.pv (V.fieldAddr 3 n) λo=>B.ld h o λp=>B.pv (V.zb3 1 p d) λq=>B.ld h q λr=>B.pv (V.zkp r) λs=>B.pv (V.bin .quo s (.int .i64 20)) λt=>B.pv (V.bin .add b t) λu=>B.pv (V.bin .add d (.int .i64 1)) λw=>Y2 [u,w] h) (B.pv (V.bin .add c (.int .i64 1)) λx=>Y1 [b,x] h)
@[simp] def zcg.l2(Q:zQ)(Y1:zL)(a b:za):zG|[c,d],h,Y2=>zcg.k1 C N Q Y1 Y2 a c b d h|_,_,_=>False
@[simp] def zcg.k3(Q:zQ)(Y1:zL)(Y3:zL)(b c d e:za)(h:zb):Prop:=B.pv (V.zb3 4 b d) λf=>B.pv (V.fieldAddr 2 f) λg=>B.ld h g λi=>B.pv (V.zbi i) λj=>B.pv (V.bin .lss e j) λa=>B.gd h a true (λK=>K c h) λk h=>B.gd h a true (λK=>B.pv (V.bin .leq k (.int .i64 2000)) λv=>K v h) λl h=>B.pick a l (.bool false) λm=>B.cond m (B.pv (V.zb3 4 b d) λn=>B.pv (V.fieldAddr 2 n) λo=>B.ld h o λp=>B.pv (V.zb3 2 p e) λq=>B.pv (V.fieldAddr 0 q) λr=>B.ld h r λs=>B.pv (V.zkp s) λt=>B.pv (V.bin .quo t (.int .i64 20)) λu=>B.pv (V.bin .add c u) λw=>B.pv (V.bin .add e (.int .i64 1)) λx=>Y3 [w,x] h) (zd (zcg.l2 C N Q Y1 b d) [c,(.int .i64 0)] h)
@[simp] def zcg.l4(Q:zQ)(Y1:zL)(a b:za):zG|[c,d],h,Y3=>zcg.k3 C N Q Y1 Y3 a c b d h|_,_,_=>False
@[simp] def zcg.k5(Q:zQ)(Y1:zL)(a u b:za)(h:zb):Prop:=B.pv (V.bin .add u (.int .i64 1)) λc=>B.pv (V.zb3 4 a b) λd=>B.pv (V.fieldAddr 0 d) λe=>B.ld h e λf=>B.pv (V.zkp f) λg=>B.pv (V.bin .quo g (.int .i64 20)) λi=>B.pv (V.bin .add c i) λj=>B.pv (V.zb3 4 a b) λk=>B.pv (V.fieldAddr 2 k) λl=>B.ld h l λm=>B.pv (V.zbi m) λn=>B.pv (V.bin .add j n) λo=>B.pv (V.zb3 4 a b) λp=>B.pv (V.fieldAddr 3 p) λq=>B.ld h q λr=>B.pv (V.zbi r) λs=>B.pv (V.bin .add o s) λt=>zd (zcg.l4 C N Q Y1 a b) [t,(.int .i64 0)] h
@[simp] def zcg.k6(Q:zQ)(Y1:zL)(c b d:za)(h:zb):Prop:=B.pv (V.zbi c) λi=>B.pv (V.bin .lss d i) λa=>B.gd h a true (λK=>K b h) λe h=>B.gd h a true (λK=>B.pv (V.bin .leq e (.int .i64 2000)) λv=>K v h) λf h=>B.pick a f (.bool false) λg=>B.cond g (zcg.k5 C N Q Y1 c b d h) (Q b h)
@[simp] def zcg.l7(Q:zQ)(a:za):zG|[b,c],h,Y1=>zcg.k6 C N Q Y1 a b c h|_,_,_=>False
@[simp] def zcg.cps(a:za)(h:zb)(Q:zQ):Prop:=zd (zcg.l7 C N Q a) [(.int .i64 0),(.int .i64 0)] h
def zcg.Imp:Prop:=im1 C (N 564) (zcg.cps C N)
@[simp] def zek.k1(Q:zQ)(f g:za)(h:zb):Prop:=B.call C (N 555) [f,g] h λm h=>B.cond m (B.call C (N 556) [] h λn h=>Q n h) (B.call C (N 391) [f] h λb h=>B.call C (N 406) [g] h λe h=>B.call C (N 554) [b] h λj h=>B.call C (N 554) [b] h λo h=>B.call C (N 553) [b,e] h λk h=>B.call C (N 553) [b,e] h λp h=>B.call C (N 392) [b,f] h λq h=>B.pv (V.un .not q) λd=>B.gd h d false (λK=>K e h) λr h=>B.gd h d false (λK=>K g h) λs h=>B.gd h d false (λK=>B.call C (N 407) [r,s] h K) λt h=>B.gd h d false (λK=>B.pv (V.un .not t) λv=>K v h) λu h=>B.pick d (.bool true) u λw=>B.cond w (Q (.bool false) h) (B.call C (N 393) [b] h λap h=>B.call C (N 409) [e] h λaq h=>B.call C (N 593) [f] h λx h=>B.call C (N 563) [j,x] h λc h=>B.gd h c true (λK=>K k h) λy h=>B.gd h c true (λK=>K f h) λz h=>B.gd h c true (λK=>K g h) λaa h=>B.gd h c true (λK=>B.call C (N 594) [z,aa] h K) λab h=>B.gd h c true (λK=>B.call C (N 133) [y,ab] h K) λac h=>B.pick c ac (.bool false) λa=>B.gd h a true (λK=>K .sz h) λad h=>B.gd h a true (λK=>K j h) λae h=>B.gd h a true (λK=>B.zif h 1 24 ad ae K) λaf h=>B.gd h a true (λK=>K o h) λag h=>B.gd h a true (λK=>B.zif h 1 24 af ag K) λah h=>B.gd h a true (λK=>K k h) λai h=>B.gd h a true (λK=>K p h) λaj h=>B.gd h a true (λK=>B.zg1 h (zed [(0,none,ai),(1,none,aj)] (zfs 2 [.zbj])) λi h=>K (.sl i 0 0 2 1 2) h) λak h=>B.gd h a true (λK=>B.zif h 1 24 ah ak K) λal h=>B.gd h a true (λK=>B.call C (N 396) [al] h K) λam h=>B.pick a am (.bool false) λl=>B.gd h l true (λK=>B.call C (N 556) [] h K) λan h=>B.pick l an (.bool false) λao=>Q ao h))
@[simp] def zek.cps(a b:za)(h:zb)(Q:zQ):Prop:=zek.k1 C N Q a b h
def zek.Imp:Prop:=im2 C (N 595) (zek.cps C N)
@[simp] def zeb.k1(Q:zQ)(v0 v1 n:za)(h:zb):Prop:=B.pv (A.zs2 6 v0) λk=>B.pv (A.zs2 11 v1) λj=>B.pv (V.ze5 0 6 k) λq=>B.call C (N 560) [q] h λl h=>B.gd h l false (λK=>K n h) λr h=>B.gd h l false (λK=>B.call C (N 555) [.zbj,r] h K) λs h=>B.pick l (.bool true) s λc=>B.al j (B.gd h c false (λK=>K .undef h) λ_ h=>B.gd h c false (λK=>B.pv (V.zcc 2 j) λv=>K v h) λt h=>B.gd h c false (λK=>B.pv (V.zkp t) λv=>K v h) λu h=>B.gd h c false (λK=>B.pv (V.bin .gtr u (.int .i64 1000)) λv=>K v h) λw h=>B.pick c (.bool true) w λx=>B.cond x (B.call C (N 556) [] h λy h=>Q y h) (B.pv (V.ze5 0 6 k) λz=>B.call C (N 446) [z] h λaa h=>B.call C (N 406) [n] h λg h=>B.pv (V.zqf 0 6 aa (.agg [.int .i64 0,.int .i64 0,.int .i64 0,.zbj,.zbj,.zbj])) λd=>B.pv (V.ze5 0 6 d) λab=>B.pv (V.ze5 0 11 j) λac=>B.pv (V.ze5 0 6 d) λad=>B.pv (V.ze5 0 11 j) λae=>B.al d (B.al j (B.call C (N 559) [ab,ac] h λo h=>B.call C (N 559) [ad,ae] h λaf h=>B.pv (V.ze5 0 6 d) λag=>B.pv (V.ze5 0 6 d) λah=>B.al d (B.call C (N 558) [ag,g] h λai h=>B.call C (N 558) [ah,g] h λaj h=>B.pv (V.zqf 0 6 ai (.agg [.int .i64 0,.int .i64 0,.int .i64 0,.zbj,.zbj,.zbj])) λm=>B.pv (V.zqf 0 6 aj (.agg [.int .i64 0,.int .i64 0,.int .i64 0,.zbj,.zbj,.zbj])) λak=>B.pv (V.ze5 0 6 d) λam=>B.pv (V.ze5 0 6 k) λan=>B.call C (N 447) [am,an] h λao h=>B.pv (V.un .not ao) λe=>B.gd h e false (λK=>K g h) λap h=>B.gd h e false (λK=>K n h) λaq h=>B.gd h e false (λK=>B.call C (N 407) [ap,aq] h K) λar h=>B.gd h e false (λK=>B.pv (V.un .not ar) λv=>K v h) λau h=>B.pick e (.bool true) au λav=>B.cond av (Q (.bool false) h) (B.pv (V.ze5 0 6 d) λaw=>B.call C (N 448) [aw] h λbt h=>B.call C (N 409) [g] h λbu h=>B.pv (V.ze5 0 6 k) λax=>B.pv (V.ze5 0 11 j) λay=>B.call C (N 596) [ax,ay] h λaz h=>B.call C (N 133) [o,az] h λb h=>B.gd h b true (λK=>B.pv (V.ze5 0 6 m) λv=>K v h) λba h=>B.gd h b true (λK=>B.pv (V.ze5 0 6 k) λv=>K v h) λbb h=>B.gd h b true (λK=>K n h) λbc h=>B.al m (B.gd h b true (λK=>B.call C (N 597) [bb,bc] h K) λbd h=>B.gd h b true (λK=>B.call C (N 116) [ba,bd] h K) λbe h=>B.pick b be (.bool false) λf=>B.gd h f true (λK=>K o h) λbf h=>B.gd h f true (λK=>K af h) λbg h=>B.gd h f true (λK=>B.zg1 h (zed [(0,none,bf),(1,none,bg)] (zfs 2 [.zbj])) λi h=>K (.sl i 0 0 2 1 2) h) λbh h=>B.gd h f true (λK=>B.call C (N 396) [bh] h K) λbi h=>B.pick f bi (.bool false) λa=>B.gd h a true (λK=>B.pv (V.ze5 0 6 m) λv=>K v h) λbj h=>B.gd h a true (λK=>B.zg1 h (zed [(0,some 6,bj)] (zfs 1 [.int .i64 0,.int .i64 0,.int .i64 0,.zbj,.zbj,.zbj])) λi h=>K (.sl i 0 0 1 6 1) h) λbk h=>B.gd h a true (λK=>B.pv (V.ze5 0 6 ak) λv=>K v h) λbl h=>B.gd h a true (λK=>B.zg1 h (zed [(0,some 6,bl)] (zfs 1 [.int .i64 0,.int .i64 0,.int .i64 0,.zbj,.zbj,.zbj])) λi h=>K (.sl i 0 0 1 6 1) h) λbm h=>B.gd h a true (λK=>B.zg1 h (zed [(0,none,bk),(1,none,bm)] (zfs 2 [.zbj])) λi h=>K (.sl i 0 0 2 1 2) h) λbn h=>B.gd h a true (λK=>B.call C (N 453) [bn] h K) λbo h=>B.pick a bo (.bool false) λp=>B.gd h p true (λK=>B.call C (N 556) [] h K) λbp h=>B.pick p bp (.bool false) λbq=>Q bq h)))))))
@[simp] def zeb.cps(a b c:za)(h:zb)(Q:zQ):Prop:=zeb.k1 C N Q a b c h
def zeb.Imp:Prop:=im3 C (N 598) (zeb.cps C N)
@[simp] def zj.k1(Q:zQ)(l:za)(h:zb):Prop:=B.call C (N 554) [l] h λc h=>B.pv (V.zbi c) λd=>B.pv (V.bin .eql d (.int .i64 2)) λa=>B.gd h a true (λK=>K l h) λe h=>B.gd h a true (λK=>B.zg1 h (zed [(0,none,(.str [82,48,53])),(1,none,(.str [81]))] (zfs 2 [.str []])) λi h=>K (.sl i 0 0 2 1 2) h) λf h=>B.gd h a true (λK=>B.call C (N 595) [e,f] h K) λg h=>B.pick a g (.bool false) λb=>B.gd h b true (λK=>B.call C (N 556) [] h K) λj h=>B.pick b j (.bool false) λk=>Q k h
@[simp] def zj.k2(Q:zQ)(Y1:zL)(d e:za)(h:zb):Prop:=B.pv (V.bin .geq e (.int .i64 0)) λm=>B.cond m (B.pv (V.bin .quo e (.int .i64 10)) λn=>B.pv (V.bin .add (.int .i64 48) n) λo=>B.pv (V.toInt .u8 o) λp=>B.pv (V.bin .rem e (.int .i64 10)) λq=>B.pv (V.bin .add (.int .i64 48) q) λr=>B.pv (V.toInt .u8 r) λs=>B.zg1 h (zed [(0,none,p),(1,none,s)] (zfs 2 [.int .u8 0])) λt h=>B.zhc h (.sl t 0 0 2 1 2) λu=>B.pv (V.bin .add (.str [82]) u) λw=>B.pv (A.bld [(0,none,w)] [.str [],.int .i64 0,.zbj,.zbj]) λx=>B.pv (V.zqf 0 4 x (.agg [.str [],.int .i64 0,.zbj,.zbj])) λf=>B.pv (V.zbi d) λy=>B.pv (V.bin .gtr y (.int .i64 0)) λg=>B.gd h g true (λK=>K e h) λz h=>B.gd h g true (λK=>B.pv (V.bin .neq z (.int .i64 30)) λv=>K v h) λaa h=>B.pick g aa (.bool false) λab=>B.cond ab (B.pv (V.zbi d) λac=>B.pv (V.bin .sub ac (.int .i64 1)) λad=>B.pv (V.zb3 4 d ad) λae=>B.pv (V.fieldAddr 0 ae) λj=>B.ld h j λk=>B.zg1 h (zed [(0,none,k)] (zfs 1 [.str []])) λl h=>B.al f (B.pv (V.zye 3 (.sl l 0 0 1 1 1) f) λf=>B.pv (V.ze5 0 4 f) λa=>B.zg1 h (zed [(0,some 4,a)] (zfs 1 [.str [],.int .i64 0,.zbj,.zbj])) λb h=>B.zif h 4 72 d (.sl b 0 0 1 4 1) λc h=>B.pv (V.bin .sub e (.int .i64 1)) λi=>Y1 [c,i] h)) (B.pv (V.ze5 0 4 f) λa=>B.zg1 h (zed [(0,some 4,a)] (zfs 1 [.str [],.int .i64 0,.zbj,.zbj])) λb h=>B.zif h 4 72 d (.sl b 0 0 1 4 1) λc h=>B.pv (V.bin .sub e (.int .i64 1)) λi=>Y1 [c,i] h)) (zj.k1 C N Q d h)
@[simp] def zj.l3(Q:zQ):zG|[a,b],h,Y1=>zj.k2 C N Q Y1 a b h|_,_,_=>False
@[simp] def zj.k4(Q:zQ)(c:za)(h:zb):Prop:=B.zg1 h (zed [(0,none,(.str [68])),(1,none,(.str [88])),(2,none,(.str [])),(3,none,(.str [90])),(4,none,(.str [68]))] (zfs 5 [.str []])) λd h=>B.call C (N 595) [c,(.sl d 0 0 5 1 5)] h λe h=>B.pv (V.un .not e) λa=>B.gd h a false (λK=>B.zg1 h (zed [(0,none,(.str [65])),(1,none,(.str [65])),(2,none,(.str [66]))] (zfs 3 [.str []])) λi h=>K (.sl i 0 0 3 1 3) h) λf h=>B.gd h a false (λK=>B.call C (N 595) [.zbj,f] h K) λg h=>B.gd h a false (λK=>B.pv (V.un .not g) λv=>K v h) λj h=>B.pick a (.bool true) j λb=>B.gd h b false (λK=>K c h) λk h=>B.gd h b false (λK=>B.call C (N 595) [k,.zbj] h K) λl h=>B.gd h b false (λK=>B.pv (V.un .not l) λv=>K v h) λm h=>B.pick b (.bool true) m λn=>B.cond n (Q (.bool false) h) (zd (zj.l3 C N Q) [.zbj,(.int .i64 59)] h)
@[simp] def zj.k5(Q:zQ)(h:zb):Prop:=B.call C (N 562) [] h λa h=>B.zg1 h (zed [(0,none,(.str [68]))] (zfs 1 [.str []])) λb h=>B.pv (A.bld [(0,none,(.str [65])),(3,none,(.sl b 0 0 1 1 1))] [.str [],.int .i64 0,.zbj,.zbj]) λc=>B.zg1 h (zed [(0,none,(.str [])),(1,none,(.str [90]))] (zfs 2 [.str []])) λd h=>B.pv (A.bld [(0,none,(.str [])),(3,none,(.sl d 0 0 2 1 2))] [.str [],.int .i64 0,.zbj,.zbj]) λe=>B.pv (A.bld [(0,none,(.str [88])),(1,none,(.int .i64 1))] [.str [],.int .i64 0]) λf=>B.zg1 h (zed [(0,some 2,f)] (zfs 1 [.str [],.int .i64 0])) λg h=>B.pv (A.bld [(0,none,(.str [88])),(2,none,(.sl g 0 0 1 2 1))] [.str [],.int .i64 0,.zbj,.zbj]) λi=>B.zg1 h (zed [(0,some 4,c),(4,some 4,e),(8,some 4,i)] (zfs 3 [.str [],.int .i64 0,.zbj,.zbj])) λj h=>B.zif h 4 72 a (.sl j 0 0 3 4 3) λk h=>zj.k4 C N Q k h
@[simp] def zj.k6(Q:zQ)(Y2:zL)(Y3:zL)(b a u:za)(h:zb):Prop:=B.pv (V.bin .lss a (.int .i64 5)) λc=>B.cond c (B.pv (V.toInt .u8 b) λd=>B.zg1 h (zed [(0,none,(.str [])),(1,none,(.str [65])),(2,none,(.str [66])),(3,none,(.str [75])),(4,none,(.str [90])),(5,none,(.str [42]))] (zfs 6 [.str []])) λe h=>B.pv (V.bin .add a (.int .i64 1)) λf=>B.pv (V.zb3 1 (.sl e 0 0 6 1 6) f) λg=>B.ld h g λi=>B.pv (A.bld [(0,none,d),(2,none,i),(7,none,a),(8,none,a)] [.int .u8 0,.int .i64 0,.str [],.int .i64 0,.int .i64 0,.int .i64 0,.int .i64 0,.int .i64 0,.int .i64 0,.zbj,.zbj]) λj=>B.pv (V.zqf 0 11 j (.agg [.int .u8 0,.int .i64 0,.str [],.int .i64 0,.int .i64 0,.int .i64 0,.int .i64 0,.int .i64 0,.int .i64 0,.zbj,.zbj])) λv=>B.pv (V.ze5 0 6 u) λk=>B.pv (V.ze5 0 11 v) λl=>B.pv (V.bin .add a (.int .i64 1)) λm=>B.pv (V.bin .rem m (.int .i64 4)) λn=>B.zg1 h (zed [(0,none,(.str [65])),(1,none,(.str [90])),(2,none,(.str [])),(3,none,(.str [66]))] (zfs 4 [.str []])) λo h=>B.pv (V.zhj 1 (.sl o 0 0 4 1 4) none (some n)) λp=>B.call C (N 598) [k,l,p] h λq h=>B.pv (V.un .not q) λr=>B.cond r (Q (.bool false) h) (B.pv (V.bin .add a (.int .i64 1)) λs=>Y3 [s] h)) (B.pv (V.bin .add b (.int .i64 1)) λt=>Y2 [t] h)
@[simp] def zj.l7(Q:zQ)(Y2:zL)(a b:za):zG|[c],h,Y3=>zj.k6 C N Q Y2 Y3 a c b h|_,_,_=>False
@[simp] def zj.k8(Q:zQ)(Y2:zL)(a c:za)(h:zb):Prop:=B.pv (V.bin .lss a (.int .i64 20)) λb=>B.cond b (zd (zj.l7 C N Q Y2 a c) [(.int .i64 (-1))] h) (zj.k5 C N Q h)
@[simp] def zj.l9(Q:zQ)(a:za):zG|[b],h,Y2=>zj.k8 C N Q Y2 b a h|_,_,_=>False
@[simp] def zj.k10(Q:zQ)(h:zb):Prop:=B.call C (N 562) [] h λm h=>B.pv (A.bld [(0,none,(.int .i64 1)),(1,none,(.str [75]))] [.int .i64 0,.str [],.int .i64 0,.int .i64 0,.int .i64 0,.bool false]) λa=>B.pv (A.bld [(0,none,(.int .i64 2)),(1,none,(.str [67]))] [.int .i64 0,.str [],.int .i64 0,.int .i64 0,.int .i64 0,.bool false]) λb=>B.pv (A.bld [(0,none,(.int .i64 2)),(1,none,(.str [65]))] [.int .i64 0,.str [],.int .i64 0,.int .i64 0,.int .i64 0,.bool false]) λc=>B.pv (A.bld [(0,none,(.int .i64 3)),(1,none,(.str [90]))] [.int .i64 0,.str [],.int .i64 0,.int .i64 0,.int .i64 0,.bool false]) λd=>B.zg1 h (zed [(0,some 6,a),(6,some 6,b),(12,some 6,c),(18,some 6,d)] (zfs 4 [.int .i64 0,.str [],.int .i64 0,.int .i64 0,.int .i64 0,.bool false])) λe h=>B.pv (A.bld [(0,none,(.int .i64 1)),(1,none,(.str [66])),(7,none,(.str [67]))] [.int .i64 0,.str [],.int .i64 0,.int .i64 0,.int .i64 0,.int .u8 0,.int .i64 0,.str []]) λf=>B.pv (A.bld [(0,none,(.int .i64 2)),(1,none,(.str [68]))] [.int .i64 0,.str [],.int .i64 0,.int .i64 0,.int .i64 0,.int .u8 0,.int .i64 0,.str []]) λg=>B.pv (A.bld [(0,none,(.int .i64 2)),(1,none,(.str [65]))] [.int .i64 0,.str [],.int .i64 0,.int .i64 0,.int .i64 0,.int .u8 0,.int .i64 0,.str []]) λi=>B.pv (A.bld [(0,none,(.int .i64 3)),(1,none,(.str [90]))] [.int .i64 0,.str [],.int .i64 0,.int .i64 0,.int .i64 0,.int .u8 0,.int .i64 0,.str []]) λj=>B.zg1 h (zed [(0,some 8,f),(8,some 8,g),(16,some 8,i),(24,some 8,j)] (zfs 4 [.int .i64 0,.str [],.int .i64 0,.int .i64 0,.int .i64 0,.int .u8 0,.int .i64 0,.str []])) λk h=>B.pv (A.bld [(0,none,(.int .i64 3)),(1,none,(.int .i64 4)),(2,none,(.int .i64 5)),(3,none,m),(4,none,(.sl e 0 0 4 6 4)),(5,none,(.sl k 0 0 4 8 4))] [.int .i64 0,.int .i64 0,.int .i64 0,.zbj,.zbj,.zbj]) λl=>B.pv (V.zqf 0 6 l (.agg [.int .i64 0,.int .i64 0,.int .i64 0,.zbj,.zbj,.zbj])) λn=>zd (zj.l9 C N Q n) [(.int .i64 0)] h
@[simp] def zj.cps(h:zb)(Q:zQ):Prop:=zj.k10 C N Q h
def zj.Imp:Prop:=im0 C (N 599) (zj.cps C N)
variable(C:zh)(N:Nat→Nat)
@[simp] def zfx.k1(Q:zQ)(a:za)(h:zb):Prop:=B.cond (.bool false) (B.pv (V.toInt .u32 a) λb=>B.call C (N 304) [b] h λc h=>Q c h) (B.call C (N 305) [a] h λd h=>Q d h)
@[simp] def zfx.cps(a:za)(h:zb)(Q:zQ):Prop:=zfx.k1 C N Q a h
def zfx.Imp:Prop:=im1 C (N 287) (zfx.cps C N)
@[simp] def zcf.k1(C:zh)(N:zN)(Q:zQ)(e f:za)(h:zb):Prop:=B.pv (V.toInt .u8 e) λa=>B.pv (V.zug (.str [0,1,2,2,3,3,3,3,4,4,4,4,4,4,4,4,5,5,5,5,5,5,5,5,5,5,5,5,5,5,5,5,6,6,6,6,6,6,6,6,6,6,6,6,6,6,6,6,6,6,6,6,6,6,6,6,6,6,6,6,6,6,6,6,7,7,7,7,7,7,7,7,7,7,7,7,7,7,7,7,7,7,7,7,7,7,7,7,7,7,7,7,7,7,7,7,7,7,7,7,7,7,7,7,7,7,7,7,7,7,7,7,7,7,7,7,7,7,7,7,7,7,7,7,7,7,7,7,8,8,8,8,8,8,8,8,8,8,8,8,8,8,8,8,8,8,8,8,8,8,8,8,8,8,8,8,8,8,8,8,8,8,8,8,8,8,8,8,8,8,8,8,8,8,8,8,8,8,8,8,8,8,8,8,8,8,8,8,8,8,8,8,8,8,8,8,8,8,8,8,8,8,8,8,8,8,8,8,8,8,8,8,8,8,8,8,8,8,8,8,8,8,8,8,8,8,8,8,8,8,8,8,8,8,8,8,8,8,8,8,8,8,8,8,8,8,8,8,8,8,8,8,8,8,8,8]) a) λb=>B.pv (V.toInt .i64 b) λc=>B.pv (V.bin .add f c) λd=>Q d h
@[simp] def zcf.k2(Q:zQ)(a b:za)(h:zb):Prop:=B.pv (V.bin .geq a (.int .u64 256)) λc=>B.cond c (B.pv (V.bin .shr a (.int .u64 8)) λd=>B.pv (V.bin .add b (.int .i64 8)) λe=>zcf.k1 C N Q d e h) (zcf.k1 C N Q a b h)
@[simp] def zcf.k3(Q:zQ)(a b:za)(h:zb):Prop:=B.pv (V.bin .geq a (.int .u64 65536)) λe=>B.cond e (B.pv (V.bin .shr a (.int .u64 16)) λc=>B.pv (V.bin .add b (.int .i64 16)) λd=>zcf.k2 C N Q c d h) (zcf.k2 C N Q a b h)
@[simp] def zcf.k4(Q:zQ)(a b:za)(h:zb):Prop:=B.pv (V.bin .geq a (.int .u64 4294967296)) λc=>B.cond c (B.pv (V.bin .shr a (.int .u64 32)) λd=>zcf.k3 C N Q d (.int .i64 32) h) (zcf.k3 C N Q a b h)
@[simp] def zcf.cps(a:za)(h:zb)(Q:zQ):Prop:=zcf.k4 C N Q a (.int .i64 0) h
def zcf.Imp:Prop:=im1 C (N 305) (zcf.cps C N)
variable(C:zh)(N:Nat→Nat)
@[simp] def zgn.k1(Q:zQ)(Y1:zL)(r d e f a:za)(h:zb):Prop:=B.pv (V.zbi f) λg=>B.pv (V.bin .lss a g) λi=>B.cond i (B.pv (V.zb3 1 f a) λj=>B.ld h j λk=>B.call C (N 600) [e,k] h λl h=>B.cond l (B.pv (V.bin .add a (.int .i64 1)) λb=>Y1 [d,e,b] h) (B.pv (V.zb3 1 f a) λm=>B.ld h m λn=>B.call C (N 601) [r,n] h λc h=>B.zg1 h (zed [(0,none,c)] (zfs 1 [.zbj])) λo h=>B.zif h 1 24 d (.sl o 0 0 1 1 1) λp h=>B.zif h 1 16 e c λq h=>B.pv (V.bin .add a (.int .i64 1)) λb=>Y1 [p,q,b] h)) (Q d h)
@[simp] def zgn.l2(Q:zQ)(a b:za):zG|[c,d,e],h,Y1=>zgn.k1 C N Q Y1 a c d b e h|_,_,_=>False
@[simp] def zgn.cps(a:za)(h:zb)(Q:zQ):Prop:=B.call C (N 602) [a] h λb h=>zd (zgn.l2 C N Q a b) [.zbj,.zbj,(.int .i64 0)] h
def zgn.Imp:Prop:=im1 C (N 593) (zgn.cps C N)
@[simp] def zdb.k1(Q:zQ)(Y1:zL)(Y2:zL)(m n b o l c a:za)(h:zb):Prop:=B.pv (V.zbi c) λd=>B.pv (V.bin .lss a d) λe=>B.cond e (B.pv (V.zb3 1 c a) λf=>B.ld h f λg=>B.call C (N 603) [b,g] h λi h=>B.pv (V.bin .add a (.int .i64 1)) λj=>Y2 [i,j] h) (B.pv (V.bin .add l (.int .i64 1)) λk=>Y1 [b,k] h)
@[simp] def zdb.l2(Q:zQ)(Y1:zL)(a b c d e:za):zG|[f,g],h,Y2=>zdb.k1 C N Q Y1 Y2 a b f c d e g h|_,_,_=>False
@[simp] def zdb.k3(Q:zQ)(Y1:zL)(c a e d b m:za)(h:zb):Prop:=B.pv (V.zb3 1 a b) λf=>B.ld h f λg=>B.call C (N 600) [d,g] h λi h=>B.cond i (B.pv (V.zb3 1 a b) λj=>B.ld h j λk=>B.call C (N 601) [c,k] h λl h=>zd (zdb.l2 C N Q Y1 c a d b l) [e,(.int .i64 0)] h) (zd (zdb.l2 C N Q Y1 c a d b m) [e,(.int .i64 0)] h)
@[simp] def zdb.k4(Q:zQ)(Y1:zL)(f a g i b:za)(h:zb):Prop:=B.pv (V.zb3 1 a b) λc=>B.ld h c λd=>B.zg1 h (zed [(0,none,d)] (zfs 1 [.str []])) λe h=>zdb.k3 C N Q Y1 f a g i b (.sl e 0 0 1 1 1) h
@[simp] def zdb.l5(Q:zQ)(f a g:za):zG|[b,c],h,Y1=>B.pv (V.zbi a) λd=>B.pv (V.bin .lss c d) λe=>B.cond e (zdb.k4 C N Q Y1 f a b g c h) (Q b h)|_,_,_=>False
@[simp] def zdb.cps(a c:za)(h:zb)(Q:zQ):Prop:=B.call C (N 602) [a] h λb h=>zd (zdb.l5 C N Q a c b) [.zbj,(.int .i64 0)] h
def zdb.Imp:Prop:=im2 C (N 594) (zdb.cps C N)
@[simp] def zx.k1(Q:zQ)(j k a b:za)(h:zb):Prop:=B.pv (V.un .not k) λc=>B.cond c (Q j h) (B.al a (B.pv (V.zcc 3 a) λd=>B.al b (B.pv (V.zcc 2 b) λe=>B.zg1 h (zed [(0,none,e)] (zfs 1 [.str []])) λf h=>B.call C (N 594) [d,(.sl f 0 0 1 1 1)] h λg h=>B.call C (N 603) [g,(.str [35,108,111,116])] h λi h=>Q i h)))
@[simp] def zx.k2(Q:zQ)(j k a b:za)(h:zb):Prop:=B.pv (V.un .not k) λc=>B.cond c (Q j h) (B.al a (B.pv (V.zcc 3 a) λd=>B.al b (B.pv (V.zcc 2 b) λe=>B.zg1 h (zed [(0,none,e)] (zfs 1 [.str []])) λf h=>B.call C (N 594) [d,(.sl f 0 0 1 1 1)] h λg h=>B.call C (N 603) [g,(.str [35,108,105,110,101])] h λi h=>Q i h)))
@[simp] def zx.k3(Q:zQ)(i j a b:za)(h:zb):Prop:=B.pv (V.un .not j) λc=>B.cond c (Q i h) (B.al a (B.pv (V.zcc 3 a) λd=>B.al b (B.pv (V.zcc 2 b) λe=>B.zg1 h (zed [(0,none,e)] (zfs 1 [.str []])) λf h=>B.call C (N 594) [d,(.sl f 0 0 1 1 1)] h λg h=>Q g h)))
@[simp] def zx.k4(Q:zQ)(Y1:zL)(v b a c:za)(h:zb):Prop:=B.al a (B.pv (V.zcc 4 a) λd=>B.pv (V.zbi d) λe=>B.pv (V.bin .lss b e) λf=>B.cond f (B.al a (B.pv (V.zcc 4 a) λg=>B.pv (V.zb3 6 g b) λi=>B.pv (V.fieldAddr 0 i) λj=>B.ld h j λk=>B.al c (B.pv (V.zcc 7 c) λl=>B.pv (V.bin .eql k l) λm=>B.cond m (B.al a (B.pv (V.zcc 3 a) λn=>B.al a (B.pv (V.zcc 4 a) λo=>B.pv (V.zb3 6 o b) λp=>B.pv (V.fieldAddr 1 p) λq=>B.ld h q λr=>B.zg1 h (zed [(0,none,r)] (zfs 1 [.str []])) λs h=>B.call C (N 594) [n,(.sl s 0 0 1 1 1)] h λt h=>Q t h))) (B.pv (V.bin .add b (.int .i64 1)) λu=>Y1 [u] h)))) (Q v h))
@[simp] def zx.l5(Q:zQ)(a b c:za):zG|[d],h,Y1=>zx.k4 C N Q Y1 a d b c h|_,_,_=>False
@[simp] def zx.k6(Q:zQ)(Y2:zL)(v b a s:za)(h:zb):Prop:=B.al a (B.pv (V.zcc 5 a) λt=>B.pv (V.zbi t) λu=>B.pv (V.bin .lss b u) λc=>B.cond c (B.al a (B.pv (V.zcc 5 a) λd=>B.pv (V.zb3 8 d b) λe=>B.pv (V.fieldAddr 0 e) λf=>B.ld h f λg=>B.al s (B.pv (V.zcc 8 s) λi=>B.pv (V.bin .eql g i) λj=>B.cond j (B.al a (B.pv (V.zcc 3 a) λk=>B.al a (B.pv (V.zcc 5 a) λl=>B.pv (V.zb3 8 l b) λm=>B.pv (V.fieldAddr 1 m) λn=>B.ld h n λo=>B.zg1 h (zed [(0,none,o)] (zfs 1 [.str []])) λp h=>B.call C (N 594) [k,(.sl p 0 0 1 1 1)] h λq h=>Q q h))) (B.pv (V.bin .add b (.int .i64 1)) λr=>Y2 [r] h)))) (Q v h))
@[simp] def zx.l7(Q:zQ)(a b c:za):zG|[d],h,Y2=>zx.k6 C N Q Y2 a d b c h|_,_,_=>False
@[simp] def zx.k8(Q:zQ)(d a e f:za)(h:zb):Prop:=B.pv (V.bin .eql a (.int .u8 10)) λb=>B.cond b (B.cond b (zd (zx.l7 C N Q d e f) [(.int .i64 0)] h) (Q .zbj h)) (B.pv (V.bin .eql a (.int .u8 11)) λc=>B.cond c (B.cond c (zd (zx.l7 C N Q d e f) [(.int .i64 0)] h) (Q .zbj h)) (B.pv (V.bin .eql a (.int .u8 14)) λg=>B.cond g (zd (zx.l7 C N Q d e f) [(.int .i64 0)] h) (Q .zbj h)))
@[simp] def zx.k9(Q:zQ)(b a c d:za)(h:zb):Prop:=B.pv (V.bin .eql a (.int .u8 6)) λe=>B.cond e (B.cond e (zd (zx.l5 C N Q b c d) [(.int .i64 0)] h) (zx.k8 C N Q b a c d h)) (B.pv (V.bin .eql a (.int .u8 7)) λf=>B.cond f (B.cond f (zd (zx.l5 C N Q b c d) [(.int .i64 0)] h) (zx.k8 C N Q b a c d h)) (B.pv (V.bin .eql a (.int .u8 8)) λg=>B.cond g (zd (zx.l5 C N Q b c d) [(.int .i64 0)] h) (zx.k8 C N Q b a c d h)))
@[simp] def zx.k10(Q:zQ)(b f a c d:za)(h:zb):Prop:=B.pv (V.bin .eql a (.int .u8 13)) λe=>B.cond e (B.cond e (zx.k3 C N Q b f c d h) (zx.k9 C N Q b a c d h)) (B.pv (V.bin .eql a (.int .u8 15)) λg=>B.cond g (zx.k3 C N Q b f c d h) (zx.k9 C N Q b a c d h))
@[simp] def zx.k11(Q:zQ)(b c a d e:za)(h:zb):Prop:=B.pv (V.bin .eql a (.int .u8 4)) λg=>B.cond g (B.cond g (zx.k1 C N Q b c d e h) (B.pv (V.bin .eql a (.int .u8 9)) λf=>B.cond f (zx.k2 C N Q b c d e h) (zx.k10 C N Q b c a d e h))) (B.pv (V.bin .eql a (.int .u8 5)) λi=>B.cond i (zx.k1 C N Q b c d e h) (B.pv (V.bin .eql a (.int .u8 9)) λf=>B.cond f (zx.k2 C N Q b c d e h) (zx.k10 C N Q b c a d e h)))
@[simp] def zx.k12(Q:zQ)(b c a d e:za)(h:zb):Prop:=B.pv (V.bin .eql a (.int .u8 1)) λf=>B.cond f (B.cond f (Q b h) (zx.k11 C N Q b c a d e h)) (B.pv (V.bin .eql a (.int .u8 2)) λg=>B.cond g (B.cond g (Q b h) (zx.k11 C N Q b c a d e h)) (B.pv (V.bin .eql a (.int .u8 3)) λi=>B.cond i (B.cond i (Q b h) (zx.k11 C N Q b c a d e h)) (B.pv (V.bin .eql a (.int .u8 12)) λj=>B.cond j (Q b h) (zx.k11 C N Q b c a d e h))))
@[simp] def zx.k13(Q:zQ)(i b a:za)(h:zb):Prop:=B.al b (B.pv (V.zcc 3 b) λc=>B.al a (B.pv (V.zcc 2 a) λd=>B.call C (N 602) [c] h λe h=>B.call C (N 600) [e,d] h λf h=>B.al a (B.pv (V.zcc 0 a) λg=>zx.k12 C N Q i f g b a h)))
@[simp] def zx.k14(Q:zQ)(a b:za)(h:zb):Prop:=B.pv (A.zs2 6 a) λc=>B.pv (A.zs2 11 b) λd=>B.zg1 h (zed [(0,none,(.str [42]))] (zfs 1 [.str []])) λe h=>zx.k13 C N Q (.sl e 0 0 1 1 1) c d h
@[simp] def zx.cps(a b:za)(h:zb)(Q:zQ):Prop:=zx.k14 C N Q a b h
def zx.Imp:Prop:=im2 C (N 596) (zx.cps C N)
@[simp] def zc2.k1(Q:zQ)(Y1:zL)(w c b e a:za)(h:zb):Prop:=B.al b (B.pv (V.zcc 5 b) λj=>B.pv (V.zbi j) λk=>B.pv (V.bin .lss c k) λl=>B.cond l (B.al b (B.pv (V.zcc 5 b) λm=>B.pv (V.zb3 8 m c) λn=>B.pv (V.fieldAddr 1 n) λo=>B.ld h o λp=>B.call C (N 600) [w,p] h λq h=>B.cond q (B.al a (B.pv (V.zcc 5 a) λr=>B.al b (B.pv (V.zcc 5 b) λs=>B.pv (V.zb3 8 s c) λt=>B.ldn h t 8 λu=>B.zg1 h (zed [(0,some 8,u)] (zfs 1 [.int .i64 0,.str [],.int .i64 0,.int .i64 0,.int .i64 0,.int .u8 0,.int .i64 0,.str []])) λf h=>B.zif h 8 80 r (.sl f 0 0 1 8 1) λg h=>B.al a (B.pv (V.zye 5 g a) λa=>B.pv (V.bin .add c (.int .i64 1)) λd=>Y1 [d,a] h)))) (B.pv (V.bin .add c (.int .i64 1)) λd=>Y1 [d,a] h))) (B.pv (V.ze5 0 6 a) λi=>B.pv (V.zqf 0 6 i e) λe=>B.pv (oneOf (znl (V.ze5 0 6 e) (some []))) λv=>Q v h))
@[simp] def zc2.l2(Q:zQ)(a b c:za):zG|[d,e],h,Y1=>zc2.k1 C N Q Y1 a d b c e h|_,_,_=>False
@[simp] def zc2.k3(Q:zQ)(Y2:zL)(e c b u a:za)(h:zb):Prop:=B.al b (B.pv (V.zcc 4 b) λf=>B.pv (V.zbi f) λg=>B.pv (V.bin .lss c g) λi=>B.cond i (B.al b (B.pv (V.zcc 4 b) λj=>B.pv (V.zb3 6 j c) λk=>B.pv (V.fieldAddr 1 k) λl=>B.ld h l λm=>B.call C (N 600) [e,m] h λn h=>B.cond n (B.al a (B.pv (V.zcc 4 a) λo=>B.al b (B.pv (V.zcc 4 b) λp=>B.pv (V.zb3 6 p c) λq=>B.ldn h q 6 λr=>B.zg1 h (zed [(0,some 6,r)] (zfs 1 [.int .i64 0,.str [],.int .i64 0,.int .i64 0,.int .i64 0,.bool false])) λs h=>B.zif h 6 56 o (.sl s 0 0 1 6 1) λt h=>B.al a (B.pv (V.zye 4 t a) λa=>B.pv (V.bin .add c (.int .i64 1)) λd=>Y2 [d,a] h)))) (B.pv (V.bin .add c (.int .i64 1)) λd=>Y2 [d,a] h))) (zd (zc2.l2 C N Q e b u) [(.int .i64 0),a] h))
@[simp] def zc2.l4(Q:zQ)(a b c:za):zG|[d,e],h,Y2=>zc2.k3 C N Q Y2 a d b c e h|_,_,_=>False
@[simp] def zc2.k5(Q:zQ)(Y3:zL)(f d c c4 b:za)(h:zb):Prop:=B.al c (B.pv (V.zcc 3 c) λg=>B.pv (V.zbi g) λi=>B.pv (V.bin .lss d i) λj=>B.cond j (B.al c (B.pv (V.zcc 3 c) λk=>B.pv (V.zb3 4 k d) λl=>B.pv (V.fieldAddr 0 l) λm=>B.ld h m λn=>B.call C (N 600) [f,n] h λo h=>B.cond o (B.al c (B.pv (V.zcc 3 c) λp=>B.pv (V.zb3 4 p d) λq=>B.ldn h q 4 λr=>B.pv (V.zqf 0 4 r (.agg [.str [],.int .i64 0,.zbj,.zbj])) λa=>B.al a (B.pv (V.zcc 2 a) λs=>B.zif h 2 24 .sz s λt h=>B.al a (B.pv (V.zye 2 t a) λa=>B.al a (B.pv (V.zcc 3 a) λu=>B.zif h 1 16 .sz u λv h=>B.al a (B.pv (V.zye 3 v a) λa=>B.al b (B.pv (V.zcc 3 b) λw=>B.pv (V.ze5 0 4 a) λx=>B.zg1 h (zed [(0,some 4,x)] (zfs 1 [.str [],.int .i64 0,.zbj,.zbj])) λy h=>B.zif h 4 72 w (.sl y 0 0 1 4 1) λz h=>B.al b (B.pv (V.zye 3 z b) λb=>B.pv (V.bin .add d (.int .i64 1)) λe=>Y3 [e,b] h)))))))) (B.pv (V.bin .add d (.int .i64 1)) λe=>Y3 [e,b] h))) (zd (zc2.l4 C N Q f c c4) [(.int .i64 0),b] h))
@[simp] def zc2.l6(Q:zQ)(a b c:za):zG|[d,e],h,Y3=>zc2.k5 C N Q Y3 a d b c e h|_,_,_=>False
@[simp] def zc2.k7(Q:zQ)(f a g:za)(h:zb):Prop:=B.al a (B.pv (V.zcc 0 a) λb=>B.al a (B.pv (V.zcc 1 a) λc=>B.al a (B.pv (V.zcc 2 a) λd=>B.pv (A.bld [(0,none,b),(1,none,c),(2,none,d)] [.int .i64 0,.int .i64 0,.int .i64 0,.zbj,.zbj,.zbj]) λe=>B.pv (V.zqf 0 6 e (.agg [.int .i64 0,.int .i64 0,.int .i64 0,.zbj,.zbj,.zbj])) λi=>zd (zc2.l6 C N Q f a g) [(.int .i64 0),i] h)))
@[simp] def zc2.cps(a b:za)(h:zb)(Q:zQ):Prop:=B.pv (A.zs2 6 a) λc=>zc2.k7 C N Q b c (.agg [.int .i64 0,.int .i64 0,.int .i64 0,.zbj,.zbj,.zbj]) h
def zc2.Imp:Prop:=im2 C (N 597) (zc2.cps C N)
@[simp] def zf1.k1(C:zh)(N:zN)(Q:zQ)(Y1:zL)(b g a:za)(h:zb):Prop:=B.pv (V.zbi b) λi=>B.pv (V.bin .lss a i) λj=>B.cond j (B.pv (V.zb3 1 b a) λc=>B.ld h c λd=>B.pv (V.bin .eql d g) λe=>B.cond e (Q (.bool true) h) (B.pv (V.bin .add a (.int .i64 1)) λf=>Y1 [f] h)) (Q (.bool false) h)
@[simp] def zf1.l2(Q:zQ)(a b:za):zG|[c],h,Y1=>zf1.k1 C N Q Y1 a b c h|_,_,_=>False
@[simp] def zf1.cps(a b:za)(h:zb)(Q:zQ):Prop:=zd (zf1.l2 C N Q a b) [(.int .i64 0)] h
def zf1.Imp:Prop:=im2 C (N 600) (zf1.cps C N)
@[simp] def zcb.k1(Q:zQ)(Y1:zL)(Y2:zL)(Y3:zL)(q r d s p a c b:za)(h:zb):Prop:=B.gd h a true (λK=>K b h) λe h=>B.gd h a true (λK=>K c h) λf h=>B.gd h a true (λK=>B.pv (V.zbi f) λv=>K v h) λg h=>B.gd h a true (λK=>B.pv (V.bin .lss e g) λv=>K v h) λi h=>B.pick a i (.bool false) λj=>B.cond j (B.pv (V.zb3 1 c b) λk=>B.ld h k λl=>B.call C (N 603) [d,l] h λm h=>B.pv (V.bin .add b (.int .i64 1)) λn=>Y3 [m,n] h) (B.pv (V.bin .add p (.int .i64 1)) λo=>Y2 [d,o] h)
@[simp] def zcb.l2(Q:zQ)(Y1:zL)(Y2:zL)(c d e f g a:za):zG|[i,b],h,Y3=>zcb.k1 C N Q Y1 Y2 Y3 c d i e f g a b h|_,_,_=>False
@[simp] def zcb.k3(Q:zQ)(Y1:zL)(Y2:zL)(b c d k e:za)(h:zb):Prop:=B.pv (V.zb3 4 b e) λf=>B.ldn h f 4 λg=>B.call C (N 604) [g,c,d] h λa h=>B.pv (V.ext 0 a) λi=>B.pv (V.ext 1 a) λj=>zd (zcb.l2 C N Q Y1 Y2 b c k e i j) [d,(.int .i64 0)] h
@[simp] def zcb.l4(Q:zQ)(Y1:zL)(a g b:za):zG|[c,d],h,Y2=>B.pv (V.zbi a) λe=>B.pv (V.bin .lss d e) λf=>B.cond f (zcb.k3 C N Q Y1 Y2 a g c b d h) (Y1 [c,b] h)|_,_,_=>False
@[simp] def zcb.k5(Q:zQ)(Y1:zL)(e f a g:za)(h:zb):Prop:=B.pv (V.zbi a) λb=>B.pv (V.bin .neq g b) λc=>B.cond c (B.pv (V.zbi a) λd=>zd (zcb.l4 C N Q Y1 e f d) [a,(.int .i64 0)] h) (Q a h)
@[simp] def zcb.l6(Q:zQ)(a b:za):zG|[c,d],h,Y1=>zcb.k5 C N Q Y1 a b c d h|_,_,_=>False
@[simp] def zcb.k7(Q:zQ)(a d:za)(h:zb):Prop:=B.call C (N 602) [a] h λb h=>B.zg1 h (zed [(0,none,d)] (zfs 1 [.str []])) λc h=>zd (zcb.l6 C N Q a b) [(.sl c 0 0 1 1 1),(.int .i64 0)] h
@[simp] def zcb.cps(a b:za)(h:zb)(Q:zQ):Prop:=zcb.k7 C N Q a b h
def zcb.Imp:Prop:=im2 C (N 601) (zcb.cps C N)
@[simp] def zeg.k1(Q:zQ)(Y1:zL)(b c a:za)(h:zb):Prop:=B.pv (V.zbi b) λj=>B.pv (V.bin .lss a j) λk=>B.cond k (B.pv (V.zb3 4 b a) λd=>B.pv (V.fieldAddr 0 d) λe=>B.ld h e λf=>B.call C (N 603) [c,f] h λg h=>B.pv (V.bin .add a (.int .i64 1)) λi=>Y1 [g,i] h) (Q c h)
@[simp] def zeg.l2(Q:zQ)(a:za):zG|[b,c],h,Y1=>zeg.k1 C N Q Y1 a b c h|_,_,_=>False
@[simp] def zeg.cps(a:za)(h:zb)(Q:zQ):Prop:=zd (zeg.l2 C N Q a) [.zbj,(.int .i64 0)] h
def zeg.Imp:Prop:=im1 C (N 602) (zeg.cps C N)
@[simp] def zej.k1(C:zh)(N:zN)(Q:zQ)(b d c:za)(h:zb):Prop:=B.pv (V.zbi b) λe=>B.pv (V.bin .lss c e) λa=>B.gd h a true (λK=>K b h) λf h=>B.gd h a true (λK=>K c h) λg h=>B.gd h a true (λK=>B.pv (V.zb3 1 f g) λv=>K v h) λi h=>B.gd h a true (λK=>B.ld h i λv=>K v h) λj h=>B.gd h a true (λK=>K d h) λk h=>B.gd h a true (λK=>B.pv (V.bin .eql j k) λv=>K v h) λl h=>B.pick a l (.bool false) λm=>B.cond m (Q b h) (B.pv (V.zhj 1 b none (some c)) λn=>B.zif h 1 16 .sz n λo h=>B.zg1 h (zed [(0,none,d)] (zfs 1 [.str []])) λp h=>B.zif h 1 16 o (.sl p 0 0 1 1 1) λq h=>B.pv (V.zhj 1 b (some c) none) λr=>B.zif h 1 16 q r λs h=>Q s h)
@[simp] def zej.k2(Q:zQ)(Y1:zL)(c d b:za)(h:zb):Prop:=B.pv (V.zbi c) λn=>B.pv (V.bin .lss b n) λa=>B.gd h a true (λK=>K c h) λe h=>B.gd h a true (λK=>K b h) λf h=>B.gd h a true (λK=>B.pv (V.zb3 1 e f) λv=>K v h) λg h=>B.gd h a true (λK=>B.ld h g λv=>K v h) λi h=>B.gd h a true (λK=>K d h) λj h=>B.gd h a true (λK=>B.pv (V.bin .lss i j) λv=>K v h) λk h=>B.pick a k (.bool false) λl=>B.cond l (B.pv (V.bin .add b (.int .i64 1)) λm=>Y1 [m] h) (zej.k1 C N Q c d b h)
@[simp] def zej.l3(Q:zQ)(a b:za):zG|[c],h,Y1=>zej.k2 C N Q Y1 a b c h|_,_,_=>False
@[simp] def zej.cps(a b:za)(h:zb)(Q:zQ):Prop:=zd (zej.l3 C N Q a b) [(.int .i64 0)] h
def zej.Imp:Prop:=im2 C (N 603) (zej.cps C N)
@[simp] def zb2.k1(Q:zQ)(Y1:zL)(x y e c a b:za)(h:zb):Prop:=B.pv (V.zbi e) λf=>B.pv (V.bin .lss b f) λg=>B.cond g (B.pv (V.zb3 1 e b) λi=>B.ld h i λj=>B.call C (N 600) [x,j] h λk h=>B.cond k (B.pv (V.zb3 1 e b) λl=>B.ld h l λm=>B.zg1 h (zed [(0,none,m)] (zfs 1 [.str []])) λn h=>B.zif h 1 16 c (.sl n 0 0 1 1 1) λo h=>B.gd h a false (λK=>K y h) λp h=>B.gd h a false (λK=>K e h) λq h=>B.gd h a false (λK=>K b h) λr h=>B.gd h a false (λK=>B.pv (V.zb3 1 q r) λv=>K v h) λs h=>B.gd h a false (λK=>B.ld h s λv=>K v h) λt h=>B.gd h a false (λK=>B.call C (N 600) [p,t] h K) λu h=>B.pick a (.bool true) u λw=>B.pv (V.bin .add b (.int .i64 1)) λd=>Y1 [o,w,d] h) (B.pv (V.bin .add b (.int .i64 1)) λd=>Y1 [c,a,d] h)) (Q (.tup [a,c]) h)
@[simp] def zb2.l2(Q:zQ)(d e f:za):zG|[a,b,c],h,Y1=>zb2.k1 C N Q Y1 d e f a b c h|_,_,_=>False
@[simp] def zb2.k3(Q:zQ)(d e f a:za)(h:zb):Prop:=B.al a (B.pv (V.zcc 3 a) λb=>B.zif h 1 16 f b λc h=>zd (zb2.l2 C N Q d e c) [.zbj,(.bool false),(.int .i64 0)] h)
@[simp] def zb2.k4(Q:zQ)(Y2:zL)(o p c b a:za)(h:zb):Prop:=B.al a (B.pv (V.zcc 2 a) λd=>B.pv (V.zbi d) λe=>B.pv (V.bin .lss b e) λf=>B.cond f (B.al a (B.pv (V.zcc 2 a) λg=>B.pv (V.zb3 2 g b) λi=>B.pv (V.fieldAddr 0 i) λj=>B.ld h j λk=>B.zg1 h (zed [(0,none,k)] (zfs 1 [.str []])) λl h=>B.zif h 1 16 c (.sl l 0 0 1 1 1) λm h=>B.pv (V.bin .add b (.int .i64 1)) λn=>Y2 [m,n] h)) (zb2.k3 C N Q o p c a h))
@[simp] def zb2.l5(Q:zQ)(a b c:za):zG|[d,e],h,Y2=>zb2.k4 C N Q Y2 a b d e c h|_,_,_=>False
@[simp] def zb2.k6(Q:zQ)(d e a:za)(h:zb):Prop:=B.al a (B.pv (V.zcc 0 a) λb=>B.zg1 h (zed [(0,none,b)] (zfs 1 [.str []])) λc h=>zd (zb2.l5 C N Q d e a) [(.sl c 0 0 1 1 1),(.int .i64 0)] h)
@[simp] def zb2.cps(a b c:za)(h:zb)(Q:zQ):Prop:=B.pv (A.zs2 4 a) λd=>zb2.k6 C N Q b c d h
def zb2.Imp:Prop:=im3 C (N 604) (zb2.cps C N)
@[simp] def zpt.cps(C:zh)(E:z8)(a:za)(h:zb)(Q:zQ):Prop:=B.pv (V.eqSl .eql a .zbj) λb=>B.cond b (Q .zbj h) (B.zif h E.es E.bytes .sz a λc h=>Q c h)
@[simp] def zbr.k1(C:zh)(E:z8)(Q:zQ)(Y1:zL)(Y2:zL)(c v1 v2 v3 v8 b:za)(h:zb):Prop:=B.pv (V.bin .gtr b v1) λa=>B.gd h a true (λK=>K v3 h) λd h=>B.gd h a true (λK=>K c h) λe h=>B.gd h a true (λK=>K b h) λf h=>B.gd h a true (λK=>B.pv (V.zb3 E.es e f) λv=>K v h) λg h=>B.gd h a true (λK=>E.ld h g λv=>K v h) λi h=>B.gd h a true (λK=>K c h) λj h=>B.gd h a true (λK=>K b h) λk h=>B.gd h a true (λK=>B.pv (V.bin .sub k (.int .i64 1)) λv=>K v h) λl h=>B.gd h a true (λK=>B.pv (V.zb3 E.es j l) λv=>K v h) λm h=>B.gd h a true (λK=>E.ld h m λv=>K v h) λn h=>B.gd h a true (λK=>B.zi0 h C d [i,n] K) λo h=>B.gd h a true (λK=>B.pv (V.bin .lss o (.int .i64 0)) λv=>K v h) λp h=>B.pick a p (.bool false) λq=>B.cond q (B.pv (V.bin .sub b (.int .i64 1)) λr=>B.pv (V.bin .sub b (.int .i64 1)) λs=>B.pv (V.zb3 E.es c s) λt=>E.ld h t λu=>B.pv (V.zb3 E.es c b) λw=>E.ld h w λx=>B.pv (V.zb3 E.es c b) λy=>E.st h y u λh=>B.pv (V.zb3 E.es c r) λz=>E.st h z x λh=>B.pv (V.bin .sub b (.int .i64 1)) λaa=>Y2 [aa] h) (B.pv (V.bin .add v8 (.int .i64 1)) λab=>Y1 [ab] h)
@[simp] def zbr.l2(C:zh)(E:z8)(Q:zQ)(Y1:zL)(a b c d e:za):zG|[f],h,Y2=>zbr.k1 C E Q Y1 Y2 a b c d e f h|_,_,_=>False
@[simp] def zbr.l3(C:zh)(E:z8)(Q:zQ)(d e b f:za):zG|[a],h,Y1=>B.pv (V.bin .lss a b) λc=>B.cond c (zd (zbr.l2 C E Q Y1 d e b f a) [a] h) (Q (.tup []) h)|_,_,_=>False
@[simp] def zbr.cps(C:zh)(E:z8)(c a d e:za)(h:zb)(Q:zQ):Prop:=B.pv (V.bin .add a (.int .i64 1)) λb=>zd (zbr.l3 C E Q c a d e) [b] h
@[simp] def zcq.k1(C:zh)(E:z8)(Q:zQ)(Y1:zL)(f g i a:za)(h:zb):Prop:=B.pv (V.bin .lss a i) λj=>B.cond j (B.pv (V.zb3 E.es f a) λb=>E.ld h b λc=>B.zi0 h C g [c] λd h=>B.cond d (Q a h) (B.pv (V.bin .add a (.int .i64 1)) λe=>Y1 [e] h)) (Q (.int .i64 (-1)) h)
@[simp] def zcq.l2(C:zh)(E:z8)(Q:zQ)(a b c:za):zG|[d],h,Y1=>zcq.k1 C E Q Y1 a b c d h|_,_,_=>False
@[simp] def zcq.cps(C:zh)(E:z8)(a b:za)(h:zb)(Q:zQ):Prop:=B.pv (V.zbi a) λc=>zd (zcq.l2 C E Q a b c) [(.int .i64 0)] h
@[simp] def zmz.cps(C:zh)(E:z8)(f1:Nat)(a b:za)(h:zb)(Q:zQ):Prop:=B.call C f1 [a,b] h λc h=>B.pv (V.bin .geq c (.int .i64 0)) λd=>Q d h
@[simp] def zik.k1(C:zh)(E:z8)(f1 f2:Nat)(Q:zQ)(a e:za)(h:zb):Prop:=B.pv (V.zbi a) λb=>B.pv (V.toInt .u64 b) λc=>B.call C f1 [c] h λd h=>B.call C f2 [a,(.int .i64 0),b,d,e] h λf h=>Q (.tup []) h
@[simp] def zik.cps(C:zh)(E:z8)(f1 f2:Nat)(a b:za)(h:zb)(Q:zQ):Prop:=zik.k1 C E f1 f2 Q a b h
@[simp] def zq.k1(C:zh)(E:z8)(f1 f2 f3 f4 f5 f6 f7 f8 f9:Nat)(Q:zQ)(Y1:zL)(d c e f g u w x i:za)(h:zb):Prop:=B.pv (V.bin .gtr c (.int .i64 0)) λa=>B.gd h a true (λK=>K g h) λy h=>B.gd h a true (λK=>K d h) λz h=>B.gd h a true (λK=>K c h) λaa h=>B.gd h a true (λK=>B.pv (V.bin .sub aa (.int .i64 1)) λv=>K v h) λab h=>B.gd h a true (λK=>B.pv (V.zb3 E.es z ab) λv=>K v h) λac h=>B.gd h a true (λK=>E.ld h ac λv=>K v h) λad h=>B.gd h a true (λK=>K d h) λae h=>B.gd h a true (λK=>K i h) λaf h=>B.gd h a true (λK=>B.pv (V.zb3 E.es ae af) λv=>K v h) λag h=>B.gd h a true (λK=>E.ld h ag λv=>K v h) λah h=>B.gd h a true (λK=>B.zi0 h C y [ad,ah] K) λai h=>B.gd h a true (λK=>B.pv (V.bin .lss ai (.int .i64 0)) λv=>K v h) λaj h=>B.gd h a true (λK=>B.pv (V.un .not aj) λv=>K v h) λak h=>B.pick a ak (.bool false) λal=>B.cond al (B.call C f1 [d,c,e,i,g] h λo h=>Y1 [o,e,f,u,w] h) (B.call C f2 [d,c,e,i,g] h λj h=>B.pv (V.ext 0 j) λb=>B.pv (V.ext 1 j) λk=>B.pv (V.bin .sub b c) λl=>B.pv (V.bin .sub e b) λm=>B.pv (V.bin .quo x (.int .i64 8)) λn=>B.pv (V.bin .lss l m) λp=>B.cond p (B.pv (V.bin .geq l n) λq=>B.call C f3 [d,c,b,f,g] h λam h=>B.pv (V.bin .add b (.int .i64 1)) λr=>Y1 [r,e,f,q,k] h) (B.pv (V.bin .geq m n) λs=>B.pv (V.bin .add b (.int .i64 1)) λt=>B.call C f3 [d,t,e,f,g] h λan h=>Y1 [c,b,f,s,k] h))
@[simp] def zq.k2(C:zh)(E:z8)(f1 f2 f3 f4 f5 f6 f7 f8 f9:Nat)(Q:zQ)(Y1:zL)(f g i k j a b d e l:za)(h:zb):Prop:=B.gd h a true (λK=>K b h) λm h=>B.pick a m (.bool false) λc=>B.gd h c true (λK=>K l h) λn h=>B.gd h c true (λK=>B.pv (V.bin .eql n (.int .i64 1)) λv=>K v h) λo h=>B.pick c o (.bool false) λp=>B.cond p (B.call C f4 [f,g,i,j] h λq h=>B.cond q (Q (.tup []) h) (zq.k1 C E f1 f2 f3 f4 f5 f6 f7 f8 f9 Q Y1 f g i k j a b d e h)) (zq.k1 C E f1 f2 f3 f4 f5 f6 f7 f8 f9 Q Y1 f g i k j a b d e h)
@[simp] def zq.k3(C:zh)(E:z8)(f1 f2 f3 f4 f5 f6 f7 f8 f9:Nat)(Q:zQ)(Y1:zL)(i a b k j c d e f g:za)(h:zb):Prop:=B.pv (V.bin .eql g (.int .i64 2)) λl=>B.cond l (B.call C f5 [i,a,b,j] h λp h=>B.pv (V.bin .sub b (.int .i64 1)) λm=>B.pv (V.bin .sub f a) λn=>B.pv (V.bin .sub m n) λo=>zq.k2 C E f1 f2 f3 f4 f5 f6 f7 f8 f9 Q Y1 i a b k j c d e o (.int .i64 1) h) (zq.k2 C E f1 f2 f3 f4 f5 f6 f7 f8 f9 Q Y1 i a b k j c d e f g h)
@[simp] def zq.k4(C:zh)(E:z8)(f1 f2 f3 f4 f5 f6 f7 f8 f9:Nat)(Q:zQ)(Y1:zL)(b c d l e f g i:za)(h:zb):Prop:=B.call C f6 [b,c,d,e] h λa h=>B.pv (V.ext 0 a) λj=>B.pv (V.ext 1 a) λk=>zq.k3 C E f1 f2 f3 f4 f5 f6 f7 f8 f9 Q Y1 b c d l e f g i j k h
@[simp] def zq.k5(C:zh)(E:z8)(f1 f2 f3 f4 f5 f6 f7 f8 f9:Nat)(Q:zQ)(Y1:zL)(d e f i g a b c:za)(h:zb):Prop:=B.pv (V.un .not a) λj=>B.cond j (B.call C f7 [d,e,f,g] h λl h=>B.pv (V.bin .sub i (.int .i64 1)) λk=>zq.k4 C E f1 f2 f3 f4 f5 f6 f7 f8 f9 Q Y1 d e f k g a b c h) (zq.k4 C E f1 f2 f3 f4 f5 f6 f7 f8 f9 Q Y1 d e f i g a b c h)
@[simp] def zq.k6(C:zh)(E:z8)(f1 f2 f3 f4 f5 f6 f7 f8 f9:Nat)(Q:zQ)(Y1:zL)(a b c d e f g i:za)(h:zb):Prop:=B.pv (V.bin .eql d (.int .i64 0)) λj=>B.cond j (B.call C f8 [a,b,c,e] h λk h=>Q (.tup []) h) (zq.k5 C E f1 f2 f3 f4 f5 f6 f7 f8 f9 Q Y1 a b c d e f g i h)
@[simp] def zq.k7(C:zh)(E:z8)(f1 f2 f3 f4 f5 f6 f7 f8 f9:Nat)(Q:zQ)(Y1:zL)(b c d j e f g a:za)(h:zb):Prop:=B.pv (V.bin .leq a (.int .i64 12)) λi=>B.cond i (B.call C f9 [b,c,d,e] h λk h=>Q (.tup []) h) (zq.k6 C E f1 f2 f3 f4 f5 f6 f7 f8 f9 Q Y1 b c d j e f g a h)
@[simp] def zq.l8(C:zh)(E:z8)(f1 f2 f3 f4 f5 f6 f7 f8 f9:Nat)(Q:zQ)(f g:za):zG|[a,b,i,c,d],h,Y1=>B.pv (V.bin .sub b a) λe=>zq.k7 C E f1 f2 f3 f4 f5 f6 f7 f8 f9 Q Y1 f a b i g c d e h|_,_,_=>False
@[simp] def zq.cps(C:zh)(E:z8)(f1 f2 f3 f4 f5 f6 f7 f8 f9:Nat)(a b c d e:za)(h:zb)(Q:zQ):Prop:=zd (zq.l8 C E f1 f2 f3 f4 f5 f6 f7 f8 f9 Q a e) [b,c,d,(.bool true),(.bool true)] h
@[simp] def zbn.k1(C:zh)(E:z8)(f1:Nat)(Q:zQ)(Y1:zL)(b o c p a:za)(h:zb):Prop:=B.pv (V.bin .geq a (.int .i64 0)) λd=>B.cond d (B.pv (V.bin .add c a) λe=>B.pv (V.bin .add c a) λf=>B.pv (V.zb3 E.es b f) λg=>E.ld h g λi=>B.pv (V.zb3 E.es b c) λj=>E.ld h j λk=>B.pv (V.zb3 E.es b c) λl=>E.st h l i λh=>B.pv (V.zb3 E.es b e) λm=>E.st h m k λh=>B.call C f1 [b,p,a,c,o] h λq h=>B.pv (V.bin .sub a (.int .i64 1)) λn=>Y1 [n] h) (Q (.tup []) h)
@[simp] def zbn.l2(C:zh)(E:z8)(f1:Nat)(Q:zQ)(b c d e:za):zG|[a],h,Y1=>zbn.k1 C E f1 Q Y1 b c d e a h|_,_,_=>False
@[simp] def zbn.k3(C:zh)(E:z8)(f1:Nat)(Q:zQ)(Y2:zL)(c d e j b a:za)(h:zb):Prop:=B.pv (V.bin .geq a (.int .i64 0)) λf=>B.cond f (B.call C f1 [c,a,b,e,d] h λk h=>B.pv (V.bin .sub a (.int .i64 1)) λg=>Y2 [g] h) (B.pv (V.bin .sub b (.int .i64 1)) λi=>zd (zbn.l2 C E f1 Q c d e j) [i] h)
@[simp] def zbn.l4(C:zh)(E:z8)(f1:Nat)(Q:zQ)(c d e f a:za):zG|[b],h,Y2=>zbn.k3 C E f1 Q Y2 c d e f a b h|_,_,_=>False
@[simp] def zbn.k5(C:zh)(E:z8)(f1:Nat)(Q:zQ)(d e f g a:za)(h:zb):Prop:=B.pv (V.bin .sub a (.int .i64 1)) λb=>B.pv (V.bin .quo b (.int .i64 2)) λc=>zd (zbn.l4 C E f1 Q d e f g a) [c] h
@[simp] def zbn.cps(C:zh)(E:z8)(f1:Nat)(c a d e:za)(h:zb)(Q:zQ):Prop:=B.pv (V.bin .sub d a) λb=>zbn.k5 C E f1 Q c e a (.int .i64 0) b h
@[simp] def zo.k1(C:zh)(E:z8)(f1 f2:Nat)(Q:zQ)(Y1:zL)(b d p q o a c:za)(h:zb):Prop:=B.pv (V.bin .add d c) λe=>B.pv (V.bin .add d c) λf=>B.pv (V.zb3 E.es b f) λg=>E.ld h g λi=>B.pv (V.zb3 E.es b a) λj=>E.ld h j λk=>B.pv (V.zb3 E.es b a) λl=>E.st h l i λh=>B.pv (V.zb3 E.es b e) λm=>E.st h m k λh=>B.pv (V.bin .add a (.int .i64 1)) λn=>Y1 [n] h
@[simp] def zo.k2(C:zh)(E:z8)(f1 f2:Nat)(Q:zQ)(Y1:zL)(e f b g c d a:za)(h:zb):Prop:=B.pv (V.bin .geq a b) λi=>B.cond i (B.pv (V.bin .sub a b) λj=>zo.k1 C E f1 f2 Q Y1 e f b g c d j h) (zo.k1 C E f1 f2 Q Y1 e f b g c d a h)
@[simp] def zo.k3(C:zh)(E:z8)(f1 f2:Nat)(Q:zQ)(Y1:zL)(i j k b a c:za)(h:zb):Prop:=B.call C f1 [b] h λd h=>B.pv (V.bin .sub a (.int .u64 1)) λe=>B.pv (V.bin .and d e) λf=>B.pv (V.toInt .i64 f) λg=>zo.k2 C E f1 f2 Q Y1 i j k b a c g h
@[simp] def zo.k4(C:zh)(E:z8)(f1 f2:Nat)(Q:zQ)(Y1:zL)(k b c l d a:za)(h:zb):Prop:=B.pv (V.bin .quo c (.int .i64 4)) λe=>B.pv (V.bin .mul e (.int .i64 2)) λf=>B.pv (V.bin .add b f) λg=>B.pv (V.bin .add g (.int .i64 1)) λi=>B.pv (V.bin .leq a i) λj=>B.cond j (zo.k3 C E f1 f2 Q Y1 k b c l d a h) (Q (.tup []) h)
@[simp] def zo.l5(C:zh)(E:z8)(f1 f2:Nat)(Q:zQ)(c d e f a:za):zG|[b],h,Y1=>zo.k4 C E f1 f2 Q Y1 c d e f a b h|_,_,_=>False
@[simp] def zo.k6(C:zh)(E:z8)(f1 f2:Nat)(Q:zQ)(i a b j c:za)(h:zb):Prop:=B.pv (V.bin .quo b (.int .i64 4)) λd=>B.pv (V.bin .mul d (.int .i64 2)) λe=>B.pv (V.bin .add a e) λf=>B.pv (V.bin .sub f (.int .i64 1)) λg=>zd (zo.l5 C E f1 f2 Q i a b j c) [g] h
@[simp] def zo.k7(C:zh)(E:z8)(f1 f2:Nat)(Q:zQ)(e f a:za)(h:zb):Prop:=B.pv (V.toInt .u64 a) λb=>B.zg1 h (some [.int .u64 0]) λc h=>B.st h (.ptr c 0 0) b λh=>B.call C f2 [a] h λd h=>zo.k6 C E f1 f2 Q e f a (.ptr c 0 0) d h
@[simp] def zo.k8(C:zh)(E:z8)(f1 f2:Nat)(Q:zQ)(d b e:za)(h:zb):Prop:=B.pv (V.bin .sub e b) λa=>B.pv (V.bin .geq a (.int .i64 8)) λc=>B.cond c (zo.k7 C E f1 f2 Q d b a h) (Q (.tup []) h)
@[simp] def zo.cps(C:zh)(E:z8)(f1 f2:Nat)(a b c d:za)(h:zb)(Q:zQ):Prop:=zo.k8 C E f1 f2 Q a b c h
@[simp] def zu.k1(C:zh)(E:z8)(f1 f2:Nat)(Q:zQ)(c a:za)(h:zb):Prop:=B.ld h c λb=>B.pv (V.bin .eql b (.int .i64 0)) λd=>B.cond d (Q (.tup [a,(.int .i64 1)]) h) (B.pv (V.bin .eql b (.int .i64 12)) λe=>B.cond e (Q (.tup [a,(.int .i64 2)]) h) (Q (.tup [a,(.int .i64 0)]) h))
@[simp] def zu.k2(C:zh)(E:z8)(f1 f2:Nat)(Q:zQ)(b c i a e f g:za)(h:zb):Prop:=B.pv (V.bin .geq i (.int .i64 50)) λj=>B.cond j (B.call C f2 [b,e,a,c] h λk h=>B.call C f2 [b,f,a,c] h λl h=>B.call C f2 [b,g,a,c] h λm h=>B.call C f1 [b,k,l,m,a,c] h λd h=>zu.k1 C E f1 f2 Q a d h) (B.call C f1 [b,e,f,g,a,c] h λd h=>zu.k1 C E f1 f2 Q a d h)
@[simp] def zu.k3(C:zh)(E:z8)(f1 f2:Nat)(Q:zQ)(g i a b d c e:za)(h:zb):Prop:=B.pv (V.bin .geq a (.int .i64 8)) λf=>B.cond f (zu.k2 C E f1 f2 Q g i a b d c e h) (zu.k1 C E f1 f2 Q b c h)
@[simp] def zu.k4(C:zh)(E:z8)(f1 f2:Nat)(Q:zQ)(i j k a b c d:za)(h:zb):Prop:=B.pv (V.bin .quo a (.int .i64 4)) λe=>B.pv (V.bin .mul e (.int .i64 3)) λf=>B.pv (V.bin .add j f) λg=>zu.k3 C E f1 f2 Q i k a b c d g h
@[simp] def zu.k5(C:zh)(E:z8)(f1 f2:Nat)(Q:zQ)(i b j a c d:za)(h:zb):Prop:=B.pv (V.bin .quo a (.int .i64 4)) λe=>B.pv (V.bin .mul e (.int .i64 2)) λf=>B.pv (V.bin .add b f) λg=>zu.k4 C E f1 f2 Q i b j a c d g h
@[simp] def zu.k6(C:zh)(E:z8)(f1 f2:Nat)(Q:zQ)(g b i a c:za)(h:zb):Prop:=B.pv (V.bin .quo a (.int .i64 4)) λd=>B.pv (V.bin .mul d (.int .i64 1)) λe=>B.pv (V.bin .add b e) λf=>zu.k5 C E f1 f2 Q g b i a c f h
@[simp] def zu.cps(C:zh)(E:z8)(f1 f2:Nat)(d a e f:za)(h:zb)(Q:zQ):Prop:=B.pv (V.bin .sub e a) λb=>B.zg1 h (some [.int .i64 0]) λc h=>zu.k6 C E f1 f2 Q d a f b (.ptr c 0 0) h
@[simp] def zc8.k1(C:zh)(E:z8)(Q:zQ)(Y1:zL)(a b c:za)(h:zb):Prop:=B.pv (V.bin .lss b c) λd=>B.cond d (B.pv (V.zb3 E.es a c) λe=>E.ld h e λf=>B.pv (V.zb3 E.es a b) λg=>E.ld h g λi=>B.pv (V.zb3 E.es a b) λj=>E.st h j f λh=>B.pv (V.zb3 E.es a c) λk=>E.st h k i λh=>B.pv (V.bin .add b (.int .i64 1)) λl=>B.pv (V.bin .sub c (.int .i64 1)) λm=>Y1 [l,m] h) (Q (.tup []) h)
@[simp] def zc8.l2(C:zh)(E:z8)(Q:zQ)(a:za):zG|[b,c],h,Y1=>zc8.k1 C E Q Y1 a b c h|_,_,_=>False
@[simp] def zc8.cps(C:zh)(E:z8)(b c d e:za)(h:zb)(Q:zQ):Prop:=B.pv (V.bin .sub d (.int .i64 1)) λa=>zd (zc8.l2 C E Q b) [c,a] h
@[simp] def zf.k1(C:zh)(E:z8)(Q:zQ)(Y1:zL)(Y2:zL)(b v1 y z x d a:za)(h:zb):Prop:=B.pv (V.bin .lss a y) λe=>B.cond e (B.pv (V.zb3 E.es b a) λf=>E.ld h f λg=>B.pv (V.bin .sub a (.int .i64 1)) λi=>B.pv (V.zb3 E.es b i) λj=>E.ld h j λk=>B.zi0 h C z [g,k] λl h=>B.pv (V.bin .lss l (.int .i64 0)) λm=>B.pv (V.un .not m) λn=>B.cond n (B.pv (V.bin .add d (.int .i64 1)) λc=>Y1 [x,c] h) (B.pv (V.bin .sub a (.int .i64 1)) λo=>B.pv (V.bin .sub a (.int .i64 1)) λp=>B.pv (V.zb3 E.es b p) λq=>E.ld h q λr=>B.pv (V.zb3 E.es b a) λs=>E.ld h s λt=>B.pv (V.zb3 E.es b a) λu=>E.st h u r λh=>B.pv (V.zb3 E.es b o) λv=>E.st h v t λh=>B.pv (V.bin .add a (.int .i64 1)) λw=>Y2 [w] h)) (B.pv (V.bin .add d (.int .i64 1)) λc=>Y1 [x,c] h)
@[simp] def zf.l2(C:zh)(E:z8)(Q:zQ)(Y1:zL)(c d e f g a:za):zG|[b],h,Y2=>zf.k1 C E Q Y1 Y2 c d e f g a b h|_,_,_=>False
@[simp] def zf.k3(C:zh)(E:z8)(Q:zQ)(Y1:zL)(i j f k a b:za)(h:zb):Prop:=B.pv (V.bin .sub f a) λc=>B.pv (V.bin .geq c (.int .i64 2)) λd=>B.cond d (B.pv (V.bin .add a (.int .i64 1)) λe=>zd (zf.l2 C E Q Y1 i j f k a b) [e] h) (B.pv (V.bin .add b (.int .i64 1)) λg=>Y1 [a,g] h)
@[simp] def zf.k4(C:zh)(E:z8)(Q:zQ)(Y1:zL)(Y3:zL)(b f g d i c a:za)(h:zb):Prop:=B.pv (V.bin .geq a (.int .i64 1)) λj=>B.cond j (B.pv (V.zb3 E.es b a) λk=>E.ld h k λl=>B.pv (V.bin .sub a (.int .i64 1)) λm=>B.pv (V.zb3 E.es b m) λn=>E.ld h n λo=>B.zi0 h C d [l,o] λp h=>B.pv (V.bin .lss p (.int .i64 0)) λq=>B.pv (V.un .not q) λr=>B.cond r (zf.k3 C E Q Y1 b f g d i c h) (B.pv (V.bin .sub a (.int .i64 1)) λs=>B.pv (V.bin .sub a (.int .i64 1)) λt=>B.pv (V.zb3 E.es b t) λu=>E.ld h u λv=>B.pv (V.zb3 E.es b a) λw=>E.ld h w λx=>B.pv (V.zb3 E.es b a) λy=>E.st h y v λh=>B.pv (V.zb3 E.es b s) λe=>E.st h e x λh=>B.pv (V.bin .sub a (.int .i64 1)) λz=>Y3 [z] h)) (zf.k3 C E Q Y1 b f g d i c h)
@[simp] def zf.l5(C:zh)(E:z8)(Q:zQ)(Y1:zL)(c d e f g a:za):zG|[b],h,Y3=>zf.k4 C E Q Y1 Y3 c d e f g a b h|_,_,_=>False
@[simp] def zf.k6(C:zh)(E:z8)(Q:zQ)(Y1:zL)(d c e f a b:za)(h:zb):Prop:=B.pv (V.bin .sub a c) λg=>B.pv (V.bin .geq g (.int .i64 2)) λi=>B.cond i (B.pv (V.bin .sub a (.int .i64 1)) λj=>zd (zf.l5 C E Q Y1 d c e f a b) [j] h) (zf.k3 C E Q Y1 d c e f a b h)
@[simp] def zf.k7(C:zh)(E:z8)(Q:zQ)(Y1:zL)(a m n o b c:za)(h:zb):Prop:=B.pv (V.bin .sub b (.int .i64 1)) λd=>B.pv (V.bin .sub b (.int .i64 1)) λe=>B.pv (V.zb3 E.es a e) λf=>E.ld h f λg=>B.pv (V.zb3 E.es a b) λi=>E.ld h i λj=>B.pv (V.zb3 E.es a b) λk=>E.st h k g λh=>B.pv (V.zb3 E.es a d) λl=>E.st h l j λh=>zf.k6 C E Q Y1 a m n o b c h
@[simp] def zf.k8(C:zh)(E:z8)(Q:zQ)(Y1:zL)(f a b g i c:za)(h:zb):Prop:=B.pv (V.bin .sub b a) λd=>B.pv (V.bin .lss d (.int .i64 50)) λe=>B.cond e (Q (.bool false) h) (zf.k7 C E Q Y1 f a b g i c h)
@[simp] def zf.k9(C:zh)(E:z8)(Q:zQ)(Y1:zL)(Y4:zL)(c y d e b f:za)(h:zb):Prop:=B.pv (V.bin .lss b d) λa=>B.gd h a true (λK=>K e h) λg h=>B.gd h a true (λK=>K c h) λi h=>B.gd h a true (λK=>K b h) λj h=>B.gd h a true (λK=>B.pv (V.zb3 E.es i j) λv=>K v h) λk h=>B.gd h a true (λK=>E.ld h k λv=>K v h) λl h=>B.gd h a true (λK=>K c h) λm h=>B.gd h a true (λK=>K b h) λn h=>B.gd h a true (λK=>B.pv (V.bin .sub n (.int .i64 1)) λv=>K v h) λo h=>B.gd h a true (λK=>B.pv (V.zb3 E.es m o) λv=>K v h) λp h=>B.gd h a true (λK=>E.ld h p λv=>K v h) λq h=>B.gd h a true (λK=>B.zi0 h C g [l,q] K) λr h=>B.gd h a true (λK=>B.pv (V.bin .lss r (.int .i64 0)) λv=>K v h) λs h=>B.gd h a true (λK=>B.pv (V.un .not s) λv=>K v h) λt h=>B.pick a t (.bool false) λu=>B.cond u (B.pv (V.bin .add b (.int .i64 1)) λw=>Y4 [w] h) (B.pv (V.bin .eql b d) λx=>B.cond x (Q (.bool true) h) (zf.k8 C E Q Y1 c y d e b f h))
@[simp] def zf.l10(C:zh)(E:z8)(Q:zQ)(Y1:zL)(b c d e a:za):zG|[f],h,Y4=>zf.k9 C E Q Y1 Y4 b c d e f a h|_,_,_=>False
@[simp] def zf.k11(C:zh)(E:z8)(Q:zQ)(Y1:zL)(c d e f g a:za)(h:zb):Prop:=B.pv (V.bin .lss a (.int .i64 5)) λb=>B.cond b (zd (zf.l10 C E Q Y1 c d e f a) [g] h) (Q (.bool false) h)
@[simp] def zf.l12(C:zh)(E:z8)(Q:zQ)(b c d e:za):zG|[f,a],h,Y1=>zf.k11 C E Q Y1 b c d e f a h|_,_,_=>False
@[simp] def zf.cps(C:zh)(E:z8)(c a d e:za)(h:zb)(Q:zQ):Prop:=B.pv (V.bin .add a (.int .i64 1)) λb=>zd (zf.l12 C E Q c a d e) [b,(.int .i64 0)] h
@[simp] def zn.k1(C:zh)(E:z8)(Q:zQ)(Y1:zL)(c n o a b:za)(h:zb):Prop:=B.pv (V.bin .gtr a b) λd=>B.cond d (Q a h) (B.pv (V.zb3 E.es c b) λe=>E.ld h e λf=>B.pv (V.zb3 E.es c a) λg=>E.ld h g λi=>B.pv (V.zb3 E.es c a) λj=>E.st h j f λh=>B.pv (V.zb3 E.es c b) λk=>E.st h k i λh=>B.pv (V.bin .add a (.int .i64 1)) λl=>B.pv (V.bin .sub b (.int .i64 1)) λm=>Y1 [l,m] h)
@[simp] def zn.k2(C:zh)(E:z8)(Q:zQ)(Y1:zL)(Y2:zL)(d e f c b:za)(h:zb):Prop:=B.pv (V.bin .leq c b) λa=>B.gd h a true (λK=>K f h) λg h=>B.gd h a true (λK=>K d h) λi h=>B.gd h a true (λK=>K e h) λj h=>B.gd h a true (λK=>B.pv (V.zb3 E.es i j) λv=>K v h) λk h=>B.gd h a true (λK=>E.ld h k λv=>K v h) λl h=>B.gd h a true (λK=>K d h) λm h=>B.gd h a true (λK=>K b h) λn h=>B.gd h a true (λK=>B.pv (V.zb3 E.es m n) λv=>K v h) λo h=>B.gd h a true (λK=>E.ld h o λv=>K v h) λp h=>B.gd h a true (λK=>B.zi0 h C g [l,p] K) λq h=>B.gd h a true (λK=>B.pv (V.bin .lss q (.int .i64 0)) λv=>K v h) λr h=>B.pick a r (.bool false) λs=>B.cond s (B.pv (V.bin .sub b (.int .i64 1)) λt=>Y2 [t] h) (zn.k1 C E Q Y1 d e f c b h)
@[simp] def zn.l3(C:zh)(E:z8)(Q:zQ)(Y1:zL)(c d e a:za):zG|[b],h,Y2=>zn.k2 C E Q Y1 Y2 c d e a b h|_,_,_=>False
@[simp] def zn.k4(C:zh)(E:z8)(Q:zQ)(Y1:zL)(Y3:zL)(d e f b c:za)(h:zb):Prop:=B.pv (V.bin .leq b c) λa=>B.gd h a true (λK=>K f h) λg h=>B.gd h a true (λK=>K d h) λi h=>B.gd h a true (λK=>K e h) λj h=>B.gd h a true (λK=>B.pv (V.zb3 E.es i j) λv=>K v h) λk h=>B.gd h a true (λK=>E.ld h k λv=>K v h) λl h=>B.gd h a true (λK=>K d h) λm h=>B.gd h a true (λK=>K b h) λn h=>B.gd h a true (λK=>B.pv (V.zb3 E.es m n) λv=>K v h) λo h=>B.gd h a true (λK=>E.ld h o λv=>K v h) λp h=>B.gd h a true (λK=>B.zi0 h C g [l,p] K) λq h=>B.gd h a true (λK=>B.pv (V.bin .lss q (.int .i64 0)) λv=>K v h) λr h=>B.gd h a true (λK=>B.pv (V.un .not r) λv=>K v h) λs h=>B.pick a s (.bool false) λt=>B.cond t (B.pv (V.bin .add b (.int .i64 1)) λu=>Y3 [u] h) (zd (zn.l3 C E Q Y1 d e f b) [c] h)
@[simp] def zn.l5(C:zh)(E:z8)(Q:zQ)(Y1:zL)(c d e a:za):zG|[b],h,Y3=>zn.k4 C E Q Y1 Y3 c d e b a h|_,_,_=>False
@[simp] def zn.l6(C:zh)(E:z8)(Q:zQ)(c d e:za):zG|[a,b],h,Y1=>zd (zn.l5 C E Q Y1 c d e b) [a] h|_,_,_=>False
@[simp] def zn.k7(C:zh)(E:z8)(Q:zQ)(d a e f:za)(h:zb):Prop:=B.pv (V.bin .add a (.int .i64 1)) λb=>B.pv (V.bin .sub e (.int .i64 1)) λc=>zd (zn.l6 C E Q d a f) [b,c] h
@[simp] def zn.k8(C:zh)(E:z8)(Q:zQ)(a b k c l:za)(h:zb):Prop:=B.pv (V.zb3 E.es a c) λd=>E.ld h d λe=>B.pv (V.zb3 E.es a b) λf=>E.ld h f λg=>B.pv (V.zb3 E.es a b) λi=>E.st h i e λh=>B.pv (V.zb3 E.es a c) λj=>E.st h j g λh=>zn.k7 C E Q a b k l h
@[simp] def zn.cps(C:zh)(E:z8)(a b c d e:za)(h:zb)(Q:zQ):Prop:=zn.k8 C E Q a b c d e h
@[simp] def zg.k1(C:zh)(E:z8)(Q:zQ)(b j a:za)(h:zb):Prop:=B.pv (V.zb3 E.es b j) λc=>E.ld h c λd=>B.pv (V.zb3 E.es b a) λe=>E.ld h e λf=>B.pv (V.zb3 E.es b a) λg=>E.st h g d λh=>B.pv (V.zb3 E.es b j) λi=>E.st h i f λh=>Q (.tup [a,(.bool false)]) h
@[simp] def zg.k2(C:zh)(E:z8)(Q:zQ)(Y1:zL)(c n o b a:za)(h:zb):Prop:=B.pv (V.bin .gtr b a) λd=>B.cond d (zg.k1 C E Q c n a h) (B.pv (V.zb3 E.es c a) λe=>E.ld h e λf=>B.pv (V.zb3 E.es c b) λg=>E.ld h g λi=>B.pv (V.zb3 E.es c b) λj=>E.st h j f λh=>B.pv (V.zb3 E.es c a) λk=>E.st h k i λh=>B.pv (V.bin .add b (.int .i64 1)) λl=>B.pv (V.bin .sub a (.int .i64 1)) λm=>Y1 [l,m] h)
@[simp] def zg.k3(C:zh)(E:z8)(Q:zQ)(Y1:zL)(Y2:zL)(d t u c b:za)(h:zb):Prop:=B.pv (V.bin .leq c b) λa=>B.gd h a true (λK=>K u h) λe h=>B.gd h a true (λK=>K d h) λf h=>B.gd h a true (λK=>K b h) λg h=>B.gd h a true (λK=>B.pv (V.zb3 E.es f g) λv=>K v h) λi h=>B.gd h a true (λK=>E.ld h i λv=>K v h) λj h=>B.gd h a true (λK=>K d h) λk h=>B.gd h a true (λK=>K t h) λl h=>B.gd h a true (λK=>B.pv (V.zb3 E.es k l) λv=>K v h) λm h=>B.gd h a true (λK=>E.ld h m λv=>K v h) λn h=>B.gd h a true (λK=>B.zi0 h C e [j,n] K) λo h=>B.gd h a true (λK=>B.pv (V.bin .lss o (.int .i64 0)) λv=>K v h) λp h=>B.gd h a true (λK=>B.pv (V.un .not p) λv=>K v h) λq h=>B.pick a q (.bool false) λr=>B.cond r (B.pv (V.bin .sub b (.int .i64 1)) λs=>Y2 [s] h) (zg.k2 C E Q Y1 d t u c b h)
@[simp] def zg.l4(C:zh)(E:z8)(Q:zQ)(Y1:zL)(c d e a:za):zG|[b],h,Y2=>zg.k3 C E Q Y1 Y2 c d e a b h|_,_,_=>False
@[simp] def zg.k5(C:zh)(E:z8)(Q:zQ)(Y1:zL)(Y3:zL)(d s t b c:za)(h:zb):Prop:=B.pv (V.bin .leq b c) λa=>B.gd h a true (λK=>K t h) λe h=>B.gd h a true (λK=>K d h) λf h=>B.gd h a true (λK=>K b h) λg h=>B.gd h a true (λK=>B.pv (V.zb3 E.es f g) λv=>K v h) λi h=>B.gd h a true (λK=>E.ld h i λv=>K v h) λj h=>B.gd h a true (λK=>K d h) λk h=>B.gd h a true (λK=>K s h) λl h=>B.gd h a true (λK=>B.pv (V.zb3 E.es k l) λv=>K v h) λm h=>B.gd h a true (λK=>E.ld h m λv=>K v h) λn h=>B.gd h a true (λK=>B.zi0 h C e [j,n] K) λo h=>B.gd h a true (λK=>B.pv (V.bin .lss o (.int .i64 0)) λv=>K v h) λp h=>B.pick a p (.bool false) λq=>B.cond q (B.pv (V.bin .add b (.int .i64 1)) λr=>Y3 [r] h) (zd (zg.l4 C E Q Y1 d s t b) [c] h)
@[simp] def zg.l6(C:zh)(E:z8)(Q:zQ)(Y1:zL)(c d e a:za):zG|[b],h,Y3=>zg.k5 C E Q Y1 Y3 c d e b a h|_,_,_=>False
@[simp] def zg.l7(C:zh)(E:z8)(Q:zQ)(c d e:za):zG|[a,b],h,Y1=>zd (zg.l6 C E Q Y1 c d e b) [a] h|_,_,_=>False
@[simp] def zg.k8(C:zh)(E:z8)(Q:zQ)(e f g c d:za)(h:zb):Prop:=B.pv (V.bin .add c (.int .i64 1)) λa=>B.pv (V.bin .sub d (.int .i64 1)) λb=>zd (zg.l7 C E Q e f g) [a,b] h
@[simp] def zg.k9(C:zh)(E:z8)(Q:zQ)(a k l b c:za)(h:zb):Prop:=B.pv (V.zb3 E.es a c) λe=>E.ld h e λf=>B.pv (V.zb3 E.es a b) λg=>E.ld h g λi=>B.pv (V.zb3 E.es a b) λj=>E.st h j f λh=>B.pv (V.zb3 E.es a c) λd=>E.st h d i λh=>zg.k8 C E Q a k l b c h
@[simp] def zg.k10(C:zh)(E:z8)(Q:zQ)(b d m c a:za)(h:zb):Prop:=B.pv (V.bin .gtr c a) λe=>B.cond e (B.pv (V.zb3 E.es b d) λf=>E.ld h f λg=>B.pv (V.zb3 E.es b a) λi=>E.ld h i λj=>B.pv (V.zb3 E.es b a) λk=>E.st h k g λh=>B.pv (V.zb3 E.es b d) λl=>E.st h l j λh=>Q (.tup [a,(.bool true)]) h) (zg.k9 C E Q b d m c a h)
@[simp] def zg.k11(C:zh)(E:z8)(Q:zQ)(Y4:zL)(d e f c b:za)(h:zb):Prop:=B.pv (V.bin .leq c b) λa=>B.gd h a true (λK=>K f h) λg h=>B.gd h a true (λK=>K d h) λi h=>B.gd h a true (λK=>K b h) λj h=>B.gd h a true (λK=>B.pv (V.zb3 E.es i j) λv=>K v h) λk h=>B.gd h a true (λK=>E.ld h k λv=>K v h) λl h=>B.gd h a true (λK=>K d h) λm h=>B.gd h a true (λK=>K e h) λn h=>B.gd h a true (λK=>B.pv (V.zb3 E.es m n) λv=>K v h) λo h=>B.gd h a true (λK=>E.ld h o λv=>K v h) λp h=>B.gd h a true (λK=>B.zi0 h C g [l,p] K) λq h=>B.gd h a true (λK=>B.pv (V.bin .lss q (.int .i64 0)) λv=>K v h) λr h=>B.gd h a true (λK=>B.pv (V.un .not r) λv=>K v h) λs h=>B.pick a s (.bool false) λt=>B.cond t (B.pv (V.bin .sub b (.int .i64 1)) λu=>Y4 [u] h) (zg.k10 C E Q d e f c b h)
@[simp] def zg.l12(C:zh)(E:z8)(Q:zQ)(c d e a:za):zG|[b],h,Y4=>zg.k11 C E Q Y4 c d e a b h|_,_,_=>False
@[simp] def zg.k13(C:zh)(E:z8)(Q:zQ)(Y5:zL)(d e f b c:za)(h:zb):Prop:=B.pv (V.bin .leq b c) λa=>B.gd h a true (λK=>K f h) λg h=>B.gd h a true (λK=>K d h) λi h=>B.gd h a true (λK=>K b h) λj h=>B.gd h a true (λK=>B.pv (V.zb3 E.es i j) λv=>K v h) λk h=>B.gd h a true (λK=>E.ld h k λv=>K v h) λl h=>B.gd h a true (λK=>K d h) λm h=>B.gd h a true (λK=>K e h) λn h=>B.gd h a true (λK=>B.pv (V.zb3 E.es m n) λv=>K v h) λo h=>B.gd h a true (λK=>E.ld h o λv=>K v h) λp h=>B.gd h a true (λK=>B.zi0 h C g [l,p] K) λq h=>B.gd h a true (λK=>B.pv (V.bin .lss q (.int .i64 0)) λv=>K v h) λr h=>B.pick a r (.bool false) λs=>B.cond s (B.pv (V.bin .add b (.int .i64 1)) λt=>Y5 [t] h) (zd (zg.l12 C E Q d e f b) [c] h)
@[simp] def zg.l14(C:zh)(E:z8)(Q:zQ)(c d e a:za):zG|[b],h,Y5=>zg.k13 C E Q Y5 c d e b a h|_,_,_=>False
@[simp] def zg.k15(C:zh)(E:z8)(Q:zQ)(d a e f:za)(h:zb):Prop:=B.pv (V.bin .add a (.int .i64 1)) λb=>B.pv (V.bin .sub e (.int .i64 1)) λc=>zd (zg.l14 C E Q d a f c) [b] h
@[simp] def zg.k16(C:zh)(E:z8)(Q:zQ)(a b k c l:za)(h:zb):Prop:=B.pv (V.zb3 E.es a c) λd=>E.ld h d λe=>B.pv (V.zb3 E.es a b) λf=>E.ld h f λg=>B.pv (V.zb3 E.es a b) λi=>E.st h i e λh=>B.pv (V.zb3 E.es a c) λj=>E.st h j g λh=>zg.k15 C E Q a b k l h
@[simp] def zg.cps(C:zh)(E:z8)(a b c d e:za)(h:zb)(Q:zQ):Prop:=zg.k16 C E Q a b c d e h
@[simp] def zbw.k1(C:zh)(E:z8)(Q:zQ)(Y1:zL)(b z c y d a:za)(h:zb):Prop:=B.pv (V.bin .add c d) λe=>B.pv (V.zb3 E.es b e) λf=>E.ld h f λg=>B.pv (V.bin .add c a) λi=>B.pv (V.zb3 E.es b i) λj=>E.ld h j λk=>B.zi0 h C y [g,k] λl h=>B.pv (V.bin .lss l (.int .i64 0)) λm=>B.pv (V.un .not m) λn=>B.cond n (Q (.tup []) h) (B.pv (V.bin .add c d) λo=>B.pv (V.bin .add c a) λp=>B.pv (V.bin .add c a) λq=>B.pv (V.zb3 E.es b q) λr=>E.ld h r λs=>B.pv (V.bin .add c d) λt=>B.pv (V.zb3 E.es b t) λu=>E.ld h u λv=>B.pv (V.zb3 E.es b o) λw=>E.st h w s λh=>B.pv (V.zb3 E.es b p) λx=>E.st h x v λh=>Y1 [a] h)
@[simp] def zbw.k2(C:zh)(E:z8)(Q:zQ)(Y1:zL)(c f d g e b:za)(h:zb):Prop:=B.pv (V.bin .add b (.int .i64 1)) λi=>B.pv (V.bin .lss i f) λa=>B.gd h a true (λK=>K g h) λj h=>B.gd h a true (λK=>K c h) λk h=>B.gd h a true (λK=>K d h) λl h=>B.gd h a true (λK=>K b h) λm h=>B.gd h a true (λK=>B.pv (V.bin .add l m) λv=>K v h) λn h=>B.gd h a true (λK=>B.pv (V.zb3 E.es k n) λv=>K v h) λo h=>B.gd h a true (λK=>E.ld h o λv=>K v h) λp h=>B.gd h a true (λK=>K c h) λq h=>B.gd h a true (λK=>K d h) λr h=>B.gd h a true (λK=>K b h) λs h=>B.gd h a true (λK=>B.pv (V.bin .add r s) λv=>K v h) λt h=>B.gd h a true (λK=>B.pv (V.bin .add t (.int .i64 1)) λv=>K v h) λu h=>B.gd h a true (λK=>B.pv (V.zb3 E.es q u) λv=>K v h) λw h=>B.gd h a true (λK=>E.ld h w λv=>K v h) λx h=>B.gd h a true (λK=>B.zi0 h C j [p,x] K) λy h=>B.gd h a true (λK=>B.pv (V.bin .lss y (.int .i64 0)) λv=>K v h) λz h=>B.pick a z (.bool false) λaa=>B.cond aa (B.pv (V.bin .add b (.int .i64 1)) λab=>zbw.k1 C E Q Y1 c f d g e ab h) (zbw.k1 C E Q Y1 c f d g e b h)
@[simp] def zbw.k3(C:zh)(E:z8)(Q:zQ)(Y1:zL)(f c g i a:za)(h:zb):Prop:=B.pv (V.bin .mul (.int .i64 2) a) λd=>B.pv (V.bin .add d (.int .i64 1)) λb=>B.pv (V.bin .geq b c) λe=>B.cond e (Q (.tup []) h) (zbw.k2 C E Q Y1 f c g i a b h)
@[simp] def zbw.l4(C:zh)(E:z8)(Q:zQ)(b c d e:za):zG|[a],h,Y1=>zbw.k3 C E Q Y1 b c d e a h|_,_,_=>False
@[simp] def zbw.cps(C:zh)(E:z8)(a b c d e:za)(h:zb)(Q:zQ):Prop:=zd (zbw.l4 C E Q a c d e) [b] h
@[simp] def ze6.k1(C:zh)(E:z8)(f1:Nat)(Q:zQ)(e a f g:za)(h:zb):Prop:=B.pv (V.bin .sub a (.int .i64 1)) λb=>B.pv (V.bin .add a (.int .i64 1)) λc=>B.call C f1 [e,b,a,c,f,g] h λd h=>Q d h
@[simp] def ze6.cps(C:zh)(E:z8)(f1:Nat)(a b c d:za)(h:zb)(Q:zQ):Prop:=ze6.k1 C E f1 Q a b c d h
@[simp] def zgt.k1(C:zh)(E:z8)(f1:Nat)(Q:zQ)(d l m n e f:za)(h:zb):Prop:=B.call C f1 [d,l,m,e,f] h λa h=>B.pv (V.ext 0 a) λg=>B.pv (V.ext 1 a) λi=>B.call C f1 [d,i,n,e,f] h λb h=>B.pv (V.ext 0 b) λj=>B.pv (V.ext 1 b) λo=>B.call C f1 [d,g,j,e,f] h λc h=>B.pv (V.ext 0 c) λp=>B.pv (V.ext 1 c) λk=>Q k h
@[simp] def zgt.cps(C:zh)(E:z8)(f1:Nat)(a b c d e f:za)(h:zb)(Q:zQ):Prop:=zgt.k1 C E f1 Q a b c d e f h
@[simp] def zgs.k1(C:zh)(E:z8)(Q:zQ)(c a b d p:za)(h:zb):Prop:=B.pv (V.zb3 E.es c b) λe=>E.ld h e λf=>B.pv (V.zb3 E.es c a) λg=>E.ld h g λi=>B.zi0 h C p [f,i] λj h=>B.pv (V.bin .lss j (.int .i64 0)) λk=>B.cond k (B.nilCheck d λl=>B.ld h l λm=>B.pv (V.bin .add m (.int .i64 1)) λn=>B.nilCheck d λo=>B.st h o n λh=>Q (.tup [b,a]) h) (Q (.tup [a,b]) h)
@[simp] def zgs.cps(C:zh)(E:z8)(a b c d e:za)(h:zb)(Q:zQ):Prop:=zgs.k1 C E Q a b c d e h
@[simp] def zk7.k1(C:zh)(E:z8)(f1 f2:Nat)(Q:zQ)(a:za)(h:zb):Prop:=B.pv (V.zbi a) λb=>B.pv (V.toInt .u64 b) λc=>B.call C f1 [c] h λd h=>B.call C f2 [a,(.int .i64 0),b,d] h λe h=>Q (.tup []) h
@[simp] def zk7.cps(C:zh)(E:z8)(f1 f2:Nat)(a:za)(h:zb)(Q:zQ):Prop:=zk7.k1 C E f1 f2 Q a h
@[simp] def zc9.k1(C:zh)(E:z8)(Q:zQ)(Y1:zL)(Y2:zL)(e b d a:za)(h:zb):Prop:=B.pv (V.zbi d) λf=>B.pv (V.bin .lss a f) λg=>B.cond g (B.pv (V.zb3 E.es d a) λi=>E.ld h i λj=>B.pv (V.bin .sub a (.int .i64 1)) λk=>B.pv (V.zb3 E.es d k) λl=>E.ld h l λm=>B.pv (V.bin .neq j m) λn=>B.cond n (B.pv (V.zb3 E.es d a) λo=>E.ld h o λp=>B.pv (V.zb3 E.es e b) λq=>E.st h q p λh=>B.pv (V.bin .add b (.int .i64 1)) λr=>B.pv (V.bin .add a (.int .i64 1)) λc=>Y2 [r,c] h) (B.pv (V.bin .add a (.int .i64 1)) λc=>Y2 [b,c] h)) (B.pv (V.zhj E.es e (some b) none) λs=>B.clr h E.z s λ_ h=>B.pv (V.zhj E.es e none (some b)) λt=>Q t h)
@[simp] def zc9.l2(C:zh)(E:z8)(Q:zQ)(Y1:zL)(a b:za):zG|[c,d],h,Y2=>zc9.k1 C E Q Y1 Y2 a c b d h|_,_,_=>False
@[simp] def zc9.k3(C:zh)(E:z8)(Q:zQ)(Y1:zL)(b a:za)(h:zb):Prop:=B.pv (V.zb3 E.es b a) λc=>E.ld h c λd=>B.pv (V.bin .sub a (.int .i64 1)) λe=>B.pv (V.zb3 E.es b e) λf=>E.ld h f λg=>B.pv (V.bin .eql d g) λi=>B.cond i (B.pv (V.zhj E.es b (some a) none) λj=>zd (zc9.l2 C E Q Y1 b j) [a,(.int .i64 1)] h) (B.pv (V.bin .add a (.int .i64 1)) λk=>Y1 [k] h)
@[simp] def zc9.l4(C:zh)(E:z8)(Q:zQ)(a:za):zG|[b],h,Y1=>B.pv (V.zbi a) λc=>B.pv (V.bin .lss b c) λd=>B.cond d (zc9.k3 C E Q Y1 a b h) (Q a h)|_,_,_=>False
@[simp] def zc9.k5(C:zh)(E:z8)(Q:zQ)(a:za)(h:zb):Prop:=B.pv (V.zbi a) λb=>B.pv (V.bin .lss b (.int .i64 2)) λc=>B.cond c (Q a h) (zd (zc9.l4 C E Q a) [(.int .i64 1)] h)
@[simp] def zc9.cps(C:zh)(E:z8)(a:za)(h:zb)(Q:zQ):Prop:=zc9.k5 C E Q a h
@[simp] def zbg.k1(C:zh)(E:z8)(f1 f2 f3 f4 f5 f6 f7 f8 f9 f10:Nat)(Q:zQ)(Y1:zL)(d c e f v8 v9 s g:za)(h:zb):Prop:=B.pv (V.bin .gtr c (.int .i64 0)) λa=>B.gd h a true (λK=>K d h) λt h=>B.gd h a true (λK=>K c h) λu h=>B.gd h a true (λK=>B.pv (V.bin .sub u (.int .i64 1)) λv=>K v h) λw h=>B.gd h a true (λK=>B.pv (V.zb3 E.es t w) λv=>K v h) λx h=>B.gd h a true (λK=>E.ld h x λv=>K v h) λy h=>B.gd h a true (λK=>K d h) λz h=>B.gd h a true (λK=>K g h) λaa h=>B.gd h a true (λK=>B.pv (V.zb3 E.es z aa) λv=>K v h) λab h=>B.gd h a true (λK=>E.ld h ab λv=>K v h) λac h=>B.gd h a true (λK=>B.call C f1 [y,ac] h K) λad h=>B.gd h a true (λK=>B.pv (V.un .not ad) λv=>K v h) λae h=>B.pick a ae (.bool false) λaf=>B.cond af (B.call C f2 [d,c,e,g] h λag h=>Y1 [ag,e,f,v8,v9] h) (B.call C f3 [d,c,e,g] h λm h=>B.pv (V.ext 0 m) λb=>B.pv (V.ext 1 m) λi=>B.pv (V.bin .sub b c) λj=>B.pv (V.bin .sub e b) λk=>B.pv (V.bin .quo s (.int .i64 8)) λl=>B.pv (V.bin .lss j k) λn=>B.cond n (B.pv (V.bin .geq j l) λo=>B.call C f4 [d,c,b,f] h λaj h=>B.pv (V.bin .add b (.int .i64 1)) λp=>Y1 [p,e,f,o,i] h) (B.pv (V.bin .geq k l) λq=>B.pv (V.bin .add b (.int .i64 1)) λr=>B.call C f4 [d,r,e,f] h λak h=>Y1 [c,b,f,q,i] h))
@[simp] def zbg.k2(C:zh)(E:z8)(f1 f2 f3 f4 f5 f6 f7 f8 f9 f10:Nat)(Q:zQ)(Y1:zL)(e f g j b i c d k:za)(h:zb):Prop:=B.gd h b true (λK=>K i h) λl h=>B.pick b l (.bool false) λa=>B.gd h a true (λK=>K k h) λm h=>B.gd h a true (λK=>B.pv (V.bin .eql m (.int .i64 1)) λv=>K v h) λn h=>B.pick a n (.bool false) λo=>B.cond o (B.call C f5 [e,f,g] h λp h=>B.cond p (Q (.tup []) h) (zbg.k1 C E f1 f2 f3 f4 f5 f6 f7 f8 f9 f10 Q Y1 e f g j b i c d h)) (zbg.k1 C E f1 f2 f3 f4 f5 f6 f7 f8 f9 f10 Q Y1 e f g j b i c d h)
@[simp] def zbg.k3(C:zh)(E:z8)(f1 f2 f3 f4 f5 f6 f7 f8 f9 f10:Nat)(Q:zQ)(Y1:zL)(f a b g i j c d e:za)(h:zb):Prop:=B.pv (V.bin .eql e (.int .i64 2)) λk=>B.cond k (B.call C f6 [f,a,b] h λo h=>B.pv (V.bin .sub b (.int .i64 1)) λl=>B.pv (V.bin .sub d a) λm=>B.pv (V.bin .sub l m) λn=>zbg.k2 C E f1 f2 f3 f4 f5 f6 f7 f8 f9 f10 Q Y1 f a b g i j c n (.int .i64 1) h) (zbg.k2 C E f1 f2 f3 f4 f5 f6 f7 f8 f9 f10 Q Y1 f a b g i j c d e h)
@[simp] def zbg.k4(C:zh)(E:z8)(f1 f2 f3 f4 f5 f6 f7 f8 f9 f10:Nat)(Q:zQ)(Y1:zL)(b c d i j k e:za)(h:zb):Prop:=B.call C f7 [b,c,d] h λa h=>B.pv (V.ext 0 a) λf=>B.pv (V.ext 1 a) λg=>zbg.k3 C E f1 f2 f3 f4 f5 f6 f7 f8 f9 f10 Q Y1 b c d i j k e f g h
@[simp] def zbg.k5(C:zh)(E:z8)(f1 f2 f3 f4 f5 f6 f7 f8 f9 f10:Nat)(Q:zQ)(Y1:zL)(b c d f e g a:za)(h:zb):Prop:=B.pv (V.un .not e) λi=>B.cond i (B.call C f8 [b,c,d] h λk h=>B.pv (V.bin .sub f (.int .i64 1)) λj=>zbg.k4 C E f1 f2 f3 f4 f5 f6 f7 f8 f9 f10 Q Y1 b c d j e g a h) (zbg.k4 C E f1 f2 f3 f4 f5 f6 f7 f8 f9 f10 Q Y1 b c d f e g a h)
@[simp] def zbg.k6(C:zh)(E:z8)(f1 f2 f3 f4 f5 f6 f7 f8 f9 f10:Nat)(Q:zQ)(Y1:zL)(a b c d g i e:za)(h:zb):Prop:=B.pv (V.bin .eql d (.int .i64 0)) λf=>B.cond f (B.call C f9 [a,b,c] h λj h=>Q (.tup []) h) (zbg.k5 C E f1 f2 f3 f4 f5 f6 f7 f8 f9 f10 Q Y1 a b c d g i e h)
@[simp] def zbg.k7(C:zh)(E:z8)(f1 f2 f3 f4 f5 f6 f7 f8 f9 f10:Nat)(Q:zQ)(Y1:zL)(b c d f g i a:za)(h:zb):Prop:=B.pv (V.bin .leq a (.int .i64 12)) λe=>B.cond e (B.call C f10 [b,c,d] h λj h=>Q (.tup []) h) (zbg.k6 C E f1 f2 f3 f4 f5 f6 f7 f8 f9 f10 Q Y1 b c d f g i a h)
@[simp] def zbg.l8(C:zh)(E:z8)(f1 f2 f3 f4 f5 f6 f7 f8 f9 f10:Nat)(Q:zQ)(d:za):zG|[a,b,e,f,g],h,Y1=>B.pv (V.bin .sub b a) λc=>zbg.k7 C E f1 f2 f3 f4 f5 f6 f7 f8 f9 f10 Q Y1 d a b e f g c h|_,_,_=>False
@[simp] def zbg.cps(C:zh)(E:z8)(f1 f2 f3 f4 f5 f6 f7 f8 f9 f10:Nat)(a b c d:za)(h:zb)(Q:zQ):Prop:=zd (zbg.l8 C E f1 f2 f3 f4 f5 f6 f7 f8 f9 f10 Q a) [b,c,d,(.bool true),(.bool true)] h
@[simp] def zcr.k1(C:zh)(E:z8)(f1:Nat)(Q:zQ)(Y1:zL)(Y2:zL)(c v1 v2 v6 b:za)(h:zb):Prop:=B.pv (V.bin .gtr b v1) λa=>B.gd h a true (λK=>K c h) λd h=>B.gd h a true (λK=>K b h) λe h=>B.gd h a true (λK=>B.pv (V.zb3 E.es d e) λv=>K v h) λf h=>B.gd h a true (λK=>E.ld h f λv=>K v h) λg h=>B.gd h a true (λK=>K c h) λi h=>B.gd h a true (λK=>K b h) λj h=>B.gd h a true (λK=>B.pv (V.bin .sub j (.int .i64 1)) λv=>K v h) λk h=>B.gd h a true (λK=>B.pv (V.zb3 E.es i k) λv=>K v h) λl h=>B.gd h a true (λK=>E.ld h l λv=>K v h) λm h=>B.gd h a true (λK=>B.call C f1 [g,m] h K) λn h=>B.pick a n (.bool false) λo=>B.cond o (B.pv (V.bin .sub b (.int .i64 1)) λp=>B.pv (V.bin .sub b (.int .i64 1)) λq=>B.pv (V.zb3 E.es c q) λr=>E.ld h r λs=>B.pv (V.zb3 E.es c b) λt=>E.ld h t λu=>B.pv (V.zb3 E.es c b) λw=>E.st h w s λh=>B.pv (V.zb3 E.es c p) λx=>E.st h x u λh=>B.pv (V.bin .sub b (.int .i64 1)) λy=>Y2 [y] h) (B.pv (V.bin .add v6 (.int .i64 1)) λz=>Y1 [z] h)
@[simp] def zcr.l2(C:zh)(E:z8)(f1:Nat)(Q:zQ)(Y1:zL)(a b c d:za):zG|[e],h,Y2=>zcr.k1 C E f1 Q Y1 Y2 a b c d e h|_,_,_=>False
@[simp] def zcr.l3(C:zh)(E:z8)(f1:Nat)(Q:zQ)(d e b:za):zG|[a],h,Y1=>B.pv (V.bin .lss a b) λc=>B.cond c (zd (zcr.l2 C E f1 Q Y1 d e b a) [a] h) (Q (.tup []) h)|_,_,_=>False
@[simp] def zcr.cps(C:zh)(E:z8)(f1:Nat)(b a c:za)(h:zb)(Q:zQ):Prop:=B.pv (V.bin .add a (.int .i64 1)) λd=>zd (zcr.l3 C E f1 Q b a c) [d] h
@[simp] def zcd.k1(C:zh)(E:z8)(f1:Nat)(Q:zQ)(Y1:zL)(b c o a:za)(h:zb):Prop:=B.pv (V.bin .geq a (.int .i64 0)) λd=>B.cond d (B.pv (V.bin .add c a) λe=>B.pv (V.bin .add c a) λf=>B.pv (V.zb3 E.es b f) λg=>E.ld h g λi=>B.pv (V.zb3 E.es b c) λj=>E.ld h j λk=>B.pv (V.zb3 E.es b c) λl=>E.st h l i λh=>B.pv (V.zb3 E.es b e) λm=>E.st h m k λh=>B.call C f1 [b,o,a,c] h λp h=>B.pv (V.bin .sub a (.int .i64 1)) λn=>Y1 [n] h) (Q (.tup []) h)
@[simp] def zcd.l2(C:zh)(E:z8)(f1:Nat)(Q:zQ)(b c d:za):zG|[a],h,Y1=>zcd.k1 C E f1 Q Y1 b c d a h|_,_,_=>False
@[simp] def zcd.k3(C:zh)(E:z8)(f1:Nat)(Q:zQ)(Y2:zL)(b c i d a:za)(h:zb):Prop:=B.pv (V.bin .geq a (.int .i64 0)) λe=>B.cond e (B.call C f1 [b,a,d,c] h λj h=>B.pv (V.bin .sub a (.int .i64 1)) λf=>Y2 [f] h) (B.pv (V.bin .sub d (.int .i64 1)) λg=>zd (zcd.l2 C E f1 Q b c i) [g] h)
@[simp] def zcd.l4(C:zh)(E:z8)(f1:Nat)(Q:zQ)(a b c d:za):zG|[e],h,Y2=>zcd.k3 C E f1 Q Y2 a b c d e h|_,_,_=>False
@[simp] def zcd.k5(C:zh)(E:z8)(f1:Nat)(Q:zQ)(d e f a:za)(h:zb):Prop:=B.pv (V.bin .sub a (.int .i64 1)) λb=>B.pv (V.bin .quo b (.int .i64 2)) λc=>zd (zcd.l4 C E f1 Q d e f a) [c] h
@[simp] def zcd.cps(C:zh)(E:z8)(f1:Nat)(c a d:za)(h:zb)(Q:zQ):Prop:=B.pv (V.bin .sub d a) λb=>zcd.k5 C E f1 Q c a (.int .i64 0) b h
@[simp] def z6.k1(C:zh)(E:z8)(f1 f2:Nat)(Q:zQ)(Y1:zL)(a d o p q c b:za)(h:zb):Prop:=B.pv (V.bin .add d b) λe=>B.pv (V.bin .add d b) λf=>B.pv (V.zb3 E.es a f) λg=>E.ld h g λi=>B.pv (V.zb3 E.es a c) λj=>E.ld h j λk=>B.pv (V.zb3 E.es a c) λl=>E.st h l i λh=>B.pv (V.zb3 E.es a e) λm=>E.st h m k λh=>B.pv (V.bin .add c (.int .i64 1)) λn=>Y1 [n] h
@[simp] def z6.k2(C:zh)(E:z8)(f1 f2:Nat)(Q:zQ)(Y1:zL)(c d b e f g a:za)(h:zb):Prop:=B.pv (V.bin .geq a b) λi=>B.cond i (B.pv (V.bin .sub a b) λj=>z6.k1 C E f1 f2 Q Y1 c d b e f g j h) (z6.k1 C E f1 f2 Q Y1 c d b e f g a h)
@[simp] def z6.k3(C:zh)(E:z8)(f1 f2:Nat)(Q:zQ)(Y1:zL)(g i j a b k:za)(h:zb):Prop:=B.call C f1 [a] h λc h=>B.pv (V.bin .sub b (.int .u64 1)) λd=>B.pv (V.bin .and c d) λe=>B.pv (V.toInt .i64 e) λf=>z6.k2 C E f1 f2 Q Y1 g i j a b k f h
@[simp] def z6.k4(C:zh)(E:z8)(f1 f2:Nat)(Q:zQ)(Y1:zL)(j a b k l c:za)(h:zb):Prop:=B.pv (V.bin .quo b (.int .i64 4)) λd=>B.pv (V.bin .mul d (.int .i64 2)) λe=>B.pv (V.bin .add a e) λf=>B.pv (V.bin .add f (.int .i64 1)) λg=>B.pv (V.bin .leq c g) λi=>B.cond i (z6.k3 C E f1 f2 Q Y1 j a b k l c h) (Q (.tup []) h)
@[simp] def z6.l5(C:zh)(E:z8)(f1 f2:Nat)(Q:zQ)(a b c d e:za):zG|[f],h,Y1=>z6.k4 C E f1 f2 Q Y1 a b c d e f h|_,_,_=>False
@[simp] def z6.k6(C:zh)(E:z8)(f1 f2:Nat)(Q:zQ)(g a b i j:za)(h:zb):Prop:=B.pv (V.bin .quo b (.int .i64 4)) λc=>B.pv (V.bin .mul c (.int .i64 2)) λd=>B.pv (V.bin .add a d) λe=>B.pv (V.bin .sub e (.int .i64 1)) λf=>zd (z6.l5 C E f1 f2 Q g a b i j) [f] h
@[simp] def z6.k7(C:zh)(E:z8)(f1 f2:Nat)(Q:zQ)(e f a:za)(h:zb):Prop:=B.pv (V.toInt .u64 a) λb=>B.zg1 h (some [.int .u64 0]) λc h=>B.st h (.ptr c 0 0) b λh=>B.call C f2 [a] h λd h=>z6.k6 C E f1 f2 Q e f a (.ptr c 0 0) d h
@[simp] def z6.k8(C:zh)(E:z8)(f1 f2:Nat)(Q:zQ)(d b e:za)(h:zb):Prop:=B.pv (V.bin .sub e b) λa=>B.pv (V.bin .geq a (.int .i64 8)) λc=>B.cond c (z6.k7 C E f1 f2 Q d b a h) (Q (.tup []) h)
@[simp] def z6.cps(C:zh)(E:z8)(f1 f2:Nat)(a b c:za)(h:zb)(Q:zQ):Prop:=z6.k8 C E f1 f2 Q a b c h
@[simp] def zbp.k1(C:zh)(E:z8)(f1 f2:Nat)(Q:zQ)(e a:za)(h:zb):Prop:=B.ld h e λb=>B.pv (V.bin .eql b (.int .i64 0)) λc=>B.cond c (Q (.tup [a,(.int .i64 1)]) h) (B.pv (V.bin .eql b (.int .i64 12)) λd=>B.cond d (Q (.tup [a,(.int .i64 2)]) h) (Q (.tup [a,(.int .i64 0)]) h))
@[simp] def zbp.k2(C:zh)(E:z8)(f1 f2:Nat)(Q:zQ)(b g a e c f:za)(h:zb):Prop:=B.pv (V.bin .geq g (.int .i64 8)) λi=>B.cond i (B.pv (V.bin .geq g (.int .i64 50)) λj=>B.cond j (B.call C f1 [b,e,a] h λk h=>B.call C f1 [b,c,a] h λl h=>B.call C f1 [b,f,a] h λm h=>B.call C f2 [b,k,l,m,a] h λd h=>zbp.k1 C E f1 f2 Q a d h) (B.call C f2 [b,e,c,f,a] h λd h=>zbp.k1 C E f1 f2 Q a d h)) (zbp.k1 C E f1 f2 Q a c h)
@[simp] def zbp.k3(C:zh)(E:z8)(f1 f2:Nat)(Q:zQ)(g i a j b c:za)(h:zb):Prop:=B.pv (V.bin .quo a (.int .i64 4)) λd=>B.pv (V.bin .mul d (.int .i64 3)) λe=>B.pv (V.bin .add i e) λf=>zbp.k2 C E f1 f2 Q g a j b c f h
@[simp] def zbp.k4(C:zh)(E:z8)(f1 f2:Nat)(Q:zQ)(g a b i c:za)(h:zb):Prop:=B.pv (V.bin .quo b (.int .i64 4)) λd=>B.pv (V.bin .mul d (.int .i64 2)) λe=>B.pv (V.bin .add a e) λf=>zbp.k3 C E f1 f2 Q g a b i c f h
@[simp] def zbp.k5(C:zh)(E:z8)(f1 f2:Nat)(Q:zQ)(f a b g:za)(h:zb):Prop:=B.pv (V.bin .quo b (.int .i64 4)) λc=>B.pv (V.bin .mul c (.int .i64 1)) λd=>B.pv (V.bin .add a d) λe=>zbp.k4 C E f1 f2 Q f a b g e h
@[simp] def zbp.cps(C:zh)(E:z8)(f1 f2:Nat)(c a d:za)(h:zb)(Q:zQ):Prop:=B.pv (V.bin .sub d a) λb=>B.zg1 h (some [.int .i64 0]) λe h=>zbp.k5 C E f1 f2 Q c a b (.ptr e 0 0) h
@[simp] def zd6.k1(C:zh)(E:z8)(Q:zQ)(Y1:zL)(a b c:za)(h:zb):Prop:=B.pv (V.bin .lss b c) λd=>B.cond d (B.pv (V.zb3 E.es a c) λe=>E.ld h e λf=>B.pv (V.zb3 E.es a b) λg=>E.ld h g λi=>B.pv (V.zb3 E.es a b) λj=>E.st h j f λh=>B.pv (V.zb3 E.es a c) λk=>E.st h k i λh=>B.pv (V.bin .add b (.int .i64 1)) λl=>B.pv (V.bin .sub c (.int .i64 1)) λm=>Y1 [l,m] h) (Q (.tup []) h)
@[simp] def zd6.l2(C:zh)(E:z8)(Q:zQ)(a:za):zG|[b,c],h,Y1=>zd6.k1 C E Q Y1 a b c h|_,_,_=>False
@[simp] def zd6.cps(C:zh)(E:z8)(b c d:za)(h:zb)(Q:zQ):Prop:=B.pv (V.bin .sub d (.int .i64 1)) λa=>zd (zd6.l2 C E Q b) [c,a] h
@[simp] def zi.k1(C:zh)(E:z8)(f1:Nat)(Q:zQ)(Y1:zL)(Y2:zL)(b y x v w a:za)(h:zb):Prop:=B.pv (V.bin .lss a x) λd=>B.cond d (B.pv (V.zb3 E.es b a) λe=>E.ld h e λf=>B.pv (V.bin .sub a (.int .i64 1)) λg=>B.pv (V.zb3 E.es b g) λi=>E.ld h i λj=>B.call C f1 [f,j] h λk h=>B.pv (V.un .not k) λl=>B.cond l (B.pv (V.bin .add w (.int .i64 1)) λc=>Y1 [v,c] h) (B.pv (V.bin .sub a (.int .i64 1)) λm=>B.pv (V.bin .sub a (.int .i64 1)) λn=>B.pv (V.zb3 E.es b n) λo=>E.ld h o λp=>B.pv (V.zb3 E.es b a) λq=>E.ld h q λr=>B.pv (V.zb3 E.es b a) λs=>E.st h s p λh=>B.pv (V.zb3 E.es b m) λt=>E.st h t r λh=>B.pv (V.bin .add a (.int .i64 1)) λu=>Y2 [u] h)) (B.pv (V.bin .add w (.int .i64 1)) λc=>Y1 [v,c] h)
@[simp] def zi.l2(C:zh)(E:z8)(f1:Nat)(Q:zQ)(Y1:zL)(b c d e f:za):zG|[a],h,Y2=>zi.k1 C E f1 Q Y1 Y2 b c d e f a h|_,_,_=>False
@[simp] def zi.k3(C:zh)(E:z8)(f1:Nat)(Q:zQ)(Y1:zL)(i j c a d:za)(h:zb):Prop:=B.pv (V.bin .sub c a) λe=>B.pv (V.bin .geq e (.int .i64 2)) λf=>B.cond f (B.pv (V.bin .add a (.int .i64 1)) λb=>zd (zi.l2 C E f1 Q Y1 i j c a d) [b] h) (B.pv (V.bin .add d (.int .i64 1)) λg=>Y1 [a,g] h)
@[simp] def zi.k4(C:zh)(E:z8)(f1:Nat)(Q:zQ)(Y1:zL)(Y3:zL)(a c d e f b:za)(h:zb):Prop:=B.pv (V.bin .geq b (.int .i64 1)) λg=>B.cond g (B.pv (V.zb3 E.es a b) λi=>E.ld h i λj=>B.pv (V.bin .sub b (.int .i64 1)) λk=>B.pv (V.zb3 E.es a k) λl=>E.ld h l λm=>B.call C f1 [j,m] h λn h=>B.pv (V.un .not n) λo=>B.cond o (zi.k3 C E f1 Q Y1 a c d e f h) (B.pv (V.bin .sub b (.int .i64 1)) λp=>B.pv (V.bin .sub b (.int .i64 1)) λq=>B.pv (V.zb3 E.es a q) λr=>E.ld h r λs=>B.pv (V.zb3 E.es a b) λt=>E.ld h t λu=>B.pv (V.zb3 E.es a b) λv=>E.st h v s λh=>B.pv (V.zb3 E.es a p) λw=>E.st h w u λh=>B.pv (V.bin .sub b (.int .i64 1)) λx=>Y3 [x] h)) (zi.k3 C E f1 Q Y1 a c d e f h)
@[simp] def zi.l5(C:zh)(E:z8)(f1:Nat)(Q:zQ)(Y1:zL)(a b c d e:za):zG|[f],h,Y3=>zi.k4 C E f1 Q Y1 Y3 a b c d e f h|_,_,_=>False
@[simp] def zi.k6(C:zh)(E:z8)(f1:Nat)(Q:zQ)(Y1:zL)(c b d a e:za)(h:zb):Prop:=B.pv (V.bin .sub a b) λf=>B.pv (V.bin .geq f (.int .i64 2)) λg=>B.cond g (B.pv (V.bin .sub a (.int .i64 1)) λi=>zd (zi.l5 C E f1 Q Y1 c b d a e) [i] h) (zi.k3 C E f1 Q Y1 c b d a e h)
@[simp] def zi.k7(C:zh)(E:z8)(f1:Nat)(Q:zQ)(Y1:zL)(a l m b n:za)(h:zb):Prop:=B.pv (V.bin .sub b (.int .i64 1)) λc=>B.pv (V.bin .sub b (.int .i64 1)) λd=>B.pv (V.zb3 E.es a d) λe=>E.ld h e λf=>B.pv (V.zb3 E.es a b) λg=>E.ld h g λi=>B.pv (V.zb3 E.es a b) λj=>E.st h j f λh=>B.pv (V.zb3 E.es a c) λk=>E.st h k i λh=>zi.k6 C E f1 Q Y1 a l m b n h
@[simp] def zi.k8(C:zh)(E:z8)(f1:Nat)(Q:zQ)(Y1:zL)(e a b f g:za)(h:zb):Prop:=B.pv (V.bin .sub b a) λc=>B.pv (V.bin .lss c (.int .i64 50)) λd=>B.cond d (Q (.bool false) h) (zi.k7 C E f1 Q Y1 e a b f g h)
@[simp] def zi.k9(C:zh)(E:z8)(f1:Nat)(Q:zQ)(Y1:zL)(Y4:zL)(c t d b u:za)(h:zb):Prop:=B.pv (V.bin .lss b d) λa=>B.gd h a true (λK=>K c h) λe h=>B.gd h a true (λK=>K b h) λf h=>B.gd h a true (λK=>B.pv (V.zb3 E.es e f) λv=>K v h) λg h=>B.gd h a true (λK=>E.ld h g λv=>K v h) λi h=>B.gd h a true (λK=>K c h) λj h=>B.gd h a true (λK=>K b h) λk h=>B.gd h a true (λK=>B.pv (V.bin .sub k (.int .i64 1)) λv=>K v h) λl h=>B.gd h a true (λK=>B.pv (V.zb3 E.es j l) λv=>K v h) λm h=>B.gd h a true (λK=>E.ld h m λv=>K v h) λn h=>B.gd h a true (λK=>B.call C f1 [i,n] h K) λo h=>B.gd h a true (λK=>B.pv (V.un .not o) λv=>K v h) λp h=>B.pick a p (.bool false) λq=>B.cond q (B.pv (V.bin .add b (.int .i64 1)) λr=>Y4 [r] h) (B.pv (V.bin .eql b d) λs=>B.cond s (Q (.bool true) h) (zi.k8 C E f1 Q Y1 c t d b u h))
@[simp] def zi.l10(C:zh)(E:z8)(f1:Nat)(Q:zQ)(Y1:zL)(a b c d:za):zG|[e],h,Y4=>zi.k9 C E f1 Q Y1 Y4 a b c e d h|_,_,_=>False
@[simp] def zi.k11(C:zh)(E:z8)(f1:Nat)(Q:zQ)(Y1:zL)(c d e f a:za)(h:zb):Prop:=B.pv (V.bin .lss a (.int .i64 5)) λb=>B.cond b (zd (zi.l10 C E f1 Q Y1 c d e a) [f] h) (Q (.bool false) h)
@[simp] def zi.l12(C:zh)(E:z8)(f1:Nat)(Q:zQ)(a b c:za):zG|[d,e],h,Y1=>zi.k11 C E f1 Q Y1 a b c d e h|_,_,_=>False
@[simp] def zi.cps(C:zh)(E:z8)(f1:Nat)(c a d:za)(h:zb)(Q:zQ):Prop:=B.pv (V.bin .add a (.int .i64 1)) λb=>zd (zi.l12 C E f1 Q c a d) [b,(.int .i64 0)] h
@[simp] def z7.k1(C:zh)(E:z8)(f1:Nat)(Q:zQ)(Y1:zL)(c n b a:za)(h:zb):Prop:=B.pv (V.bin .gtr b a) λd=>B.cond d (Q b h) (B.pv (V.zb3 E.es c a) λe=>E.ld h e λf=>B.pv (V.zb3 E.es c b) λg=>E.ld h g λi=>B.pv (V.zb3 E.es c b) λj=>E.st h j f λh=>B.pv (V.zb3 E.es c a) λk=>E.st h k i λh=>B.pv (V.bin .add b (.int .i64 1)) λl=>B.pv (V.bin .sub a (.int .i64 1)) λm=>Y1 [l,m] h)
@[simp] def z7.k2(C:zh)(E:z8)(f1:Nat)(Q:zQ)(Y1:zL)(Y2:zL)(c d e b:za)(h:zb):Prop:=B.pv (V.bin .leq e b) λa=>B.gd h a true (λK=>K c h) λf h=>B.gd h a true (λK=>K d h) λg h=>B.gd h a true (λK=>B.pv (V.zb3 E.es f g) λv=>K v h) λi h=>B.gd h a true (λK=>E.ld h i λv=>K v h) λj h=>B.gd h a true (λK=>K c h) λk h=>B.gd h a true (λK=>K b h) λl h=>B.gd h a true (λK=>B.pv (V.zb3 E.es k l) λv=>K v h) λm h=>B.gd h a true (λK=>E.ld h m λv=>K v h) λn h=>B.gd h a true (λK=>B.call C f1 [j,n] h K) λo h=>B.pick a o (.bool false) λp=>B.cond p (B.pv (V.bin .sub b (.int .i64 1)) λq=>Y2 [q] h) (z7.k1 C E f1 Q Y1 c d e b h)
@[simp] def z7.l3(C:zh)(E:z8)(f1:Nat)(Q:zQ)(Y1:zL)(b c d:za):zG|[a],h,Y2=>z7.k2 C E f1 Q Y1 Y2 b c d a h|_,_,_=>False
@[simp] def z7.k4(C:zh)(E:z8)(f1:Nat)(Q:zQ)(Y1:zL)(Y3:zL)(d e b c:za)(h:zb):Prop:=B.pv (V.bin .leq b c) λa=>B.gd h a true (λK=>K d h) λf h=>B.gd h a true (λK=>K e h) λg h=>B.gd h a true (λK=>B.pv (V.zb3 E.es f g) λv=>K v h) λi h=>B.gd h a true (λK=>E.ld h i λv=>K v h) λj h=>B.gd h a true (λK=>K d h) λk h=>B.gd h a true (λK=>K b h) λl h=>B.gd h a true (λK=>B.pv (V.zb3 E.es k l) λv=>K v h) λm h=>B.gd h a true (λK=>E.ld h m λv=>K v h) λn h=>B.gd h a true (λK=>B.call C f1 [j,n] h K) λo h=>B.gd h a true (λK=>B.pv (V.un .not o) λv=>K v h) λp h=>B.pick a p (.bool false) λq=>B.cond q (B.pv (V.bin .add b (.int .i64 1)) λr=>Y3 [r] h) (zd (z7.l3 C E f1 Q Y1 d e b) [c] h)
@[simp] def z7.l5(C:zh)(E:z8)(f1:Nat)(Q:zQ)(Y1:zL)(b c a:za):zG|[d],h,Y3=>z7.k4 C E f1 Q Y1 Y3 b c d a h|_,_,_=>False
@[simp] def z7.l6(C:zh)(E:z8)(f1:Nat)(Q:zQ)(b c:za):zG|[d,a],h,Y1=>zd (z7.l5 C E f1 Q Y1 b c a) [d] h|_,_,_=>False
@[simp] def z7.k7(C:zh)(E:z8)(f1:Nat)(Q:zQ)(d a e:za)(h:zb):Prop:=B.pv (V.bin .add a (.int .i64 1)) λb=>B.pv (V.bin .sub e (.int .i64 1)) λc=>zd (z7.l6 C E f1 Q d a) [b,c] h
@[simp] def z7.k8(C:zh)(E:z8)(f1:Nat)(Q:zQ)(a b k c:za)(h:zb):Prop:=B.pv (V.zb3 E.es a c) λd=>E.ld h d λe=>B.pv (V.zb3 E.es a b) λf=>E.ld h f λg=>B.pv (V.zb3 E.es a b) λi=>E.st h i e λh=>B.pv (V.zb3 E.es a c) λj=>E.st h j g λh=>z7.k7 C E f1 Q a b k h
@[simp] def z7.cps(C:zh)(E:z8)(f1:Nat)(a b c d:za)(h:zb)(Q:zQ):Prop:=z7.k8 C E f1 Q a b c d h
@[simp] def zl.k1(C:zh)(E:z8)(f1:Nat)(Q:zQ)(b j a:za)(h:zb):Prop:=B.pv (V.zb3 E.es b j) λc=>E.ld h c λd=>B.pv (V.zb3 E.es b a) λe=>E.ld h e λf=>B.pv (V.zb3 E.es b a) λg=>E.st h g d λh=>B.pv (V.zb3 E.es b j) λi=>E.st h i f λh=>Q (.tup [a,(.bool false)]) h
@[simp] def zl.k2(C:zh)(E:z8)(f1:Nat)(Q:zQ)(Y1:zL)(c n b a:za)(h:zb):Prop:=B.pv (V.bin .gtr b a) λd=>B.cond d (zl.k1 C E f1 Q c n a h) (B.pv (V.zb3 E.es c a) λe=>E.ld h e λf=>B.pv (V.zb3 E.es c b) λg=>E.ld h g λi=>B.pv (V.zb3 E.es c b) λj=>E.st h j f λh=>B.pv (V.zb3 E.es c a) λk=>E.st h k i λh=>B.pv (V.bin .add b (.int .i64 1)) λl=>B.pv (V.bin .sub a (.int .i64 1)) λm=>Y1 [l,m] h)
@[simp] def zl.k3(C:zh)(E:z8)(f1:Nat)(Q:zQ)(Y1:zL)(Y2:zL)(d r c b:za)(h:zb):Prop:=B.pv (V.bin .leq c b) λa=>B.gd h a true (λK=>K d h) λe h=>B.gd h a true (λK=>K b h) λf h=>B.gd h a true (λK=>B.pv (V.zb3 E.es e f) λv=>K v h) λg h=>B.gd h a true (λK=>E.ld h g λv=>K v h) λi h=>B.gd h a true (λK=>K d h) λj h=>B.gd h a true (λK=>K r h) λk h=>B.gd h a true (λK=>B.pv (V.zb3 E.es j k) λv=>K v h) λl h=>B.gd h a true (λK=>E.ld h l λv=>K v h) λm h=>B.gd h a true (λK=>B.call C f1 [i,m] h K) λn h=>B.gd h a true (λK=>B.pv (V.un .not n) λv=>K v h) λo h=>B.pick a o (.bool false) λp=>B.cond p (B.pv (V.bin .sub b (.int .i64 1)) λq=>Y2 [q] h) (zl.k2 C E f1 Q Y1 d r c b h)
@[simp] def zl.l4(C:zh)(E:z8)(f1:Nat)(Q:zQ)(Y1:zL)(c d a:za):zG|[b],h,Y2=>zl.k3 C E f1 Q Y1 Y2 c d a b h|_,_,_=>False
@[simp] def zl.k5(C:zh)(E:z8)(f1:Nat)(Q:zQ)(Y1:zL)(Y3:zL)(d q b c:za)(h:zb):Prop:=B.pv (V.bin .leq b c) λa=>B.gd h a true (λK=>K d h) λe h=>B.gd h a true (λK=>K b h) λf h=>B.gd h a true (λK=>B.pv (V.zb3 E.es e f) λv=>K v h) λg h=>B.gd h a true (λK=>E.ld h g λv=>K v h) λi h=>B.gd h a true (λK=>K d h) λj h=>B.gd h a true (λK=>K q h) λk h=>B.gd h a true (λK=>B.pv (V.zb3 E.es j k) λv=>K v h) λl h=>B.gd h a true (λK=>E.ld h l λv=>K v h) λm h=>B.gd h a true (λK=>B.call C f1 [i,m] h K) λn h=>B.pick a n (.bool false) λo=>B.cond o (B.pv (V.bin .add b (.int .i64 1)) λp=>Y3 [p] h) (zd (zl.l4 C E f1 Q Y1 d q b) [c] h)
@[simp] def zl.l6(C:zh)(E:z8)(f1:Nat)(Q:zQ)(Y1:zL)(c d a:za):zG|[b],h,Y3=>zl.k5 C E f1 Q Y1 Y3 c d b a h|_,_,_=>False
@[simp] def zl.l7(C:zh)(E:z8)(f1:Nat)(Q:zQ)(c d:za):zG|[a,b],h,Y1=>zd (zl.l6 C E f1 Q Y1 c d b) [a] h|_,_,_=>False
@[simp] def zl.k8(C:zh)(E:z8)(f1:Nat)(Q:zQ)(e f a b:za)(h:zb):Prop:=B.pv (V.bin .add a (.int .i64 1)) λc=>B.pv (V.bin .sub b (.int .i64 1)) λd=>zd (zl.l7 C E f1 Q e f) [c,d] h
@[simp] def zl.k9(C:zh)(E:z8)(f1:Nat)(Q:zQ)(a k b c:za)(h:zb):Prop:=B.pv (V.zb3 E.es a c) λd=>E.ld h d λe=>B.pv (V.zb3 E.es a b) λf=>E.ld h f λg=>B.pv (V.zb3 E.es a b) λi=>E.st h i e λh=>B.pv (V.zb3 E.es a c) λj=>E.st h j g λh=>zl.k8 C E f1 Q a k b c h
@[simp] def zl.k10(C:zh)(E:z8)(f1:Nat)(Q:zQ)(b d c a:za)(h:zb):Prop:=B.pv (V.bin .gtr c a) λe=>B.cond e (B.pv (V.zb3 E.es b d) λf=>E.ld h f λg=>B.pv (V.zb3 E.es b a) λi=>E.ld h i λj=>B.pv (V.zb3 E.es b a) λk=>E.st h k g λh=>B.pv (V.zb3 E.es b d) λl=>E.st h l j λh=>Q (.tup [a,(.bool true)]) h) (zl.k9 C E f1 Q b d c a h)
@[simp] def zl.k11(C:zh)(E:z8)(f1:Nat)(Q:zQ)(Y4:zL)(d e c b:za)(h:zb):Prop:=B.pv (V.bin .leq c b) λa=>B.gd h a true (λK=>K d h) λf h=>B.gd h a true (λK=>K b h) λg h=>B.gd h a true (λK=>B.pv (V.zb3 E.es f g) λv=>K v h) λi h=>B.gd h a true (λK=>E.ld h i λv=>K v h) λj h=>B.gd h a true (λK=>K d h) λk h=>B.gd h a true (λK=>K e h) λl h=>B.gd h a true (λK=>B.pv (V.zb3 E.es k l) λv=>K v h) λm h=>B.gd h a true (λK=>E.ld h m λv=>K v h) λn h=>B.gd h a true (λK=>B.call C f1 [j,n] h K) λo h=>B.gd h a true (λK=>B.pv (V.un .not o) λv=>K v h) λp h=>B.pick a p (.bool false) λq=>B.cond q (B.pv (V.bin .sub b (.int .i64 1)) λr=>Y4 [r] h) (zl.k10 C E f1 Q d e c b h)
@[simp] def zl.l12(C:zh)(E:z8)(f1:Nat)(Q:zQ)(c d a:za):zG|[b],h,Y4=>zl.k11 C E f1 Q Y4 c d a b h|_,_,_=>False
@[simp] def zl.k13(C:zh)(E:z8)(f1:Nat)(Q:zQ)(Y5:zL)(d e b c:za)(h:zb):Prop:=B.pv (V.bin .leq b c) λa=>B.gd h a true (λK=>K d h) λf h=>B.gd h a true (λK=>K b h) λg h=>B.gd h a true (λK=>B.pv (V.zb3 E.es f g) λv=>K v h) λi h=>B.gd h a true (λK=>E.ld h i λv=>K v h) λj h=>B.gd h a true (λK=>K d h) λk h=>B.gd h a true (λK=>K e h) λl h=>B.gd h a true (λK=>B.pv (V.zb3 E.es k l) λv=>K v h) λm h=>B.gd h a true (λK=>E.ld h m λv=>K v h) λn h=>B.gd h a true (λK=>B.call C f1 [j,n] h K) λo h=>B.pick a o (.bool false) λp=>B.cond p (B.pv (V.bin .add b (.int .i64 1)) λq=>Y5 [q] h) (zd (zl.l12 C E f1 Q d e b) [c] h)
@[simp] def zl.l14(C:zh)(E:z8)(f1:Nat)(Q:zQ)(c d a:za):zG|[b],h,Y5=>zl.k13 C E f1 Q Y5 c d b a h|_,_,_=>False
@[simp] def zl.k15(C:zh)(E:z8)(f1:Nat)(Q:zQ)(d a e:za)(h:zb):Prop:=B.pv (V.bin .add a (.int .i64 1)) λb=>B.pv (V.bin .sub e (.int .i64 1)) λc=>zd (zl.l14 C E f1 Q d a c) [b] h
@[simp] def zl.k16(C:zh)(E:z8)(f1:Nat)(Q:zQ)(a b k c:za)(h:zb):Prop:=B.pv (V.zb3 E.es a c) λd=>E.ld h d λe=>B.pv (V.zb3 E.es a b) λf=>E.ld h f λg=>B.pv (V.zb3 E.es a b) λi=>E.st h i e λh=>B.pv (V.zb3 E.es a c) λj=>E.st h j g λh=>zl.k15 C E f1 Q a b k h
@[simp] def zl.cps(C:zh)(E:z8)(f1:Nat)(a b c d:za)(h:zb)(Q:zQ):Prop:=zl.k16 C E f1 Q a b c d h
@[simp] def zcx.k1(C:zh)(E:z8)(f1:Nat)(Q:zQ)(Y1:zL)(a x b d c:za)(h:zb):Prop:=B.pv (V.bin .add b d) λe=>B.pv (V.zb3 E.es a e) λf=>E.ld h f λg=>B.pv (V.bin .add b c) λi=>B.pv (V.zb3 E.es a i) λj=>E.ld h j λk=>B.call C f1 [g,k] h λl h=>B.pv (V.un .not l) λm=>B.cond m (Q (.tup []) h) (B.pv (V.bin .add b d) λn=>B.pv (V.bin .add b c) λo=>B.pv (V.bin .add b c) λp=>B.pv (V.zb3 E.es a p) λq=>E.ld h q λr=>B.pv (V.bin .add b d) λs=>B.pv (V.zb3 E.es a s) λt=>E.ld h t λu=>B.pv (V.zb3 E.es a n) λv=>E.st h v r λh=>B.pv (V.zb3 E.es a o) λw=>E.st h w u λh=>Y1 [c] h)
@[simp] def zcx.k2(C:zh)(E:z8)(f1:Nat)(Q:zQ)(Y1:zL)(c e d f b:za)(h:zb):Prop:=B.pv (V.bin .add b (.int .i64 1)) λg=>B.pv (V.bin .lss g e) λa=>B.gd h a true (λK=>K c h) λi h=>B.gd h a true (λK=>K d h) λj h=>B.gd h a true (λK=>K b h) λk h=>B.gd h a true (λK=>B.pv (V.bin .add j k) λv=>K v h) λl h=>B.gd h a true (λK=>B.pv (V.zb3 E.es i l) λv=>K v h) λm h=>B.gd h a true (λK=>E.ld h m λv=>K v h) λn h=>B.gd h a true (λK=>K c h) λo h=>B.gd h a true (λK=>K d h) λp h=>B.gd h a true (λK=>K b h) λq h=>B.gd h a true (λK=>B.pv (V.bin .add p q) λv=>K v h) λr h=>B.gd h a true (λK=>B.pv (V.bin .add r (.int .i64 1)) λv=>K v h) λs h=>B.gd h a true (λK=>B.pv (V.zb3 E.es o s) λv=>K v h) λt h=>B.gd h a true (λK=>E.ld h t λv=>K v h) λu h=>B.gd h a true (λK=>B.call C f1 [n,u] h K) λw h=>B.pick a w (.bool false) λx=>B.cond x (B.pv (V.bin .add b (.int .i64 1)) λy=>zcx.k1 C E f1 Q Y1 c e d f y h) (zcx.k1 C E f1 Q Y1 c e d f b h)
@[simp] def zcx.k3(C:zh)(E:z8)(f1:Nat)(Q:zQ)(Y1:zL)(f b g c:za)(h:zb):Prop:=B.pv (V.bin .mul (.int .i64 2) c) λd=>B.pv (V.bin .add d (.int .i64 1)) λa=>B.pv (V.bin .geq a b) λe=>B.cond e (Q (.tup []) h) (zcx.k2 C E f1 Q Y1 f b g c a h)
@[simp] def zcx.l4(C:zh)(E:z8)(f1:Nat)(Q:zQ)(a b c:za):zG|[d],h,Y1=>zcx.k3 C E f1 Q Y1 a b c d h|_,_,_=>False
@[simp] def zcx.cps(C:zh)(E:z8)(f1:Nat)(a b c d:za)(h:zb)(Q:zQ):Prop:=zd (zcx.l4 C E f1 Q a c d) [b] h
@[simp] def zhz.cps(C:zh)(E:z8)(f1:Nat)(d a e:za)(h:zb)(Q:zQ):Prop:=B.pv (V.bin .sub a (.int .i64 1)) λf=>B.pv (V.bin .add a (.int .i64 1)) λb=>B.call C f1 [d,f,a,b,e] h λc h=>Q c h
@[simp] def zhw.k1(C:zh)(E:z8)(f1:Nat)(Q:zQ)(d k l m e:za)(h:zb):Prop:=B.call C f1 [d,k,l,e] h λa h=>B.pv (V.ext 0 a) λf=>B.pv (V.ext 1 a) λg=>B.call C f1 [d,g,m,e] h λb h=>B.pv (V.ext 0 b) λi=>B.pv (V.ext 1 b) λn=>B.call C f1 [d,f,i,e] h λc h=>B.pv (V.ext 0 c) λo=>B.pv (V.ext 1 c) λj=>Q j h
@[simp] def zhw.cps(C:zh)(E:z8)(f1:Nat)(a b c d e:za)(h:zb)(Q:zQ):Prop:=zhw.k1 C E f1 Q a b c d e h
@[simp] def zhv.k1(C:zh)(E:z8)(f1:Nat)(Q:zQ)(c a b d:za)(h:zb):Prop:=B.pv (V.zb3 E.es c b) λe=>E.ld h e λf=>B.pv (V.zb3 E.es c a) λg=>E.ld h g λi=>B.call C f1 [f,i] h λj h=>B.cond j (B.nilCheck d λk=>B.ld h k λl=>B.pv (V.bin .add l (.int .i64 1)) λm=>B.nilCheck d λn=>B.st h n m λh=>Q (.tup [b,a]) h) (Q (.tup [a,b]) h)
@[simp] def zhv.cps(C:zh)(E:z8)(f1:Nat)(a b c d:za)(h:zb)(Q:zQ):Prop:=zhv.k1 C E f1 Q a b c d h
@[simp] def zjw.k1(C:zh)(E:z8)(Q:zQ)(a m:za)(h:zb):Prop:=B.pv (V.capSl a) λc=>B.pv (V.zbi a) λd=>B.pv (V.bin .sub c d) λe=>B.pv (V.bin .sub m e) λb=>B.pv (V.bin .gtr b (.int .i64 0)) λf=>B.cond f (B.pv (V.capSl a) λg=>B.pv (V.zhj E.es a none (some g)) λi=>B.appZ h E.es E.bytes E.z i b λj h=>B.pv (V.zbi a) λk=>B.pv (V.zhj E.es j none (some k)) λl=>Q l h) (Q a h)
@[simp] def zjw.cps(C:zh)(E:z8)(b a:za)(h:zb)(Q:zQ):Prop:=B.pv (V.bin .lss a (.int .i64 0)) λc=>B.cond c (False) (zjw.k1 C E Q b a h)
@[simp] def zqe.cps(C:zh)(E:z8)(f1:Nat)(a b:za)(h:zb)(Q:zQ):Prop:=B.call C f1 [a,b] h λc h=>B.pv (V.bin .geq c (.int .i64 0)) λd=>Q d h
@[simp] def zg9.k1(C:zh)(E:z8)(Q:zQ)(Y1:zL)(f g i a:za)(h:zb):Prop:=B.pv (V.bin .lss a i) λj=>B.cond j (B.pv (V.zb3 E.es f a) λb=>E.ld h b λc=>B.pv (V.bin .eql g c) λd=>B.cond d (Q a h) (B.pv (V.bin .add a (.int .i64 1)) λe=>Y1 [e] h)) (Q (.int .i64 (-1)) h)
@[simp] def zg9.l2(C:zh)(E:z8)(Q:zQ)(a b c:za):zG|[d],h,Y1=>zg9.k1 C E Q Y1 a b c d h|_,_,_=>False
@[simp] def zg9.cps(C:zh)(E:z8)(a b:za)(h:zb)(Q:zQ):Prop:=B.pv (V.zbi a) λc=>zd (zg9.l2 C E Q a b c) [(.int .i64 0)] h
@[simp] def zft.k1(C:zh)(E:z8)(f1:Nat)(Q:zQ)(d e:za)(h:zb):Prop:=B.pv (V.zbi d) λa=>B.pv (V.zbi e) λb=>B.pv (V.bin .lss a b) λc=>B.cond c (Q (.int .i64 (-1)) h) (Q (.int .i64 0) h)
@[simp] def zft.k2(C:zh)(E:z8)(f1:Nat)(Q:zQ)(Y1:zL)(o c p d a:za)(h:zb):Prop:=B.pv (V.bin .lss a d) λe=>B.cond e (B.pv (V.zb3 E.es p a) λf=>E.ld h f λg=>B.pv (V.zbi c) λi=>B.pv (V.bin .geq a i) λj=>B.cond j (Q (.int .i64 1) h) (B.pv (V.zb3 E.es c a) λk=>E.ld h k λl=>B.call C f1 [g,l] h λb h=>B.pv (V.bin .neq b (.int .i64 0)) λm=>B.cond m (Q b h) (B.pv (V.bin .add a (.int .i64 1)) λn=>Y1 [n] h))) (zft.k1 C E f1 Q o c h)
@[simp] def zft.l3(C:zh)(E:z8)(f1:Nat)(Q:zQ)(c d e a:za):zG|[b],h,Y1=>zft.k2 C E f1 Q Y1 c d e a b h|_,_,_=>False
@[simp] def zft.cps(C:zh)(E:z8)(f1:Nat)(a c:za)(h:zb)(Q:zQ):Prop:=B.pv (V.zbi a) λb=>zd (zft.l3 C E f1 Q a c a b) [(.int .i64 0)] h
def z9.cps(C:zh)(N:zN)(a b:za)(h:zb)(Q:zQ):Prop:=zcq.cps C (ztv 8 80 [.int .i64 0,.str [],.int .i64 0,.int .i64 0,.int .i64 0,.int .u8 0,.int .i64 0,.str []] 0 []) a b h Q
variable(C:zh)(N:Nat→Nat)
def z9.Imp:Prop:=im2 C (N 206) (z9.cps C N)
@[simp] def zdm.k1(C:zh)(N:zN)(Q:zQ)(a:za)(h:zb):Prop:=B.nilCheck a λu=>B.ld h u λv=>B.nilCheck a λw=>B.ld h w λx=>B.pv (V.bin .shl x (.int .u64 13)) λy=>B.pv (V.bin .xor v y) λb=>B.nilCheck a λc=>B.st h c b λh=>B.nilCheck a λd=>B.ld h d λe=>B.nilCheck a λf=>B.ld h f λg=>B.pv (V.bin .shr g (.int .u64 7)) λi=>B.pv (V.bin .xor e i) λj=>B.nilCheck a λk=>B.st h k j λh=>B.nilCheck a λl=>B.ld h l λm=>B.nilCheck a λn=>B.ld h n λo=>B.pv (V.bin .shl o (.int .u64 17)) λp=>B.pv (V.bin .xor m p) λq=>B.nilCheck a λr=>B.st h r q λh=>B.nilCheck a λs=>B.ld h s λt=>Q t h
@[simp] def zdm.cps(a:za)(h:zb)(Q:zQ):Prop:=zdm.k1 C N Q a h
def zdm.Imp:Prop:=im1 C (N 298) (zdm.cps C N)
@[simp] def zd5.cps(a:za)(h:zb)(Q:zQ):Prop:=B.pv (V.toInt .u64 a) λb=>B.call C (N 287) [b] h λc h=>B.pv (V.bin .shl (.int .u64 1) c) λd=>Q d h
def zd5.Imp:Prop:=im1 C (N 299) (zd5.cps C N)
def zb7.cps(a:za)(h:zb)(Q:zQ):Prop:=zk7.cps C (zc7 16 (.str []) 0) (N 287) (N 375) a h Q
def zb7.Imp:Prop:=im1 C (N 364) (zb7.cps C N)
def zbx.cps(C:zh)(N:zN)(a:za)(h:zb)(Q:zQ):Prop:=zc9.cps C (zc7 16 (.str []) 0) a h Q
def zbx.Imp:Prop:=im1 C (N 365) (zbx.cps C N)
def zbq.cps(C:zh)(N:zN)(a b:za)(h:zb)(Q:zQ):Prop:=zcq.cps C (ztv 4 72 [.str [],.int .i64 0,.zbj,.zbj] 0 []) a b h Q
def zbq.Imp:Prop:=im2 C (N 367) (zbq.cps C N)
@[simp] def zp.k1(C:zh)(N:zN)(Q:zQ)(Y1:zL)(b c d a:za)(h:zb):Prop:=B.pv (V.bin .lss a d) λe=>B.cond e (B.pv (V.zb3 1 c a) λf=>B.ld h f λg=>B.zif h 1 16 b g λi h=>B.pv (V.bin .add a (.int .i64 1)) λj=>Y1 [i,j] h) (Q b h)
@[simp] def zp.l2(Q:zQ)(a b:za):zG|[d,c],h,Y1=>zp.k1 C N Q Y1 d a b c h|_,_,_=>False
@[simp] def zp.k3(Q:zQ)(Y2:zL)(c d o e a:za)(h:zb):Prop:=B.pv (V.bin .lss a e) λf=>B.cond f (B.pv (V.zb3 1 o a) λg=>B.ld h g λi=>B.pv (V.zbi i) λj=>B.pv (V.bin .add d j) λb=>B.pv (V.bin .lss b (.int .i64 0)) λk=>B.cond k (False) (B.pv (V.bin .add a (.int .i64 1)) λl=>Y2 [b,l] h)) (B.call C (N 376) [.zbj,d] h λm h=>B.pv (V.zbi c) λn=>zd (zp.l2 C N Q c n) [m,(.int .i64 0)] h)
@[simp] def zp.l4(Q:zQ)(c d a:za):zG|[e,b],h,Y2=>zp.k3 C N Q Y2 c e d a b h|_,_,_=>False
@[simp] def zp.cps(a:za)(h:zb)(Q:zQ):Prop:=B.pv (V.zbi a) λb=>zd (zp.l4 C N Q a a b) [(.int .i64 0),(.int .i64 0)] h
def zp.Imp:Prop:=im1 C (N 373) (zp.cps C N)
def zdp.cps(a b c d:za)(h:zb)(Q:zQ):Prop:=zbg.cps C (zc7 16 (.str []) 0) (N 377) (N 378) (N 379) (N 375) (N 380) (N 381) (N 382) (N 383) (N 384) (N 385) a b c d h Q
def zdp.Imp:Prop:=im4 C (N 375) (zdp.cps C N)
def zch.cps(C:zh)(N:zN)(a b:za)(h:zb)(Q:zQ):Prop:=zjw.cps C (zc7 16 (.str []) 0) a b h Q
def zch.Imp:Prop:=im2 C (N 376) (zch.cps C N)
def zcm.cps(a b c d:za)(h:zb)(Q:zQ):Prop:=z7.cps C (zc7 16 (.str []) 0) (N 377) a b c d h Q
def zcm.Imp:Prop:=im4 C (N 378) (zcm.cps C N)
def zdd.cps(a b c d:za)(h:zb)(Q:zQ):Prop:=zl.cps C (zc7 16 (.str []) 0) (N 377) a b c d h Q
def zdd.Imp:Prop:=im4 C (N 379) (zdd.cps C N)
def zb9.cps(a b c:za)(h:zb)(Q:zQ):Prop:=zi.cps C (zc7 16 (.str []) 0) (N 377) a b c h Q
def zb9.Imp:Prop:=im3 C (N 380) (zb9.cps C N)
def zcy.cps(C:zh)(N:zN)(a b c:za)(h:zb)(Q:zQ):Prop:=zd6.cps C (zc7 16 (.str []) 0) a b c h Q
def zcy.Imp:Prop:=im3 C (N 381) (zcy.cps C N)
def zc4.cps(a b c:za)(h:zb)(Q:zQ):Prop:=zbp.cps C (zc7 16 (.str []) 0) (N 387) (N 388) a b c h Q
def zc4.Imp:Prop:=im3 C (N 382) (zc4.cps C N)
def zcu.cps(a b c:za)(h:zb)(Q:zQ):Prop:=z6.cps C (zc7 16 (.str []) 0) (N 298) (N 299) a b c h Q
def zcu.Imp:Prop:=im3 C (N 383) (zcu.cps C N)
def zdk.cps(a b c:za)(h:zb)(Q:zQ):Prop:=zcd.cps C (zc7 16 (.str []) 0) (N 386) a b c h Q
def zdk.Imp:Prop:=im3 C (N 384) (zdk.cps C N)
def zcs.cps(a b c:za)(h:zb)(Q:zQ):Prop:=zcr.cps C (zc7 16 (.str []) 0) (N 377) a b c h Q
def zcs.Imp:Prop:=im3 C (N 385) (zcs.cps C N)
def zdi.cps(a b c d:za)(h:zb)(Q:zQ):Prop:=zcx.cps C (zc7 16 (.str []) 0) (N 377) a b c d h Q
def zdi.Imp:Prop:=im4 C (N 386) (zdi.cps C N)
def zco.cps(a b c:za)(h:zb)(Q:zQ):Prop:=zhz.cps C (zc7 16 (.str []) 0) (N 388) a b c h Q
def zco.Imp:Prop:=im3 C (N 387) (zco.cps C N)
def zdy.cps(a b c d e:za)(h:zb)(Q:zQ):Prop:=zhw.cps C (zc7 16 (.str []) 0) (N 390) a b c d e h Q
def zdy.Imp:Prop:=im5 C (N 388) (zdy.cps C N)
def zdw.cps(a b c d:za)(h:zb)(Q:zQ):Prop:=zhv.cps C (zc7 16 (.str []) 0) (N 377) a b c d h Q
def zdw.Imp:Prop:=im4 C (N 390) (zdw.cps C N)
def zby.cps(a b:za)(h:zb)(Q:zQ):Prop:=zqe.cps C (zc7 16 (.str []) 0) (N 445) a b h Q
def zby.Imp:Prop:=im2 C (N 442) (zby.cps C N)
def zce.cps(C:zh)(N:zN)(a b:za)(h:zb)(Q:zQ):Prop:=zg9.cps C (zc7 16 (.str []) 0) a b h Q
def zce.Imp:Prop:=im2 C (N 445) (zce.cps C N)
def zb5.cps(a b:za)(h:zb)(Q:zQ):Prop:=zik.cps C (zc7 24 (.zbj) 0) (N 287) (N 579) a b h Q
def zb5.Imp:Prop:=im2 C (N 566) (zb5.cps C N)
def zbv.cps(C:zh)(N:zN)(a:za)(h:zb)(Q:zQ):Prop:=zpt.cps C (zc7 16 (.str []) 0) a h Q
def zbv.Imp:Prop:=im1 C (N 567) (zbv.cps C N)
def zb0.cps(C:zh)(N:zN)(a:za)(h:zb)(Q:zQ):Prop:=zpt.cps C (ztv 2 24 [.str [],.int .i64 0] 0 []) a h Q
def zb0.Imp:Prop:=im1 C (N 569) (zb0.cps C N)
def zbe.cps(C:zh)(N:zN)(a b:za)(h:zb)(Q:zQ):Prop:=zcq.cps C (ztv 6 56 [.int .i64 0,.str [],.int .i64 0,.int .i64 0,.int .i64 0,.bool false] 0 []) a b h Q
def zbe.Imp:Prop:=im2 C (N 572) (zbe.cps C N)
def zbd.cps(a b:za)(h:zb)(Q:zQ):Prop:=zmz.cps C (ztv 4 72 [.str [],.int .i64 0,.zbj,.zbj] 0 []) (N 367) a b h Q
def zbd.Imp:Prop:=im2 C (N 575) (zbd.cps C N)
def zb1.cps(a b:za)(h:zb)(Q:zQ):Prop:=zft.cps C (zc7 16 (.str []) 0) (N 580) a b h Q
def zb1.Imp:Prop:=im2 C (N 578) (zb1.cps C N)
def zdq.cps(a b c d e:za)(h:zb)(Q:zQ):Prop:=zq.cps C (zc7 24 (.zbj) 0) (N 581) (N 582) (N 579) (N 583) (N 584) (N 585) (N 586) (N 587) (N 588) a b c d e h Q
def zdq.Imp:Prop:=im5 C (N 579) (zdq.cps C N)
def zcn.cps(C:zh)(N:zN)(a b c d e:za)(h:zb)(Q:zQ):Prop:=zn.cps C (zc7 24 (.zbj) 0) a b c d e h Q
def zcn.Imp:Prop:=im5 C (N 581) (zcn.cps C N)
def zde.cps(C:zh)(N:zN)(a b c d e:za)(h:zb)(Q:zQ):Prop:=zg.cps C (zc7 24 (.zbj) 0) a b c d e h Q
def zde.Imp:Prop:=im5 C (N 582) (zde.cps C N)
def zca.cps(C:zh)(N:zN)(a b c d:za)(h:zb)(Q:zQ):Prop:=zf.cps C (zc7 24 (.zbj) 0) a b c d h Q
def zca.Imp:Prop:=im4 C (N 583) (zca.cps C N)
def zcz.cps(C:zh)(N:zN)(a b c d:za)(h:zb)(Q:zQ):Prop:=zc8.cps C (zc7 24 (.zbj) 0) a b c d h Q
def zcz.Imp:Prop:=im4 C (N 584) (zcz.cps C N)
def zc5.cps(a b c d:za)(h:zb)(Q:zQ):Prop:=zu.cps C (zc7 24 (.zbj) 0) (N 589) (N 590) a b c d h Q
def zc5.Imp:Prop:=im4 C (N 585) (zc5.cps C N)
def zcv.cps(a b c d:za)(h:zb)(Q:zQ):Prop:=zo.cps C (zc7 24 (.zbj) 0) (N 298) (N 299) a b c d h Q
def zcv.Imp:Prop:=im4 C (N 586) (zcv.cps C N)
def zdl.cps(a b c d:za)(h:zb)(Q:zQ):Prop:=zbn.cps C (zc7 24 (.zbj) 0) (N 591) a b c d h Q
def zdl.Imp:Prop:=im4 C (N 587) (zdl.cps C N)
def zct.cps(C:zh)(N:zN)(a b c d:za)(h:zb)(Q:zQ):Prop:=zbr.cps C (zc7 24 (.zbj) 0) a b c d h Q
def zct.Imp:Prop:=im4 C (N 588) (zct.cps C N)
def zdz.cps(a b c d e f:za)(h:zb)(Q:zQ):Prop:=zgt.cps C (zc7 24 (.zbj) 0) (N 592) a b c d e f h Q
def zdz.Imp:Prop:=im6 C (N 589) (zdz.cps C N)
def zcp.cps(a b c d:za)(h:zb)(Q:zQ):Prop:=ze6.cps C (zc7 24 (.zbj) 0) (N 589) a b c d h Q
def zcp.Imp:Prop:=im4 C (N 590) (zcp.cps C N)
def zdj.cps(C:zh)(N:zN)(a b c d e:za)(h:zb)(Q:zQ):Prop:=zbw.cps C (zc7 24 (.zbj) 0) a b c d e h Q
def zdj.Imp:Prop:=im5 C (N 591) (zdj.cps C N)
def zdx.cps(C:zh)(N:zN)(a b c d e:za)(h:zb)(Q:zQ):Prop:=zgs.cps C (zc7 24 (.zbj) 0) a b c d e h Q
def zdx.Imp:Prop:=im5 C (N 592) (zdx.cps C N)
end Go.Ab
